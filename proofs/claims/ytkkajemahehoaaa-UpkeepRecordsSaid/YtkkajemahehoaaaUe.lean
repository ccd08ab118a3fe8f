/- UpkeepRecords returns true. -/
import Derived.Test.YtkkajemahehoaaaRs
import Derived.Test.YtkkajemahehoaaaAw
namespace Go.Proofs.Ytkkajemahehoaaa
open Go.RowKit

set_option maxRecDepth 100000 in
set_option maxHeartbeats 4000000 in
theorem UpkeepRecords_any (r : Rec) (d m lvl many : Int) (A : Option Addr) (n c : Nat) (w : World) (hr : RdH w A n r.highs) :
    Calls Try.prog 15 #[.agg #[.int .i64 r.first, .int .i64 r.years, .slice A n c], .agg #[.int .i64 d, .int .i64 m, .int .i64 lvl, .int .i64 many]] w fun e w' => e = .returned (.bool true) ∧ Below w.heap.size w w' := by
  obtain ⟨b1, b2, b3⟩ := two w #[.int .i64 r.first, .int .i64 r.years, .slice A n c] #[.int .i64 d, .int .i64 m, .int .i64 lvl, .int .i64 many] 24 43
  have C1 := Lib.hid (fun (W : World) (h : Below w.heap.size w W) => checkRecord_rec r A n c W (hr.below h))
  have C2 := Lib.hid (fun (W : World) (h : Below w.heap.size w W) => refCheckRecord_any r A n c W (hr.below h))
  have C3 := Lib.hid (fun (W : World) (h : Below w.heap.size w W) => Risk_any r d m lvl A n c W (hr.below h))
  have C4 := Lib.hid (fun (W : World) (h : Below w.heap.size w W) => refRiskTop_any r d m lvl A n c W (hr.below h))
  have C5 := Lib.hid (fun (W : World) (h : Below w.heap.size w W) => Rank_any r d m many A n c W (hr.below h))
  have C6 := Lib.hid (fun (W : World) (h : Below w.heap.size w W) => refRank_any r d m many A n c W (hr.below h))
  have HU : Hid (∀ v v', RankV r d m many v → RankV r d m many v' → v = v') := fun v v' h h' => h.uniq h'
  have HB1 := Lib.hid b1; have K1 := Lib.hid b2; have L1 := Lib.hid b3
  clear hr b1 b2 b3
  unfold RankPost at C5 C6
  generalize RankV r d m many = PV at *
  generalize rkErr r d m many = RE at *
  generalize (riskTop r d m lvl).1.1 = R1 at *
  generalize (riskTop r d m lvl).1.2 = R2 at *
  generalize (riskTop r d m lvl).2 = R3 at *
  generalize (chkRec r).1 = X1 at *
  generalize (chkRec r).2 = X2 at *
  go_enter Try.func15, Try.ntmps15
  go_wp2_with fail
  refine (C1.out _ HB1.out).mono ?_
  rintro e W2 ⟨rfl, hb2⟩
  have HB2 : Hid (Below w.heap.size w W2) := HB1.out.trans (hb2.mono HB1.out.size)
  have K2 := Lib.hid (K1.out.later hb2); have L2 := Lib.hid (L1.out.later hb2)
  clear hb2
  have q0 := K2.out.cell (i := 0) rfl
  have q1 := K2.out.cell (i := 1) rfl
  have q2 := K2.out.cell (i := 2) rfl
  go_wp2_with fail
  refine (C2.out _ HB2.out).mono ?_
  rintro e W3 ⟨rfl, hb3⟩
  have HB3 : Hid (Below w.heap.size w W3) := HB2.out.trans (hb3.mono HB2.out.size)
  have K3 := Lib.hid (K2.out.later hb3); have L3 := Lib.hid (L2.out.later hb3)
  clear hb3 q0 q1 q2 K2 L2
  have hne1 : (X1 != X1) = false := by simp
  have hne2 : (X2 != X2) = false := by simp
  have q0 := K3.out.cell (i := 0) rfl
  have q1 := K3.out.cell (i := 1) rfl
  have q2 := K3.out.cell (i := 2) rfl
  have l0 := L3.out.cell (i := 0) rfl
  have l1 := L3.out.cell (i := 1) rfl
  have l2 := L3.out.cell (i := 2) rfl
  go_wp2_with fail
  refine (C3.out _ HB3.out).mono ?_
  rintro e W4 ⟨rfl, hb4⟩
  have HB4 : Hid (Below w.heap.size w W4) := HB3.out.trans (hb4.mono HB3.out.size)
  have K4 := Lib.hid (K3.out.later hb4); have L4 := Lib.hid (L3.out.later hb4)
  clear hb4 q0 q1 q2 l0 l1 l2 K3 L3 hne1 hne2
  have q0 := K4.out.cell (i := 0) rfl
  have q1 := K4.out.cell (i := 1) rfl
  have q2 := K4.out.cell (i := 2) rfl
  have l0 := L4.out.cell (i := 0) rfl
  have l1 := L4.out.cell (i := 1) rfl
  have l2 := L4.out.cell (i := 2) rfl
  have hz1 := K4.out.lt
  have hz2 := L4.out.lt
  go_wp2_with fail
  obtain ⟨W5, hW5⟩ : ∃ W5, W4.alloc (Obj.cells #[.int .i64 R1, .int .i64 R2] 27) = W5 := ⟨_, rfl⟩
  have hb5 : Below W4.heap.size W4 W5 := by rw [← hW5]; exact (Below.refl _ _).alloc (Nat.le_refl _) _
  have KX5 : Hid (Blk W5 W4.heap.size 27 #[.int .i64 R1, .int .i64 R2]) := by rw [← hW5]; exact Blk.new _ _ _ rfl
  rw [hW5]
  have HB5 : Hid (Below w.heap.size w W5) := HB4.out.trans (hb5.mono HB4.out.size)
  have K5 := Lib.hid (K4.out.later hb5); have L5 := Lib.hid (L4.out.later hb5)
  clear hW5 hb5 q0 q1 q2 l0 l1 l2 hz1 hz2 K4 L4
  refine (C4.out _ HB5.out).mono ?_
  rintro e W6 ⟨rfl, hb6⟩
  have HB6 : Hid (Below w.heap.size w W6) := HB5.out.trans (hb6.mono HB5.out.size)
  have K6 := Lib.hid (K5.out.later hb6); have L6 := Lib.hid (L5.out.later hb6); have KX6 := Lib.hid (KX5.out.later hb6)
  clear hb6 K5 L5 KX5
  have q0 := K6.out.cell (i := 0) rfl
  have q1 := K6.out.cell (i := 1) rfl
  have q2 := K6.out.cell (i := 2) rfl
  have l0 := L6.out.cell (i := 0) rfl
  have l1 := L6.out.cell (i := 1) rfl
  have l3 := L6.out.cell (i := 3) rfl
  have hz1 := K6.out.lt
  have hz2 := L6.out.lt
  have u0 := KX6.out.cell (i := 0) rfl
  have u1 := KX6.out.cell (i := 1) rfl
  have hz3 := KX6.out.lt
  have hne3 : (R3 != R3) = false := by simp
  go_wp2_with fail
  have h7 : Below w.heap.size w (W6.alloc (Obj.cells #[.int .i64 R1, .int .i64 R2] 27)) := HB6.out.alloc HB6.out.size _
  have HB7 := Lib.hid h7
  have K7 := Lib.hid (K6.out.alloc (Obj.cells #[.int .i64 R1, .int .i64 R2] 27)); have L7 := Lib.hid (L6.out.alloc (Obj.cells #[.int .i64 R1, .int .i64 R2] 27))
  clear h7 q0 q1 q2 l0 l1 l3 hz1 hz2 u0 u1 hz3 hne3
  refine (C5.out _ HB7.out).mono ?_
  rintro e W8 ⟨⟨v, rfl, hv⟩, hb8⟩
  have HB8 : Hid (Below w.heap.size w W8) := HB7.out.trans (hb8.mono HB7.out.size)
  have K8 := Lib.hid (K7.out.later hb8); have L8 := Lib.hid (L7.out.later hb8)
  have HV := Lib.hid hv
  clear hb8 hv
  have q0 := K8.out.cell (i := 0) rfl
  have q1 := K8.out.cell (i := 1) rfl
  have q2 := K8.out.cell (i := 2) rfl
  have l0 := L8.out.cell (i := 0) rfl
  have l1 := L8.out.cell (i := 1) rfl
  have l3 := L8.out.cell (i := 3) rfl
  go_wp2_with fail
  refine (C6.out _ HB8.out).mono ?_
  rintro e W9 ⟨⟨v', rfl, hv'⟩, hb9⟩
  obtain rfl : v = v' := HU.out v v' HV.out hv'
  have HB9 : Hid (Below w.heap.size w W9) := HB8.out.trans (hb9.mono HB8.out.size)
  clear hb9 hv' HV q0 q1 q2 l0 l1 l3
  have he1 : (v == v) = true := by simp
  have he2 : (RE == RE) = true := by simp
  go_wp2_with fail
  refine (Awake_any _).mono ?_
  rintro e WA ⟨rfl, hbA⟩
  have HBA := Lib.hid (HB9.out.trans (hbA.mono HB9.out.size))
  clear hbA
  go_wp2_with fail
  go_ret
  exact ⟨rfl, HBA.out⟩
end Go.Proofs.Ytkkajemahehoaaa
