/- FailureCounts returns true. -/
import Derived.Test.YtadldndpphdmpaaGreatTE
import Derived.Test.YtadldndpphdmpaaGreatS3
namespace Go.Proofs.YtadldndpphdmpaaGreat
open Go.RowKit Go.Shelf

theorem two_boxZ (w : World) (cs ds : Array Value) (t1 t2 : TypeId) : ∀ W, (w.alloc (.cells cs t1)).alloc (.cells ds t2) = W →
    Below w.heap.size w W ∧ Blk W w.heap.size t1 cs ∧ Blk W (w.heap.size + 1) t2 ds := by
  rintro W rfl
  exact ⟨((Below.refl _ w).alloc (Nat.le_refl _) _).alloc (by simp) _, (Blk.new _ _ _ rfl).alloc _, Blk.new _ _ _ (by simp)⟩

set_option maxRecDepth 100000 in
set_option maxHeartbeats 8000000 in
theorem FailureCounts_any (t : List Nd) (x0 x1 : Int) (A : Option Addr) (n c : Nat) (ms : List NdM) (w : World) (hT : TrM w t A n ms) (hc : n ≤ c) :
    Calls Tryz.prog 4 #[.agg #[.slice A n c], .agg #[.int .i64 x0, .int .i64 x1]] w fun e w' => e = .returned (.bool true) ∧ Below w.heap.size w w' := by
  obtain ⟨W1, hW1⟩ : ∃ W1, (w.alloc (.cells #[.slice A n c] 24)).alloc (.cells #[.int .i64 x0, .int .i64 x1] 33) = W1 := ⟨_, rfl⟩
  obtain ⟨b1, b2, b3⟩ := two_boxZ w _ _ _ _ W1 hW1
  have HB1 := Lib.hid b1; have K1 := Lib.hid b2; have K2 := Lib.hid b3
  have CG := Lib.hid (Great_any t A n c ms W1 (hT.below b1))
  have C1 := Lib.hid (fun (W : World) (h : Below w.heap.size w W) => Count_any t x0 A n c ms W (hT.below h) hc)
  have C2 := Lib.hid (fun (W : World) (h : Below w.heap.size w W) => rCount_any t x0 A n c ms W (hT.below h))
  have C3 := Lib.hid (fun (W : World) (h : Below w.heap.size w W) => Weight_any t x0 x1 A n c ms W (hT.below h) hc)
  have C4 := Lib.hid (fun (W : World) (h : Below w.heap.size w W) => rWeight_any t x0 x1 A n c ms W (hT.below h))
  have HW1 := Lib.hid hW1
  have q0 := K1.out.cell (i := 0) rfl
  have qz := K1.out.lt
  clear hW1 hT b1 b2 b3
  generalize countT t x0 = X at *
  generalize weightT t x0 x1 = Y at *
  obtain ⟨X1, X2⟩ := X
  obtain ⟨Y1, Y2⟩ := Y
  dsimp only at *
  go_enter Tryz.func4, Tryz.ntmps4
  go_wp2_with fail
  rw [HW1.out]
  go_wp2_with fail
  refine CG.out.mono ?_
  rintro e W2 ⟨rfl, hb2⟩
  have HB2 : Hid (Below w.heap.size w W2) := HB1.out.trans (hb2.mono HB1.out.size)
  have M1 := Lib.hid (K1.out.later hb2); have M2 := Lib.hid (K2.out.later hb2)
  clear hb2 q0 qz HW1 K1 K2 CG
  generalize greatB t = gb at *
  cases gb
  · have q0 := M1.out.cell (i := 0) rfl
    have q1 := M2.out.cell (i := 0) rfl
    have qz := M1.out.lt
    have qz2 := M2.out.lt
    go_wp2_with fail
    refine (C1.out _ HB2.out).mono ?_
    rintro e W3 ⟨rfl, hb3⟩
    have HB3 : Hid (Below w.heap.size w W3) := HB2.out.trans (hb3.mono HB2.out.size)
    have N1 := Lib.hid (M1.out.later hb3); have N2 := Lib.hid (M2.out.later hb3)
    clear hb3 q0 q1 qz qz2 C1
    have q0 := N1.out.cell (i := 0) rfl
    have q1 := N2.out.cell (i := 0) rfl
    have qz := N1.out.lt
    have qz2 := N2.out.lt
    go_wp2_with fail
    refine (C2.out _ HB3.out).mono ?_
    rintro e W4 ⟨rfl, hb4⟩
    have HB4 : Hid (Below w.heap.size w W4) := HB3.out.trans (hb4.mono HB3.out.size)
    have O1 := Lib.hid (N1.out.later hb4); have O2 := Lib.hid (N2.out.later hb4)
    clear hb4 q0 q1 qz qz2 C2
    have q0 := O1.out.cell (i := 0) rfl
    have q1 := O2.out.cell (i := 0) rfl
    have q2 := O2.out.cell (i := 1) rfl
    have qz := O1.out.lt
    have qz2 := O2.out.lt
    have e1 : (X1 != X1) = false := by simp
    have e2 : (X2 != X2) = false := by simp
    go_wp2_with fail
    refine (C3.out _ HB4.out).mono ?_
    rintro e W5 ⟨rfl, hb5⟩
    have HB5 : Hid (Below w.heap.size w W5) := HB4.out.trans (hb5.mono HB4.out.size)
    have P1 := Lib.hid (O1.out.later hb5); have P2 := Lib.hid (O2.out.later hb5)
    clear hb5 q0 q1 q2 qz qz2 C3 e1 e2
    have q0 := P1.out.cell (i := 0) rfl
    have q1 := P2.out.cell (i := 0) rfl
    have q2 := P2.out.cell (i := 1) rfl
    have qz := P1.out.lt
    have qz2 := P2.out.lt
    go_wp2_with fail
    refine (C4.out _ HB5.out).mono ?_
    rintro e W6 ⟨rfl, hb6⟩
    have HB6 : Hid (Below w.heap.size w W6) := HB5.out.trans (hb6.mono HB5.out.size)
    clear hb6 q0 q1 q2 qz qz2 C4
    have e1 : (Y1 == Y1) = true := by simp
    have e2 : (Y2 == Y2) = true := by simp
    go_wp2_with fail
    refine (Awake_any _).mono ?_
    rintro e W7 ⟨rfl, hb7⟩
    have HB7 : Hid (Below w.heap.size w W7) := HB6.out.trans (hb7.mono HB6.out.size)
    clear hb7
    go_wp2_with fail
    go_ret
    exact ⟨rfl, HB7.out⟩
  · go_wp2_with fail
    refine (Awake_any _).mono ?_
    rintro e W7 ⟨rfl, hb7⟩
    have HB7 : Hid (Below w.heap.size w W7) := HB2.out.trans (hb7.mono HB2.out.size)
    clear hb7
    go_wp2_with fail
    go_ret
    exact ⟨rfl, HB7.out⟩
end Go.Proofs.YtadldndpphdmpaaGreat
