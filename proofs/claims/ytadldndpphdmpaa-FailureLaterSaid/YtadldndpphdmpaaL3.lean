/- FailureSaves returns true. -/
import Derived.Test.YtadldndpphdmpaaI12
import Derived.Test.YtadldndpphdmpaaS3
namespace Go.Proofs.Ytadldndpphdmpaa
open Go.RowKit

theorem saves_len (t : List Nd) (l : List Int) (node tick : Int) : (savesT t l node tick).2.length ≤ 64 := by
  unfold savesT
  split
  · split
    · simp
    · exact Nat.le_trans (List.length_filter_le _ _) (bitsL_len _)
  · simp
theorem two_box (w : World) (cs ds : Array Value) (t1 t2 : TypeId) : ∀ W, (w.alloc (.cells cs t1)).alloc (.cells ds t2) = W →
    Below w.heap.size w W ∧ Blk W w.heap.size t1 cs ∧ Blk W (w.heap.size + 1) t2 ds := by
  rintro W rfl
  exact ⟨((Below.refl _ w).alloc (Nat.le_refl _) _).alloc (by simp) _, (Blk.new _ _ _ rfl).alloc _, Blk.new _ _ _ (by simp)⟩
set_option maxRecDepth 100000 in
set_option maxHeartbeats 2000000 in
theorem FailureSaves_any (t : List Nd) (l : List Int) (x0 x1 : Int) (A : Option Addr) (n c : Nat) (ms : List NdM) (L : Option Addr) (cl : Nat) (w : World) (hT : TrM w t A n ms) (hc : n ≤ c) (hL : RdI w L l.length l) (hl : l.length ≤ 1000000000000000) (hcl : l.length ≤ cl) :
    Calls Try.prog 5 #[.agg #[.slice A n c], .slice L l.length cl, .agg #[.int .i64 x0, .int .i64 x1]] w fun e w' => e = .returned (.bool true) ∧ Below w.heap.size w w' := by
  obtain ⟨W1, hW1⟩ : ∃ W1, (w.alloc (.cells #[.slice A n c] 24)).alloc (.cells #[.int .i64 x0, .int .i64 x1] 36) = W1 := ⟨_, rfl⟩
  obtain ⟨b1, b2, b3⟩ := two_box w _ _ _ _ W1 hW1
  have HB1 := Lib.hid b1; have K1 := Lib.hid b2; have K2 := Lib.hid b3
  have C1 := Lib.hid (Saves_any t l x0 x1 A n c ms L cl W1 (hT.below b1) hc (hL.below b1) hl)
  have C2 := Lib.hid (fun (W : World) (h : Below w.heap.size w W) => rSaves_any t l x0 x1 A n c ms L cl W (hT.below h) (hL.below h) hl hcl)
  have HSl := Lib.hid (saves_len t l x0 x1)
  have HW1 := Lib.hid hW1
  clear hW1 hT hL b1 b2 b3
  generalize savesT t l x0 x1 = Z at *
  obtain ⟨z1, z2⟩ := Z
  dsimp only at *
  have e3 : (z1 == z1) = true := by simp
  go_enter Try.func5, Try.ntmps5
  go_wp2_with fail
  rw [HW1.out]
  refine C1.out.mono ?_
  rintro e W2 ⟨v2, rfl, hr2, hb2⟩
  have HB2 : Hid (Below w.heap.size w W2) := HB1.out.trans (hb2.mono HB1.out.size)
  have M1 := K1.out.later hb2
  have M2 := K2.out.later hb2
  have q0 := M1.cell (i := 0) rfl
  have qz := M1.lt
  have r0 := M2.cell (i := 0) rfl
  have r1 := M2.cell (i := 1) rfl
  have rz := M2.lt
  obtain ⟨A2, c2, rfl, hI2, _, _⟩ := rdI_of_own hr2 rfl
  have HI2 := Lib.hid hI2
  clear hb2 M1 M2 HW1 hr2 hI2
  dsimp only
  go_wp2_with fail
  refine (C2.out _ HB2.out).mono ?_
  rintro e W3 ⟨v3, rfl, hr3, hb3⟩
  have HB3 : Hid (Below w.heap.size w W3) := HB2.out.trans (hb3.mono HB2.out.size)
  have HI3 := Lib.hid (HI2.out.below hb3)
  obtain ⟨A3, c3, rfl, hJ3, _, _⟩ := rdI_of_own hr3 rfl
  have hC := ints_any z2 z2 A2 z2.length c2 A3 z2.length c3 W3 HI3.out hJ3 (by have := HSl.out; omega)
  rw [show decide (z2 = z2) = true from by simp] at hC
  have HC := Lib.hid hC
  clear hb3 hr3 hJ3 hC q0 qz r0 r1 rz
  dsimp only
  go_wp2_with fail
  refine HC.out.mono ?_
  rintro e W4 ⟨rfl, hb4⟩
  have HB4 : Hid (Below w.heap.size w W4) := HB3.out.trans (hb4.mono HB3.out.size)
  clear hb4 HC
  go_wp2_with fail
  refine (Awake_any _).mono ?_
  rintro e W7 ⟨rfl, hb7⟩
  have HB7 : Hid (Below w.heap.size w W7) := HB4.out.trans (hb7.mono HB4.out.size)
  clear hb7
  go_wp2_with fail
  go_ret
  exact ⟨rfl, HB7.out⟩
end Go.Proofs.Ytadldndpphdmpaa
