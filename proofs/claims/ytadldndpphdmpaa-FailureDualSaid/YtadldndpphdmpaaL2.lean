/- FailureEffects returns true. -/
import Derived.Test.YtadldndpphdmpaaI11
import Derived.Test.YtadldndpphdmpaaS3
namespace Go.Proofs.Ytadldndpphdmpaa
open Go.RowKit

theorem effects_len (t : List Nd) (l : List Int) : (effectsT t l).2.length ≤ 64 := by
  by_cases h : (effectsT t l).1 = 0
  · rw [(effectsT_ok h).2.2]; exact bitsL_len _
  · unfold effectsT at h ⊢
    by_cases c : (aboutT t 0 [l]).1 = 0
    · rw [if_pos c] at h; exact absurd rfl h
    · rw [if_neg c]; simp
set_option maxRecDepth 100000 in
set_option maxHeartbeats 2000000 in
theorem FailureEffects_any (t : List Nd) (l : List Int) (node : Int) (A : Option Addr) (n c : Nat) (ms : List NdM) (L : Option Addr) (cl : Nat) (w : World) (hT : TrM w t A n ms) (hc : n ≤ c) (hL : RdI w L l.length l) (hl : l.length ≤ 1000000000000000) (hcl : l.length ≤ cl) :
    Calls Try.prog 4 #[.agg #[.slice A n c], .slice L l.length cl, .int .i64 node] w fun e w' => e = .returned (.bool true) ∧ Below w.heap.size w w' := by
  obtain ⟨W1, hW1⟩ : ∃ W1, w.alloc (.cells #[.slice A n c] 24) = W1 := ⟨_, rfl⟩
  have HB1 : Hid (Below w.heap.size w W1) := by rw [← hW1]; exact (Below.refl _ w).alloc (Nat.le_refl _) _
  have K1 : Hid (Blk W1 w.heap.size 24 #[.slice A n c]) := by rw [← hW1]; exact Blk.new w _ _ rfl
  have C1 := Lib.hid (Effects_any t l A n c ms L cl W1 (hT.below HB1.out) hc (hL.below HB1.out) hl)
  have C2 := Lib.hid (fun (W : World) (h : Below w.heap.size w W) => rEffects_any t l A n c ms L cl W (hT.below h) (hL.below h) hl hcl)
  have C3 := Lib.hid (fun (W : World) (h : Below w.heap.size w W) => Left_any t l node A n c ms L cl W (hT.below h) hc (hL.below h) hl)
  have C4 := Lib.hid (fun (W : World) (h : Below w.heap.size w W) => rLeft_any t l node A n c ms L cl W (hT.below h) (hL.below h) hl hcl)
  have HEl := Lib.hid (effects_len t l)
  have HW1 := Lib.hid hW1
  clear hW1 hT hL
  generalize leftT t l node = Y at *
  obtain ⟨y1, y2⟩ := Y
  generalize effectsT t l = Z at *
  obtain ⟨z1, z2⟩ := Z
  dsimp only at *
  have e1 : (y1 == y1) = true := by simp
  have e2 : (y2 == y2) = true := by simp
  have e3 : (z1 != z1) = false := by simp
  go_enter Try.func4, Try.ntmps4
  go_wp2_with fail
  rw [HW1.out]
  refine C1.out.mono ?_
  rintro e W2 ⟨v2, rfl, hr2, hb2⟩
  have HB2 : Hid (Below w.heap.size w W2) := HB1.out.trans (hb2.mono HB1.out.size)
  have M2 := K1.out.later hb2
  have HK2 := Lib.hid M2
  have q0 := M2.cell (i := 0) rfl
  have qz := M2.lt
  obtain ⟨A2, c2, rfl, hI2, _, _⟩ := rdI_of_own hr2 rfl
  have HI2 := Lib.hid hI2
  clear hb2 M2 HW1 hr2 hI2
  dsimp only
  go_wp2_with fail
  refine (C2.out _ HB2.out).mono ?_
  rintro e W3 ⟨v3, rfl, hr3, hb3⟩
  have HB3 : Hid (Below w.heap.size w W3) := HB2.out.trans (hb3.mono HB2.out.size)
  have HK3 := Lib.hid (HK2.out.later hb3)
  have HI3 := Lib.hid (HI2.out.below hb3)
  obtain ⟨A3, c3, rfl, hJ3, _, _⟩ := rdI_of_own hr3 rfl
  have hC := ints_any z2 z2 A2 z2.length c2 A3 z2.length c3 W3 HI3.out hJ3 (by have := HEl.out; omega)
  rw [show decide (z2 = z2) = true from by simp] at hC
  have HC := Lib.hid hC
  clear hb3 hr3 hJ3 hC q0 qz
  dsimp only
  go_wp2_with fail
  refine HC.out.mono ?_
  rintro e W4 ⟨rfl, hb4⟩
  have HB4 : Hid (Below w.heap.size w W4) := HB3.out.trans (hb4.mono HB3.out.size)
  have HK4 := Lib.hid (HK3.out.later hb4)
  have q0 := HK4.out.cell (i := 0) rfl
  have qz := HK4.out.lt
  clear hb4 HC
  go_wp2_with fail
  refine (C3.out _ HB4.out).mono ?_
  rintro e W5 ⟨rfl, hb5⟩
  have HB5 : Hid (Below w.heap.size w W5) := HB4.out.trans (hb5.mono HB4.out.size)
  have HK5 := Lib.hid (HK4.out.later hb5)
  clear q0 qz
  have q0 := HK5.out.cell (i := 0) rfl
  have qz := HK5.out.lt
  clear hb5
  go_wp2_with fail
  refine (C4.out _ HB5.out).mono ?_
  rintro e W6 ⟨rfl, hb6⟩
  have HB6 : Hid (Below w.heap.size w W6) := HB5.out.trans (hb6.mono HB5.out.size)
  clear hb6 q0 qz
  go_wp2_with fail
  refine (Awake_any _).mono ?_
  rintro e W7 ⟨rfl, hb7⟩
  have HB7 : Hid (Below w.heap.size w W7) := HB6.out.trans (hb7.mono HB6.out.size)
  clear hb7
  go_wp2_with fail
  go_ret
  exact ⟨rfl, HB7.out⟩
end Go.Proofs.Ytadldndpphdmpaa
