/- FailureChecks returns true. -/
import Derived.Test.YtadldndpphdmpaaI5
import Derived.Test.YtadldndpphdmpaaS3
namespace Go.Proofs.Ytadldndpphdmpaa
open Go.RowKit

set_option maxRecDepth 100000 in
set_option maxHeartbeats 2000000 in
theorem FailureChecks_any (t : List Nd) (A : Option Addr) (n c : Nat) (ms : List NdM) (w : World) (hT : TrM w t A n ms) (hc : n ≤ c) :
    Calls Try.prog 3 #[.agg #[.slice A n c]] w fun e w' => e = .returned (.bool true) ∧ Below w.heap.size w w' := by
  obtain ⟨W1, hW1⟩ : ∃ W1, w.alloc (.cells #[.slice A n c] 24) = W1 := ⟨_, rfl⟩
  have HB1 : Hid (Below w.heap.size w W1) := by rw [← hW1]; exact (Below.refl _ _).alloc (Nat.le_refl _) _
  have K1 : Hid (Blk W1 w.heap.size 24 #[.slice A n c]) := by rw [← hW1]; exact Blk.new _ _ _ rfl
  have C1 := Lib.hid (check_any t A n c ms W1 (hT.below HB1.out) hc)
  have HT := Lib.hid hT
  have HW1 := Lib.hid hW1
  have HC2 := Lib.hid (fun (W : World) (h : Below w.heap.size w W) => rcheck_any t A n c ms W (hT.below h))
  clear hW1 hT
  generalize chkT t = Y at *
  obtain ⟨y1, y2⟩ := Y
  dsimp only at *
  have e1 : (y1 == y1) = true := by simp
  have e2 : (y2 == y2) = true := by simp
  go_enter Try.func3, Try.ntmps3
  go_wp2_with fail
  rw [HW1.out]
  refine C1.out.mono ?_
  rintro e W2 ⟨rfl, hb2⟩
  have HB2 : Hid (Below w.heap.size w W2) := HB1.out.trans (hb2.mono HB1.out.size)
  have K2 := K1.out.later hb2
  have q0 := K2.cell (i := 0) rfl
  have qz := K2.lt
  clear hb2 K2 HW1
  go_wp2_with fail
  refine (HC2.out _ HB2.out).mono ?_
  rintro e W3 ⟨rfl, hb3⟩
  have HB3 : Hid (Below w.heap.size w W3) := HB2.out.trans (hb3.mono HB2.out.size)
  clear hb3 q0 qz
  go_wp2_with fail
  refine (Awake_any _).mono ?_
  rintro e W4 ⟨rfl, hb4⟩
  have HB4 : Hid (Below w.heap.size w W4) := HB3.out.trans (hb4.mono HB3.out.size)
  clear hb4
  go_wp2_with fail
  go_ret
  exact ⟨rfl, HB4.out⟩
end Go.Proofs.Ytadldndpphdmpaa
