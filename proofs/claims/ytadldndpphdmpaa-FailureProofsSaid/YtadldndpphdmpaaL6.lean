/- FailureProofs returns true. -/
import Derived.Test.YtadldndpphdmpaaI7
import Derived.Test.YtadldndpphdmpaaS3
namespace Go.Proofs.Ytadldndpphdmpaa
open Go.RowKit

set_option maxRecDepth 100000 in
set_option maxHeartbeats 2000000 in
theorem FailureProofs_any (t : List Nd) (node : Int) (l g : List Int) (A : Option Addr) (n c : Nat) (ms : List NdM) (L : Option Addr) (cl : Nat) (G : Option Addr) (cg : Nat) (w : World) (hT : TrM w t A n ms) (hc : n ≤ c) (hL : RdI w L l.length l) (hl : l.length ≤ 1000000000000000) (hcl : l.length ≤ cl) (hG : RdI w G g.length g) (hg : g.length ≤ 1000000000000000) (hcg : g.length ≤ cg) :
    Calls Try.prog 8 #[.agg #[.slice A n c], .int .i64 node, .agg #[.slice L l.length cl, .slice G g.length cg]] w fun e w' => e = .returned (.bool true) ∧ Below w.heap.size w w' := by
  obtain ⟨W1, hW1⟩ : ∃ W1, (w.alloc (.cells #[.slice A n c] 24)).alloc (.cells #[.slice L l.length cl, .slice G g.length cg] 40) = W1 := ⟨_, rfl⟩
  obtain ⟨b1, b2, b3⟩ := two_sl w _ _ _ _ _ W1 hW1
  have HB1 := Lib.hid b1; have K1 := Lib.hid b2; have K2 := Lib.hid b3
  have C1 := Lib.hid (Proves_any t node l g A n c ms L cl G cg W1 (hT.below b1) hc (hL.below b1) hl (hG.below b1) hg)
  have C2 := Lib.hid (fun (W : World) (h : Below w.heap.size w W) => rProves_any t node l g A n c ms L cl G cg W (hT.below h) (hL.below h) hl hcl (hG.below h) hg hcg)
  have HW1 := Lib.hid hW1
  clear hW1 hT hL hG b1 b2 b3
  generalize provesT t node l g = Y at *
  obtain ⟨y1, y2⟩ := Y
  dsimp only at *
  have e1 : (y1 == y1) = true := by simp
  have e2 : (y2 == y2) = true := by simp
  go_enter Try.func8, Try.ntmps8
  go_wp2_with fail
  rw [HW1.out]
  refine C1.out.mono ?_
  rintro e W2 ⟨rfl, hb2⟩
  have HB2 : Hid (Below w.heap.size w W2) := HB1.out.trans (hb2.mono HB1.out.size)
  have M1 := K1.out.later hb2
  have M2 := K2.out.later hb2
  have q0 := M1.cell (i := 0) rfl
  have qz := M1.lt
  have r0 := M2.cell (i := 0) rfl
  have r1 := M2.cell (i := 1) rfl
  have rz := M2.lt
  clear hb2 M1 M2 HW1
  go_wp2_with fail
  refine (C2.out _ HB2.out).mono ?_
  rintro e W3 ⟨rfl, hb3⟩
  have HB3 : Hid (Below w.heap.size w W3) := HB2.out.trans (hb3.mono HB2.out.size)
  clear hb3 q0 qz r0 r1 rz
  go_wp2_with fail
  refine (Awake_any _).mono ?_
  rintro e W4 ⟨rfl, hb4⟩
  have HB4 : Hid (Below w.heap.size w W4) := HB3.out.trans (hb4.mono HB3.out.size)
  clear hb4
  go_wp2_with fail
  go_ret
  exact ⟨rfl, HB4.out⟩
end Go.Proofs.Ytadldndpphdmpaa
