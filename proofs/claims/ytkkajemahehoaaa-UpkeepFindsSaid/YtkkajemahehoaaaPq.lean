/- All plans (the document's). -/
import Derived.Test.YtkkajemahehoaaaPn
import Derived.Test.YtkkajemahehoaaaR5
namespace Go.Proofs.Ytkkajemahehoaaa
open Go.RowKit

def PlansPost (ps : List (List Int)) (w : World) (e : Ending) (w' : World) : Prop :=
  ∃ v vals, e = .returned v ∧ w'.ownsRow w.heap.size 33 1 v ps.length vals ∧ PlansV w' vals ps ∧ Below w.heap.size w w'

set_option maxRecDepth 100000 in
set_option maxHeartbeats 2000000 in
theorem plans_zero (t : Task) (A : Option Addr) (n c : Nat) (A' : Option Addr) (n' c' : Nat) (ss : List Int) (As : Option Addr) (cs : Nat) (w : World) (hs : w.ownsRow 0 3 1 (.slice As ss.length cs) ss.length (ss.map (Value.int .i64))) (hn : ss.length = n') :
    Calls Try.prog 68 #[.agg (t.val A n c A' n' c'), .slice As ss.length cs] w (PlansPost [ss] w) := by
  have HB1 : Hid (Below w.heap.size w (w.alloc (.cells (t.val A n c A' n' c') 29))) := (Below.refl _ _).alloc (Nat.le_refl _) _
  have HS := Lib.hid (planV_of_own hs)
  clear hs
  have hz : ((ss.length : Int) == (n' : Int)) = true := by simp [hn]
  have HN := Lib.hid hn
  clear hn
  unfold Task.val at *
  go_enter Try.func68, Try.ntmps68
  go_wp2_with fail
  go_ret
  have h2 := (HB1.out).alloc HB1.out.size (Obj.cells #[Value.slice As ss.length cs] 33)
  refine ⟨_, [.slice As ss.length cs], rfl, ⟨rfl, .inr ⟨w.heap.size + 1, 1, #[.slice As ss.length cs], rfl, by omega, Blk.new _ 33 _ (World.size_alloc _ _).symm, Nat.le_refl _, by unfold maxLen; omega, rfl, rfl⟩⟩, ⟨rfl, fun i p hp => ?_⟩, h2⟩
  match i, hp with
  | 0, hp =>
    simp at hp
    subst hp
    exact ⟨_, rfl, HS.out.below h2⟩
end Go.Proofs.Ytkkajemahehoaaa
