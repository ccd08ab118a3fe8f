/- Proves, by the program. -/
import Derived.Test.YtadldndpphdmpaaGreatP4
namespace Go.Proofs.YtadldndpphdmpaaGreat
open Go.RowKit Go.Shelf

/-- What Proves returns. -/
def provesT (t : List Nd) (node : Int) (l g : List Int) : Bool × Int :=
  if (aboutT t node [l, g]).1 ≠ 0 then (false, (aboutT t node [l, g]).1) else (decide ((lstGo t l 0).2 &&& (lstGo t g 0).2 = 0) && soundB t node.toNat (lstGo t g 0).2, 0)
theorem two_sl (w : World) (a b : Value) (cs : Array Value) (t1 t2 : TypeId) : ∀ W, (w.alloc (.cells cs t1)).alloc (.cells #[a, b] t2) = W →
    Below w.heap.size w W ∧ Blk W w.heap.size t1 cs ∧ Blk W (w.heap.size + 1) t2 #[a, b] := by
  rintro W rfl
  exact ⟨((Below.refl _ w).alloc (Nat.le_refl _) _).alloc (by simp) _, (Blk.new _ _ _ rfl).alloc _, Blk.new _ _ _ (by simp)⟩

end Go.Proofs.YtadldndpphdmpaaGreat
