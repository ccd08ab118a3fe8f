/- The laws' within, without and failed: walks. -/
import Derived.Test.YtadldndpphdmpaaGreatQI
namespace Go.Proofs.YtadldndpphdmpaaGreat
open Go.RowKit

theorem all_step {α : Type} (q : α → Bool) {l : List α} {k : Nat} {x : α} (h : l[k]? = some x) : (l.take (k + 1)).all q = ((l.take k).all q && q x) := by
  obtain ⟨hk, rfl⟩ := List.getElem?_eq_some_iff.1 h
  rw [List.take_succ_eq_append_getElem hk, List.all_append]
  simp
theorem all_miss {α : Type} (q : α → Bool) {l : List α} {k : Nat} {x : α} (h : l[k]? = some x) (hq : q x = false) : l.all q = false := by
  rw [List.all_eq_false]; exact ⟨x, List.mem_of_getElem? h, by rw [hq]; decide⟩
end Go.Proofs.YtadldndpphdmpaaGreat
