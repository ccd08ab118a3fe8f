/- A map of names that is a set. -/
import Derived.Test.YtjdaigffgfnhaaaGreatKa
import Derived.Maps.Own
import Derived.Maps.OwnOps
import Derived.Maps.OwnSet
import Derived.Maps.Views
namespace Go.Proofs.YtjdaigffgfnhaaaGreat
open Go.RowKit

/-- A map of names that is a set. -/
def Nset (w : World) (B k : Nat) (S : List UInt8 → Bool) : Prop :=
  ∃ D : DataW Unit, w.ownsMap Tryz.prog 9 (plainElem Tryz.prog 4) B k D ∧ Maps.IsMap D ∧ ∀ s, D.atKey (.string s) (.lit (.bool false)) = .lit (.bool (S s))

theorem Nset.kept {w w' : World} {B k : Nat} {S : List UInt8 → Bool} {row : Option Nat} (h : Nset w B k S) (hg : w.grownBy w' row) (hne : some B ≠ row) : Nset w' B k S := by
  obtain ⟨D, h1, h3, h2⟩ := h
  exact ⟨D, h1.kept hg hne, h3, h2⟩
theorem Nset.lt {w : World} {B k : Nat} {S : List UInt8 → Bool} (h : Nset w B k S) : B < w.heap.size := by
  obtain ⟨D, h1, _⟩ := h
  exact h1.lt
theorem Nset.alloc {w : World} {B k : Nat} {S : List UInt8 → Bool} (h : Nset w B k S) (o : Obj) : Nset (w.alloc o) B k S := h.kept (World.grownBy_alloc w o none) (by simp)
theorem Nset.later {w w' : World} {B k : Nat} {S : List UInt8 → Bool} (h : Nset w B k S) (hb : Below w.heap.size w w') : Nset w' B k S := h.kept ⟨hb.os, hb.tape, hb.output, hb.size, fun i hi _ => hb.block i hi⟩ (row := none) (by simp)
theorem Nset.made (w : World) : Nset (w.alloc (.map #[] 0)) w.heap.size 0 (fun _ => false) :=
  ⟨.map [], World.ownsMap_made w _ _ _, Maps.isMap_empty, fun _ => rfl⟩

theorem zeroB (w : World) : (zeroValue 4).run Tryz.prog w = .ok (.bool false) w := by kernel_rfl

theorem plainElem_bool_inv {P : Program} {e : TypeId} (he : P.underlying e = some .bool) {v : Value} {b : Bool} {ps : List MemPlace} (h : plainElem (H := Unit) P e v = some (.lit (.bool b), ps)) : v = .bool b := by
  unfold plainElem at h
  rw [he] at h
  cases v <;> simp at h
  rw [h.1]

theorem Nset.look {w : World} {B k : Nat} {S : List UInt8 → Bool} (h : Nset w B k S) {s : ByteArray} (hs : s.size ≤ maxLen) :
    (Instr.lookup 129 (.map (some B)) (.string s) false).run Tryz.prog w = .ok (.bool (S s.data.toList)) w := by
  obtain ⟨D, h1, h3, h2⟩ := h
  obtain ⟨v, ps, hrun, hv⟩ := h1.lookup (Maps.string_keyed Tryz.underlying9) Tryz.underlying129 (zeroB w) (plainElem_bool Tryz.underlying4 false) (WideMaps.keyOf_string_mk Tryz.underlying9 hs)
  rw [h2] at hv
  rw [hrun, plainElem_bool_inv Tryz.underlying4 hv]

theorem Nset.put {w : World} {B k : Nat} {S : List UInt8 → Bool} (h : Nset w B k S) (hk : k < 1000) {s : ByteArray} (hs : s.size ≤ maxLen) :
    ∃ w', (Instr.mapUpdate 129 (.map (some B)) (.string s) (.bool true)).run Tryz.prog w = .ok () w' ∧ Nset w' B (k + 1) (fun x => S x || x == s.data.toList) ∧ w.grownBy w' (some B) := by
  obtain ⟨D, h1, h3, h2⟩ := h
  obtain ⟨w', hr, ho, hg⟩ := h1.update (Maps.string_keyed Tryz.underlying9) Tryz.underlying129 (by unfold maxLen; omega) (WideMaps.keyOf_string_mk Tryz.underlying9 hs) (plainElem_bool Tryz.underlying4 true)
  refine ⟨w', hr, ⟨_, ho, ?_, fun x => ?_⟩, hg⟩
  · obtain ⟨es, rfl⟩ := h3
    exact ⟨_, rfl⟩
  · by_cases hx : x = s.data.toList
    · subst hx
      rw [Maps.atKey_put_same h3 (by trivial)]
      simp
    · rw [Maps.atKey_put_other (by intro e; cases e; exact hx rfl), h2 x]
      have : (x == s.data.toList) = false := by simpa using hx
      simp [this]
end Go.Proofs.YtjdaigffgfnhaaaGreat
