/- A row of sets of the call's own, put in order: slices.SortFunc by its contract. -/
import Derived.Test.YtadldndpphdmpaaGreatQE
import Derived.Test.YtadldndpphdmpaaGreatShelf2
import Derived.Sort.OwnSortedInts
namespace Go.Proofs.YtadldndpphdmpaaGreat
open Go.Shelf Go.RowKit Go.Lib Go.Sort
section
variable {α : Type} [Inhabited α] {enc : α → Value}

theorem holds_of_blockE {w : World} {g : Nat} {cur : Array Value} {e : TypeId} {ss : List α} (hb : w.heap[g]? = some (.cells cur e (0, 0))) (ht : cur.toList.take ss.length = ss.map enc) : Holds enc w g 0 ss.toArray := by
  intro j hj
  have hj' : j < ss.length := by simpa using hj
  refine ⟨?_, by simp [World.frozen?, hb]⟩
  have h1 : (cur.toList.take ss.length)[j]? = (ss.map enc)[j]? := by rw [ht]
  rw [List.getElem?_take_of_lt hj'] at h1
  simp only [World.cell?, hb, Nat.zero_add]
  simp only [Option.isSome_none, Bool.false_eq_true, if_false]
  rw [← Array.getElem?_toList, h1]
  simp [hj']
theorem heap_sortedE {w : World} {g n : Nat} {os : Array Obj} {cur : Array Value} {e : TypeId} {fr : Nat × Nat} (d : Array α) (hb : w.heap[g]? = some (.cells cur e fr)) :
    (grow (putRow enc (Sort.ahead w n) g 0 d) os).heap[g]? = some (.cells (putCells enc 0 d cur) e fr) := by
  have hg : g < w.heap.size := (Array.getElem?_eq_some_iff.1 hb).1
  rw [heap_grow_old _ _ (by simpa using hg)]
  simp [putRow, mapBlock, Sort.ahead, Array.getElem?_modify, hb, onCells]
theorem grownBy_sortedE {w : World} {g n : Nat} {os : Array Obj} (d : Array α) : w.grownBy (grow (putRow enc (Sort.ahead w n) g 0 d) os) (some g) := by
  refine ⟨rfl, rfl, rfl, by simp, fun k hk hne => ?_⟩
  rw [heap_grow_old _ _ (by simpa using hk)]
  have : g ≠ k := fun e => hne (by rw [e])
  simp [putRow, mapBlock, Sort.ahead, Array.getElem?_modify, this]
theorem take_putCellsE (cur : Array Value) (ts : List α) (h : ts.length ≤ cur.size) : (putCells enc 0 ts.toArray cur).toList.take ts.length = ts.map enc := by
  apply List.ext_getElem?
  intro j
  by_cases hj : j < ts.length
  · rw [List.getElem?_take_of_lt hj, Array.getElem?_toList]
    simp [putCells, hj, show j < cur.size by omega]
  · rw [List.getElem?_take_eq_none (by omega), List.getElem?_eq_none (by simp; omega)]
theorem ownsRow_sortedE {w : World} {base g cap n : Nat} {e : TypeId} {os : Array Obj} {cur : Array Value} {ss ts : List α} (hl : ts.length = ss.length) (hbase : base ≤ g) (hb : w.heap[g]? = some (.cells cur e (0, 0)))
    (h1 : ss.length ≤ cap) (h2 : cap ≤ maxLen) (h3 : cur.size = cap * 1) :
    (grow (putRow enc (Sort.ahead w n) g 0 ts.toArray) os).ownsRow base e 1 (.slice (some ⟨g, 0, none⟩) ss.length cap) ss.length (ts.map enc) :=
  ⟨by simp [hl], .inr ⟨g, cap, _, rfl, hbase, heap_sortedE _ hb, h1, h2, by simp [putCells, h3], by rw [Nat.mul_one, ← hl]; exact take_putCellsE cur ts (by omega)⟩⟩
end

theorem cmpLaysS (blk off size : Nat) (w : World) : CmpLays1 Tryz.prog 45 #[] encS cfB blk off size w := fun _ _ _ _ x y =>
  Calls.mono (least1_any x.1 y.1 x.2 y.2 _) fun _ _ ⟨h1, h2, h3⟩ => ⟨h1, grownN_of_below h2 h3⟩

theorem sortSets_any {w : World} {base n : Nat} {T : TypeId} {v : Value} {xs : List BS} (h : w.ownsRow base T 1 v n (xs.map encS)) (hl : xs.length = n) (hn : n ≤ 1000000) :
    Calls Tryz.prog 44 #[v, .func (.func 45) #[] #[]] w fun e w' => e = .returned (.tuple #[]) ∧ w'.ownsRow base T 1 v n ((sortS xs).map encS) ∧ w.grownBy w' v.ownBlock := by
  rcases Nat.eq_zero_or_pos n with rfl | hp
  · have hx : xs = [] := List.length_eq_zero_iff.1 hl
    subst hx
    obtain ⟨A, c, rfl, _⟩ := own_slice h
    have hS := AnyF.slices_SortFunc_none (P := Tryz.prog) (ρ := Tryz.sortF_ren) { Tryz.sortF with } A c (.func (.func 45) #[] #[]) w
    exact Calls.mono hS fun e w' ⟨h1, h2⟩ => ⟨h1, by subst h2; rw [show sortS [] = [] from by simp [sortS]]; exact h, by subst h2; exact ⟨rfl, rfl, rfl, Nat.le_refl _, fun _ _ _ => rfl⟩⟩
  · rcases h.2 with ⟨_, h0⟩ | ⟨g, cap, cur, rfl, hbase, hb, h1, h2, h3, h4⟩
    · omega
    · have h4' : cur.toList.take xs.length = xs.map encS := by rw [hl]; simpa using h4
      have hH : Holds encS w g 0 xs.toArray := holds_of_blockE hb h4'
      have eg : ∀ args w, (callFunc 45 args).run Tryz.prog w = .ok (.enter 45 args) w := enters_of Tryz.func45 (by kernel_rfl) rfl
      have hsz : xs.toArray.size = n := by simpa using hl
      have hS := Any.slices_SortFunc_total Tryz.sortF encS (fun _ => rfl) cfB swoS 45 #[] g 0 cap xs.toArray w eg (cmpLaysS g 0 xs.toArray.size w) hH (Array.getElem?_eq_some_iff.1 hb).1 (by omega) totS
      rw [hsz] at hS
      refine Calls.mono hS fun e w' ⟨he, nn, os, hw⟩ => ⟨he, ?_, ?_⟩
      · have := ownsRow_sortedE (enc := encS) (w := w) (n := nn) (os := os) (ts := sortS xs) (ss := xs) (sortS_len xs) hbase hb (by omega) h2 (by simpa using h3)
        rw [hl] at this
        rw [hw]
        exact this
      · rw [hw]
        exact grownBy_sortedE _
end Go.Proofs.YtadldndpphdmpaaGreat
