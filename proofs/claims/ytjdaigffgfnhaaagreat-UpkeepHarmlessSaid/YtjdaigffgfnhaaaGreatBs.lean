/- A slice of one element of many cells is built. -/
import Derived.Test.YtjdaigffgfnhaaaGreatBase
namespace Go.Proofs.YtjdaigffgfnhaaaGreat
open Go.RowKit

theorem fold_set (l : List Value) : ∀ (k : Nat) (a : Array Value) (i : Nat),
    ((l.zipIdx k).foldl (fun (cs : Array Value) (p : Value × Nat) => cs.setIfInBounds (0 + p.2) p.1) a)[i]? = if k ≤ i ∧ i < k + l.length ∧ i < a.size then l[i - k]? else a[i]? := by
  induction l with
  | nil => intro k a i; simp; intro h1 h2; omega
  | cons v r ih =>
    intro k a i
    rw [List.zipIdx_cons, List.foldl_cons, ih]
    dsimp only
    rw [Nat.zero_add, Array.size_setIfInBounds, Array.getElem?_setIfInBounds, List.length_cons]
    by_cases h1 : i < a.size
    · by_cases h2 : k = i
      · subst h2
        rw [if_neg (by omega), if_pos rfl, if_pos h1, if_pos (by omega)]
        simp
      · by_cases h3 : k + 1 ≤ i ∧ i < k + 1 + r.length
        · rw [if_pos ⟨h3.1, h3.2, h1⟩, if_pos (by omega), show i - k = (i - (k + 1)) + 1 by omega, List.getElem?_cons_succ]
        · rw [if_neg (by omega), if_neg h2, if_neg (by omega)]
    · simp only [h1, and_false, if_false]
      by_cases h2 : k = i
      · subst h2; rw [if_pos rfl, if_neg h1, Array.getElem?_eq_none (by omega)]
      · rw [if_neg h2]

theorem fill_one (size : Nat) (base cs : Array Value) (hb : base.size = size) (hc : cs.size = size) :
    Instr.fill (fun i => some (i * size, size)) base [(0, .agg cs)] = some cs := by
  unfold Instr.fill
  simp only [Nat.zero_mul]
  have e : (Value.agg cs).cells = cs := rfl
  rw [e, if_neg (by simp [hb, hc])]
  unfold Instr.fill
  congr 1
  have h1 : (cs.zipIdx.foldl (fun (a : Array Value) (p : Value × Nat) => a.setIfInBounds (0 + p.2) p.1) base) = cs := by
    apply Array.ext_getElem?
    intro i
    rw [← Array.foldl_toList, Array.toList_zipIdx]
    rw [fold_set cs.toList 0 base i]
    have hl : cs.toList.length = cs.size := by simp
    by_cases h : i < size
    · rw [if_pos ⟨Nat.zero_le _, by omega, by omega⟩]; simp
    · rw [if_neg (by omega), Array.getElem?_eq_none (by omega), Array.getElem?_eq_none (by omega)]
  exact h1

theorem run_buildSlice_one {P : Program} {t e : TypeId} {size : Nat} {z cs : Array Value} (w : World) (ht : P.underlying t = some (.slice e)) (hs : (sizeOf e).run P w = .ok size w) (hz : (zeroValue e).run P w = .ok (.agg z) w) (hc : cs.size = size) (h0 : 0 < size) (h1 : size ≤ 16777216) :
    (Instr.buildSlice t 1 #[(0, .agg cs)]).run P w = .ok (.slice (some ⟨w.heap.size, 0, none⟩) 1 1) (w.alloc (.cells cs e)) := by
  have hf := fill_one size ((Array.range (1 * size)).map ((Value.agg z).cells[· % (Value.agg z).cells.size]!)) cs (by simp) hc
  have h3 : ¬ 16777216 < 1 * size := by omega
  have h4 : ¬ 1 * size = 0 := by omega
  simp only [Nat.one_mul] at hf h3 h4
  simp [Instr.buildSlice, run_underlying ht, hs, hz, hf, h3, h4, newRow]

theorem wpList_buildSlice_one {P : Program} {ops : Array Oper} {rest : List Oper} {o : Oper} {a : Act} {Q : Exit → Act → World → Prop} {w : World} (hgd : o.guard = none) (t e : TypeId) (x : Operand) (ho : o.op = .buildSlice t 1 #[(0, x)]) (size : Nat) (z cs : Array Value) (hx : a.eval x = .agg cs)
    (ht : P.underlying t = some (.slice e)) (hs : (sizeOf e).run P w = .ok size w) (hz : (zeroValue e).run P w = .ok (.agg z) w) (hc : cs.size = size) (h0 : 0 < size) (h1 : size ≤ 16777216)
    (h : wpList P ops Q rest (a.put o.dst (.slice (some ⟨w.heap.size, 0, none⟩) 1 1)) (w.alloc (.cells cs e))) : wpList P ops Q (o :: rest) a w := by
  refine wpList_plain hgd fun K hK => ?_
  have hr := run_buildSlice_one (P := P) (cs := cs) w ht hs hz hc h0 h1
  unfold Oper.wp execOp
  simp only [ho, List.map_toArray, List.map_cons, List.map_nil, hx, Sem.run_bind, hr, Result.andThen_ok, Sem.run_pure]
  exact hK _ _ h
end Go.Proofs.YtjdaigffgfnhaaaGreat
