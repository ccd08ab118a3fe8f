/- A list without one of its elements, in memory: append(append([]T{}, l[:k]...), l[k+1:]...). -/
import Derived.Test.YtkkajemahehoaaaR3
namespace Go.Proofs.Ytkkajemahehoaaa
open Go.RowKit

section
variable {P : Program} {ops : Array Oper} {Q : Exit → Act → World → Prop} {S : World → Prop}
/-- One operation that slices, in every world of the class. -/
theorem ord_slice {n k : Nat} {q : Nat → Bool} {o : Oper} {rest : List (Nat × Oper)} {a : Act} {w : World} (hq : q k = true) (t : TypeId) (x : Operand) (lo hi mx : Option Operand) (ho : o.op = .slice t x lo hi mx) (hw : Region.wanted o (yielded ops a.tmps) = true) (hS : S w)
    (h : ∀ K : Act → Prop, (∀ a', wpOrd P ops Q S n q rest a' w → K a') → o.quiet P a S K) : wpOrd P ops Q S n q ((k, o) :: rest) a w := by
  rw [wpOrd, if_pos hq]
  refine ⟨hS, ?_⟩
  obtain ⟨v, h1, h2⟩ := h (fun a' => wpOrd P ops Q S n q rest a' w) (fun _ h => h)
  refine ⟨v, .inl ⟨hw, fun w' hS' => ?_⟩, h2⟩
  have h3 := h1 w' hS'
  unfold Oper.quietAt at h3
  have key : ∀ s : Sem Value, (∃ u w2, (do let x ← s; pure (Next.value x) : Sem Next).run P w' = .ok (.value u) w2) ∨ (∃ x w2, (do let x ← s; pure (Next.value x) : Sem Next).run P w' = .halt x w2) := fun s => by
    simp only [Sem.run_bind, Sem.run_pure]
    cases s.run P w' with
    | ok v w2 => exact .inl ⟨v, w2, rfl⟩
    | halt x w2 => exact .inr ⟨x, w2, rfl⟩
  have hr : (∃ u w2, (execOp a.eval o).run P w' = .ok (.value u) w2) ∨ (∃ x w2, (execOp a.eval o).run P w' = .halt x w2) := by
    unfold execOp
    rw [ho]
    exact key _
  rcases hr with ⟨u, w2, e⟩ | ⟨x, w2, e⟩
  · rw [e] at h3 ⊢
    obtain ⟨e1, e2⟩ := h3
    rw [e1, e2]
  · rw [e] at h3
    exact h3.elim
end

theorem news_of {α : Type} {enc : α → List Value} {k : Nat} (hk : ∀ x, (enc x).length = k) {w : World} {ad : Addr} : ∀ (xs : List α) (off : Nat), (∀ (i : Nat) (x : α), xs[i]? = some x → At w (ad.add (off + i * k)) (enc x)) →
    ∀ (j : Nat) (u : Value), (xs.flatMap enc)[j]? = some u → w.cell? ((ad.add off).add j) = some u
  | [], _, _, j, u, h => by simp at h
  | x :: xs, off, hx, j, u, h => by
    rw [List.flatMap_cons] at h
    by_cases hj : j < (enc x).length
    · rw [List.getElem?_append_left hj] at h
      have := hx 0 x rfl j u h
      rw [Nat.zero_mul, Nat.add_zero] at this
      exact this
    · rw [List.getElem?_append_right (by omega)] at h
      have h1 := news_of hk xs (off + k) (fun i y hy => by
        have := hx (i + 1) y (by simpa using hy)
        rw [show off + k + i * k = off + (i + 1) * k by rw [Nat.add_mul]; omega]
        exact this) (j - (enc x).length) u h
      rw [hk, add_add'] at h1
      rw [hk] at hj
      rw [add_add', show off + j = off + k + (j - k) by omega]
      exact h1
theorem flat_len {α : Type} {enc : α → List Value} {k : Nat} (hk : ∀ x, (enc x).length = k) (xs : List α) : (xs.flatMap enc).length = xs.length * k := by
  induction xs with
  | nil => simp
  | cons x xs ih => rw [List.flatMap_cons, List.length_append, hk, ih, List.length_cons, Nat.add_mul]; omega
theorem news_take {α : Type} {enc : α → List Value} {k : Nat} (hk : ∀ x, (enc x).length = k) {w : World} {ad : Addr} {n : Nat} {xs : List α} (h : Rd enc k w (some ad) n xs) (m : Nat) :
    ∀ (j : Nat) (u : Value), ((xs.take m).flatMap enc)[j]? = some u → w.cell? (ad.add j) = some u := fun j u hu => by
  have h0 := news_of hk (w := w) (ad := ad) (xs.take m) 0 (fun i x hx => by
    have hi : i < m := by have := (List.getElem?_eq_some_iff.1 hx).1; rw [List.length_take] at this; omega
    rw [List.getElem?_take_of_lt hi] at hx
    obtain ⟨ad', e, ha⟩ := h.2 i x hx
    cases e
    rw [Nat.zero_add]
    exact ha) j u hu
  rw [add_add', Nat.zero_add] at h0
  exact h0
theorem news_drop {α : Type} {enc : α → List Value} {k : Nat} (hk : ∀ x, (enc x).length = k) {w : World} {ad : Addr} {n : Nat} {xs : List α} (h : Rd enc k w (some ad) n xs) (m : Nat) :
    ∀ (j : Nat) (u : Value), ((xs.drop m).flatMap enc)[j]? = some u → w.cell? ((ad.add (m * k)).add j) = some u :=
  news_of hk (w := w) (ad := ad) (xs.drop m) (m * k) (fun i x hx => by
    rw [List.getElem?_drop] at hx
    obtain ⟨ad', e, ha⟩ := h.2 (m + i) x hx
    cases e
    rw [← Nat.add_mul]
    exact ha)
theorem own_empty (w : World) (base : Nat) (hb : base ≤ w.heap.size) (e : TypeId) (size : Nat) : (w.alloc (.cells #[] e)).ownsRow base e size (.slice (some ⟨w.heap.size, 0, none⟩) 0 0) 0 [] :=
  ⟨by simp, .inr ⟨w.heap.size, 0, #[], rfl, hb, heap_alloc_new w _, Nat.le_refl _, Nat.zero_le _, by simp, by simp⟩⟩
theorem build22 (w : World) : (Instr.buildSlice 22 0 #[]).run Try.prog w = .ok (.slice (some ⟨w.heap.size, 0, none⟩) 0 0) (w.alloc (.cells #[] 108)) := by kernel_rfl
theorem info108 : (Try.prog.info? 108).map (fun i => (i.zero, i.size, i.bytes)) = some (some (.agg #[.int .i64 0, .int .i64 0, .int .i64 0]), 3, 24) := by kernel_rfl
theorem high_len (x : High) : (High.enc x).length = 3 := rfl
theorem enc_one {α : Type} {enc : α → List Value} (h1 : ∀ x, ∀ u ∈ enc x, u.oneCell' = true) (xs : List α) : ∀ u ∈ xs.flatMap enc, u.oneCell' = true := fun u hu => by
  rw [List.mem_flatMap] at hu
  obtain ⟨x, _, h⟩ := hu
  exact h1 x u h
theorem high_one (x : High) : ∀ u ∈ High.enc x, u.oneCell' = true := fun u hu => by
  simp [High.enc] at hu
  rcases hu with rfl | rfl | rfl <;> rfl
theorem flat_app {α : Type} (enc : α → List Value) (xs ys : List α) : xs.flatMap enc ++ ys.flatMap enc = (xs ++ ys).flatMap enc := by rw [List.flatMap_append]
theorem erase_eq {α : Type} (xs : List α) (k : Nat) : xs.take k ++ xs.drop (k + 1) = xs.eraseIdx k := (List.eraseIdx_eq_take_drop_succ xs k).symm
end Go.Proofs.Ytkkajemahehoaaa
