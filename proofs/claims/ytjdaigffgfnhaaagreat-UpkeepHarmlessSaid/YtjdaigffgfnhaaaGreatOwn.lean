/- A row of the call's own reads as a list. -/
import Derived.Test.YtjdaigffgfnhaaaGreatBase
namespace Go.Proofs.YtjdaigffgfnhaaaGreat
open Go.RowKit

theorem flat_get {α : Type} {enc : α → List Value} {k : Nat} (hk : ∀ x, (enc x).length = k) : ∀ (xs : List α) (i : Nat) (x : α) (j : Nat) (v : Value), xs[i]? = some x → (enc x)[j]? = some v → (xs.flatMap enc)[i * k + j]? = some v
  | [], i, x, j, v, h, _ => by simp at h
  | y :: ys, 0, x, j, v, h, hv => by
    simp at h
    subst h
    have hj : j < (enc y).length := (List.getElem?_eq_some_iff.1 hv).1
    rw [List.flatMap_cons, Nat.zero_mul, Nat.zero_add, List.getElem?_append_left hj]
    exact hv
  | y :: ys, i + 1, x, j, v, h, hv => by
    rw [List.getElem?_cons_succ] at h
    have hy := hk y
    rw [List.flatMap_cons, List.getElem?_append_right (by rw [hy, Nat.succ_mul]; omega), hy]
    have e : (i + 1) * k + j - k = i * k + j := by rw [Nat.succ_mul]; omega
    rw [e]
    exact flat_get hk ys i x j v h hv
theorem add_add' (a : Addr) (i j : Nat) : (a.add i).add j = a.add (i + j) := by
  unfold Addr.add
  by_cases hi : i = 0 <;> by_cases hj : j = 0 <;> simp [hi, hj, Nat.add_assoc]

theorem own_lower {w : World} {base base' : Nat} {e : TypeId} {size : Nat} {v : Value} {n : Nat} {xs : List Value} (h : w.ownsRow base e size v n xs) (hb : base' ≤ base) : w.ownsRow base' e size v n xs := by
  refine ⟨h.1, ?_⟩
  rcases h.2 with h0 | ⟨g, cap, cur, h1, h2, h3⟩
  · exact .inl h0
  · exact .inr ⟨g, cap, cur, h1, Nat.le_trans hb h2, h3⟩

theorem rd_of_own {α : Type} {enc : α → List Value} {k : Nat} (hk : ∀ x, (enc x).length = k) {w : World} {base : Nat} {e : TypeId} {v : Value} {n : Nat} {xs : List α} (h : w.ownsRow base e k v n (xs.flatMap enc)) (hn : xs.length = n) :
    ∃ A c, v = .slice A n c ∧ Rd enc k w A n xs ∧ n ≤ c ∧ c ≤ maxLen := by
  rcases h.2 with ⟨rfl, rfl⟩ | ⟨g, cap, cur, rfl, hb, hc, h1, h2, h3, h4⟩
  · have : xs = [] := List.length_eq_zero_iff.1 hn
    subst this
    exact ⟨none, 0, rfl, Rd.nil, Nat.le_refl _, Nat.zero_le _⟩
  · refine ⟨some ⟨g, 0, none⟩, cap, rfl, ⟨hn, fun i x hx => ⟨_, rfl, fun j u hu => ?_⟩⟩, h1, h2⟩
    rw [add_add']
    exact h.cells (g := g) rfl _ _ (flat_get hk xs i x j u hx hu)
theorem flat_one (xs : List Int) : xs.flatMap (fun x => [Value.int .i64 x]) = xs.map (Value.int .i64) := by induction xs <;> simp_all
abbrev RdI := @Rd Int (fun x => [Value.int .i64 x]) 1
theorem rdI_get {w : World} {A : Option Addr} {n : Nat} {xs : List Int} (h : RdI w A n xs) {k : Nat} (hk : k < n) : ∃ (x : Int) (ad : Addr), xs[k]? = some x ∧ A = some ad ∧ w.cell? (ad.add k) = some (.int .i64 x) := by
  obtain ⟨x, ad, h1, h2, h3⟩ := h.get hk
  have h4 := h3 0 _ rfl
  rw [Nat.mul_one] at h4
  exact ⟨x, ad, h1, h2, h4⟩
theorem rdI_of_own {w : World} {base : Nat} {v : Value} {n : Nat} {xs : List Int} (h : w.ownsRow base 3 1 v n (xs.map (Value.int .i64))) (hn : xs.length = n) : ∃ A c, v = .slice A n c ∧ RdI w A n xs ∧ n ≤ c ∧ c ≤ maxLen := by
  rw [← flat_one] at h
  exact rd_of_own (enc := fun x : Int => [Value.int .i64 x]) (k := 1) (fun _ => rfl) h hn
end Go.Proofs.YtjdaigffgfnhaaaGreat
