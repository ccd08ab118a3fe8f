/- Lists of plans in memory. -/
import Derived.Test.YtkkajemahehoaaaPlain5
import Derived.Test.YtkkajemahehoaaaMix3
import Derived.Test.YtkkajemahehoaaaDr
namespace Go.Proofs.Ytkkajemahehoaaa
open Go.RowKit

/-- A value that reads as a plan, in a block of ints. -/
def PlanV (w : World) (u : Value) (p : List Int) : Prop :=
  ∃ A c, u = .slice A p.length c ∧ RdI w A p.length p ∧ (p ≠ [] → ∃ a cs fz, A = some a ∧ w.heap[a.block]? = some (.cells cs 3 fz))
def PlansV (w : World) (vals : List Value) (ps : List (List Int)) : Prop :=
  vals.length = ps.length ∧ ∀ (i : Nat) (p : List Int), ps[i]? = some p → ∃ u, vals[i]? = some u ∧ PlanV w u p

theorem PlanV.same {w w' : World} {u : Value} {p : List Int} (h : PlanV w u p) (hs : ∀ (i : Nat) cs fz, w.heap[i]? = some (.cells cs 3 fz) → w'.heap[i]? = w.heap[i]?) : PlanV w' u p := by
  obtain ⟨A, c, e, hr, hb⟩ := h
  by_cases hp : p = []
  · subst hp
    exact ⟨A, c, e, ⟨rfl, fun i x h => by simp at h⟩, fun h => absurd rfl h⟩
  · obtain ⟨a, cs, fz, rfl, hc⟩ := hb hp
    have he := hs a.block cs fz hc
    refine ⟨some a, c, e, ⟨hr.1, fun i x hx => ?_⟩, fun _ => ⟨a, cs, fz, rfl, he.trans hc⟩⟩
    obtain ⟨ad, e1, ha⟩ := hr.2 i x hx
    injection e1 with e1
    subst e1
    refine ⟨a, rfl, fun j v hj => ?_⟩
    refine (World.cell?_of_block (w := w) ?_).trans (ha j v hj)
    have hbk : ∀ (p : Addr) (k : Nat), (p.add k).block = p.block := fun p k => by unfold Addr.add; split <;> rfl
    rw [hbk, hbk]
    exact he
theorem PlanV.below {w w' : World} {u : Value} {p : List Int} (h : PlanV w u p) (hb : Below w.heap.size w w') : PlanV w' u p :=
  h.same fun i _ _ hi => hb.block i (Array.getElem?_eq_some_iff.1 hi).1
theorem PlansV.below {w w' : World} {vals : List Value} {ps : List (List Int)} (h : PlansV w vals ps) (hb : Below w.heap.size w w') : PlansV w' vals ps :=
  ⟨h.1, fun i p hp => by obtain ⟨u, h1, h2⟩ := h.2 i p hp; exact ⟨u, h1, h2.below hb⟩⟩
theorem PlansV.app {w : World} {v1 v2 : List Value} {p1 p2 : List (List Int)} (h : PlansV w v1 p1) (h' : PlansV w v2 p2) : PlansV w (v1 ++ v2) (p1 ++ p2) :=
  ⟨by rw [List.length_append, List.length_append, h.1, h'.1], fun i p hp => by
    by_cases hi : i < p1.length
    · rw [List.getElem?_append_left hi] at hp
      rw [List.getElem?_append_left (by rw [h.1]; exact hi)]
      exact h.2 i p hp
    · rw [List.getElem?_append_right (by omega)] at hp
      rw [List.getElem?_append_right (by have := h.1; omega), h.1]
      exact h'.2 _ p hp⟩
/-- A row of plans that grows keeps the plans: they lie in other blocks. -/
theorem PlansV.grown {w w' : World} {base n : Nat} {v : Value} {xs vals : List Value} {ps : List (List Int)} (h : PlansV w vals ps) (ho : w.ownsRow base 33 1 v n xs) (hg : w.grownBy w' v.ownBlock) : PlansV w' vals ps := by
  refine ⟨h.1, fun i p hp => ?_⟩
  obtain ⟨u, h1, h2⟩ := h.2 i p hp
  refine ⟨u, h1, h2.same fun j cs fz hj => ?_⟩
  have hlt := (Array.getElem?_eq_some_iff.1 hj).1
  refine hg.block j hlt ?_
  intro e
  rcases ho.2 with ⟨rfl, _⟩ | ⟨g, cap, cur, rfl, _, hc, _⟩
  · cases e
  · cases e
    rw [hc] at hj
    injection hj with hj
    injection hj with _ h3 _
    exact absurd h3 (by decide)
/-- A row of ints of its own reads as a plan. -/
theorem planV_of_own {w : World} {base : Nat} {v : Value} {p : List Int} (h : w.ownsRow base 3 1 v p.length (p.map (Value.int .i64))) : PlanV w v p := by
  obtain ⟨A, c, rfl, hr, _, _⟩ := rdI_of_own h rfl
  refine ⟨A, c, rfl, hr, fun hp => ?_⟩
  rcases h.2 with ⟨_, h0⟩ | ⟨g, cap, cur, e, _, hc, _⟩
  · exact absurd (List.eq_nil_of_length_eq_zero h0) hp
  · injection e with e1 _ _
    subst e1
    exact ⟨_, cur, _, rfl, hc⟩
theorem flat_bound {α β : Type} {f : α → List β} {b : Nat} : ∀ (l : List α), (∀ x ∈ l, (f x).length ≤ b) → (l.flatMap f).length ≤ l.length * b
  | [], _ => by simp
  | a :: l, h => by
    rw [List.flatMap_cons, List.length_append, List.length_cons, Nat.succ_mul]
    have h1 := h a (by simp)
    have h2 := flat_bound l (fun x hx => h x (by simp [hx]))
    omega
theorem plansL_len (t : Task) : ∀ (k : Nat) (ss : List Int), (plansL t k ss).length ≤ 400 ^ k
  | 0, ss => by simp [plansL]
  | k + 1, ss => by
    rw [plansL]
    split
    · simp
    · rename_i x _
      refine Nat.le_trans (flat_bound (b := 400 ^ k) _ (fun s _ => plansL_len t k _)) ?_
      rw [Nat.pow_succ, Nat.mul_comm]
      exact Nat.mul_le_mul_left _ (startsF_len t x)
theorem PlansV.one {w : World} {vals : List Value} {ps : List (List Int)} (h : PlansV w vals ps) : ∀ y ∈ vals, y.oneCell' = true := fun y hy => by
  obtain ⟨i, hi, e⟩ := List.getElem_of_mem hy
  obtain ⟨u, h1, A, c, h2, _⟩ := h.2 i (ps[i]'(by rw [← h.1]; exact hi)) (List.getElem?_eq_getElem _)
  rw [List.getElem?_eq_getElem hi, e] at h1
  injection h1 with h1
  rw [h1, h2]
  rfl
theorem ints_one (l : List Int) : ∀ y ∈ l.map (Value.int .i64), y.oneCell' = true := fun y hy => by
  obtain ⟨z, _, rfl⟩ := List.mem_map.1 hy
  rfl
theorem news_cell {w : World} {b : Nat} {v : Value} (h : w.cell? ⟨b, 0, none⟩ = some v) : ∀ (j : Nat) (u : Value), [v][j]? = some u → w.cell? ((⟨b, 0, none⟩ : Addr).add j) = some u := fun j u hj => by
  match j, hj with
  | 0, hj =>
    simp at hj
    subst hj
    exact h
theorem own_emptyC (w : World) (d : Int) : ((w.alloc (.cells #[.int .i64 d] 3)).drew.alloc (.cells #[] 3)).ownsRow w.heap.size 3 1 (.slice (some ⟨w.heap.size + 1, 0, none⟩) 0 0) 0 [] := by
  have h := own_empty (w.alloc (.cells #[.int .i64 d] 3)).drew w.heap.size (by simp [World.drew]) 3 1
  have e : (w.alloc (.cells #[.int .i64 d] 3)).drew.heap.size = w.heap.size + 1 := World.size_alloc _ _
  rw [e] at h
  exact h
theorem cell_b (w : World) (d : Int) : ((w.alloc (.cells #[] 3)).drew.alloc (.cells #[.int .i64 d] 3)).cell? ⟨w.heap.size + 1, 0, none⟩ = some (.int .i64 d) := by
  have h : Blk ((w.alloc (.cells #[] 3)).drew.alloc (.cells #[.int .i64 d] 3)) (w.heap.size + 1) 3 #[.int .i64 d] := Blk.new _ 3 _ (World.size_alloc w _).symm
  exact h.cell (i := 0) rfl
theorem cell_c (w : World) (d : Int) : ((w.alloc (.cells #[.int .i64 d] 3)).drew.alloc (.cells #[] 3)).cell? ⟨w.heap.size, 0, none⟩ = some (.int .i64 d) := by
  have h0 : Blk (w.alloc (.cells #[.int .i64 d] 3)) w.heap.size 3 #[.int .i64 d] := Blk.new _ 3 _ rfl
  have h1 : Blk (w.alloc (.cells #[.int .i64 d] 3)).drew w.heap.size 3 #[.int .i64 d] := h0
  exact (h1.alloc _).cell (i := 0) rfl
end Go.Proofs.Ytkkajemahehoaaa
