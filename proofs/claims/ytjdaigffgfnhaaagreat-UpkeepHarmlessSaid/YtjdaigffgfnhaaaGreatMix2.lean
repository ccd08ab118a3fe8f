/- As Mix, in an order that is given: the operations of the class may be taken earlier than the text has them. -/
import Derived.Test.YtjdaigffgfnhaaaGreatMix
namespace Go.Proofs.YtjdaigffgfnhaaaGreat
open Go.RowKit

section
variable {P : Program} {ops : Array Oper} {Q : Exit → Act → World → Prop} {md : Region.Mode} {S : World → Prop}

def wpOrd (P : Program) (ops : Array Oper) (Q : Exit → Act → World → Prop) (S : World → Prop) (n : Nat) (q : Nat → Bool) : List (Nat × Oper) → Act → World → Prop
  | [], a, w => Q .normal a w
  | (k, o) :: rest, a, w => if q k = true then S w ∧ ∃ v, YieldsIf P ops S o v a ∧ wpOrd P ops Q S n q rest (a.put o.dst v) w
    else wpList P ops (mixPost Q S (decide (k < n)) (fun a' w' => wpOrd P ops Q S n q rest a' w')) [o] a w

/-- b: no operation of the tail has come up yet. -/
def ordB (md : Region.Mode) (ops : Array Oper) (n : Nat) (q : Nat → Bool) : List Nat → Bool → Array Bool → Bool
  | [], _, listed => (Region.ready md ops listed).isEmpty
  | k :: rest, b, listed => (if q k then b && decide (k < n) && (Region.ready md ops listed).contains k && Region.free md ops listed k else decide (Region.ready md ops listed = [k])) && ordB md ops n q rest (b && decide (k < n)) (listed.setIfInBounds k true)

theorem anyT_of_ord {n : Nat} {q : Nat → Bool} (hsel : Region.noSelect ops = true) (hs : Region.sinkB md ops n = true) (hc : Region.chainB md ops n = true) (hn : n < ops.size)
    (hQ : ∀ c a d v w, Q (.panic c) (Act.put a d v) w → Q (.panic c) a w) :
    ∀ (l : List (Nat × Oper)) (b : Bool) (listed : Array Bool) (a : Act) (w : World), (∀ x ∈ l, ops[x.1]? = some x.2) → (b = true → HeadInv md ops n listed) → ordB md ops n q (l.map (·.1)) b listed = true →
      wpOrd P ops Q S n q l a w → anyT P md ops Q S n l.length listed a w
  | [], _, listed, a, w, _, _, hB, h => ⟨by simpa [ordB] using hB, h⟩
  | (k, o) :: l, b, listed, a, w, hl, inv, hB, h => by
    have h0 : ops[k]? = some o := hl (k, o) (by simp)
    have hl' : ∀ x ∈ l, ops[x.1]? = some x.2 := fun x hx => hl x (by simp [hx])
    rw [List.map_cons, ordB, Bool.and_eq_true] at hB
    obtain ⟨hB1, hB2⟩ := hB
    by_cases hq : q k = true
    · rw [if_pos hq] at hB1
      simp only [Bool.and_eq_true, decide_eq_true_eq] at hB1
      obtain ⟨⟨⟨hb, hkn⟩, hrd⟩, hfr⟩ := hB1
      rw [wpOrd, if_pos hq] at h
      obtain ⟨hS, v, hy, hK⟩ := h
      have hr : k ∈ Region.ready md ops listed := by simpa using hrd
      exact anyT_first h0 (Region.noSelect_spec hsel) (fun c a w => hQ c a _ _ w) hs hc hn hkn l.length listed a w (inv hb) (Region.free_spec h0 hfr) hr hy hS
        (anyT_of_ord hsel hs hc hn hQ l _ _ _ w hl' (fun _ => (inv hb).set hr hkn) hB2 hK)
    · rw [if_neg hq, decide_eq_true_eq] at hB1
      rw [wpOrd, if_neg hq] at h
      refine ⟨fun e => (by rw [hB1] at e; cases e), fun i hi => ?_⟩
      rw [hB1] at hi
      obtain rfl : i = k := by simpa using hi
      have hr : i ∈ Region.ready md ops listed := by rw [hB1]; simp
      have hinv : (b && decide (i < n)) = true → HeadInv md ops n (listed.setIfInBounds i true) := fun hbb => by
        simp only [Bool.and_eq_true, decide_eq_true_eq] at hbb
        exact (inv hbb.1).set hr hbb.2
      have hgo : ∀ a' w', ((decide (i < n) = true → S w') ∧ wpOrd P ops Q S n q l a' w') → ((i < n → S w') ∧ anyT P md ops Q S n l.length (listed.setIfInBounds i true) a' w') := fun a' w' h' =>
        ⟨fun hlt => h'.1 (by simpa using hlt), anyT_of_ord hsel hs hc hn hQ l _ _ _ w' hl' hinv hB2 h'.2⟩
      unfold wpOp
      simp only [h0]
      rw [wpList] at h
      split
      · rename_i hw
        rw [if_pos hw] at h
        rcases h with h | ⟨h1, h2⟩
        · refine .inl (wp_mixPost (Oper.wp_mono (fun a' w' h' => hgo a' w' h') h))
        · exact .inr ⟨h1, h2⟩
      · rename_i hw
        rw [if_neg hw] at h
        exact hgo _ _ h

theorem wp_region_ord {id : Nat} {Q : Exit → Act → World → Prop} {a : Act} {w : World} {l : List Oper} (S : World → Prop) (n : Nat) (q : Nat → Bool) (ord : List (Nat × Oper)) (hm : P.follows .mixedOrders = true)
    (hB : (Region.noSelect l.toArray && decide (n < l.toArray.size) && Region.sinkB .any l.toArray n && Region.chainB .any l.toArray n && decide (ord.length = l.length) && ordB .any l.toArray n q (ord.map (·.1)) true (Array.replicate l.toArray.size false)) = true)
    (hord : ∀ x ∈ ord, l.toArray[x.1]? = some x.2) (hQ : ∀ c a d v w, Q (.panic c) (Act.put a d v) w → Q (.panic c) a w) (h : wpOrd P l.toArray Q S n q ord a w.drew) : (Code.region id l.toArray true).wp P Q a w := by
  simp only [Bool.and_eq_true, decide_eq_true_eq] at hB
  obtain ⟨⟨⟨⟨⟨hsel, hn⟩, hs⟩, hc⟩, hlen⟩, hmix⟩ := hB
  have inv : HeadInv .any l.toArray n (Array.replicate l.toArray.size false) :=
    ⟨by simp, fun j oj _ hl => (by rw [getD_replicate_false] at hl; cases hl), fun t _ ht => getD_in (by simpa using ht) (getD_replicate_false _ _)⟩
  have H := anyT_of_ord (S := S) hsel hs hc hn hQ ord true _ a w.drew hord (fun _ => inv) hmix h
  have hA := any_of_anyT _ _ _ _ H
  rw [hlen] at hA
  refine wp_region_any hm ?_
  simpa using hA

theorem ord_quiet {n k : Nat} {q : Nat → Bool} {o : Oper} {rest : List (Nat × Oper)} {a : Act} {w : World} (hq : q k = true) (hp : plainB o.op = true) (hw : Region.wanted o (yielded ops a.tmps) = true) (hS : S w)
    (h : ∀ K : Act → Prop, (∀ a', wpOrd P ops Q S n q rest a' w → K a') → o.quiet P a S K) : wpOrd P ops Q S n q ((k, o) :: rest) a w := by
  rw [wpOrd, if_pos hq]
  refine ⟨hS, ?_⟩
  obtain ⟨v, h1, h2⟩ := h (fun a' => wpOrd P ops Q S n q rest a' w) (fun _ h => h)
  refine ⟨v, .inl ⟨hw, fun w' hS' => ?_⟩, h2⟩
  have h3 := h1 w' hS'
  unfold Oper.quietAt at h3
  rcases plain_run hp a.eval w' with ⟨u, w2, e⟩ | ⟨x, w2, e⟩
  · rw [e] at h3 ⊢
    obtain ⟨e1, e2⟩ := h3
    rw [e1, e2]
  · rw [e] at h3
    exact h3.elim
theorem ord_op {n k : Nat} {q : Nat → Bool} {o : Oper} {rest : List (Nat × Oper)} {a : Act} {w : World} (hq : q k = false)
    (h : wpList P ops (mixPost Q S (decide (k < n)) (fun a' w' => wpOrd P ops Q S n q rest a' w')) [o] a w) : wpOrd P ops Q S n q ((k, o) :: rest) a w := by
  rw [wpOrd, if_neg (by rw [hq]; simp)]
  exact h
theorem ord_nil {n : Nat} {q : Nat → Bool} {a : Act} {w : World} (h : Q .normal a w) : wpOrd P ops Q S n q [] a w := h
/-- An order of the operations of a region, by their numbers. -/
def ordOf (l : List Oper) (is : List Nat) : List (Nat × Oper) := is.filterMap fun i => (l[i]?).map fun o => (i, o)
theorem ordOf_mem (l : List Oper) (is : List Nat) : ∀ x ∈ ordOf l is, l.toArray[x.1]? = some x.2 := by
  intro x hx
  unfold ordOf at hx
  rw [List.mem_filterMap] at hx
  obtain ⟨i, _, h2⟩ := hx
  rw [Option.map_eq_some_iff] at h2
  obtain ⟨o, h3, rfl⟩ := h2
  simpa using h3
end
end Go.Proofs.YtjdaigffgfnhaaaGreat
