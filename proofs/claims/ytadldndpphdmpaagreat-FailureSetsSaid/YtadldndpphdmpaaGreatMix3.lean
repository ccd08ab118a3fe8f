/- As Mix2, with a fork: where two operations float, both orders are walked. -/
import Derived.Test.YtadldndpphdmpaaGreatQB
namespace Go.Proofs.YtadldndpphdmpaaGreat
open Go.RowKit

inductive Fk where
  | nil : Fk
  | op (k : Nat) (o : Oper) (t : Fk) : Fk
  | two (k : Nat) (o : Oper) (t : Fk) (k' : Nat) (o' : Oper) (t' : Fk) : Fk
inductive Sh where
  | nil : Sh
  | op (k : Nat) (t : Sh) : Sh
  | two (k : Nat) (t : Sh) (k' : Nat) (t' : Sh) : Sh
def fkOf (l : List Oper) : Sh → Fk
  | .nil => .nil
  | .op k t => match l[k]? with
    | some o => .op k o (fkOf l t)
    | none => .nil
  | .two k t k' t' => match l[k]?, l[k']? with
    | some o, some o' => .two k o (fkOf l t) k' o' (fkOf l t')
    | _, _ => .nil
def Fk.Mem (ops : Array Oper) : Fk → Prop
  | .nil => True
  | .op k o t => ops[k]? = some o ∧ t.Mem ops
  | .two k o t k' o' t' => (ops[k]? = some o ∧ t.Mem ops) ∧ ops[k']? = some o' ∧ t'.Mem ops
theorem fkOf_mem (l : List Oper) : ∀ s : Sh, (fkOf l s).Mem l.toArray
  | .nil => trivial
  | .op k t => by
    rw [fkOf]
    split
    · rename_i o h
      exact ⟨by simpa using h, fkOf_mem l t⟩
    · trivial
  | .two k t k' t' => by
    rw [fkOf]
    split
    · rename_i o o' h h'
      exact ⟨⟨by simpa using h, fkOf_mem l t⟩, by simpa using h', fkOf_mem l t'⟩
    · trivial

section
variable {P : Program} {ops : Array Oper} {Q : Exit → Act → World → Prop} {md : Region.Mode} {S : World → Prop}

def wpFk (P : Program) (ops : Array Oper) (Q : Exit → Act → World → Prop) (S : World → Prop) (n : Nat) (q : Nat → Bool) : Fk → Act → World → Prop
  | .nil, a, w => Q .normal a w
  | .op k o t, a, w => if q k = true then S w ∧ ∃ v, YieldsIf P ops S o v a ∧ wpFk P ops Q S n q t (a.put o.dst v) w
    else wpList P ops (mixPost Q S (decide (k < n)) (fun a' w' => wpFk P ops Q S n q t a' w')) [o] a w
  | .two k o t k' o' t', a, w => wpList P ops (mixPost Q S (decide (k < n)) (fun a' w' => wpFk P ops Q S n q t a' w')) [o] a w ∧
    wpList P ops (mixPost Q S (decide (k' < n)) (fun a' w' => wpFk P ops Q S n q t' a' w')) [o'] a w

/-- b: no operation of the tail has come up yet. -/
def fkB (md : Region.Mode) (ops : Array Oper) (n : Nat) (q : Nat → Bool) : Nat → Fk → Bool → Array Bool → Bool
  | 0, .nil, _, listed => (Region.ready md ops listed).isEmpty
  | f + 1, .op k _ t, b, listed => (if q k then b && decide (k < n) && (Region.ready md ops listed).contains k && Region.free md ops listed k else decide (Region.ready md ops listed = [k])) && fkB md ops n q f t (b && decide (k < n)) (listed.setIfInBounds k true)
  | f + 1, .two k _ t k' _ t', b, listed => decide (Region.ready md ops listed = [k, k']) && fkB md ops n q f t (b && decide (k < n)) (listed.setIfInBounds k true) && fkB md ops n q f t' (b && decide (k' < n)) (listed.setIfInBounds k' true)
  | _, _, _, _ => false

theorem fk_op {n k f : Nat} {o : Oper} {listed : Array Bool} {a : Act} {w : World} {K : Act → World → Prop} (h0 : ops[k]? = some o) (h : wpList P ops (mixPost Q S (decide (k < n)) K) [o] a w)
    (hK : ∀ a' w', K a' w' → anyT P md ops Q S n f (listed.setIfInBounds k true) a' w') : wpOp P ops Q k (fun a' w' => (k < n → S w') ∧ anyT P md ops Q S n f (listed.setIfInBounds k true) a' w') a w := by
  have hgo : ∀ a' w', ((decide (k < n) = true → S w') ∧ K a' w') → ((k < n → S w') ∧ anyT P md ops Q S n f (listed.setIfInBounds k true) a' w') := fun a' w' h' => ⟨fun hlt => h'.1 (by simpa using hlt), hK a' w' h'.2⟩
  unfold wpOp
  simp only [h0]
  rw [wpList] at h
  split
  · rename_i hw
    rw [if_pos hw] at h
    rcases h with h | ⟨h1, h2⟩
    · refine .inl (wp_mixPost (Oper.wp_mono (fun a' w' h' => hgo a' w' h') h))
    · exact .inr ⟨h1, h2⟩
  · rename_i hw
    rw [if_neg hw] at h
    exact hgo _ _ h

theorem anyT_of_fk {n : Nat} {q : Nat → Bool} (hsel : Region.noSelect ops = true) (hs : Region.sinkB md ops n = true) (hc : Region.chainB md ops n = true) (hn : n < ops.size)
    (hQ : ∀ c a d v w, Q (.panic c) (Act.put a d v) w → Q (.panic c) a w) :
    ∀ (f : Nat) (t : Fk) (b : Bool) (listed : Array Bool) (a : Act) (w : World), t.Mem ops → (b = true → HeadInv md ops n listed) → fkB md ops n q f t b listed = true →
      wpFk P ops Q S n q t a w → anyT P md ops Q S n f listed a w := by
  intro f
  induction f with
  | zero =>
    intro t b listed a w hm inv hB h
    cases t with
    | nil => exact ⟨by simpa [fkB] using hB, h⟩
    | op k o t => simp [fkB] at hB
    | two k o t k' o' t' => simp [fkB] at hB
  | succ f ih =>
   intro t b listed a w hm inv hB h
   cases t with
   | nil => simp [fkB] at hB
   | op k o t =>
    obtain ⟨h0, hm'⟩ := hm
    rw [fkB, Bool.and_eq_true] at hB
    obtain ⟨hB1, hB2⟩ := hB
    by_cases hq : q k = true
    · rw [if_pos hq] at hB1
      simp only [Bool.and_eq_true, decide_eq_true_eq] at hB1
      obtain ⟨⟨⟨hb, hkn⟩, hrd⟩, hfr⟩ := hB1
      rw [wpFk, if_pos hq] at h
      obtain ⟨hS, v, hy, hK⟩ := h
      have hr : k ∈ Region.ready md ops listed := by simpa using hrd
      exact anyT_first h0 (Region.noSelect_spec hsel) (fun c a w => hQ c a _ _ w) hs hc hn hkn f listed a w (inv hb) (Region.free_spec h0 hfr) hr hy hS
        (ih t _ _ _ w hm' (fun _ => (inv hb).set hr hkn) hB2 hK)
    · rw [if_neg hq, decide_eq_true_eq] at hB1
      rw [wpFk, if_neg hq] at h
      refine ⟨fun e => (by rw [hB1] at e; cases e), fun i hi => ?_⟩
      rw [hB1] at hi
      obtain rfl : i = k := by simpa using hi
      have hr : i ∈ Region.ready md ops listed := by rw [hB1]; simp
      refine fk_op h0 h fun a' w' h' => ih t _ _ _ w' hm' (fun hbb => ?_) hB2 h'
      simp only [Bool.and_eq_true, decide_eq_true_eq] at hbb
      exact (inv hbb.1).set hr hbb.2
   | two k o t k' o' t' =>
    obtain ⟨⟨h0, hm1⟩, h0', hm2⟩ := hm
    rw [fkB, Bool.and_eq_true, Bool.and_eq_true, decide_eq_true_eq] at hB
    obtain ⟨⟨hB1, hB2⟩, hB3⟩ := hB
    rw [wpFk] at h
    refine ⟨fun e => (by rw [hB1] at e; cases e), fun i hi => ?_⟩
    have hr := hi
    rw [hB1] at hi
    have hset : (b && decide (i < n)) = true → HeadInv md ops n (listed.setIfInBounds i true) := fun hbb => by
      simp only [Bool.and_eq_true, decide_eq_true_eq] at hbb
      exact (inv hbb.1).set hr hbb.2
    have hi2 : i = k ∨ i = k' := by simpa using hi
    rcases hi2 with rfl | rfl
    · exact fk_op h0 h.1 fun a' w' h' => ih t _ _ _ w' hm1 hset hB2 h'
    · exact fk_op h0' h.2 fun a' w' h' => ih t' _ _ _ w' hm2 hset hB3 h'

theorem wp_region_fork {id : Nat} {Q : Exit → Act → World → Prop} {a : Act} {w : World} {l : List Oper} (S : World → Prop) (n : Nat) (q : Nat → Bool) (t : Fk) (hm : P.follows .mixedOrders = true)
    (hB : (Region.noSelect l.toArray && decide (n < l.toArray.size) && Region.sinkB .any l.toArray n && Region.chainB .any l.toArray n && fkB .any l.toArray n q l.length t true (Array.replicate l.toArray.size false)) = true)
    (ht : t.Mem l.toArray) (hQ : ∀ c a d v w, Q (.panic c) (Act.put a d v) w → Q (.panic c) a w) (h : wpFk P l.toArray Q S n q t a w.drew) : (Code.region id l.toArray true).wp P Q a w := by
  simp only [Bool.and_eq_true, decide_eq_true_eq] at hB
  obtain ⟨⟨⟨⟨hsel, hn⟩, hs⟩, hc⟩, hmix⟩ := hB
  have inv : HeadInv .any l.toArray n (Array.replicate l.toArray.size false) :=
    ⟨by simp, fun j oj _ hl => (by rw [getD_replicate_false] at hl; cases hl), fun t _ ht => getD_in (by simpa using ht) (getD_replicate_false _ _)⟩
  have H := anyT_of_fk (S := S) hsel hs hc hn hQ l.length t true _ a w.drew ht (fun _ => inv) hmix h
  have hA := any_of_anyT _ _ _ _ H
  refine wp_region_any hm ?_
  simpa using hA

theorem fk_quiet {n k : Nat} {q : Nat → Bool} {o : Oper} {t : Fk} {a : Act} {w : World} (hq : q k = true) (hp : plainB o.op = true) (hw : Region.wanted o (yielded ops a.tmps) = true) (hS : S w)
    (h : ∀ K : Act → Prop, (∀ a', wpFk P ops Q S n q t a' w → K a') → o.quiet P a S K) : wpFk P ops Q S n q (.op k o t) a w := by
  rw [wpFk, if_pos hq]
  refine ⟨hS, ?_⟩
  obtain ⟨v, h1, h2⟩ := h (fun a' => wpFk P ops Q S n q t a' w) (fun _ h => h)
  refine ⟨v, .inl ⟨hw, fun w' hS' => ?_⟩, h2⟩
  have h3 := h1 w' hS'
  unfold Oper.quietAt at h3
  rcases plain_run hp a.eval w' with ⟨u, w2, e⟩ | ⟨x, w2, e⟩
  · rw [e] at h3 ⊢
    obtain ⟨e1, e2⟩ := h3
    rw [e1, e2]
  · rw [e] at h3
    exact h3.elim
theorem fk_one {n k : Nat} {q : Nat → Bool} {o : Oper} {t : Fk} {a : Act} {w : World} (hq : q k = false)
    (h : wpList P ops (mixPost Q S (decide (k < n)) (fun a' w' => wpFk P ops Q S n q t a' w')) [o] a w) : wpFk P ops Q S n q (.op k o t) a w := by
  rw [wpFk, if_neg (by rw [hq]; simp)]
  exact h
theorem fk_two {n k k' : Nat} {q : Nat → Bool} {o o' : Oper} {t t' : Fk} {a : Act} {w : World}
    (h : wpList P ops (mixPost Q S (decide (k < n)) (fun a' w' => wpFk P ops Q S n q t a' w')) [o] a w)
    (h' : wpList P ops (mixPost Q S (decide (k' < n)) (fun a' w' => wpFk P ops Q S n q t' a' w')) [o'] a w) : wpFk P ops Q S n q (.two k o t k' o' t') a w := by
  rw [wpFk]
  exact ⟨h, h'⟩
theorem fk_nil {n : Nat} {q : Nat → Bool} {a : Act} {w : World} (h : Q .normal a w) : wpFk P ops Q S n q .nil a w := h
end
end Go.Proofs.YtadldndpphdmpaaGreat
