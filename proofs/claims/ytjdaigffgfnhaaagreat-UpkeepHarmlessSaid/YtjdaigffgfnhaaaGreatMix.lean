/- A region that draws its order: some operations yield one value in every world of a class and are taken where the text has them; the others come in one order, and keep the class till the tail begins. One walk in the order of the text. -/
import Derived.Test.YtjdaigffgfnhaaaGreatTail
import Derived.OrdersHeld
namespace Go.Proofs.YtjdaigffgfnhaaaGreat
open Go.RowKit

section
variable {P : Program} {ops : Array Oper} {Q : Exit → Act → World → Prop} {md : Region.Mode} {S : World → Prop}

/-- Whatever order is picked; S holds behind every operation below n. -/
def anyT (P : Program) (md : Region.Mode) (ops : Array Oper) (Q : Exit → Act → World → Prop) (S : World → Prop) (n : Nat) : Nat → Array Bool → Act → World → Prop
  | 0, listed, a, w => Region.ready md ops listed = [] ∧ Q .normal a w
  | f + 1, listed, a, w => (Region.ready md ops listed = [] → Q .normal a w) ∧
    ∀ i, i ∈ Region.ready md ops listed → wpOp P ops Q i (fun a' w' => (i < n → S w') ∧ anyT P md ops Q S n f (listed.setIfInBounds i true) a' w') a w

theorem any_of_anyT {n : Nat} (f : Nat) : ∀ (listed : Array Bool) (a : Act) (w : World), anyT P md ops Q S n f listed a w → wpAny P md ops Q f listed a w := by
  induction f with
  | zero => exact fun _ _ _ h => h
  | succ f ih => exact fun _ a w h => ⟨h.1, fun i hi => wpOp_mono (fun a' w' h' => ih _ a' w' h'.2) (h.2 i hi)⟩

theorem anyT_first {n i : Nat} {oi : Oper} {v : Value} (hi : ops[i]? = some oi) (hsel : ∀ (j : Nat) (o : Oper) cs b, ops[j]? = some o → o.op ≠ .select cs b)
    (hQ : ∀ c a w, Q (.panic c) (a.put oi.dst v) w → Q (.panic c) a w) (hs : Region.sinkB md ops n = true) (hc : Region.chainB md ops n = true) (hn : n < ops.size) (hin : i < n) (f : Nat) :
    ∀ (listed : Array Bool) (a : Act) (w : World), HeadInv md ops n listed →
      (∀ j oj, ops[j]? = some oj → j ≠ i → listed.getD j true = false → (∀ e ∈ oj.after, Region.binds md e = true → e.on ≠ i) → oi.apart ops oj = true) →
      i ∈ Region.ready md ops listed → YieldsIf P ops S oi v a → S w → anyT P md ops Q S n f (listed.setIfInBounds i true) (a.put oi.dst v) w → anyT P md ops Q S n (f + 1) listed a w := by
  induction f with
  | zero =>
    intro listed a w _ _ hr hy hS hH
    refine ⟨fun e => absurd e (List.ne_nil_of_mem hr), fun j hj => ?_⟩
    by_cases e : j = i
    · rw [e]; exact hy.wpOp hi hS ⟨fun _ => hS, hH⟩
    · have := ready_mono hj e
      rw [hH.1] at this
      cases this
  | succ f ih =>
    intro listed a w inv hfree hr hy hS hH
    have hu := (mem_ready.1 hr).1
    refine ⟨fun e => absurd e (List.ne_nil_of_mem hr), fun j hj => ?_⟩
    have hjn : j < n := Nat.lt_of_not_le fun h => tail_waits hs hc hn inv _ i rfl hin hu j h hj
    by_cases e : j = i
    · rw [e]; exact hy.wpOp hi hS ⟨fun _ => hS, hH⟩
    · obtain ⟨hju, oj, hoj, hall⟩ := mem_ready.1 hj
      have hap : oi.apart ops oj = true := hfree j oj hoj e hju fun x hx hb hon => by
        have h1 := hall x hx hb
        rw [hon, getD_both hu] at h1
        cases h1
      have h2 := wpOp_putIf hoj hap (fun cs b => hsel i oi cs b hi) (fun cs b => hsel j oj cs b hoj) hQ hy (hH.2 j (ready_mono hj e))
      refine wpOp_mono (fun a' w' h3 => ⟨h3.2.1, ih _ a' w' (inv.set hj hjn) (fun k ok hk hki hun hno => hfree k ok hk hki ?_ hno) (ready_mono hr (Ne.symm e)) h3.1 (h3.2.1 hjn) ?_⟩) h2
      · by_cases hjk : j = k
        · rw [← hjk]; exact hju
        · rwa [getD_set_ne true hjk] at hun
      · rw [Array.setIfInBounds_comm _ _ e]
        exact h3.2.2

/-- What is asked behind an operation that is carried out. -/
def mixPost (Q : Exit → Act → World → Prop) (S : World → Prop) (b : Bool) (K : Act → World → Prop) : Exit → Act → World → Prop
  | .normal, a, w => (b = true → S w) ∧ K a w
  | .ret, a, w => Q .ret a w
  | .exit id, a, w => Q (.exit id) a w
  | .goto t, a, w => Q (.goto t) a w
  | .panic c, a, w => Q (.panic c) a w
  | .outgrown, a, w => Q .outgrown a w

theorem wp_mixPost {o : Oper} {a : Act} {w : World} {K K' : Act → World → Prop} {b : Bool} (h : o.wp P a w K (mixPost Q S b K')) : o.wp P a w K Q := by
  unfold Oper.wp at *
  generalize (execOp a.eval o).run P w = r at *
  cases r with
  | ok n w' => cases n <;> first | exact h | exact (Calls.mono h fun e w'' he => by cases e <;> exact he)
  | halt x w' => cases x <;> exact h

/-- The walk in the order of the text; q says of which operations the value is one and the same in every world of the class. -/
def wpMix (P : Program) (ops : Array Oper) (Q : Exit → Act → World → Prop) (S : World → Prop) (n : Nat) (q : Nat → Bool) : List Oper → Nat → Act → World → Prop
  | [], _, a, w => Q .normal a w
  | o :: rest, k, a, w => if q k = true then S w ∧ ∃ v, YieldsIf P ops S o v a ∧ wpMix P ops Q S n q rest (k + 1) (a.put o.dst v) w
    else wpList P ops (mixPost Q S (decide (k < n)) (fun a' w' => wpMix P ops Q S n q rest (k + 1) a' w')) [o] a w

/-- Every operation of the class may come up where the text has it, and is free; every other one is then the only one. -/
def mixB (md : Region.Mode) (ops : Array Oper) (n : Nat) (q : Nat → Bool) : Nat → Nat → Array Bool → Bool
  | 0, _, listed => (Region.ready md ops listed).isEmpty
  | f + 1, k, listed => (if q k then decide (k < n) && (Region.ready md ops listed).contains k && Region.free md ops listed k else decide (Region.ready md ops listed = [k])) && mixB md ops n q f (k + 1) (listed.setIfInBounds k true)

theorem anyT_of_mix {n : Nat} {q : Nat → Bool} (hsel : Region.noSelect ops = true) (hs : Region.sinkB md ops n = true) (hc : Region.chainB md ops n = true) (hn : n < ops.size)
    (hQ : ∀ c a d v w, Q (.panic c) (Act.put a d v) w → Q (.panic c) a w) :
    ∀ (l : List Oper) (k : Nat) (listed : Array Bool) (a : Act) (w : World), (∀ j, l[j]? = ops[k + j]?) → (k ≤ n → HeadInv md ops n listed) → mixB md ops n q l.length k listed = true →
      wpMix P ops Q S n q l k a w → anyT P md ops Q S n l.length listed a w
  | [], k, listed, a, w, _, _, hB, h => ⟨by simpa [mixB] using hB, h⟩
  | o :: l, k, listed, a, w, hl, inv, hB, h => by
    have h0 : ops[k]? = some o := by simpa using (hl 0).symm
    have hl' : ∀ j, l[j]? = ops[k + 1 + j]? := fun j => by
      have := hl (j + 1)
      rw [List.getElem?_cons_succ] at this
      rw [this]
      congr 1
      omega
    rw [List.length_cons, mixB, Bool.and_eq_true] at hB
    obtain ⟨hB1, hB2⟩ := hB
    by_cases hq : q k = true
    · rw [if_pos hq] at hB1
      simp only [Bool.and_eq_true, decide_eq_true_eq] at hB1
      rw [wpMix, if_pos hq] at h
      obtain ⟨hS, v, hy, hK⟩ := h
      have hr : k ∈ Region.ready md ops listed := by simpa using hB1.1.2
      exact anyT_first h0 (Region.noSelect_spec hsel) (fun c a w => hQ c a _ _ w) hs hc hn hB1.1.1 l.length listed a w (inv (by omega)) (Region.free_spec h0 hB1.2) hr hy hS
        (anyT_of_mix hsel hs hc hn hQ l (k + 1) _ _ w hl' (fun _ => (inv (by omega)).set hr hB1.1.1) hB2 hK)
    · rw [if_neg hq, decide_eq_true_eq] at hB1
      rw [wpMix, if_neg hq] at h
      refine ⟨fun e => (by rw [hB1] at e; cases e), fun i hi => ?_⟩
      rw [hB1] at hi
      obtain rfl : i = k := by simpa using hi
      have hr : i ∈ Region.ready md ops listed := by rw [hB1]; simp
      have hinv : i + 1 ≤ n → HeadInv md ops n (listed.setIfInBounds i true) := fun hle => (inv (by omega)).set hr (by omega)
      have hgo : ∀ a' w', ((decide (i < n) = true → S w') ∧ wpMix P ops Q S n q l (i + 1) a' w') → ((i < n → S w') ∧ anyT P md ops Q S n l.length (listed.setIfInBounds i true) a' w') := fun a' w' h' =>
        ⟨fun hlt => h'.1 (by simpa using hlt), anyT_of_mix hsel hs hc hn hQ l (i + 1) _ _ w' hl' hinv hB2 h'.2⟩
      unfold wpOp
      simp only [h0]
      rw [wpList] at h
      split
      · rename_i hw
        rw [if_pos hw] at h
        rcases h with h | ⟨h1, h2⟩
        · refine .inl (wp_mixPost (Oper.wp_mono (fun a' w' h' => hgo a' w' h') h))
        · exact .inr ⟨h1, h2⟩
      · rename_i hw
        rw [if_neg hw] at h
        exact hgo _ _ h

theorem wp_region_mix {id : Nat} {Q : Exit → Act → World → Prop} {a : Act} {w : World} {l : List Oper} (S : World → Prop) (n : Nat) (q : Nat → Bool) (hm : P.follows .mixedOrders = true)
    (hB : (Region.noSelect l.toArray && decide (n < l.toArray.size) && Region.sinkB .any l.toArray n && Region.chainB .any l.toArray n && mixB .any l.toArray n q l.length 0 (Array.replicate l.toArray.size false)) = true)
    (hQ : ∀ c a d v w, Q (.panic c) (Act.put a d v) w → Q (.panic c) a w) (h : wpMix P l.toArray Q S n q l 0 a w.drew) : (Code.region id l.toArray true).wp P Q a w := by
  simp only [Bool.and_eq_true, decide_eq_true_eq] at hB
  obtain ⟨⟨⟨⟨hsel, hn⟩, hs⟩, hc⟩, hmix⟩ := hB
  have inv : HeadInv .any l.toArray n (Array.replicate l.toArray.size false) :=
    ⟨by simp, fun j oj _ hl => (by rw [getD_replicate_false] at hl; cases hl), fun t _ ht => getD_in (by simpa using ht) (getD_replicate_false _ _)⟩
  have H := anyT_of_mix (S := S) hsel hs hc hn hQ l 0 _ a w.drew (fun j => by simp) (fun _ => inv) hmix h
  have hA := any_of_anyT _ _ _ _ H
  refine wp_region_any hm ?_
  simpa using hA

/-- One operation of the class, of a kind that yields a value. -/
def plainB : Op → Bool
  | .move _ | .assign _ | .pick _ _ _ | .load _ _ | .fieldAddr _ _ _ | .indexAddr _ _ _ | .binOp _ _ _ _ _ | .unOp _ _ _ | .extract _ _ | .build _ _ | .index _ _ _ | .makeFunc _ _ _ => true
  | _ => false
theorem plain_run {P : Program} {o : Oper} (h : plainB o.op = true) (ev : Operand → Value) (w : World) : (∃ u w', (execOp ev o).run P w = .ok (.value u) w') ∨ (∃ x w', (execOp ev o).run P w = .halt x w') := by
  have key : ∀ s : Sem Value, (∃ u w', (do let x ← s; pure (Next.value x) : Sem Next).run P w = .ok (.value u) w') ∨ (∃ x w', (do let x ← s; pure (Next.value x) : Sem Next).run P w = .halt x w') := fun s => by
    simp only [Sem.run_bind, Sem.run_pure]
    cases s.run P w with
    | ok v w' => exact .inl ⟨v, w', rfl⟩
    | halt x w' => exact .inr ⟨x, w', rfl⟩
  unfold execOp
  cases ho : o.op <;> rw [ho] at h <;> simp only [plainB] at h <;> try cases h
  all_goals first
    | exact key _
    | exact .inl ⟨_, w, rfl⟩
    | (simp only [Sem.run_bind, Sem.run_pure]; cases (asBool _).run P w <;> simp [Result.andThen])

theorem mix_quiet {n k : Nat} {q : Nat → Bool} {o : Oper} {rest : List Oper} {a : Act} {w : World} (hq : q k = true) (hp : plainB o.op = true) (hw : Region.wanted o (yielded ops a.tmps) = true) (hS : S w)
    (h : ∀ K : Act → Prop, (∀ a', wpMix P ops Q S n q rest (k + 1) a' w → K a') → o.quiet P a S K) : wpMix P ops Q S n q (o :: rest) k a w := by
  rw [wpMix, if_pos hq]
  refine ⟨hS, ?_⟩
  obtain ⟨v, h1, h2⟩ := h (fun a' => wpMix P ops Q S n q rest (k + 1) a' w) (fun _ h => h)
  refine ⟨v, .inl ⟨hw, fun w' hS' => ?_⟩, h2⟩
  have h3 := h1 w' hS'
  unfold Oper.quietAt at h3
  rcases plain_run hp a.eval w' with ⟨u, w2, e⟩ | ⟨x, w2, e⟩
  · rw [e] at h3 ⊢
    obtain ⟨e1, e2⟩ := h3
    rw [e1, e2]
  · rw [e] at h3
    exact h3.elim
theorem mix_op {n k : Nat} {q : Nat → Bool} {o : Oper} {rest : List Oper} {a : Act} {w : World} (hq : q k = false)
    (h : wpList P ops (mixPost Q S (decide (k < n)) (fun a' w' => wpMix P ops Q S n q rest (k + 1) a' w')) [o] a w) : wpMix P ops Q S n q (o :: rest) k a w := by
  rw [wpMix, if_neg (by rw [hq]; simp)]
  exact h
theorem mix_post {b : Bool} {K : Act → World → Prop} {a : Act} {w : World} (h1 : b = true → S w) (h2 : K a w) : mixPost Q S b K .normal a w := ⟨h1, h2⟩
theorem mix_nil {n k : Nat} {q : Nat → Bool} {a : Act} {w : World} (h : Q .normal a w) : wpMix P ops Q S n q [] k a w := h
/-- A nil check of a pointer that is not nil. -/
theorem mix_nilCheck {n k : Nat} {q : Nat → Bool} {o : Oper} {rest : List Oper} {a : Act} {w : World} (hq : q k = true) (x : Operand) (ad : Addr) (ho : o.op = .nilCheck x) (hx : a.eval x = .pointer (some ad)) (hw : Region.wanted o (yielded ops a.tmps) = true) (hS : S w)
    (h : ∀ K : Act → Prop, (∀ a', wpMix P ops Q S n q rest (k + 1) a' w → K a') → o.quiet P a S K) : wpMix P ops Q S n q (o :: rest) k a w := by
  have hrun : ∀ w', (execOp a.eval o).run P w' = .ok (.value (.pointer (some ad))) w' := fun w' => by
    unfold execOp
    simp only [ho, hx]
    rfl
  rw [wpMix, if_pos hq]
  obtain ⟨v, h1, h2⟩ := h (fun a' => wpMix P ops Q S n q rest (k + 1) a' w) (fun _ h => h)
  have h3 := h1 w hS
  unfold Oper.quietAt at h3
  rw [hrun w] at h3
  obtain ⟨_, rfl⟩ := h3
  exact ⟨hS, _, .inl ⟨hw, fun w' _ => hrun w'⟩, h2⟩
end

/-- The worlds in which all that lay in W, but for one block, lies as it lay. -/
structure LaterBut (W : World) (row : Option Nat) where
  w : World
  h : W.grownBy w row
instance (W : World) (row : Option Nat) : Nonempty (LaterBut W row) := ⟨⟨W, ⟨rfl, rfl, rfl, Nat.le_refl _, fun _ _ _ => rfl⟩⟩⟩
theorem laterBut_cell {W : World} {row : Option Nat} {p : Addr} {v : Value} (h : W.cell? p = some v) (hne : some p.block ≠ row) : ∀ u : LaterBut W row, u.w.cell? p = some v := fun u =>
  (World.cell?_of_block (u.h.block p.block (cell_lt h) hne)).trans h
end Go.Proofs.YtjdaigffgfnhaaaGreat
