/- As Mix2, over a tree of orders: where two operations are ready, both ways are walked. -/
import Derived.Test.YtjdaigffgfnhaaaGreatMix2
import Derived.RegionIn
namespace Go.Proofs.YtjdaigffgfnhaaaGreat
open Go.RowKit

/-- The way on is the only way out. -/
def OnlyN (Q : Exit → Act → World → Prop) : Exit → Act → World → Prop
  | .normal, a, w => Q .normal a w
  | .ret, _, _ => False
  | .exit _, _, _ => False
  | .goto _, _, _ => False
  | .panic _, _, _ => False
  | .outgrown, _, _ => False
theorem OnlyN.normal {Q : Exit → Act → World → Prop} {a : Act} {w : World} (h : Q .normal a w) : OnlyN Q .normal a w := h
theorem OnlyN.imp {Q : Exit → Act → World → Prop} : ∀ (e : Exit) (a : Act) (w : World), OnlyN Q e a w → Q e a w := fun e a w h => by
  cases e <;> first | exact h | exact (h : False).elim
theorem OnlyN.letsOut {Q : Exit → Act → World → Prop} : ¬ LetsOut (OnlyN Q) := fun ⟨_, _, h⟩ => h

def noDefer (ops : Array Oper) : Bool := ops.toList.all fun o => match o.op with | .defer _ => false | _ => true
theorem noDefer_spec {ops : Array Oper} (h : noDefer ops = true) {i : Nat} {o : Oper} (ho : ops[i]? = some o) (c : Call) : o.op ≠ .defer c := by
  intro e
  have h1 := List.all_eq_true.1 h o (by
    have := List.mem_of_getElem? (l := ops.toList) (i := i) (a := o) (by simpa using ho)
    exact this)
  rw [e] at h1
  cases h1

attribute [local go_sem] Oper.semAt_some
theorem wpOpIn_of_wpOpW {P : Program} {ops : Array Oper} {Q : Exit → Act → World → Prop} {n i : Nat} (hQ : ¬ LetsOut Q) (hd : noDefer ops = true) {K : Act → World → Prop} {a : Act} {w : World} (h : wpOp P ops Q i K a w) :
    wpOpIn Fence.wide n P ops Q i K a w := by
  unfold wpOp at h
  unfold wpOpIn
  split
  · rename_i e
    simpa [e] using h
  · rename_i o ho
    simp only [ho] at h
    split
    · rename_i hw
      rw [if_pos hw] at h
      rcases h with h | ⟨_, h⟩
      · refine ⟨fun _ _ => trivial, ?_⟩
        rw [Oper.semAt_eq _ _ _ (noDefer_spec hd ho)]
        unfold Oper.wp at h
        generalize (execOp a.eval o).run P w = r at *
        cases r with
        | ok x w' =>
          cases x with
          | enter f args => exact ⟨fun h => (by cases h), callsIn_wide.2 h⟩
          | row row args => exact ⟨fun h => (by cases h), fun c cs _ => let ⟨v, w', r, s⟩ := h c cs; ⟨v, w', r, stepsIn_wide.2 s⟩⟩
          | _ => first | exact h | exact (h : False).elim
        | halt x w' => cases x <;> first | exact h | exact (h : False).elim
      · exact absurd h hQ
    · rename_i hw
      rw [if_neg hw] at h
      exact ⟨fun _ _ => trivial, h⟩
theorem wpAnyIn_of_wpAnyW {P : Program} {md : Region.Mode} {ops : Array Oper} {Q : Exit → Act → World → Prop} {n : Nat} (hQ : ¬ LetsOut Q) (hd : noDefer ops = true) : ∀ (f : Nat) (listed : Array Bool) (a : Act) (w : World),
    wpAny P md ops Q f listed a w → wpAnyIn Fence.wide n P md ops Q f listed a w
  | 0, _, _, _, h => h
  | f + 1, _, _, _, h => ⟨h.1, fun i hi => wpOpIn_mono (fun a' w' h' => wpAnyIn_of_wpAnyW hQ hd f _ a' w' h') (wpOpIn_of_wpOpW hQ hd (h.2 i hi))⟩

/-- A tree of orders: qu is taken first though others are ready, on is the only one that is ready, tw are both of the two that are. -/
inductive Tr where
  | leaf : Tr
  | qu (k : Nat) (o : Oper) (r : Tr) : Tr
  | on (k : Nat) (o : Oper) (r : Tr) : Tr
  | tw (i : Nat) (oi : Oper) (ri : Tr) (j : Nat) (oj : Oper) (rj : Tr) : Tr
inductive TrN where
  | leaf : TrN
  | qu (k : Nat) (r : TrN) : TrN
  | on (k : Nat) (r : TrN) : TrN
  | tw (i : Nat) (ri : TrN) (j : Nat) (rj : TrN) : TrN
def TrN.fill (l : List Oper) : TrN → Tr
  | .leaf => .leaf
  | .qu k r => match l[k]? with | some o => .qu k o (r.fill l) | none => .leaf
  | .on k r => match l[k]? with | some o => .on k o (r.fill l) | none => .leaf
  | .tw i ri j rj => match l[i]?, l[j]? with | some oi, some oj => .tw i oi (ri.fill l) j oj (rj.fill l) | _, _ => .leaf
def Tr.ok (ops : Array Oper) : Tr → Prop
  | .leaf => True
  | .qu k o r => ops[k]? = some o ∧ r.ok ops
  | .on k o r => ops[k]? = some o ∧ r.ok ops
  | .tw i oi ri j oj rj => ops[i]? = some oi ∧ ops[j]? = some oj ∧ ri.ok ops ∧ rj.ok ops
theorem TrN.fill_ok (l : List Oper) : ∀ t : TrN, (t.fill l).ok l.toArray
  | .leaf => trivial
  | .qu k r => by
    unfold TrN.fill
    split
    · rename_i o h
      exact ⟨by simpa using h, fill_ok l r⟩
    · trivial
  | .on k r => by
    unfold TrN.fill
    split
    · rename_i o h
      exact ⟨by simpa using h, fill_ok l r⟩
    · trivial
  | .tw i ri j rj => by
    unfold TrN.fill
    split
    · rename_i oi oj h1 h2
      exact ⟨by simpa using h1, by simpa using h2, fill_ok l ri, fill_ok l rj⟩
    · trivial

section
variable {P : Program} {ops : Array Oper} {Q : Exit → Act → World → Prop} {md : Region.Mode} {S : World → Prop}

def wpTr (P : Program) (ops : Array Oper) (Q : Exit → Act → World → Prop) (S : World → Prop) (n : Nat) : Tr → Act → World → Prop
  | .leaf, a, w => Q .normal a w
  | .qu _ o r, a, w => S w ∧ ∃ v, YieldsIf P ops S o v a ∧ wpTr P ops Q S n r (a.put o.dst v) w
  | .on k o r, a, w => wpList P ops (mixPost Q S (decide (k < n)) (fun a' w' => wpTr P ops Q S n r a' w')) [o] a w
  | .tw i oi ri j oj rj, a, w => wpList P ops (mixPost Q S (decide (i < n)) (fun a' w' => wpTr P ops Q S n ri a' w')) [oi] a w ∧
      wpList P ops (mixPost Q S (decide (j < n)) (fun a' w' => wpTr P ops Q S n rj a' w')) [oj] a w

def trB (md : Region.Mode) (ops : Array Oper) (n : Nat) : Tr → Nat → Bool → Array Bool → Bool
  | .leaf, f, _, listed => f == 0 && (Region.ready md ops listed).isEmpty
  | .qu k _ r, f, b, listed => !(f == 0) && (b && decide (k < n) && (Region.ready md ops listed).contains k && Region.free md ops listed k) && trB md ops n r (f - 1) (b && decide (k < n)) (listed.setIfInBounds k true)
  | .on k _ r, f, b, listed => !(f == 0) && decide (Region.ready md ops listed = [k]) && trB md ops n r (f - 1) (b && decide (k < n)) (listed.setIfInBounds k true)
  | .tw i _ ri j _ rj, f, b, listed => !(f == 0) && decide (Region.ready md ops listed = [i, j]) && trB md ops n ri (f - 1) (b && decide (i < n)) (listed.setIfInBounds i true) &&
      trB md ops n rj (f - 1) (b && decide (j < n)) (listed.setIfInBounds j true)

theorem wpOp_of_list {k : Nat} {o : Oper} {b : Bool} {K K' : Act → World → Prop} {a : Act} {w : World} (h0 : ops[k]? = some o)
    (hgo : ∀ a' w', ((b = true → S w') ∧ K' a' w') → K a' w') (h : wpList P ops (mixPost Q S b K') [o] a w) : wpOp P ops Q k K a w := by
  unfold wpOp
  simp only [h0]
  rw [wpList] at h
  split
  · rename_i hw
    rw [if_pos hw] at h
    rcases h with h | ⟨h1, h2⟩
    · refine .inl (wp_mixPost (Oper.wp_mono (fun a' w' h' => hgo a' w' h') h))
    · exact .inr ⟨h1, h2⟩
  · rename_i hw
    rw [if_neg hw] at h
    exact hgo _ _ h

theorem anyT_of_tr {n : Nat} (hsel : Region.noSelect ops = true) (hs : Region.sinkB md ops n = true) (hc : Region.chainB md ops n = true) (hn : n < ops.size)
    (hQ : ∀ c a d v w, Q (.panic c) (Act.put a d v) w → Q (.panic c) a w) :
    ∀ (t : Tr) (f : Nat) (b : Bool) (listed : Array Bool) (a : Act) (w : World), t.ok ops → (b = true → HeadInv md ops n listed) → trB md ops n t f b listed = true →
      wpTr P ops Q S n t a w → anyT P md ops Q S n f listed a w
  | .leaf, f, _, listed, a, w, _, _, hB, h => by
    simp only [trB, Bool.and_eq_true, beq_iff_eq] at hB
    obtain ⟨rfl, hB⟩ := hB
    exact ⟨by simpa using hB, h⟩
  | .qu k o r, f, b, listed, a, w, hl, inv, hB, h => by
    simp only [trB, Bool.and_eq_true, Bool.not_eq_true', beq_eq_false_iff_ne, decide_eq_true_eq] at hB
    obtain ⟨⟨hf, ⟨⟨hb, hkn⟩, hrd⟩, hfr⟩, hB2⟩ := hB
    obtain ⟨f, rfl⟩ : ∃ g, f = g + 1 := ⟨f - 1, by omega⟩
    obtain ⟨h0, hl'⟩ := hl
    obtain ⟨hS, v, hy, hK⟩ := h
    have hr : k ∈ Region.ready md ops listed := by simpa using hrd
    refine anyT_first h0 (Region.noSelect_spec hsel) (fun c a w => hQ c a _ _ w) hs hc hn hkn f listed a w (inv hb) (Region.free_spec h0 hfr) hr hy hS ?_
    exact anyT_of_tr hsel hs hc hn hQ r f _ _ _ w hl' (fun _ => (inv hb).set hr hkn) hB2 hK
  | .on k o r, f, b, listed, a, w, hl, inv, hB, h => by
    simp only [trB, Bool.and_eq_true, Bool.not_eq_true', beq_eq_false_iff_ne, decide_eq_true_eq] at hB
    obtain ⟨⟨hf, hB1⟩, hB2⟩ := hB
    obtain ⟨f, rfl⟩ : ∃ g, f = g + 1 := ⟨f - 1, by omega⟩
    obtain ⟨h0, hl'⟩ := hl
    refine ⟨fun e => (by rw [hB1] at e; cases e), fun i hi => ?_⟩
    have hr : k ∈ Region.ready md ops listed := by rw [hB1]; simp
    rw [hB1] at hi
    obtain rfl : i = k := by simpa using hi
    have hinv : (b && decide (i < n)) = true → HeadInv md ops n (listed.setIfInBounds i true) := fun hbb => by
      simp only [Bool.and_eq_true, decide_eq_true_eq] at hbb
      exact (inv hbb.1).set hr hbb.2
    exact wpOp_of_list h0 (fun a' w' h' => ⟨fun hlt => h'.1 (by simpa using hlt), anyT_of_tr hsel hs hc hn hQ r f _ _ _ w' hl' hinv hB2 h'.2⟩) h
  | .tw i oi ri j oj rj, f, b, listed, a, w, hl, inv, hB, h => by
    simp only [trB, Bool.and_eq_true, Bool.not_eq_true', beq_eq_false_iff_ne, decide_eq_true_eq] at hB
    obtain ⟨⟨⟨hf, hB1⟩, hB2⟩, hB3⟩ := hB
    obtain ⟨f, rfl⟩ : ∃ g, f = g + 1 := ⟨f - 1, by omega⟩
    obtain ⟨hi0, hj0, hli, hlj⟩ := hl
    obtain ⟨hi', hj'⟩ := h
    refine ⟨fun e => (by rw [hB1] at e; cases e), fun k hk => ?_⟩
    have hr : k ∈ Region.ready md ops listed := hk
    have hinv : (b && decide (k < n)) = true → HeadInv md ops n (listed.setIfInBounds k true) := fun hbb => by
      simp only [Bool.and_eq_true, decide_eq_true_eq] at hbb
      exact (inv hbb.1).set hr hbb.2
    rw [hB1] at hk
    rcases List.mem_cons.1 hk with rfl | hk
    · exact wpOp_of_list hi0 (fun a' w' h' => ⟨fun hlt => h'.1 (by simpa using hlt), anyT_of_tr hsel hs hc hn hQ ri f _ _ _ w' hli hinv hB2 h'.2⟩) hi'
    · obtain rfl : k = j := by simpa using hk
      exact wpOp_of_list hj0 (fun a' w' h' => ⟨fun hlt => h'.1 (by simpa using hlt), anyT_of_tr hsel hs hc hn hQ rj f _ _ _ w' hlj hinv hB3 h'.2⟩) hj'

/-- A drawn region whose operations come in the orders of a tree, where no range-over-func is under way. -/
theorem wpIn_region_trW {P : Program} {n : Nat} {id : Nat} {Q : Exit → Act → World → Prop} {a : Act} {w : World} {ol : List Oper} (S : World → Prop) (m : Nat) (t : TrN) (hm : P.follows .mixedOrders = true)
    (hd : noDefer ol.toArray = true)
    (hB : (Region.noSelect ol.toArray && decide (m < ol.toArray.size) && Region.sinkB .any ol.toArray m && Region.chainB .any ol.toArray m && trB .any ol.toArray m (t.fill ol) ol.length true (Array.replicate ol.toArray.size false)) = true)
    (h : wpTr P ol.toArray (OnlyN Q) S m (t.fill ol) a w.drew) : (Code.region id ol.toArray true).wpIn Fence.wide n P Q a w := by
  simp only [Bool.and_eq_true, decide_eq_true_eq] at hB
  obtain ⟨⟨⟨⟨hsel, hn⟩, hs⟩, hc⟩, hmix⟩ := hB
  have inv : HeadInv .any ol.toArray m (Array.replicate ol.toArray.size false) :=
    ⟨by simp, fun j oj _ hl => (by rw [getD_replicate_false] at hl; cases hl), fun t _ ht => getD_in (by simpa using ht) (getD_replicate_false _ _)⟩
  have H := anyT_of_tr (S := S) hsel hs hc hn (fun _ _ _ _ _ h => h) _ ol.length true _ a w.drew (TrN.fill_ok ol t) (fun _ => inv) hmix h
  have hA := any_of_anyT _ _ _ _ H
  refine wpIn_mono ?_ OnlyN.imp
  refine wpIn_region_any hm (wpAnyIn_of_wpAnyW OnlyN.letsOut hd _ _ _ _ ?_)
  simpa using hA

theorem tr_quiet {n k : Nat} {o : Oper} {r : Tr} {a : Act} {w : World} (hp : plainB o.op = true) (hw : Region.wanted o (yielded ops a.tmps) = true) (hS : S w)
    (h : ∀ K : Act → Prop, (∀ a', wpTr P ops Q S n r a' w → K a') → o.quiet P a S K) : wpTr P ops Q S n (.qu k o r) a w := by
  rw [wpTr]
  refine ⟨hS, ?_⟩
  obtain ⟨v, h1, h2⟩ := h (fun a' => wpTr P ops Q S n r a' w) (fun _ h => h)
  refine ⟨v, .inl ⟨hw, fun w' hS' => ?_⟩, h2⟩
  have h3 := h1 w' hS'
  unfold Oper.quietAt at h3
  rcases plain_run hp a.eval w' with ⟨u, w2, e⟩ | ⟨x, w2, e⟩
  · rw [e] at h3 ⊢
    obtain ⟨e1, e2⟩ := h3
    rw [e1, e2]
  · rw [e] at h3
    exact h3.elim
theorem tr_valQ {n k : Nat} {o : Oper} {r : Tr} {a : Act} {w : World} (v : Value) (hrun : ∀ w', (execOp a.eval o).run P w' = .ok (.value v) w') (hw : Region.wanted o (yielded ops a.tmps) = true) (hS : S w)
    (h : ∀ K : Act → Prop, (∀ a', wpTr P ops Q S n r a' w → K a') → o.quiet P a S K) : wpTr P ops Q S n (.qu k o r) a w := by
  rw [wpTr]
  obtain ⟨v', h1, h2⟩ := h (fun a' => wpTr P ops Q S n r a' w) (fun _ h => h)
  have h3 := h1 w hS
  unfold Oper.quietAt at h3
  rw [hrun w] at h3
  obtain ⟨_, rfl⟩ := h3
  exact ⟨hS, _, .inl ⟨hw, fun w' _ => hrun w'⟩, h2⟩
theorem tr_skip {n k : Nat} {o : Oper} {r : Tr} {a : Act} {w : World} (hw : Region.wanted o (yielded ops a.tmps) = false) (hS : S w)
    (h : wpTr P ops Q S n r (a.put o.dst undef) w) : wpTr P ops Q S n (.qu k o r) a w := by
  rw [wpTr]
  exact ⟨hS, undef, .inr ⟨hw, rfl⟩, h⟩
theorem run_nilCheckT {a : Act} {o : Oper} (x : Operand) (ad : Addr) (ho : o.op = .nilCheck x) (hx : a.eval x = .pointer (some ad)) (w' : World) : (execOp a.eval o).run P w' = .ok (.value (.pointer (some ad))) w' := by
  unfold execOp; simp only [ho, hx]; rfl
theorem run_lenT {a : Act} {o : Oper} (x : Nat) (t e : TypeId) (ht : P.underlying t = some (.slice e)) (A : Option Addr) (m c : Nat) (ho : o.op = .call { callee := .builtin .len, args := #[.tmp x], argTypes := #[t] }) (hx : a.tmps.getD x undef = .slice A m c) (w' : World) :
    (execOp a.eval o).run P w' = .ok (.value (.int .i64 m)) w' := by
  unfold execOp
  rw [ho]
  have hx' : a.tmps[x]?.getD undef = .slice A m c := by simpa using hx
  simp [go_sem, resolve, invoke, hx', Builtin.len_, run_underlying ht]
theorem tr_on {n k : Nat} {o : Oper} {r : Tr} {a : Act} {w : World} (h : wpList P ops (mixPost Q S (decide (k < n)) (fun a' w' => wpTr P ops Q S n r a' w')) [o] a w) : wpTr P ops Q S n (.on k o r) a w := h
theorem tr_tw {n i j : Nat} {oi oj : Oper} {ri rj : Tr} {a : Act} {w : World} (h1 : wpList P ops (mixPost Q S (decide (i < n)) (fun a' w' => wpTr P ops Q S n ri a' w')) [oi] a w)
    (h2 : wpList P ops (mixPost Q S (decide (j < n)) (fun a' w' => wpTr P ops Q S n rj a' w')) [oj] a w) : wpTr P ops Q S n (.tw i oi ri j oj rj) a w := ⟨h1, h2⟩
theorem tr_leaf {n : Nat} {a : Act} {w : World} (h : Q .normal a w) : wpTr P ops Q S n .leaf a w := h
/-- As wpIn_region_trW, outside of a fence. -/
theorem wp_region_tr {id : Nat} {a : Act} {w : World} {ol : List Oper} (S : World → Prop) (m : Nat) (t : TrN) (hm : P.follows .mixedOrders = true)
    (hB : (Region.noSelect ol.toArray && decide (m < ol.toArray.size) && Region.sinkB .any ol.toArray m && Region.chainB .any ol.toArray m && trB .any ol.toArray m (t.fill ol) ol.length true (Array.replicate ol.toArray.size false)) = true)
    (h : wpTr P ol.toArray (NoPanic Q) S m (t.fill ol) a w.drew) : (Code.region id ol.toArray true).wp P Q a w := by
  refine wp_region_noPanic ?_
  simp only [Bool.and_eq_true, decide_eq_true_eq] at hB
  obtain ⟨⟨⟨⟨hsel, hn⟩, hs⟩, hc⟩, hmix⟩ := hB
  have inv : HeadInv .any ol.toArray m (Array.replicate ol.toArray.size false) :=
    ⟨by simp, fun j oj _ hl => (by rw [getD_replicate_false] at hl; cases hl), fun t _ ht => getD_in (by simpa using ht) (getD_replicate_false _ _)⟩
  have H := anyT_of_tr (S := S) hsel hs hc hn (fun _ _ _ _ _ h => h) _ ol.length true _ a w.drew (TrN.fill_ok ol t) (fun _ => inv) hmix h
  have hA := any_of_anyT _ _ _ _ H
  refine wp_region_any hm ?_
  simpa using hA
end
end Go.Proofs.YtjdaigffgfnhaaaGreat
