/-
  FailureKnown (a law without arguments): it returns true. (The region's law for three floating operations, the walk and the row in one text.)
-/
import Derived.Test.YtadldndpphdmpaaQB
import Derived.Test.YtadldndpphdmpaaS2
import Derived.Test.YtadldndpphdmpaaS3
import Derived.Test.YtadldndpphdmpaaS5
import Derived.Test.YtadldndpphdmpaaI4
import Derived.Test.YtadldndpphdmpaaG14
import Derived.Test.YtadldndpphdmpaaP5
import Derived.Test.YtadldndpphdmpaaP7
import Derived.Test.YtadldndpphdmpaaP9
import Derived.Test.YtadldndpphdmpaaP10
import Derived.Test.YtadldndpphdmpaaJ1
import Derived.Test.YtadldndpphdmpaaRk
namespace Go.Proofs.Ytadldndpphdmpaa
open Go.RowKit

inductive Fk3 where
  | nil : Fk3
  | op (k : Nat) (o : Oper) (t : Fk3) : Fk3
  | two (k : Nat) (o : Oper) (t : Fk3) (k' : Nat) (o' : Oper) (t' : Fk3) : Fk3
  | three (k : Nat) (o : Oper) (t : Fk3) (k' : Nat) (o' : Oper) (t' : Fk3) (k'' : Nat) (o'' : Oper) (t'' : Fk3) : Fk3
inductive Sh3 where
  | nil : Sh3
  | op (k : Nat) (t : Sh3) : Sh3
  | two (k : Nat) (t : Sh3) (k' : Nat) (t' : Sh3) : Sh3
  | three (k : Nat) (t : Sh3) (k' : Nat) (t' : Sh3) (k'' : Nat) (t'' : Sh3) : Sh3
def fkOf3 (l : List Oper) : Sh3 → Fk3
  | .nil => .nil
  | .op k t => match l[k]? with
    | some o => .op k o (fkOf3 l t)
    | none => .nil
  | .two k t k' t' => match l[k]?, l[k']? with
    | some o, some o' => .two k o (fkOf3 l t) k' o' (fkOf3 l t')
    | _, _ => .nil
  | .three k t k' t' k'' t'' => match l[k]?, l[k']?, l[k'']? with
    | some o, some o', some o'' => .three k o (fkOf3 l t) k' o' (fkOf3 l t') k'' o'' (fkOf3 l t'')
    | _, _, _ => .nil
def Fk3.Mem (ops : Array Oper) : Fk3 → Prop
  | .nil => True
  | .op k o t => ops[k]? = some o ∧ t.Mem ops
  | .two k o t k' o' t' => (ops[k]? = some o ∧ t.Mem ops) ∧ ops[k']? = some o' ∧ t'.Mem ops
  | .three k o t k' o' t' k'' o'' t'' => (ops[k]? = some o ∧ t.Mem ops) ∧ (ops[k']? = some o' ∧ t'.Mem ops) ∧ ops[k'']? = some o'' ∧ t''.Mem ops
theorem fkOf_mem3 (l : List Oper) : ∀ s : Sh3, (fkOf3 l s).Mem l.toArray
  | .nil => trivial
  | .op k t => by
    rw [fkOf3]
    split
    · rename_i o h
      exact ⟨by simpa using h, fkOf_mem3 l t⟩
    · trivial
  | .two k t k' t' => by
    rw [fkOf3]
    split
    · rename_i o o' h h'
      exact ⟨⟨by simpa using h, fkOf_mem3 l t⟩, by simpa using h', fkOf_mem3 l t'⟩
    · trivial
  | .three k t k' t' k'' t'' => by
    rw [fkOf3]
    split
    · rename_i o o' o'' h h' h''
      exact ⟨⟨by simpa using h, fkOf_mem3 l t⟩, ⟨by simpa using h', fkOf_mem3 l t'⟩, by simpa using h'', fkOf_mem3 l t''⟩
    · trivial

section
variable {P : Program} {ops : Array Oper} {Q : Exit → Act → World → Prop} {md : Region.Mode} {S : World → Prop}

def wpFk3 (P : Program) (ops : Array Oper) (Q : Exit → Act → World → Prop) (S : World → Prop) (n : Nat) (q : Nat → Bool) : Fk3 → Act → World → Prop
  | .nil, a, w => Q .normal a w
  | .op k o t, a, w => if q k = true then S w ∧ ∃ v, YieldsIf P ops S o v a ∧ wpFk3 P ops Q S n q t (a.put o.dst v) w
    else wpList P ops (mixPost Q S (decide (k < n)) (fun a' w' => wpFk3 P ops Q S n q t a' w')) [o] a w
  | .two k o t k' o' t', a, w => wpList P ops (mixPost Q S (decide (k < n)) (fun a' w' => wpFk3 P ops Q S n q t a' w')) [o] a w ∧
    wpList P ops (mixPost Q S (decide (k' < n)) (fun a' w' => wpFk3 P ops Q S n q t' a' w')) [o'] a w
  | .three k o t k' o' t' k'' o'' t'', a, w => wpList P ops (mixPost Q S (decide (k < n)) (fun a' w' => wpFk3 P ops Q S n q t a' w')) [o] a w ∧
    wpList P ops (mixPost Q S (decide (k' < n)) (fun a' w' => wpFk3 P ops Q S n q t' a' w')) [o'] a w ∧
    wpList P ops (mixPost Q S (decide (k'' < n)) (fun a' w' => wpFk3 P ops Q S n q t'' a' w')) [o''] a w

/-- b: no operation of the tail has come up yet. -/
def fkB3 (md : Region.Mode) (ops : Array Oper) (n : Nat) (q : Nat → Bool) : Nat → Fk3 → Bool → Array Bool → Bool
  | 0, .nil, _, listed => (Region.ready md ops listed).isEmpty
  | f + 1, .op k _ t, b, listed => (if q k then b && decide (k < n) && (Region.ready md ops listed).contains k && Region.free md ops listed k else decide (Region.ready md ops listed = [k])) && fkB3 md ops n q f t (b && decide (k < n)) (listed.setIfInBounds k true)
  | f + 1, .two k _ t k' _ t', b, listed => decide (Region.ready md ops listed = [k, k']) && fkB3 md ops n q f t (b && decide (k < n)) (listed.setIfInBounds k true) && fkB3 md ops n q f t' (b && decide (k' < n)) (listed.setIfInBounds k' true)
  | f + 1, .three k _ t k' _ t' k'' _ t'', b, listed => decide (Region.ready md ops listed = [k, k', k'']) && fkB3 md ops n q f t (b && decide (k < n)) (listed.setIfInBounds k true) && fkB3 md ops n q f t' (b && decide (k' < n)) (listed.setIfInBounds k' true) && fkB3 md ops n q f t'' (b && decide (k'' < n)) (listed.setIfInBounds k'' true)
  | _, _, _, _ => false

theorem fk_op3 {n k f : Nat} {o : Oper} {listed : Array Bool} {a : Act} {w : World} {K : Act → World → Prop} (h0 : ops[k]? = some o) (h : wpList P ops (mixPost Q S (decide (k < n)) K) [o] a w)
    (hK : ∀ a' w', K a' w' → anyT P md ops Q S n f (listed.setIfInBounds k true) a' w') : wpOp P ops Q k (fun a' w' => (k < n → S w') ∧ anyT P md ops Q S n f (listed.setIfInBounds k true) a' w') a w := by
  have hgo : ∀ a' w', ((decide (k < n) = true → S w') ∧ K a' w') → ((k < n → S w') ∧ anyT P md ops Q S n f (listed.setIfInBounds k true) a' w') := fun a' w' h' => ⟨fun hlt => h'.1 (by simpa using hlt), hK a' w' h'.2⟩
  unfold wpOp
  simp only [h0]
  rw [wpList] at h
  split
  · rename_i hw
    rw [if_pos hw] at h
    rcases h with h | ⟨h1, h2⟩
    · refine .inl (wp_mixPost (Oper.wp_mono (fun a' w' h' => hgo a' w' h') h))
    · exact .inr ⟨h1, h2⟩
  · rename_i hw
    rw [if_neg hw] at h
    exact hgo _ _ h

theorem anyT_of_fk3 {n : Nat} {q : Nat → Bool} (hsel : Region.noSelect ops = true) (hs : Region.sinkB md ops n = true) (hc : Region.chainB md ops n = true) (hn : n < ops.size)
    (hQ : ∀ c a d v w, Q (.panic c) (Act.put a d v) w → Q (.panic c) a w) :
    ∀ (f : Nat) (t : Fk3) (b : Bool) (listed : Array Bool) (a : Act) (w : World), t.Mem ops → (b = true → HeadInv md ops n listed) → fkB3 md ops n q f t b listed = true →
      wpFk3 P ops Q S n q t a w → anyT P md ops Q S n f listed a w := by
  intro f
  induction f with
  | zero =>
    intro t b listed a w hm inv hB h
    cases t with
    | nil => exact ⟨by simpa [fkB3] using hB, h⟩
    | op k o t => simp [fkB3] at hB
    | two k o t k' o' t' => simp [fkB3] at hB
    | three k o t k' o' t' k'' o'' t'' => simp [fkB3] at hB
  | succ f ih =>
   intro t b listed a w hm inv hB h
   cases t with
   | nil => simp [fkB3] at hB
   | op k o t =>
    obtain ⟨h0, hm'⟩ := hm
    rw [fkB3, Bool.and_eq_true] at hB
    obtain ⟨hB1, hB2⟩ := hB
    by_cases hq : q k = true
    · rw [if_pos hq] at hB1
      simp only [Bool.and_eq_true, decide_eq_true_eq] at hB1
      obtain ⟨⟨⟨hb, hkn⟩, hrd⟩, hfr⟩ := hB1
      rw [wpFk3, if_pos hq] at h
      obtain ⟨hS, v, hy, hK⟩ := h
      have hr : k ∈ Region.ready md ops listed := by simpa using hrd
      exact anyT_first h0 (Region.noSelect_spec hsel) (fun c a w => hQ c a _ _ w) hs hc hn hkn f listed a w (inv hb) (Region.free_spec h0 hfr) hr hy hS
        (ih t _ _ _ w hm' (fun _ => (inv hb).set hr hkn) hB2 hK)
    · rw [if_neg hq, decide_eq_true_eq] at hB1
      rw [wpFk3, if_neg hq] at h
      refine ⟨fun e => (by rw [hB1] at e; cases e), fun i hi => ?_⟩
      rw [hB1] at hi
      obtain rfl : i = k := by simpa using hi
      have hr : i ∈ Region.ready md ops listed := by rw [hB1]; simp
      refine fk_op3 h0 h fun a' w' h' => ih t _ _ _ w' hm' (fun hbb => ?_) hB2 h'
      simp only [Bool.and_eq_true, decide_eq_true_eq] at hbb
      exact (inv hbb.1).set hr hbb.2
   | two k o t k' o' t' =>
    obtain ⟨⟨h0, hm1⟩, h0', hm2⟩ := hm
    rw [fkB3, Bool.and_eq_true, Bool.and_eq_true, decide_eq_true_eq] at hB
    obtain ⟨⟨hB1, hB2⟩, hB3⟩ := hB
    rw [wpFk3] at h
    refine ⟨fun e => (by rw [hB1] at e; cases e), fun i hi => ?_⟩
    have hr := hi
    rw [hB1] at hi
    have hset : (b && decide (i < n)) = true → HeadInv md ops n (listed.setIfInBounds i true) := fun hbb => by
      simp only [Bool.and_eq_true, decide_eq_true_eq] at hbb
      exact (inv hbb.1).set hr hbb.2
    have hi2 : i = k ∨ i = k' := by simpa using hi
    rcases hi2 with rfl | rfl
    · exact fk_op3 h0 h.1 fun a' w' h' => ih t _ _ _ w' hm1 hset hB2 h'
    · exact fk_op3 h0' h.2 fun a' w' h' => ih t' _ _ _ w' hm2 hset hB3 h'
   | three k o t k' o' t' k'' o'' t'' =>
    obtain ⟨⟨h0, hm1⟩, ⟨h0', hm2⟩, h0'', hm3⟩ := hm
    rw [fkB3, Bool.and_eq_true, Bool.and_eq_true, Bool.and_eq_true, decide_eq_true_eq] at hB
    obtain ⟨⟨⟨hB1, hB2⟩, hB3⟩, hB4⟩ := hB
    rw [wpFk3] at h
    refine ⟨fun e => (by rw [hB1] at e; cases e), fun i hi => ?_⟩
    have hr := hi
    rw [hB1] at hi
    have hset : (b && decide (i < n)) = true → HeadInv md ops n (listed.setIfInBounds i true) := fun hbb => by
      simp only [Bool.and_eq_true, decide_eq_true_eq] at hbb
      exact (inv hbb.1).set hr hbb.2
    have hi2 : i = k ∨ i = k' ∨ i = k'' := by simpa using hi
    rcases hi2 with rfl | rfl | rfl
    · exact fk_op3 h0 h.1 fun a' w' h' => ih t _ _ _ w' hm1 hset hB2 h'
    · exact fk_op3 h0' h.2.1 fun a' w' h' => ih t' _ _ _ w' hm2 hset hB3 h'
    · exact fk_op3 h0'' h.2.2 fun a' w' h' => ih t'' _ _ _ w' hm3 hset hB4 h'

theorem wp_region_fork3 {id : Nat} {Q : Exit → Act → World → Prop} {a : Act} {w : World} {l : List Oper} (S : World → Prop) (n : Nat) (q : Nat → Bool) (t : Fk3) (hm : P.follows .mixedOrders = true)
    (hB : (Region.noSelect l.toArray && decide (n < l.toArray.size) && Region.sinkB .any l.toArray n && Region.chainB .any l.toArray n && fkB3 .any l.toArray n q l.length t true (Array.replicate l.toArray.size false)) = true)
    (ht : t.Mem l.toArray) (hQ : ∀ c a d v w, Q (.panic c) (Act.put a d v) w → Q (.panic c) a w) (h : wpFk3 P l.toArray Q S n q t a w.drew) : (Code.region id l.toArray true).wp P Q a w := by
  simp only [Bool.and_eq_true, decide_eq_true_eq] at hB
  obtain ⟨⟨⟨⟨hsel, hn⟩, hs⟩, hc⟩, hmix⟩ := hB
  have inv : HeadInv .any l.toArray n (Array.replicate l.toArray.size false) :=
    ⟨by simp, fun j oj _ hl => (by rw [getD_replicate_false] at hl; cases hl), fun t _ ht => getD_in (by simpa using ht) (getD_replicate_false _ _)⟩
  have H := anyT_of_fk3 (S := S) hsel hs hc hn hQ l.length t true _ a w.drew ht (fun _ => inv) hmix h
  have hA := any_of_anyT _ _ _ _ H
  refine wp_region_any hm ?_
  simpa using hA

theorem fk_quiet3 {n k : Nat} {q : Nat → Bool} {o : Oper} {t : Fk3} {a : Act} {w : World} (hq : q k = true) (hp : plainB o.op = true) (hw : Region.wanted o (yielded ops a.tmps) = true) (hS : S w)
    (h : ∀ K : Act → Prop, (∀ a', wpFk3 P ops Q S n q t a' w → K a') → o.quiet P a S K) : wpFk3 P ops Q S n q (.op k o t) a w := by
  rw [wpFk3, if_pos hq]
  refine ⟨hS, ?_⟩
  obtain ⟨v, h1, h2⟩ := h (fun a' => wpFk3 P ops Q S n q t a' w) (fun _ h => h)
  refine ⟨v, .inl ⟨hw, fun w' hS' => ?_⟩, h2⟩
  have h3 := h1 w' hS'
  unfold Oper.quietAt at h3
  rcases plain_run hp a.eval w' with ⟨u, w2, e⟩ | ⟨x, w2, e⟩
  · rw [e] at h3 ⊢
    obtain ⟨e1, e2⟩ := h3
    rw [e1, e2]
  · rw [e] at h3
    exact h3.elim
theorem fk_one3 {n k : Nat} {q : Nat → Bool} {o : Oper} {t : Fk3} {a : Act} {w : World} (hq : q k = false)
    (h : wpList P ops (mixPost Q S (decide (k < n)) (fun a' w' => wpFk3 P ops Q S n q t a' w')) [o] a w) : wpFk3 P ops Q S n q (.op k o t) a w := by
  rw [wpFk3, if_neg (by rw [hq]; simp)]
  exact h
theorem fk_two3 {n k k' : Nat} {q : Nat → Bool} {o o' : Oper} {t t' : Fk3} {a : Act} {w : World}
    (h : wpList P ops (mixPost Q S (decide (k < n)) (fun a' w' => wpFk3 P ops Q S n q t a' w')) [o] a w)
    (h' : wpList P ops (mixPost Q S (decide (k' < n)) (fun a' w' => wpFk3 P ops Q S n q t' a' w')) [o'] a w) : wpFk3 P ops Q S n q (.two k o t k' o' t') a w := by
  rw [wpFk3]
  exact ⟨h, h'⟩
theorem fk_three3 {n k k' k'' : Nat} {q : Nat → Bool} {o o' o'' : Oper} {t t' t'' : Fk3} {a : Act} {w : World}
    (h : wpList P ops (mixPost Q S (decide (k < n)) (fun a' w' => wpFk3 P ops Q S n q t a' w')) [o] a w)
    (h' : wpList P ops (mixPost Q S (decide (k' < n)) (fun a' w' => wpFk3 P ops Q S n q t' a' w')) [o'] a w)
    (h'' : wpList P ops (mixPost Q S (decide (k'' < n)) (fun a' w' => wpFk3 P ops Q S n q t'' a' w')) [o''] a w) : wpFk3 P ops Q S n q (.three k o t k' o' t' k'' o'' t'') a w := by
  rw [wpFk3]
  exact ⟨h, h', h''⟩
theorem fk_nil3 {n : Nat} {q : Nat → Bool} {a : Act} {w : World} (h : Q .normal a w) : wpFk3 P ops Q S n q .nil a w := h
end
end Go.Proofs.Ytadldndpphdmpaa
namespace Go.Proofs.Ytadldndpphdmpaa
open Go.RowKit Go.Shelf

theorem kn_eff : effectsT exT [0, 1] = (0, [0, 1, 4, 5, 7]) ∧ effectsT exT [3] = (0, [3, 6]) ∧ effectsT exT [0, 3] = (0, [0, 3, 6, 7]) := by decide +kernel
theorem kn_left : leftT exT [0, 1] 5 = (3, 0) ∧ leftT exT [0, 3] 7 = (0, 0) ∧ leftT exT [0] 7 = (0, 4) := by decide +kernel
theorem kn_sets : causesT exT 5 = ([[2], [0, 1]], 0) ∧ guardsT exT 5 = ([[0, 2], [1, 2]], 0) ∧ guardsT exT 7 = ([[0, 2], [0, 3], [1, 2, 3]], 0) := by decide +kernel
theorem kn_prov : provesT exT 7 [1, 2] [0, 3] = (true, 0) ∧ provesT exT 7 [1, 2] [0] = (false, 0) := by decide +kernel
theorem kn_cnt : countT exT 5 = (10, 0) ∧ countT exT 7 = (9, 0) ∧ weightT exT 7 3 = (3, 0) ∧ weightT exT 7 0 = (5, 0) := by decide +kernel
theorem kn_saves : savesT exT [0, 1] 5 4 = (0, []) := by decide +kernel
theorem kn_run : (runT exT [⟨0, 1, 9⟩, ⟨1, 2, 20⟩] 12).2 = 0 ∧ (runT exT [⟨0, 1, 9⟩, ⟨1, 2, 20⟩] 12).1.length = 8 ∧ (runT exT [⟨0, 1, 9⟩, ⟨1, 2, 20⟩] 12).1[4]? = some [⟨4, 5, 9⟩] ∧ (runT exT [⟨0, 1, 9⟩, ⟨1, 2, 20⟩] 12).1[7]? = some [⟨7, 5, 9⟩] := by decide +kernel

theorem add_zero' (b k : Nat) : (⟨b, 0, none⟩ : Addr).add k = ⟨b, k, none⟩ := by
  unfold Addr.add
  by_cases h : k = 0
  · subst h; rfl
  · rw [if_neg h]; simp
theorem SpsM.blk {w : World} {g : Nat} {cs : Array Value} (ps : List SpP) (h : Blk w g 56 cs) (hc : cs.toList = ps.flatMap SpP.enc) (hp : ∀ p ∈ ps, RdS w p.2.1 p.1.length p.1) : SpsM w (some ⟨g, 0, none⟩) ps.length (ps.map (·.1)) ps :=
  ⟨rd_blk (enc := SpP.enc) (z := 1) (fun _ => rfl) h ps hc, rfl, hp⟩
theorem LsM.blk {w : World} {g : Nat} {cs : Array Value} (ps : List LsP) (h : Blk w g 30 cs) (hc : cs.toList = ps.flatMap LsP.enc) (hp : ∀ p ∈ ps, RdI w p.2.1 p.1.length p.1 ∧ p.1.length ≤ 1000000000000000) : LsM w (some ⟨g, 0, none⟩) ps.length (ps.map (·.1)) ps :=
  ⟨rd_blk (enc := LsP.enc) (z := 1) (fun _ => rfl) h ps hc, rfl, hp⟩
theorem RdI.blk {w : World} {g : Nat} {cs : Array Value} (l : List Int) (h : Blk w g 3 cs) (hc : cs.toList = l.flatMap fun x => [Value.int .i64 x]) : RdI w (some ⟨g, 0, none⟩) l.length l := rd_blk (enc := fun x : Int => [Value.int .i64 x]) (z := 1) (fun _ => rfl) h l hc
theorem short_of {ps : List LsP} {X : List (List Int)} (h : ps.map (·.1) = X) (hX : (X.all fun l => decide (l.length ≤ 1000000000000000)) = true) : ∀ p ∈ ps, p.1.length ≤ 1000000000000000 := fun p hp => by
  have := List.all_eq_true.1 hX p.1 (by rw [← h]; exact List.mem_map_of_mem hp)
  simpa using this
theorem kn_at {k : Nat} {l m : List Int} (hl : [[0, 1], [3], [0, 3]][k]? = some l) (hm : [[0, 1, 4, 5, 7], [3, 6], [0, 3, 6, 7]][k]? = some m) : effectsT exT l = (0, m) ∧ l.length ≤ 10 ∧ m.length ≤ 10 := by
  match k, hl, hm with
  | 0, hl, hm => cases hl; cases hm; exact ⟨kn_eff.1, by decide, by decide⟩
  | 1, hl, hm => cases hl; cases hm; exact ⟨kn_eff.2.1, by decide, by decide⟩
  | 2, hl, hm => cases hl; cases hm; exact ⟨kn_eff.2.2, by decide, by decide⟩
  | k + 3, hl, _ => simp at hl
theorem bk_tiiisiiis (w : World) (c0 c1 c2 c3 c4 c5 c6 c7 c8 : Array Value) : ∃ W, (((((((((w.alloc (.cells c0 24)).alloc (.cells c1 3)).alloc (.cells c2 3)).alloc (.cells c3 3)).alloc (.cells c4 30)).alloc (.cells c5 3)).alloc (.cells c6 3)).alloc (.cells c7 3)).alloc (.cells c8 30)) = W ∧ Below w.heap.size w W ∧ Blk W (w.heap.size) 24 c0 ∧ Blk W (w.heap.size + 1) 3 c1 ∧ Blk W (w.heap.size + 1 + 1) 3 c2 ∧ Blk W (w.heap.size + 1 + 1 + 1) 3 c3 ∧ Blk W (w.heap.size + 1 + 1 + 1 + 1) 30 c4 ∧ Blk W (w.heap.size + 1 + 1 + 1 + 1 + 1) 3 c5 ∧ Blk W (w.heap.size + 1 + 1 + 1 + 1 + 1 + 1) 3 c6 ∧ Blk W (w.heap.size + 1 + 1 + 1 + 1 + 1 + 1 + 1) 3 c7 ∧ Blk W (w.heap.size + 1 + 1 + 1 + 1 + 1 + 1 + 1 + 1) 30 c8 :=
  ⟨_, rfl, ((((((((((Below.refl _ w).alloc (Nat.le_refl _) _).alloc (by simp) _).alloc (by simp; omega) _).alloc (by simp; omega) _).alloc (by simp; omega) _).alloc (by simp; omega) _).alloc (by simp; omega) _).alloc (by simp; omega) _).alloc (by simp; omega) _), (((((((((Blk.new _ _ _ rfl).alloc _).alloc _).alloc _).alloc _).alloc _).alloc _).alloc _).alloc _), ((((((((Blk.new _ _ _ (by simp)).alloc _).alloc _).alloc _).alloc _).alloc _).alloc _).alloc _), (((((((Blk.new _ _ _ (by simp)).alloc _).alloc _).alloc _).alloc _).alloc _).alloc _), ((((((Blk.new _ _ _ (by simp)).alloc _).alloc _).alloc _).alloc _).alloc _), (((((Blk.new _ _ _ (by simp)).alloc _).alloc _).alloc _).alloc _), ((((Blk.new _ _ _ (by simp)).alloc _).alloc _).alloc _), (((Blk.new _ _ _ (by simp)).alloc _).alloc _), ((Blk.new _ _ _ (by simp)).alloc _), (Blk.new _ _ _ (by simp))⟩
theorem bk_i (w : World) (c0 : Array Value) : ∃ W, (w.alloc (.cells c0 3)) = W ∧ Below w.heap.size w W ∧ Blk W (w.heap.size) 3 c0 :=
  ⟨_, rfl, ((Below.refl _ w).alloc (Nat.le_refl _) _), (Blk.new _ _ _ rfl)⟩
theorem bk_iis (w : World) (c0 c1 c2 : Array Value) : ∃ W, (((w.alloc (.cells c0 3)).alloc (.cells c1 3)).alloc (.cells c2 30)) = W ∧ Below w.heap.size w W ∧ Blk W (w.heap.size) 3 c0 ∧ Blk W (w.heap.size + 1) 3 c1 ∧ Blk W (w.heap.size + 1 + 1) 30 c2 :=
  ⟨_, rfl, ((((Below.refl _ w).alloc (Nat.le_refl _) _).alloc (by simp) _).alloc (by simp; omega) _), (((Blk.new _ _ _ rfl).alloc _).alloc _), ((Blk.new _ _ _ (by simp)).alloc _), (Blk.new _ _ _ (by simp))⟩
theorem bk_iiis (w : World) (c0 c1 c2 c3 : Array Value) : ∃ W, ((((w.alloc (.cells c0 3)).alloc (.cells c1 3)).alloc (.cells c2 3)).alloc (.cells c3 30)) = W ∧ Below w.heap.size w W ∧ Blk W (w.heap.size) 3 c0 ∧ Blk W (w.heap.size + 1) 3 c1 ∧ Blk W (w.heap.size + 1 + 1) 3 c2 ∧ Blk W (w.heap.size + 1 + 1 + 1) 30 c3 :=
  ⟨_, rfl, (((((Below.refl _ w).alloc (Nat.le_refl _) _).alloc (by simp) _).alloc (by simp; omega) _).alloc (by simp; omega) _), ((((Blk.new _ _ _ rfl).alloc _).alloc _).alloc _), (((Blk.new _ _ _ (by simp)).alloc _).alloc _), ((Blk.new _ _ _ (by simp)).alloc _), (Blk.new _ _ _ (by simp))⟩
theorem bk_ii (w : World) (c0 c1 : Array Value) : ∃ W, ((w.alloc (.cells c0 3)).alloc (.cells c1 3)) = W ∧ Below w.heap.size w W ∧ Blk W (w.heap.size) 3 c0 ∧ Blk W (w.heap.size + 1) 3 c1 :=
  ⟨_, rfl, (((Below.refl _ w).alloc (Nat.le_refl _) _).alloc (by simp) _), ((Blk.new _ _ _ rfl).alloc _), (Blk.new _ _ _ (by simp))⟩
theorem bk_p (w : World) (c0 : Array Value) : ∃ W, (w.alloc (.cells c0 65)) = W ∧ Below w.heap.size w W ∧ Blk W (w.heap.size) 65 c0 :=
  ⟨_, rfl, ((Below.refl _ w).alloc (Nat.le_refl _) _), (Blk.new _ _ _ rfl)⟩
theorem bk_rppr (w : World) (c0 c1 c2 c3 : Array Value) : ∃ W, ((((w.alloc (.cells c0 56)).alloc (.cells c1 65)).alloc (.cells c2 65)).alloc (.cells c3 56)) = W ∧ Below w.heap.size w W ∧ Blk W (w.heap.size) 56 c0 ∧ Blk W (w.heap.size + 1) 65 c1 ∧ Blk W (w.heap.size + 1 + 1) 65 c2 ∧ Blk W (w.heap.size + 1 + 1 + 1) 56 c3 :=
  ⟨_, rfl, (((((Below.refl _ w).alloc (Nat.le_refl _) _).alloc (by simp) _).alloc (by simp; omega) _).alloc (by simp; omega) _), ((((Blk.new _ _ _ rfl).alloc _).alloc _).alloc _), (((Blk.new _ _ _ (by simp)).alloc _).alloc _), ((Blk.new _ _ _ (by simp)).alloc _), (Blk.new _ _ _ (by simp))⟩
theorem bk_prpr (w : World) (c0 c1 c2 c3 : Array Value) : ∃ W, ((((w.alloc (.cells c0 65)).alloc (.cells c1 56)).alloc (.cells c2 65)).alloc (.cells c3 56)) = W ∧ Below w.heap.size w W ∧ Blk W (w.heap.size) 65 c0 ∧ Blk W (w.heap.size + 1) 56 c1 ∧ Blk W (w.heap.size + 1 + 1) 65 c2 ∧ Blk W (w.heap.size + 1 + 1 + 1) 56 c3 :=
  ⟨_, rfl, (((((Below.refl _ w).alloc (Nat.le_refl _) _).alloc (by simp) _).alloc (by simp; omega) _).alloc (by simp; omega) _), ((((Blk.new _ _ _ rfl).alloc _).alloc _).alloc _), (((Blk.new _ _ _ (by simp)).alloc _).alloc _), ((Blk.new _ _ _ (by simp)).alloc _), (Blk.new _ _ _ (by simp))⟩
theorem bk_pprr (w : World) (c0 c1 c2 c3 : Array Value) : ∃ W, ((((w.alloc (.cells c0 65)).alloc (.cells c1 65)).alloc (.cells c2 56)).alloc (.cells c3 56)) = W ∧ Below w.heap.size w W ∧ Blk W (w.heap.size) 65 c0 ∧ Blk W (w.heap.size + 1) 65 c1 ∧ Blk W (w.heap.size + 1 + 1) 56 c2 ∧ Blk W (w.heap.size + 1 + 1 + 1) 56 c3 :=
  ⟨_, rfl, (((((Below.refl _ w).alloc (Nat.le_refl _) _).alloc (by simp) _).alloc (by simp; omega) _).alloc (by simp; omega) _), ((((Blk.new _ _ _ rfl).alloc _).alloc _).alloc _), (((Blk.new _ _ _ (by simp)).alloc _).alloc _), ((Blk.new _ _ _ (by simp)).alloc _), (Blk.new _ _ _ (by simp))⟩
set_option maxRecDepth 100000 in
set_option maxHeartbeats 8000000 in
theorem FailureKnown_any (w : World) : Calls Try.prog 17 #[] w fun e w' => e = .returned (.bool true) ∧ Below w.heap.size w w' := by
  go_enter Try.func17, Try.ntmps17
  go_wp2_with fail
  refine (Example_any _).mono ?_
  rintro e W1 ⟨A, ms, rfl, hT, hb1⟩
  have HB1 := Lib.hid hb1
  clear hb1
  go_wp2_with fail
  obtain ⟨W2, hX, hb, b0, b1, b2, b3, b4, b5, b6, b7, b8⟩ := bk_tiiisiiis W1 #[.slice A 8 8] #[.int .i64 0, .int .i64 1] #[.int .i64 3] #[.int .i64 0, .int .i64 3] #[.slice (some ⟨W1.heap.size + 1, 0, none⟩) 2 2, .slice (some ⟨W1.heap.size + 1 + 1, 0, none⟩) 1 1, .slice (some ⟨W1.heap.size + 1 + 1 + 1, 0, none⟩) 2 2] #[.int .i64 0, .int .i64 1, .int .i64 4, .int .i64 5, .int .i64 7] #[.int .i64 3, .int .i64 6] #[.int .i64 0, .int .i64 3, .int .i64 6, .int .i64 7] #[.slice (some ⟨W1.heap.size + 1 + 1 + 1 + 1 + 1, 0, none⟩) 5 5, .slice (some ⟨W1.heap.size + 1 + 1 + 1 + 1 + 1 + 1, 0, none⟩) 2 2, .slice (some ⟨W1.heap.size + 1 + 1 + 1 + 1 + 1 + 1 + 1, 0, none⟩) 4 4]
  rw [hX]
  have hS : LsM W2 (some ⟨W1.heap.size + 1 + 1 + 1 + 1, 0, none⟩) 3 [[0, 1], [3], [0, 3]] [([0, 1], some ⟨W1.heap.size + 1, 0, none⟩, 2), ([3], some ⟨W1.heap.size + 1 + 1, 0, none⟩, 1), ([0, 3], some ⟨W1.heap.size + 1 + 1 + 1, 0, none⟩, 2)] := LsM.blk [([0, 1], some ⟨W1.heap.size + 1, 0, none⟩, 2), ([3], some ⟨W1.heap.size + 1 + 1, 0, none⟩, 1), ([0, 3], some ⟨W1.heap.size + 1 + 1 + 1, 0, none⟩, 2)] b4 rfl (fun p hp => by
      simp only [List.mem_cons, List.not_mem_nil, or_false] at hp
      rcases hp with rfl | rfl | rfl
      · exact ⟨RdI.blk [0, 1] b1 rfl, show 2 ≤ 1000000000000000 by decide⟩
      · exact ⟨RdI.blk [3] b2 rfl, show 1 ≤ 1000000000000000 by decide⟩
      · exact ⟨RdI.blk [0, 3] b3 rfl, show 2 ≤ 1000000000000000 by decide⟩)
  have hN : LsM W2 (some ⟨W1.heap.size + 1 + 1 + 1 + 1 + 1 + 1 + 1 + 1, 0, none⟩) 3 [[0, 1, 4, 5, 7], [3, 6], [0, 3, 6, 7]] [([0, 1, 4, 5, 7], some ⟨W1.heap.size + 1 + 1 + 1 + 1 + 1, 0, none⟩, 5), ([3, 6], some ⟨W1.heap.size + 1 + 1 + 1 + 1 + 1 + 1, 0, none⟩, 2), ([0, 3, 6, 7], some ⟨W1.heap.size + 1 + 1 + 1 + 1 + 1 + 1 + 1, 0, none⟩, 4)] := LsM.blk [([0, 1, 4, 5, 7], some ⟨W1.heap.size + 1 + 1 + 1 + 1 + 1, 0, none⟩, 5), ([3, 6], some ⟨W1.heap.size + 1 + 1 + 1 + 1 + 1 + 1, 0, none⟩, 2), ([0, 3, 6, 7], some ⟨W1.heap.size + 1 + 1 + 1 + 1 + 1 + 1 + 1, 0, none⟩, 4)] b8 rfl (fun p hp => by
      simp only [List.mem_cons, List.not_mem_nil, or_false] at hp
      rcases hp with rfl | rfl | rfl
      · exact ⟨RdI.blk [0, 1, 4, 5, 7] b5 rfl, show 5 ≤ 1000000000000000 by decide⟩
      · exact ⟨RdI.blk [3, 6] b6 rfl, show 2 ≤ 1000000000000000 by decide⟩
      · exact ⟨RdI.blk [0, 3, 6, 7] b7 rfl, show 4 ≤ 1000000000000000 by decide⟩)
  have HS := Lib.hid hS
  have HN := Lib.hid hN
  have HB2 : Hid (Below w.heap.size w W2) := HB1.out.trans (hb.mono HB1.out.size)
  have HT2 := Lib.hid (hT.below hb)
  have KT2 := Lib.hid b0
  clear hX hb hT hS hN b0 b1 b2 b3 b4 b5 b6 b7 b8
  go_loopw [4] (fun i wr => ∃ k : Nat, k ≤ 3 ∧ i = .int .i64 k ∧ Below W2.heap.size W2 wr) (fun i _ => 3 - (intOf i).toNat)
  case atStart => exact ⟨0, Nat.zero_le _, rfl, Below.refl _ _⟩
  case round =>
    obtain ⟨k, hk, rfl, hB⟩ := hrel
    have HB := Lib.hid hB; clear hB
    have HBw : Hid (Below w.heap.size w wr) := HB2.out.trans (HB.out.mono HB2.out.size)
    have HTw := Lib.hid (HT2.out.below HB.out)
    have KTw := Lib.hid (KT2.out.later HB.out)
    by_cases hlt : k < 3
    · obtain ⟨l, R, cr, rd, hl, hA, hcell, hrI, _⟩ := (HS.out.below HB.out).get hlt
      cases hA
      obtain ⟨m, R2, cr2, rd2, hm, hA2, hcell2, hrI2, _⟩ := (HN.out.below HB.out).get hlt
      cases hA2
      obtain ⟨k1, k2, k3⟩ := kn_at hl hm
      have hCE := Effects_any exT l A 8 8 ms R cr wr.drew (HTw.out.below (Below.refl _ _).drew) (Nat.le_refl _) (hrI.below (Below.refl _ _).drew) (by omega)
      rw [k1] at hCE
      have HCE := Lib.hid hCE
      have hcell' : wr.cell? ⟨W1.heap.size + 1 + 1 + 1 + 1, k, none⟩ = some (.slice R l.length cr) := by have h := hcell; rwa [add_zero'] at h
      have hcell2' : wr.cell? ⟨W1.heap.size + 1 + 1 + 1 + 1 + 1 + 1 + 1 + 1, k, none⟩ = some (.slice R2 m.length cr2) := by have h := hcell2; rwa [add_zero'] at h
      clear hcell hcell2
      have hcell := hcell'
      have hcell2 := hcell2'
      have x0 := later_cell (KTw.out.cell (i := 0) rfl)
      have x1 := later_cell hcell
      have HCell := Lib.hid hcell2
      have HRI := Lib.hid hrI2
      have hkn : (k : Int) < 3 := by omega
      clear hl hm hcell hcell2 hcell' hcell2' hrI hrI2 hCE k1
      go_wp2_with fail
      have HS0 : Hid ((fun w' => ∃ u : Later wr, w' = u.w) wr.drew) := ⟨⟨wr.drew, (Below.refl _ _).drew⟩, rfl⟩
      refine wp_region_noPanic ?_
      refine wp_region_ord (fun w' => ∃ u : Later wr, w' = u.w) 10 (fun k => !(k == 5 || k == 9 || k == 10)) (ordOf _ [0, 1, 2, 3, 4, 5, 6, 7, 8, 9, 10]) (by kernel_rfl) (by kernel_rfl) (ordOf_mem _ _) (fun _ _ _ _ _ h => h) ?_
      simp only [ordOf, List.filterMap_cons, List.filterMap_nil, List.getElem?_cons_zero, List.getElem?_cons_succ, Option.map_some]
      iterate 5 (refine ord_quiet rfl rfl rfl HS0.out ?_; intro K hK; go_big_quiet_op; go_big_quiet_on)
      clear x0 x1
      refine ord_op rfl ?_
      go_wp2_with fail
      refine HCE.out.mono ?_
      rintro e W3 ⟨v3, rfl, hr3, hb3⟩
      have HB3 : Hid (Below wr.heap.size wr W3) := below_of_drew hb3
      obtain ⟨A3, c3, rfl, hI3, _, _⟩ := rdI_of_own hr3 rfl
      have HI3 := Lib.hid hI3
      clear hr3 hb3 hI3 HCE
      dsimp only
      go_wp2_with fail
      have HS3 : Hid ((fun w' => ∃ u : Later wr, w' = u.w) W3) := ⟨⟨W3, HB3.out⟩, rfl⟩
      refine mix_post (fun _ => HS3.out) ?_
      iterate 3 (refine ord_quiet rfl rfl rfl HS3.out ?_; intro K hK; go_big_quiet_op; go_big_quiet_on)
      refine ord_op rfl ?_
      go_wp2_with fail
      refine mix_post (fun _ => HS3.out) ?_
      refine ord_op rfl ?_
      go_wp2_with fail
      refine mix_post (fun h => absurd h (by decide)) ?_
      refine ord_nil ?_
      refine NoPanic.normal ?_
      have hC := ints_any m m A3 m.length c3 R2 m.length cr2 W3 HI3.out (HRI.out.below HB3.out) (by omega)
      rw [show decide (m = m) = true from decide_eq_true rfl] at hC
      have HC := Lib.hid hC
      have hc2 := cell_below HB3.out HCell.out
      clear hC HS3
      go_wp2_with fail
      refine HC.out.mono ?_
      rintro e W4 ⟨rfl, hb4⟩
      have HB4 : Hid (Below W2.heap.size W2 W4) := HB.out.trans ((HB3.out.trans (hb4.mono HB3.out.size)).mono HB.out.size)
      clear hb4
      go_wp2_with fail
      go_roundw
      case rel => exact ⟨k + 1, by omega, by go_num, HB4.out⟩
      case measure => simp [intOf]; omega
    · obtain rfl : k = 3 := by omega
      have HB3 := HBw
      have HT3 := HTw
      have KT3 := KTw
      clear HB HBw HTw KTw HB2 HT2 KT2 HB1 HS HN
      have q0 := KT3.out.cell (i := 0) rfl
      have qz := KT3.out.lt
      go_wp2_with fail
      obtain ⟨X4, hX, hb, b0⟩ := bk_i wr #[.int .i64 0, .int .i64 1]
      rw [hX]
      have HK4_0 := Lib.hid b0
      have HB4 : Hid (Below w.heap.size w X4) := HB3.out.trans (hb.mono HB3.out.size)
      have HT4 := Lib.hid (HT3.out.below hb)
      have KT4 := Lib.hid (KT3.out.later hb)
      clear HB3 HT3 KT3 hX hb q0 qz b0
      have hC := Left_any exT [0, 1] 5 A 8 8 ms (some ⟨wr.heap.size, 0, none⟩) 2 X4 HT4.out (Nat.le_refl _) (RdI.blk [0, 1] HK4_0.out rfl) (by decide)
      rw [kn_left.1] at hC
      have HC := Lib.hid hC
      clear hC
      refine HC.out.mono ?_
      rintro e X5 ⟨rfl, hb⟩
      have HB5 : Hid (Below w.heap.size w X5) := HB4.out.trans (hb.mono HB4.out.size)
      have HT5 := Lib.hid (HT4.out.below hb)
      have KT5 := Lib.hid (KT4.out.later hb)
      clear HB4 HT4 KT4 hb HC
      try dsimp only
      have q0 := KT5.out.cell (i := 0) rfl
      have qz := KT5.out.lt
      go_wp2_with fail
      obtain ⟨X6, hX, hb, b0⟩ := bk_i X5 #[.int .i64 0, .int .i64 3]
      rw [hX]
      have HK6_0 := Lib.hid b0
      have HB6 : Hid (Below w.heap.size w X6) := HB5.out.trans (hb.mono HB5.out.size)
      have HT6 := Lib.hid (HT5.out.below hb)
      have KT6 := Lib.hid (KT5.out.later hb)
      clear HB5 HT5 KT5 hX hb q0 qz b0
      have hC := Left_any exT [0, 3] 7 A 8 8 ms (some ⟨X5.heap.size, 0, none⟩) 2 X6 HT6.out (Nat.le_refl _) (RdI.blk [0, 3] HK6_0.out rfl) (by decide)
      rw [kn_left.2.1] at hC
      have HC := Lib.hid hC
      clear hC
      refine HC.out.mono ?_
      rintro e X7 ⟨rfl, hb⟩
      have HB7 : Hid (Below w.heap.size w X7) := HB6.out.trans (hb.mono HB6.out.size)
      have HT7 := Lib.hid (HT6.out.below hb)
      have KT7 := Lib.hid (KT6.out.later hb)
      clear HB6 HT6 KT6 hb HC
      try dsimp only
      have q0 := KT7.out.cell (i := 0) rfl
      have qz := KT7.out.lt
      go_wp2_with fail
      obtain ⟨X8, hX, hb, b0⟩ := bk_i X7 #[.int .i64 0]
      rw [hX]
      have HK8_0 := Lib.hid b0
      have HB8 : Hid (Below w.heap.size w X8) := HB7.out.trans (hb.mono HB7.out.size)
      have HT8 := Lib.hid (HT7.out.below hb)
      have KT8 := Lib.hid (KT7.out.later hb)
      clear HB7 HT7 KT7 hX hb q0 qz b0
      have hC := Left_any exT [0] 7 A 8 8 ms (some ⟨X7.heap.size, 0, none⟩) 1 X8 HT8.out (Nat.le_refl _) (RdI.blk [0] HK8_0.out rfl) (by decide)
      rw [kn_left.2.2] at hC
      have HC := Lib.hid hC
      clear hC
      refine HC.out.mono ?_
      rintro e X9 ⟨rfl, hb⟩
      have HB9 : Hid (Below w.heap.size w X9) := HB8.out.trans (hb.mono HB8.out.size)
      have HT9 := Lib.hid (HT8.out.below hb)
      have KT9 := Lib.hid (KT8.out.later hb)
      clear HB8 HT8 KT8 hb HC
      try dsimp only
      have q0 := KT9.out.cell (i := 0) rfl
      have qz := KT9.out.lt
      go_wp2_with fail
      have hC := Causes_any exT 5 A 8 8 ms X9 HT9.out (Nat.le_refl _)
      rw [kn_sets.1] at hC
      have HC := Lib.hid hC
      clear hC
      refine HC.out.mono ?_
      rintro e X10 ⟨v, psLC, rfl, hr, hps, hb⟩
      dsimp only at hps
      obtain ⟨VLC, cLC, rfl, hLs⟩ := hr.lsm (short_of hps (by decide))
      rw [hps] at hLs
      have LC_10 := Lib.hid hLs
      have LCn : psLC.length ≤ 1000000000000000 := by have := congrArg List.length hps; rw [List.length_map] at this; rw [this]; decide
      have HLCn := Lib.hid LCn
      clear hr hps hLs LCn
      have HB10 : Hid (Below w.heap.size w X10) := HB9.out.trans (hb.mono HB9.out.size)
      have HT10 := Lib.hid (HT9.out.below hb)
      have KT10 := Lib.hid (KT9.out.later hb)
      clear HB9 HT9 KT9 hb HC q0 qz
      dsimp only
      have q0 := KT10.out.cell (i := 0) rfl
      have qz := KT10.out.lt
      go_wp2_with fail
      have hC := Guards_any exT 5 A 8 8 ms X10 HT10.out (Nat.le_refl _)
      rw [kn_sets.2.1] at hC
      have HC := Lib.hid hC
      clear hC
      refine HC.out.mono ?_
      rintro e X11 ⟨v, psLD, rfl, hr, hps, hb⟩
      dsimp only at hps
      obtain ⟨VLD, cLD, rfl, hLs⟩ := hr.lsm (short_of hps (by decide))
      rw [hps] at hLs
      have LD_11 := Lib.hid hLs
      have LDn : psLD.length ≤ 1000000000000000 := by have := congrArg List.length hps; rw [List.length_map] at this; rw [this]; decide
      have HLDn := Lib.hid LDn
      clear hr hps hLs LDn
      have HB11 : Hid (Below w.heap.size w X11) := HB10.out.trans (hb.mono HB10.out.size)
      have HT11 := Lib.hid (HT10.out.below hb)
      have KT11 := Lib.hid (KT10.out.later hb)
      have LC_11 := Lib.hid (LC_10.out.below hb)
      clear HB10 HT10 KT10 LC_10 hb HC q0 qz
      dsimp only
      have q0 := KT11.out.cell (i := 0) rfl
      have qz := KT11.out.lt
      go_wp2_with fail
      have hC := Guards_any exT 7 A 8 8 ms X11 HT11.out (Nat.le_refl _)
      rw [kn_sets.2.2] at hC
      have HC := Lib.hid hC
      clear hC
      refine HC.out.mono ?_
      rintro e X12 ⟨v, psLE, rfl, hr, hps, hb⟩
      dsimp only at hps
      obtain ⟨VLE, cLE, rfl, hLs⟩ := hr.lsm (short_of hps (by decide))
      rw [hps] at hLs
      have LE_12 := Lib.hid hLs
      have LEn : psLE.length ≤ 1000000000000000 := by have := congrArg List.length hps; rw [List.length_map] at this; rw [this]; decide
      have HLEn := Lib.hid LEn
      clear hr hps hLs LEn
      have HB12 : Hid (Below w.heap.size w X12) := HB11.out.trans (hb.mono HB11.out.size)
      have HT12 := Lib.hid (HT11.out.below hb)
      have KT12 := Lib.hid (KT11.out.later hb)
      have LC_12 := Lib.hid (LC_11.out.below hb)
      have LD_12 := Lib.hid (LD_11.out.below hb)
      clear HB11 HT11 KT11 LC_11 LD_11 hb HC q0 qz
      dsimp only
      have q0 := KT12.out.cell (i := 0) rfl
      have qz := KT12.out.lt
      go_wp2_with fail
      obtain ⟨X13, hX, hb, b0, b1, b2⟩ := bk_iis X12 #[.int .i64 2] #[.int .i64 0, .int .i64 1] #[.slice (some ⟨X12.heap.size, 0, none⟩) 1 1, .slice (some ⟨X12.heap.size + 1, 0, none⟩) 2 2]
      rw [hX]
      have HK13_0 := Lib.hid b0
      have HK13_1 := Lib.hid b1
      have HK13_2 := Lib.hid b2
      have HB13 : Hid (Below w.heap.size w X13) := HB12.out.trans (hb.mono HB12.out.size)
      have HT13 := Lib.hid (HT12.out.below hb)
      have KT13 := Lib.hid (KT12.out.later hb)
      have LC_13 := Lib.hid (LC_12.out.below hb)
      have LD_13 := Lib.hid (LD_12.out.below hb)
      have LE_13 := Lib.hid (LE_12.out.below hb)
      clear HB12 HT12 KT12 LC_12 LD_12 LE_12 hX hb q0 qz b0 b1 b2
      have hw : LsM X13 (some ⟨X12.heap.size + 1 + 1, 0, none⟩) 2 [[2], [0, 1]] [([2], some ⟨X12.heap.size, 0, none⟩, 1), ([0, 1], some ⟨X12.heap.size + 1, 0, none⟩, 2)] := LsM.blk [([2], some ⟨X12.heap.size, 0, none⟩, 1), ([0, 1], some ⟨X12.heap.size + 1, 0, none⟩, 2)] HK13_2.out rfl (fun p hp => by
        simp only [List.mem_cons, List.not_mem_nil, or_false] at hp
        rcases hp with rfl | rfl
        · exact ⟨RdI.blk [2] HK13_0.out rfl, show 1 ≤ 1000000000000000 by decide⟩
        · exact ⟨RdI.blk [0, 1] HK13_1.out rfl, show 2 ≤ 1000000000000000 by decide⟩)
      have HWn := Lib.hid hw
      clear hw
      have hC := sameSets_any [[2], [0, 1]] [[2], [0, 1]] VLC psLC.length cLC psLC (some ⟨X12.heap.size + 1 + 1, 0, none⟩) 2 2 [([2], some ⟨X12.heap.size, 0, none⟩, 1), ([0, 1], some ⟨X12.heap.size + 1, 0, none⟩, 2)] X13 LC_13.out HWn.out HLCn.out
      rw [show decide (([[2], [0, 1]] : List (List Int)) = [[2], [0, 1]]) = true from decide_eq_true rfl] at hC
      have HC := Lib.hid hC
      clear hC
      refine HC.out.mono ?_
      rintro e X14 ⟨rfl, hb⟩
      have HB14 : Hid (Below w.heap.size w X14) := HB13.out.trans (hb.mono HB13.out.size)
      have HT14 := Lib.hid (HT13.out.below hb)
      have KT14 := Lib.hid (KT13.out.later hb)
      have LC_14 := Lib.hid (LC_13.out.below hb)
      have LD_14 := Lib.hid (LD_13.out.below hb)
      have LE_14 := Lib.hid (LE_13.out.below hb)
      clear HB13 HT13 KT13 LC_13 LD_13 LE_13 hb HC
      try dsimp only
      go_wp2_with fail
      have q0 := True.intro
      have qz := True.intro
      obtain ⟨X15, hX, hb, b0, b1, b2⟩ := bk_iis X14 #[.int .i64 0, .int .i64 2] #[.int .i64 1, .int .i64 2] #[.slice (some ⟨X14.heap.size, 0, none⟩) 2 2, .slice (some ⟨X14.heap.size + 1, 0, none⟩) 2 2]
      rw [hX]
      have HK15_0 := Lib.hid b0
      have HK15_1 := Lib.hid b1
      have HK15_2 := Lib.hid b2
      have HB15 : Hid (Below w.heap.size w X15) := HB14.out.trans (hb.mono HB14.out.size)
      have HT15 := Lib.hid (HT14.out.below hb)
      have KT15 := Lib.hid (KT14.out.later hb)
      have LD_15 := Lib.hid (LD_14.out.below hb)
      have LE_15 := Lib.hid (LE_14.out.below hb)
      clear HB14 HT14 KT14 LD_14 LE_14 hX hb q0 qz b0 b1 b2
      have hw : LsM X15 (some ⟨X14.heap.size + 1 + 1, 0, none⟩) 2 [[0, 2], [1, 2]] [([0, 2], some ⟨X14.heap.size, 0, none⟩, 2), ([1, 2], some ⟨X14.heap.size + 1, 0, none⟩, 2)] := LsM.blk [([0, 2], some ⟨X14.heap.size, 0, none⟩, 2), ([1, 2], some ⟨X14.heap.size + 1, 0, none⟩, 2)] HK15_2.out rfl (fun p hp => by
        simp only [List.mem_cons, List.not_mem_nil, or_false] at hp
        rcases hp with rfl | rfl
        · exact ⟨RdI.blk [0, 2] HK15_0.out rfl, show 2 ≤ 1000000000000000 by decide⟩
        · exact ⟨RdI.blk [1, 2] HK15_1.out rfl, show 2 ≤ 1000000000000000 by decide⟩)
      have HWn := Lib.hid hw
      clear hw
      have hC := sameSets_any [[0, 2], [1, 2]] [[0, 2], [1, 2]] VLD psLD.length cLD psLD (some ⟨X14.heap.size + 1 + 1, 0, none⟩) 2 2 [([0, 2], some ⟨X14.heap.size, 0, none⟩, 2), ([1, 2], some ⟨X14.heap.size + 1, 0, none⟩, 2)] X15 LD_15.out HWn.out HLDn.out
      rw [show decide (([[0, 2], [1, 2]] : List (List Int)) = [[0, 2], [1, 2]]) = true from decide_eq_true rfl] at hC
      have HC := Lib.hid hC
      clear hC
      refine HC.out.mono ?_
      rintro e X16 ⟨rfl, hb⟩
      have HB16 : Hid (Below w.heap.size w X16) := HB15.out.trans (hb.mono HB15.out.size)
      have HT16 := Lib.hid (HT15.out.below hb)
      have KT16 := Lib.hid (KT15.out.later hb)
      have LD_16 := Lib.hid (LD_15.out.below hb)
      have LE_16 := Lib.hid (LE_15.out.below hb)
      clear HB15 HT15 KT15 LD_15 LE_15 hb HC
      try dsimp only
      go_wp2_with fail
      have q0 := True.intro
      have qz := True.intro
      obtain ⟨X17, hX, hb, b0, b1, b2, b3⟩ := bk_iiis X16 #[.int .i64 0, .int .i64 2] #[.int .i64 0, .int .i64 3] #[.int .i64 1, .int .i64 2, .int .i64 3] #[.slice (some ⟨X16.heap.size, 0, none⟩) 2 2, .slice (some ⟨X16.heap.size + 1, 0, none⟩) 2 2, .slice (some ⟨X16.heap.size + 1 + 1, 0, none⟩) 3 3]
      rw [hX]
      have HK17_0 := Lib.hid b0
      have HK17_1 := Lib.hid b1
      have HK17_2 := Lib.hid b2
      have HK17_3 := Lib.hid b3
      have HB17 : Hid (Below w.heap.size w X17) := HB16.out.trans (hb.mono HB16.out.size)
      have HT17 := Lib.hid (HT16.out.below hb)
      have KT17 := Lib.hid (KT16.out.later hb)
      have LE_17 := Lib.hid (LE_16.out.below hb)
      clear HB16 HT16 KT16 LE_16 hX hb q0 qz b0 b1 b2 b3
      have hw : LsM X17 (some ⟨X16.heap.size + 1 + 1 + 1, 0, none⟩) 3 [[0, 2], [0, 3], [1, 2, 3]] [([0, 2], some ⟨X16.heap.size, 0, none⟩, 2), ([0, 3], some ⟨X16.heap.size + 1, 0, none⟩, 2), ([1, 2, 3], some ⟨X16.heap.size + 1 + 1, 0, none⟩, 3)] := LsM.blk [([0, 2], some ⟨X16.heap.size, 0, none⟩, 2), ([0, 3], some ⟨X16.heap.size + 1, 0, none⟩, 2), ([1, 2, 3], some ⟨X16.heap.size + 1 + 1, 0, none⟩, 3)] HK17_3.out rfl (fun p hp => by
        simp only [List.mem_cons, List.not_mem_nil, or_false] at hp
        rcases hp with rfl | rfl | rfl
        · exact ⟨RdI.blk [0, 2] HK17_0.out rfl, show 2 ≤ 1000000000000000 by decide⟩
        · exact ⟨RdI.blk [0, 3] HK17_1.out rfl, show 2 ≤ 1000000000000000 by decide⟩
        · exact ⟨RdI.blk [1, 2, 3] HK17_2.out rfl, show 3 ≤ 1000000000000000 by decide⟩)
      have HWn := Lib.hid hw
      clear hw
      have hC := sameSets_any [[0, 2], [0, 3], [1, 2, 3]] [[0, 2], [0, 3], [1, 2, 3]] VLE psLE.length cLE psLE (some ⟨X16.heap.size + 1 + 1 + 1, 0, none⟩) 3 3 [([0, 2], some ⟨X16.heap.size, 0, none⟩, 2), ([0, 3], some ⟨X16.heap.size + 1, 0, none⟩, 2), ([1, 2, 3], some ⟨X16.heap.size + 1 + 1, 0, none⟩, 3)] X17 LE_17.out HWn.out HLEn.out
      rw [show decide (([[0, 2], [0, 3], [1, 2, 3]] : List (List Int)) = [[0, 2], [0, 3], [1, 2, 3]]) = true from decide_eq_true rfl] at hC
      have HC := Lib.hid hC
      clear hC
      refine HC.out.mono ?_
      rintro e X18 ⟨rfl, hb⟩
      have HB18 : Hid (Below w.heap.size w X18) := HB17.out.trans (hb.mono HB17.out.size)
      have HT18 := Lib.hid (HT17.out.below hb)
      have KT18 := Lib.hid (KT17.out.later hb)
      have LE_18 := Lib.hid (LE_17.out.below hb)
      clear HB17 HT17 KT17 LE_17 hb HC
      try dsimp only
      clear HWn
      have q0 := KT18.out.cell (i := 0) rfl
      have qz := KT18.out.lt
      go_wp2_with fail
      obtain ⟨X19, hX, hb, b0, b1⟩ := bk_ii X18 #[.int .i64 1, .int .i64 2] #[.int .i64 0, .int .i64 3]
      rw [hX]
      have HK19_0 := Lib.hid b0
      have HK19_1 := Lib.hid b1
      have HB19 : Hid (Below w.heap.size w X19) := HB18.out.trans (hb.mono HB18.out.size)
      have HT19 := Lib.hid (HT18.out.below hb)
      have KT19 := Lib.hid (KT18.out.later hb)
      clear HB18 HT18 KT18 hX hb q0 qz b0 b1
      have hC := Proves_any exT 7 [1, 2] [0, 3] A 8 8 ms (some ⟨X18.heap.size, 0, none⟩) 2 (some ⟨X18.heap.size + 1, 0, none⟩) 2 X19 HT19.out (Nat.le_refl _) (RdI.blk [1, 2] HK19_0.out rfl) (by decide) (RdI.blk [0, 3] HK19_1.out rfl) (by decide)
      rw [kn_prov.1] at hC
      have HC := Lib.hid hC
      clear hC
      refine HC.out.mono ?_
      rintro e X20 ⟨rfl, hb⟩
      have HB20 : Hid (Below w.heap.size w X20) := HB19.out.trans (hb.mono HB19.out.size)
      have HT20 := Lib.hid (HT19.out.below hb)
      have KT20 := Lib.hid (KT19.out.later hb)
      clear HB19 HT19 KT19 hb HC
      try dsimp only
      have q0 := KT20.out.cell (i := 0) rfl
      have qz := KT20.out.lt
      go_wp2_with fail
      obtain ⟨X21, hX, hb, b0, b1⟩ := bk_ii X20 #[.int .i64 1, .int .i64 2] #[.int .i64 0]
      rw [hX]
      have HK21_0 := Lib.hid b0
      have HK21_1 := Lib.hid b1
      have HB21 : Hid (Below w.heap.size w X21) := HB20.out.trans (hb.mono HB20.out.size)
      have HT21 := Lib.hid (HT20.out.below hb)
      have KT21 := Lib.hid (KT20.out.later hb)
      clear HB20 HT20 KT20 hX hb q0 qz b0 b1
      have hC := Proves_any exT 7 [1, 2] [0] A 8 8 ms (some ⟨X20.heap.size, 0, none⟩) 2 (some ⟨X20.heap.size + 1, 0, none⟩) 1 X21 HT21.out (Nat.le_refl _) (RdI.blk [1, 2] HK21_0.out rfl) (by decide) (RdI.blk [0] HK21_1.out rfl) (by decide)
      rw [kn_prov.2] at hC
      have HC := Lib.hid hC
      clear hC
      refine HC.out.mono ?_
      rintro e X22 ⟨rfl, hb⟩
      have HB22 : Hid (Below w.heap.size w X22) := HB21.out.trans (hb.mono HB21.out.size)
      have HT22 := Lib.hid (HT21.out.below hb)
      have KT22 := Lib.hid (KT21.out.later hb)
      clear HB21 HT21 KT21 hb HC
      try dsimp only
      have q0 := KT22.out.cell (i := 0) rfl
      have qz := KT22.out.lt
      go_wp2_with fail
      have hC := Count_any exT 5 A 8 8 ms X22 HT22.out (Nat.le_refl _)
      rw [kn_cnt.1] at hC
      have HC := Lib.hid hC
      clear hC
      refine HC.out.mono ?_
      rintro e X23 ⟨rfl, hb⟩
      have HB23 : Hid (Below w.heap.size w X23) := HB22.out.trans (hb.mono HB22.out.size)
      have HT23 := Lib.hid (HT22.out.below hb)
      have KT23 := Lib.hid (KT22.out.later hb)
      clear HB22 HT22 KT22 hb HC
      try dsimp only
      clear q0 qz
      have q0 := KT23.out.cell (i := 0) rfl
      have qz := KT23.out.lt
      go_wp2_with fail
      have hC := Count_any exT 7 A 8 8 ms X23 HT23.out (Nat.le_refl _)
      rw [kn_cnt.2.1] at hC
      have HC := Lib.hid hC
      clear hC
      refine HC.out.mono ?_
      rintro e X24 ⟨rfl, hb⟩
      have HB24 : Hid (Below w.heap.size w X24) := HB23.out.trans (hb.mono HB23.out.size)
      have HT24 := Lib.hid (HT23.out.below hb)
      have KT24 := Lib.hid (KT23.out.later hb)
      clear HB23 HT23 KT23 hb HC
      try dsimp only
      clear q0 qz
      have q0 := KT24.out.cell (i := 0) rfl
      have qz := KT24.out.lt
      go_wp2_with fail
      have hC := Weight_any exT 7 3 A 8 8 ms X24 HT24.out (Nat.le_refl _)
      rw [kn_cnt.2.2.1] at hC
      have HC := Lib.hid hC
      clear hC
      refine HC.out.mono ?_
      rintro e X25 ⟨rfl, hb⟩
      have HB25 : Hid (Below w.heap.size w X25) := HB24.out.trans (hb.mono HB24.out.size)
      have HT25 := Lib.hid (HT24.out.below hb)
      have KT25 := Lib.hid (KT24.out.later hb)
      clear HB24 HT24 KT24 hb HC
      try dsimp only
      clear q0 qz
      have q0 := KT25.out.cell (i := 0) rfl
      have qz := KT25.out.lt
      go_wp2_with fail
      have hC := Weight_any exT 7 0 A 8 8 ms X25 HT25.out (Nat.le_refl _)
      rw [kn_cnt.2.2.2] at hC
      have HC := Lib.hid hC
      clear hC
      refine HC.out.mono ?_
      rintro e X26 ⟨rfl, hb⟩
      have HB26 : Hid (Below w.heap.size w X26) := HB25.out.trans (hb.mono HB25.out.size)
      have HT26 := Lib.hid (HT25.out.below hb)
      have KT26 := Lib.hid (KT25.out.later hb)
      clear HB25 HT25 KT25 hb HC
      try dsimp only
      clear q0 qz
      have q0 := KT26.out.cell (i := 0) rfl
      have qz := KT26.out.lt
      go_wp2_with fail
      obtain ⟨X27, hX, hb, b0⟩ := bk_i X26 #[.int .i64 0, .int .i64 1]
      rw [hX]
      have HK27_0 := Lib.hid b0
      have HB27 : Hid (Below w.heap.size w X27) := HB26.out.trans (hb.mono HB26.out.size)
      have HT27 := Lib.hid (HT26.out.below hb)
      have KT27 := Lib.hid (KT26.out.later hb)
      clear HB26 HT26 KT26 hX hb q0 qz b0
      have hC := Saves_any exT [0, 1] 5 4 A 8 8 ms (some ⟨X26.heap.size, 0, none⟩) 2 X27 HT27.out (Nat.le_refl _) (RdI.blk [0, 1] HK27_0.out rfl) (by decide)
      rw [kn_saves] at hC
      have HC := Lib.hid hC
      clear hC
      refine HC.out.mono ?_
      rintro e X28 ⟨v, rfl, hr, hb⟩
      obtain ⟨As, cs, rfl, _, _, _⟩ := rdI_of_own hr rfl
      clear hr
      have HB28 : Hid (Below w.heap.size w X28) := HB27.out.trans (hb.mono HB27.out.size)
      have HT28 := Lib.hid (HT27.out.below hb)
      have KT28 := Lib.hid (KT27.out.later hb)
      clear HB27 HT27 KT27 hb HC
      try dsimp only
      have q0 := KT28.out.cell (i := 0) rfl
      have qz := KT28.out.lt
      go_wp2_with fail
      obtain ⟨X29, hX, hb, b0⟩ := bk_p X28 #[.int .i64 0, .int .i64 1, .int .i64 9, .int .i64 1, .int .i64 2, .int .i64 20]
      rw [hX]
      have HK29_0 := Lib.hid b0
      have HB29 : Hid (Below w.heap.size w X29) := HB28.out.trans (hb.mono HB28.out.size)
      have HT29 := Lib.hid (HT28.out.below hb)
      have KT29 := Lib.hid (KT28.out.later hb)
      clear HB28 HT28 KT28 hX hb q0 qz b0
      have hC := Run_any exT [(⟨0, 1, 9⟩ : Sp), ⟨1, 2, 20⟩] 12 A 8 8 ms (some ⟨X28.heap.size, 0, none⟩) 2 X29 HT29.out (Nat.le_refl _) (rd_blk (enc := Sp.enc) (z := 3) (fun _ => rfl) HK29_0.out [(⟨0, 1, 9⟩ : Sp), ⟨1, 2, 20⟩] rfl) (by decide)
      have HC := Lib.hid hC
      clear hC
      refine HC.out.mono ?_
      rintro e X30 ⟨v, ps, rfl, hRo, hps, hb⟩
      obtain ⟨hX0, hX1, hX2, hX3⟩ := kn_run
      rw [hX0]
      obtain ⟨A5, c5, e5, hsps⟩ := hRo.sps
      subst e5
      rw [hps] at hsps
      have hln : ps.length = 8 := by rw [← hX1, ← hps, List.length_map]
      rw [hln] at hsps ⊢
      have HR_30 := Lib.hid hsps
      have HX2 := Lib.hid hX2; have HX3 := Lib.hid hX3
      clear hRo hps hsps hln hX0 hX1 hX2 hX3
      have HB30 : Hid (Below w.heap.size w X30) := HB29.out.trans (hb.mono HB29.out.size)
      have HT30 := Lib.hid (HT29.out.below hb)
      have KT30 := Lib.hid (KT29.out.later hb)
      clear HB29 HT29 KT29 hb HC
      try dsimp only
      generalize (runT exT [(⟨0, 1, 9⟩ : Sp), ⟨1, 2, 20⟩] 12).1 = RR at *
      obtain ⟨l4, B4, d4, sd, h4, hA5, hcell4, hrd4⟩ := HR_30.out.get (i := 4) (by omega)
      rw [HX2.out] at h4
      cases h4
      cases hA5
      obtain ⟨l7, B7, d7, sd2, h7, hA7, hcell7, hrd7⟩ := HR_30.out.get (i := 7) (by omega)
      rw [HX3.out] at h7
      cases h7
      cases hA7
      have hc4 : X30.cell? ⟨sd.block, sd.off + 4, none⟩ = some (.slice B4 1 d4) := hcell4
      have hc7 : X30.cell? ⟨sd.block, sd.off + 7, none⟩ = some (.slice B7 1 d7) := hcell7
      have HR4 := Lib.hid hrd4; have HR7 := Lib.hid hrd7
      have x4 := later_cell hc4
      have x7 := later_cell hc7
      clear hcell4 hcell7 hrd4 hrd7 hc4 hc7
      go_wp2_with fail
      refine wp_region_noPanic ?_
      refine wp_region_fork3 (fun w' => ∃ u : Later X30, w' = u.w) 12 (fun k => decide (k < 6) || k == 7 || k == 9) (fkOf3 _ (.op 0 (.op 1 (.op 2 (.op 3 (.op 4 (.op 5 (.op 7 (.op 9 (.three 6 (.two 8 (.op 10 (.op 11 (.op 12 (.op 13 (.op 14 (.op 15 (.op 16 .nil))))))) 10 (.op 8 (.op 11 (.op 12 (.op 13 (.op 14 (.op 15 (.op 16 .nil)))))))) 8 (.two 6 (.op 10 (.op 11 (.op 12 (.op 13 (.op 14 (.op 15 (.op 16 .nil))))))) 10 (.two 6 (.op 11 (.op 12 (.op 13 (.op 14 (.op 15 (.op 16 .nil)))))) 11 (.op 6 (.op 12 (.op 13 (.op 14 (.op 15 (.op 16 .nil)))))))) 10 (.two 6 (.op 8 (.op 11 (.op 12 (.op 13 (.op 14 (.op 15 (.op 16 .nil))))))) 8 (.two 6 (.op 11 (.op 12 (.op 13 (.op 14 (.op 15 (.op 16 .nil)))))) 11 (.op 6 (.op 12 (.op 13 (.op 14 (.op 15 (.op 16 .nil)))))))))))))))))) (by kernel_rfl) (by kernel_rfl) (fkOf_mem3 _ _) (fun _ _ _ _ _ h => h) ?_
      have HS0 : Hid ((fun w' => ∃ u : Later X30, w' = u.w) X30.drew) := ⟨⟨X30.drew, (Below.refl _ _).drew⟩, rfl⟩
      simp only [fkOf3, List.getElem?_cons_zero, List.getElem?_cons_succ]
      iterate 8 (refine fk_quiet3 rfl rfl rfl HS0.out ?_; intro K hK; go_big_quiet_op; go_big_quiet_on)
      clear x4 x7 HS0
      refine fk_three3 ?_ ?_ ?_
      · go_wp2
        refine mix_post (fun _ => ⟨⟨_, ((Below.refl _ X30).alloc (Nat.le_refl _) _).drew⟩, rfl⟩) ?_
        refine fk_two3 ?_ ?_
        · go_wp2
          refine mix_post (fun _ => ⟨⟨_, (((Below.refl _ X30).alloc (Nat.le_refl _) _).alloc (by simp) _).drew⟩, rfl⟩) ?_
          refine fk_one3 rfl ?_
          go_wp2
          refine mix_post (fun _ => ⟨⟨_, ((((Below.refl _ X30).alloc (Nat.le_refl _) _).alloc (by simp) _).alloc (by simp; omega) _).drew⟩, rfl⟩) ?_
          refine fk_one3 rfl ?_
          go_wp2
          refine mix_post (fun _ => ⟨⟨_, (((((Below.refl _ X30).alloc (Nat.le_refl _) _).alloc (by simp) _).alloc (by simp; omega) _).alloc (by simp; omega) _).drew⟩, rfl⟩) ?_
          refine fk_one3 rfl ?_
          go_wp2_with fail
          obtain ⟨Wz, hX, hb, k0, k1, k2, k3⟩ := bk_rppr X30 #[.slice B4 1 d4, .slice B7 1 d7] #[.int .i64 4, .int .i64 5, .int .i64 9] #[.int .i64 7, .int .i64 5, .int .i64 9] #[.slice (some ⟨X30.heap.size + 1, 0, none⟩) 1 1, .slice (some ⟨X30.heap.size + 1 + 1, 0, none⟩) 1 1]
          rw [hX]
          have hbz : Below Wz.heap.size Wz Wz.drew := (Below.refl _ _).drew
          have HBz : Hid (Below w.heap.size w Wz.drew) := (HB30.out.trans (hb.mono HB30.out.size)).drew
          have hx : SpsM Wz.drew (some ⟨X30.heap.size, 0, none⟩) 2 [[(⟨4, 5, 9⟩ : Sp)], [⟨7, 5, 9⟩]] [([(⟨4, 5, 9⟩ : Sp)], B4, d4), ([⟨7, 5, 9⟩], B7, d7)] := SpsM.blk [([(⟨4, 5, 9⟩ : Sp)], B4, d4), ([⟨7, 5, 9⟩], B7, d7)] (k0.later hbz) rfl (fun p hp => by
            simp only [List.mem_cons, List.not_mem_nil, or_false] at hp
            rcases hp with rfl | rfl
            · exact HR4.out.below hb.drew
            · exact HR7.out.below hb.drew)
          have hy : SpsM Wz.drew (some ⟨X30.heap.size + 1 + 1 + 1, 0, none⟩) 2 [[(⟨4, 5, 9⟩ : Sp)], [⟨7, 5, 9⟩]] [([(⟨4, 5, 9⟩ : Sp)], some ⟨X30.heap.size + 1, 0, none⟩, 1), ([⟨7, 5, 9⟩], some ⟨X30.heap.size + 1 + 1, 0, none⟩, 1)] := SpsM.blk [([(⟨4, 5, 9⟩ : Sp)], some ⟨X30.heap.size + 1, 0, none⟩, 1), ([⟨7, 5, 9⟩], some ⟨X30.heap.size + 1 + 1, 0, none⟩, 1)] (k3.later hbz) rfl (fun p hp => by
            simp only [List.mem_cons, List.not_mem_nil, or_false] at hp
            rcases hp with rfl | rfl
            · exact rd_blk (enc := Sp.enc) (z := 3) (fun _ => rfl) (k1.later hbz) [(⟨4, 5, 9⟩ : Sp)] rfl
            · exact rd_blk (enc := Sp.enc) (z := 3) (fun _ => rfl) (k2.later hbz) [(⟨7, 5, 9⟩ : Sp)] rfl)
          have hC := sameRuns_any [[(⟨4, 5, 9⟩ : Sp)], [⟨7, 5, 9⟩]] (some ⟨X30.heap.size, 0, none⟩) 2 2 [([(⟨4, 5, 9⟩ : Sp)], B4, d4), ([⟨7, 5, 9⟩], B7, d7)] (some ⟨X30.heap.size + 1 + 1 + 1, 0, none⟩) 2 [([(⟨4, 5, 9⟩ : Sp)], some ⟨X30.heap.size + 1, 0, none⟩, 1), ([⟨7, 5, 9⟩], some ⟨X30.heap.size + 1 + 1, 0, none⟩, 1)] Wz.drew hx hy (by decide) (by decide)
          have HC := Lib.hid hC
          clear hC hx hy k0 k1 k2 k3 hb hbz hX
          refine HC.out.mono ?_
          rintro e W9 ⟨rfl, hb9⟩
          have HB9 : Hid (Below w.heap.size w W9) := HBz.out.trans (hb9.mono HBz.out.size)
          clear hb9 HC
          go_wp2_with fail
          refine mix_post (fun h => absurd h (by decide)) ?_
          refine fk_one3 rfl ?_
          go_wp2_with fail
          refine mix_post (fun h => absurd h (by decide)) ?_
          refine fk_one3 rfl ?_
          go_wp2_with fail
          refine (Awake_any _).mono ?_
          rintro e W10 ⟨rfl, hb10⟩
          have HB10 : Hid (Below w.heap.size w W10) := HB9.out.trans (hb10.mono HB9.out.size)
          clear hb10
          go_wp2_with fail
          refine mix_post (fun h => absurd h (by decide)) ?_
          iterate 2 (refine fk_one3 rfl ?_; go_wp2_with fail; refine mix_post (fun h => absurd h (by decide)) ?_)
          refine fk_nil3 (NoPanic.normal ?_)
          go_wp2_with fail
          go_ret
          exact ⟨rfl, HB10.out⟩
        · go_wp2
          refine mix_post (fun _ => ⟨⟨_, (((Below.refl _ X30).alloc (Nat.le_refl _) _).alloc (by simp) _).drew⟩, rfl⟩) ?_
          refine fk_one3 rfl ?_
          go_wp2
          refine mix_post (fun _ => ⟨⟨_, ((((Below.refl _ X30).alloc (Nat.le_refl _) _).alloc (by simp) _).alloc (by simp; omega) _).drew⟩, rfl⟩) ?_
          refine fk_one3 rfl ?_
          go_wp2
          refine mix_post (fun _ => ⟨⟨_, (((((Below.refl _ X30).alloc (Nat.le_refl _) _).alloc (by simp) _).alloc (by simp; omega) _).alloc (by simp; omega) _).drew⟩, rfl⟩) ?_
          refine fk_one3 rfl ?_
          go_wp2_with fail
          obtain ⟨Wz, hX, hb, k0, k1, k2, k3⟩ := bk_rppr X30 #[.slice B4 1 d4, .slice B7 1 d7] #[.int .i64 7, .int .i64 5, .int .i64 9] #[.int .i64 4, .int .i64 5, .int .i64 9] #[.slice (some ⟨X30.heap.size + 1 + 1, 0, none⟩) 1 1, .slice (some ⟨X30.heap.size + 1, 0, none⟩) 1 1]
          rw [hX]
          have hbz : Below Wz.heap.size Wz Wz.drew := (Below.refl _ _).drew
          have HBz : Hid (Below w.heap.size w Wz.drew) := (HB30.out.trans (hb.mono HB30.out.size)).drew
          have hx : SpsM Wz.drew (some ⟨X30.heap.size, 0, none⟩) 2 [[(⟨4, 5, 9⟩ : Sp)], [⟨7, 5, 9⟩]] [([(⟨4, 5, 9⟩ : Sp)], B4, d4), ([⟨7, 5, 9⟩], B7, d7)] := SpsM.blk [([(⟨4, 5, 9⟩ : Sp)], B4, d4), ([⟨7, 5, 9⟩], B7, d7)] (k0.later hbz) rfl (fun p hp => by
            simp only [List.mem_cons, List.not_mem_nil, or_false] at hp
            rcases hp with rfl | rfl
            · exact HR4.out.below hb.drew
            · exact HR7.out.below hb.drew)
          have hy : SpsM Wz.drew (some ⟨X30.heap.size + 1 + 1 + 1, 0, none⟩) 2 [[(⟨4, 5, 9⟩ : Sp)], [⟨7, 5, 9⟩]] [([(⟨4, 5, 9⟩ : Sp)], some ⟨X30.heap.size + 1 + 1, 0, none⟩, 1), ([⟨7, 5, 9⟩], some ⟨X30.heap.size + 1, 0, none⟩, 1)] := SpsM.blk [([(⟨4, 5, 9⟩ : Sp)], some ⟨X30.heap.size + 1 + 1, 0, none⟩, 1), ([⟨7, 5, 9⟩], some ⟨X30.heap.size + 1, 0, none⟩, 1)] (k3.later hbz) rfl (fun p hp => by
            simp only [List.mem_cons, List.not_mem_nil, or_false] at hp
            rcases hp with rfl | rfl
            · exact rd_blk (enc := Sp.enc) (z := 3) (fun _ => rfl) (k2.later hbz) [(⟨4, 5, 9⟩ : Sp)] rfl
            · exact rd_blk (enc := Sp.enc) (z := 3) (fun _ => rfl) (k1.later hbz) [(⟨7, 5, 9⟩ : Sp)] rfl)
          have hC := sameRuns_any [[(⟨4, 5, 9⟩ : Sp)], [⟨7, 5, 9⟩]] (some ⟨X30.heap.size, 0, none⟩) 2 2 [([(⟨4, 5, 9⟩ : Sp)], B4, d4), ([⟨7, 5, 9⟩], B7, d7)] (some ⟨X30.heap.size + 1 + 1 + 1, 0, none⟩) 2 [([(⟨4, 5, 9⟩ : Sp)], some ⟨X30.heap.size + 1 + 1, 0, none⟩, 1), ([⟨7, 5, 9⟩], some ⟨X30.heap.size + 1, 0, none⟩, 1)] Wz.drew hx hy (by decide) (by decide)
          have HC := Lib.hid hC
          clear hC hx hy k0 k1 k2 k3 hb hbz hX
          refine HC.out.mono ?_
          rintro e W9 ⟨rfl, hb9⟩
          have HB9 : Hid (Below w.heap.size w W9) := HBz.out.trans (hb9.mono HBz.out.size)
          clear hb9 HC
          go_wp2_with fail
          refine mix_post (fun h => absurd h (by decide)) ?_
          refine fk_one3 rfl ?_
          go_wp2_with fail
          refine mix_post (fun h => absurd h (by decide)) ?_
          refine fk_one3 rfl ?_
          go_wp2_with fail
          refine (Awake_any _).mono ?_
          rintro e W10 ⟨rfl, hb10⟩
          have HB10 : Hid (Below w.heap.size w W10) := HB9.out.trans (hb10.mono HB9.out.size)
          clear hb10
          go_wp2_with fail
          refine mix_post (fun h => absurd h (by decide)) ?_
          iterate 2 (refine fk_one3 rfl ?_; go_wp2_with fail; refine mix_post (fun h => absurd h (by decide)) ?_)
          refine fk_nil3 (NoPanic.normal ?_)
          go_wp2_with fail
          go_ret
          exact ⟨rfl, HB10.out⟩
      · go_wp2
        refine mix_post (fun _ => ⟨⟨_, ((Below.refl _ X30).alloc (Nat.le_refl _) _).drew⟩, rfl⟩) ?_
        refine fk_two3 ?_ ?_
        · go_wp2
          refine mix_post (fun _ => ⟨⟨_, (((Below.refl _ X30).alloc (Nat.le_refl _) _).alloc (by simp) _).drew⟩, rfl⟩) ?_
          refine fk_one3 rfl ?_
          go_wp2
          refine mix_post (fun _ => ⟨⟨_, ((((Below.refl _ X30).alloc (Nat.le_refl _) _).alloc (by simp) _).alloc (by simp; omega) _).drew⟩, rfl⟩) ?_
          refine fk_one3 rfl ?_
          go_wp2
          refine mix_post (fun _ => ⟨⟨_, (((((Below.refl _ X30).alloc (Nat.le_refl _) _).alloc (by simp) _).alloc (by simp; omega) _).alloc (by simp; omega) _).drew⟩, rfl⟩) ?_
          refine fk_one3 rfl ?_
          go_wp2_with fail
          obtain ⟨Wz, hX, hb, k0, k1, k2, k3⟩ := bk_prpr X30 #[.int .i64 4, .int .i64 5, .int .i64 9] #[.slice B4 1 d4, .slice B7 1 d7] #[.int .i64 7, .int .i64 5, .int .i64 9] #[.slice (some ⟨X30.heap.size, 0, none⟩) 1 1, .slice (some ⟨X30.heap.size + 1 + 1, 0, none⟩) 1 1]
          rw [hX]
          have hbz : Below Wz.heap.size Wz Wz.drew := (Below.refl _ _).drew
          have HBz : Hid (Below w.heap.size w Wz.drew) := (HB30.out.trans (hb.mono HB30.out.size)).drew
          have hx : SpsM Wz.drew (some ⟨X30.heap.size + 1, 0, none⟩) 2 [[(⟨4, 5, 9⟩ : Sp)], [⟨7, 5, 9⟩]] [([(⟨4, 5, 9⟩ : Sp)], B4, d4), ([⟨7, 5, 9⟩], B7, d7)] := SpsM.blk [([(⟨4, 5, 9⟩ : Sp)], B4, d4), ([⟨7, 5, 9⟩], B7, d7)] (k1.later hbz) rfl (fun p hp => by
            simp only [List.mem_cons, List.not_mem_nil, or_false] at hp
            rcases hp with rfl | rfl
            · exact HR4.out.below hb.drew
            · exact HR7.out.below hb.drew)
          have hy : SpsM Wz.drew (some ⟨X30.heap.size + 1 + 1 + 1, 0, none⟩) 2 [[(⟨4, 5, 9⟩ : Sp)], [⟨7, 5, 9⟩]] [([(⟨4, 5, 9⟩ : Sp)], some ⟨X30.heap.size, 0, none⟩, 1), ([⟨7, 5, 9⟩], some ⟨X30.heap.size + 1 + 1, 0, none⟩, 1)] := SpsM.blk [([(⟨4, 5, 9⟩ : Sp)], some ⟨X30.heap.size, 0, none⟩, 1), ([⟨7, 5, 9⟩], some ⟨X30.heap.size + 1 + 1, 0, none⟩, 1)] (k3.later hbz) rfl (fun p hp => by
            simp only [List.mem_cons, List.not_mem_nil, or_false] at hp
            rcases hp with rfl | rfl
            · exact rd_blk (enc := Sp.enc) (z := 3) (fun _ => rfl) (k0.later hbz) [(⟨4, 5, 9⟩ : Sp)] rfl
            · exact rd_blk (enc := Sp.enc) (z := 3) (fun _ => rfl) (k2.later hbz) [(⟨7, 5, 9⟩ : Sp)] rfl)
          have hC := sameRuns_any [[(⟨4, 5, 9⟩ : Sp)], [⟨7, 5, 9⟩]] (some ⟨X30.heap.size + 1, 0, none⟩) 2 2 [([(⟨4, 5, 9⟩ : Sp)], B4, d4), ([⟨7, 5, 9⟩], B7, d7)] (some ⟨X30.heap.size + 1 + 1 + 1, 0, none⟩) 2 [([(⟨4, 5, 9⟩ : Sp)], some ⟨X30.heap.size, 0, none⟩, 1), ([⟨7, 5, 9⟩], some ⟨X30.heap.size + 1 + 1, 0, none⟩, 1)] Wz.drew hx hy (by decide) (by decide)
          have HC := Lib.hid hC
          clear hC hx hy k0 k1 k2 k3 hb hbz hX
          refine HC.out.mono ?_
          rintro e W9 ⟨rfl, hb9⟩
          have HB9 : Hid (Below w.heap.size w W9) := HBz.out.trans (hb9.mono HBz.out.size)
          clear hb9 HC
          go_wp2_with fail
          refine mix_post (fun h => absurd h (by decide)) ?_
          refine fk_one3 rfl ?_
          go_wp2_with fail
          refine mix_post (fun h => absurd h (by decide)) ?_
          refine fk_one3 rfl ?_
          go_wp2_with fail
          refine (Awake_any _).mono ?_
          rintro e W10 ⟨rfl, hb10⟩
          have HB10 : Hid (Below w.heap.size w W10) := HB9.out.trans (hb10.mono HB9.out.size)
          clear hb10
          go_wp2_with fail
          refine mix_post (fun h => absurd h (by decide)) ?_
          iterate 2 (refine fk_one3 rfl ?_; go_wp2_with fail; refine mix_post (fun h => absurd h (by decide)) ?_)
          refine fk_nil3 (NoPanic.normal ?_)
          go_wp2_with fail
          go_ret
          exact ⟨rfl, HB10.out⟩
        · go_wp2
          refine mix_post (fun _ => ⟨⟨_, (((Below.refl _ X30).alloc (Nat.le_refl _) _).alloc (by simp) _).drew⟩, rfl⟩) ?_
          refine fk_two3 ?_ ?_
          · go_wp2
            refine mix_post (fun _ => ⟨⟨_, ((((Below.refl _ X30).alloc (Nat.le_refl _) _).alloc (by simp) _).alloc (by simp; omega) _).drew⟩, rfl⟩) ?_
            refine fk_one3 rfl ?_
            go_wp2
            refine mix_post (fun _ => ⟨⟨_, (((((Below.refl _ X30).alloc (Nat.le_refl _) _).alloc (by simp) _).alloc (by simp; omega) _).alloc (by simp; omega) _).drew⟩, rfl⟩) ?_
            refine fk_one3 rfl ?_
            go_wp2_with fail
            obtain ⟨Wz, hX, hb, k0, k1, k2, k3⟩ := bk_pprr X30 #[.int .i64 4, .int .i64 5, .int .i64 9] #[.int .i64 7, .int .i64 5, .int .i64 9] #[.slice B4 1 d4, .slice B7 1 d7] #[.slice (some ⟨X30.heap.size, 0, none⟩) 1 1, .slice (some ⟨X30.heap.size + 1, 0, none⟩) 1 1]
            rw [hX]
            have hbz : Below Wz.heap.size Wz Wz.drew := (Below.refl _ _).drew
            have HBz : Hid (Below w.heap.size w Wz.drew) := (HB30.out.trans (hb.mono HB30.out.size)).drew
            have hx : SpsM Wz.drew (some ⟨X30.heap.size + 1 + 1, 0, none⟩) 2 [[(⟨4, 5, 9⟩ : Sp)], [⟨7, 5, 9⟩]] [([(⟨4, 5, 9⟩ : Sp)], B4, d4), ([⟨7, 5, 9⟩], B7, d7)] := SpsM.blk [([(⟨4, 5, 9⟩ : Sp)], B4, d4), ([⟨7, 5, 9⟩], B7, d7)] (k2.later hbz) rfl (fun p hp => by
              simp only [List.mem_cons, List.not_mem_nil, or_false] at hp
              rcases hp with rfl | rfl
              · exact HR4.out.below hb.drew
              · exact HR7.out.below hb.drew)
            have hy : SpsM Wz.drew (some ⟨X30.heap.size + 1 + 1 + 1, 0, none⟩) 2 [[(⟨4, 5, 9⟩ : Sp)], [⟨7, 5, 9⟩]] [([(⟨4, 5, 9⟩ : Sp)], some ⟨X30.heap.size, 0, none⟩, 1), ([⟨7, 5, 9⟩], some ⟨X30.heap.size + 1, 0, none⟩, 1)] := SpsM.blk [([(⟨4, 5, 9⟩ : Sp)], some ⟨X30.heap.size, 0, none⟩, 1), ([⟨7, 5, 9⟩], some ⟨X30.heap.size + 1, 0, none⟩, 1)] (k3.later hbz) rfl (fun p hp => by
              simp only [List.mem_cons, List.not_mem_nil, or_false] at hp
              rcases hp with rfl | rfl
              · exact rd_blk (enc := Sp.enc) (z := 3) (fun _ => rfl) (k0.later hbz) [(⟨4, 5, 9⟩ : Sp)] rfl
              · exact rd_blk (enc := Sp.enc) (z := 3) (fun _ => rfl) (k1.later hbz) [(⟨7, 5, 9⟩ : Sp)] rfl)
            have hC := sameRuns_any [[(⟨4, 5, 9⟩ : Sp)], [⟨7, 5, 9⟩]] (some ⟨X30.heap.size + 1 + 1, 0, none⟩) 2 2 [([(⟨4, 5, 9⟩ : Sp)], B4, d4), ([⟨7, 5, 9⟩], B7, d7)] (some ⟨X30.heap.size + 1 + 1 + 1, 0, none⟩) 2 [([(⟨4, 5, 9⟩ : Sp)], some ⟨X30.heap.size, 0, none⟩, 1), ([⟨7, 5, 9⟩], some ⟨X30.heap.size + 1, 0, none⟩, 1)] Wz.drew hx hy (by decide) (by decide)
            have HC := Lib.hid hC
            clear hC hx hy k0 k1 k2 k3 hb hbz hX
            refine HC.out.mono ?_
            rintro e W9 ⟨rfl, hb9⟩
            have HB9 : Hid (Below w.heap.size w W9) := HBz.out.trans (hb9.mono HBz.out.size)
            clear hb9 HC
            go_wp2_with fail
            refine mix_post (fun h => absurd h (by decide)) ?_
            refine fk_one3 rfl ?_
            go_wp2_with fail
            refine mix_post (fun h => absurd h (by decide)) ?_
            refine fk_one3 rfl ?_
            go_wp2_with fail
            refine (Awake_any _).mono ?_
            rintro e W10 ⟨rfl, hb10⟩
            have HB10 : Hid (Below w.heap.size w W10) := HB9.out.trans (hb10.mono HB9.out.size)
            clear hb10
            go_wp2_with fail
            refine mix_post (fun h => absurd h (by decide)) ?_
            iterate 2 (refine fk_one3 rfl ?_; go_wp2_with fail; refine mix_post (fun h => absurd h (by decide)) ?_)
            refine fk_nil3 (NoPanic.normal ?_)
            go_wp2_with fail
            go_ret
            exact ⟨rfl, HB10.out⟩
          · go_wp2
            refine mix_post (fun _ => ⟨⟨_, ((((Below.refl _ X30).alloc (Nat.le_refl _) _).alloc (by simp) _).alloc (by simp; omega) _).drew⟩, rfl⟩) ?_
            refine fk_one3 rfl ?_
            go_wp2
            refine mix_post (fun _ => ⟨⟨_, (((((Below.refl _ X30).alloc (Nat.le_refl _) _).alloc (by simp) _).alloc (by simp; omega) _).alloc (by simp; omega) _).drew⟩, rfl⟩) ?_
            refine fk_one3 rfl ?_
            go_wp2_with fail
            obtain ⟨Wz, hX, hb, k0, k1, k2, k3⟩ := bk_pprr X30 #[.int .i64 4, .int .i64 5, .int .i64 9] #[.int .i64 7, .int .i64 5, .int .i64 9] #[.slice (some ⟨X30.heap.size, 0, none⟩) 1 1, .slice (some ⟨X30.heap.size + 1, 0, none⟩) 1 1] #[.slice B4 1 d4, .slice B7 1 d7]
            rw [hX]
            have hbz : Below Wz.heap.size Wz Wz.drew := (Below.refl _ _).drew
            have HBz : Hid (Below w.heap.size w Wz.drew) := (HB30.out.trans (hb.mono HB30.out.size)).drew
            have hx : SpsM Wz.drew (some ⟨X30.heap.size + 1 + 1 + 1, 0, none⟩) 2 [[(⟨4, 5, 9⟩ : Sp)], [⟨7, 5, 9⟩]] [([(⟨4, 5, 9⟩ : Sp)], B4, d4), ([⟨7, 5, 9⟩], B7, d7)] := SpsM.blk [([(⟨4, 5, 9⟩ : Sp)], B4, d4), ([⟨7, 5, 9⟩], B7, d7)] (k3.later hbz) rfl (fun p hp => by
              simp only [List.mem_cons, List.not_mem_nil, or_false] at hp
              rcases hp with rfl | rfl
              · exact HR4.out.below hb.drew
              · exact HR7.out.below hb.drew)
            have hy : SpsM Wz.drew (some ⟨X30.heap.size + 1 + 1, 0, none⟩) 2 [[(⟨4, 5, 9⟩ : Sp)], [⟨7, 5, 9⟩]] [([(⟨4, 5, 9⟩ : Sp)], some ⟨X30.heap.size, 0, none⟩, 1), ([⟨7, 5, 9⟩], some ⟨X30.heap.size + 1, 0, none⟩, 1)] := SpsM.blk [([(⟨4, 5, 9⟩ : Sp)], some ⟨X30.heap.size, 0, none⟩, 1), ([⟨7, 5, 9⟩], some ⟨X30.heap.size + 1, 0, none⟩, 1)] (k2.later hbz) rfl (fun p hp => by
              simp only [List.mem_cons, List.not_mem_nil, or_false] at hp
              rcases hp with rfl | rfl
              · exact rd_blk (enc := Sp.enc) (z := 3) (fun _ => rfl) (k0.later hbz) [(⟨4, 5, 9⟩ : Sp)] rfl
              · exact rd_blk (enc := Sp.enc) (z := 3) (fun _ => rfl) (k1.later hbz) [(⟨7, 5, 9⟩ : Sp)] rfl)
            have hC := sameRuns_any [[(⟨4, 5, 9⟩ : Sp)], [⟨7, 5, 9⟩]] (some ⟨X30.heap.size + 1 + 1 + 1, 0, none⟩) 2 2 [([(⟨4, 5, 9⟩ : Sp)], B4, d4), ([⟨7, 5, 9⟩], B7, d7)] (some ⟨X30.heap.size + 1 + 1, 0, none⟩) 2 [([(⟨4, 5, 9⟩ : Sp)], some ⟨X30.heap.size, 0, none⟩, 1), ([⟨7, 5, 9⟩], some ⟨X30.heap.size + 1, 0, none⟩, 1)] Wz.drew hx hy (by decide) (by decide)
            have HC := Lib.hid hC
            clear hC hx hy k0 k1 k2 k3 hb hbz hX
            refine HC.out.mono ?_
            rintro e W9 ⟨rfl, hb9⟩
            have HB9 : Hid (Below w.heap.size w W9) := HBz.out.trans (hb9.mono HBz.out.size)
            clear hb9 HC
            go_wp2_with fail
            refine mix_post (fun h => absurd h (by decide)) ?_
            refine fk_one3 rfl ?_
            go_wp2_with fail
            refine mix_post (fun h => absurd h (by decide)) ?_
            refine fk_one3 rfl ?_
            go_wp2_with fail
            refine (Awake_any _).mono ?_
            rintro e W10 ⟨rfl, hb10⟩
            have HB10 : Hid (Below w.heap.size w W10) := HB9.out.trans (hb10.mono HB9.out.size)
            clear hb10
            go_wp2_with fail
            refine mix_post (fun h => absurd h (by decide)) ?_
            iterate 2 (refine fk_one3 rfl ?_; go_wp2_with fail; refine mix_post (fun h => absurd h (by decide)) ?_)
            refine fk_nil3 (NoPanic.normal ?_)
            go_wp2_with fail
            go_ret
            exact ⟨rfl, HB10.out⟩
      · go_wp2
        refine mix_post (fun _ => ⟨⟨_, ((Below.refl _ X30).alloc (Nat.le_refl _) _).drew⟩, rfl⟩) ?_
        refine fk_two3 ?_ ?_
        · go_wp2
          refine mix_post (fun _ => ⟨⟨_, (((Below.refl _ X30).alloc (Nat.le_refl _) _).alloc (by simp) _).drew⟩, rfl⟩) ?_
          refine fk_one3 rfl ?_
          go_wp2
          refine mix_post (fun _ => ⟨⟨_, ((((Below.refl _ X30).alloc (Nat.le_refl _) _).alloc (by simp) _).alloc (by simp; omega) _).drew⟩, rfl⟩) ?_
          refine fk_one3 rfl ?_
          go_wp2
          refine mix_post (fun _ => ⟨⟨_, (((((Below.refl _ X30).alloc (Nat.le_refl _) _).alloc (by simp) _).alloc (by simp; omega) _).alloc (by simp; omega) _).drew⟩, rfl⟩) ?_
          refine fk_one3 rfl ?_
          go_wp2_with fail
          obtain ⟨Wz, hX, hb, k0, k1, k2, k3⟩ := bk_prpr X30 #[.int .i64 7, .int .i64 5, .int .i64 9] #[.slice B4 1 d4, .slice B7 1 d7] #[.int .i64 4, .int .i64 5, .int .i64 9] #[.slice (some ⟨X30.heap.size + 1 + 1, 0, none⟩) 1 1, .slice (some ⟨X30.heap.size, 0, none⟩) 1 1]
          rw [hX]
          have hbz : Below Wz.heap.size Wz Wz.drew := (Below.refl _ _).drew
          have HBz : Hid (Below w.heap.size w Wz.drew) := (HB30.out.trans (hb.mono HB30.out.size)).drew
          have hx : SpsM Wz.drew (some ⟨X30.heap.size + 1, 0, none⟩) 2 [[(⟨4, 5, 9⟩ : Sp)], [⟨7, 5, 9⟩]] [([(⟨4, 5, 9⟩ : Sp)], B4, d4), ([⟨7, 5, 9⟩], B7, d7)] := SpsM.blk [([(⟨4, 5, 9⟩ : Sp)], B4, d4), ([⟨7, 5, 9⟩], B7, d7)] (k1.later hbz) rfl (fun p hp => by
            simp only [List.mem_cons, List.not_mem_nil, or_false] at hp
            rcases hp with rfl | rfl
            · exact HR4.out.below hb.drew
            · exact HR7.out.below hb.drew)
          have hy : SpsM Wz.drew (some ⟨X30.heap.size + 1 + 1 + 1, 0, none⟩) 2 [[(⟨4, 5, 9⟩ : Sp)], [⟨7, 5, 9⟩]] [([(⟨4, 5, 9⟩ : Sp)], some ⟨X30.heap.size + 1 + 1, 0, none⟩, 1), ([⟨7, 5, 9⟩], some ⟨X30.heap.size, 0, none⟩, 1)] := SpsM.blk [([(⟨4, 5, 9⟩ : Sp)], some ⟨X30.heap.size + 1 + 1, 0, none⟩, 1), ([⟨7, 5, 9⟩], some ⟨X30.heap.size, 0, none⟩, 1)] (k3.later hbz) rfl (fun p hp => by
            simp only [List.mem_cons, List.not_mem_nil, or_false] at hp
            rcases hp with rfl | rfl
            · exact rd_blk (enc := Sp.enc) (z := 3) (fun _ => rfl) (k2.later hbz) [(⟨4, 5, 9⟩ : Sp)] rfl
            · exact rd_blk (enc := Sp.enc) (z := 3) (fun _ => rfl) (k0.later hbz) [(⟨7, 5, 9⟩ : Sp)] rfl)
          have hC := sameRuns_any [[(⟨4, 5, 9⟩ : Sp)], [⟨7, 5, 9⟩]] (some ⟨X30.heap.size + 1, 0, none⟩) 2 2 [([(⟨4, 5, 9⟩ : Sp)], B4, d4), ([⟨7, 5, 9⟩], B7, d7)] (some ⟨X30.heap.size + 1 + 1 + 1, 0, none⟩) 2 [([(⟨4, 5, 9⟩ : Sp)], some ⟨X30.heap.size + 1 + 1, 0, none⟩, 1), ([⟨7, 5, 9⟩], some ⟨X30.heap.size, 0, none⟩, 1)] Wz.drew hx hy (by decide) (by decide)
          have HC := Lib.hid hC
          clear hC hx hy k0 k1 k2 k3 hb hbz hX
          refine HC.out.mono ?_
          rintro e W9 ⟨rfl, hb9⟩
          have HB9 : Hid (Below w.heap.size w W9) := HBz.out.trans (hb9.mono HBz.out.size)
          clear hb9 HC
          go_wp2_with fail
          refine mix_post (fun h => absurd h (by decide)) ?_
          refine fk_one3 rfl ?_
          go_wp2_with fail
          refine mix_post (fun h => absurd h (by decide)) ?_
          refine fk_one3 rfl ?_
          go_wp2_with fail
          refine (Awake_any _).mono ?_
          rintro e W10 ⟨rfl, hb10⟩
          have HB10 : Hid (Below w.heap.size w W10) := HB9.out.trans (hb10.mono HB9.out.size)
          clear hb10
          go_wp2_with fail
          refine mix_post (fun h => absurd h (by decide)) ?_
          iterate 2 (refine fk_one3 rfl ?_; go_wp2_with fail; refine mix_post (fun h => absurd h (by decide)) ?_)
          refine fk_nil3 (NoPanic.normal ?_)
          go_wp2_with fail
          go_ret
          exact ⟨rfl, HB10.out⟩
        · go_wp2
          refine mix_post (fun _ => ⟨⟨_, (((Below.refl _ X30).alloc (Nat.le_refl _) _).alloc (by simp) _).drew⟩, rfl⟩) ?_
          refine fk_two3 ?_ ?_
          · go_wp2
            refine mix_post (fun _ => ⟨⟨_, ((((Below.refl _ X30).alloc (Nat.le_refl _) _).alloc (by simp) _).alloc (by simp; omega) _).drew⟩, rfl⟩) ?_
            refine fk_one3 rfl ?_
            go_wp2
            refine mix_post (fun _ => ⟨⟨_, (((((Below.refl _ X30).alloc (Nat.le_refl _) _).alloc (by simp) _).alloc (by simp; omega) _).alloc (by simp; omega) _).drew⟩, rfl⟩) ?_
            refine fk_one3 rfl ?_
            go_wp2_with fail
            obtain ⟨Wz, hX, hb, k0, k1, k2, k3⟩ := bk_pprr X30 #[.int .i64 7, .int .i64 5, .int .i64 9] #[.int .i64 4, .int .i64 5, .int .i64 9] #[.slice B4 1 d4, .slice B7 1 d7] #[.slice (some ⟨X30.heap.size + 1, 0, none⟩) 1 1, .slice (some ⟨X30.heap.size, 0, none⟩) 1 1]
            rw [hX]
            have hbz : Below Wz.heap.size Wz Wz.drew := (Below.refl _ _).drew
            have HBz : Hid (Below w.heap.size w Wz.drew) := (HB30.out.trans (hb.mono HB30.out.size)).drew
            have hx : SpsM Wz.drew (some ⟨X30.heap.size + 1 + 1, 0, none⟩) 2 [[(⟨4, 5, 9⟩ : Sp)], [⟨7, 5, 9⟩]] [([(⟨4, 5, 9⟩ : Sp)], B4, d4), ([⟨7, 5, 9⟩], B7, d7)] := SpsM.blk [([(⟨4, 5, 9⟩ : Sp)], B4, d4), ([⟨7, 5, 9⟩], B7, d7)] (k2.later hbz) rfl (fun p hp => by
              simp only [List.mem_cons, List.not_mem_nil, or_false] at hp
              rcases hp with rfl | rfl
              · exact HR4.out.below hb.drew
              · exact HR7.out.below hb.drew)
            have hy : SpsM Wz.drew (some ⟨X30.heap.size + 1 + 1 + 1, 0, none⟩) 2 [[(⟨4, 5, 9⟩ : Sp)], [⟨7, 5, 9⟩]] [([(⟨4, 5, 9⟩ : Sp)], some ⟨X30.heap.size + 1, 0, none⟩, 1), ([⟨7, 5, 9⟩], some ⟨X30.heap.size, 0, none⟩, 1)] := SpsM.blk [([(⟨4, 5, 9⟩ : Sp)], some ⟨X30.heap.size + 1, 0, none⟩, 1), ([⟨7, 5, 9⟩], some ⟨X30.heap.size, 0, none⟩, 1)] (k3.later hbz) rfl (fun p hp => by
              simp only [List.mem_cons, List.not_mem_nil, or_false] at hp
              rcases hp with rfl | rfl
              · exact rd_blk (enc := Sp.enc) (z := 3) (fun _ => rfl) (k1.later hbz) [(⟨4, 5, 9⟩ : Sp)] rfl
              · exact rd_blk (enc := Sp.enc) (z := 3) (fun _ => rfl) (k0.later hbz) [(⟨7, 5, 9⟩ : Sp)] rfl)
            have hC := sameRuns_any [[(⟨4, 5, 9⟩ : Sp)], [⟨7, 5, 9⟩]] (some ⟨X30.heap.size + 1 + 1, 0, none⟩) 2 2 [([(⟨4, 5, 9⟩ : Sp)], B4, d4), ([⟨7, 5, 9⟩], B7, d7)] (some ⟨X30.heap.size + 1 + 1 + 1, 0, none⟩) 2 [([(⟨4, 5, 9⟩ : Sp)], some ⟨X30.heap.size + 1, 0, none⟩, 1), ([⟨7, 5, 9⟩], some ⟨X30.heap.size, 0, none⟩, 1)] Wz.drew hx hy (by decide) (by decide)
            have HC := Lib.hid hC
            clear hC hx hy k0 k1 k2 k3 hb hbz hX
            refine HC.out.mono ?_
            rintro e W9 ⟨rfl, hb9⟩
            have HB9 : Hid (Below w.heap.size w W9) := HBz.out.trans (hb9.mono HBz.out.size)
            clear hb9 HC
            go_wp2_with fail
            refine mix_post (fun h => absurd h (by decide)) ?_
            refine fk_one3 rfl ?_
            go_wp2_with fail
            refine mix_post (fun h => absurd h (by decide)) ?_
            refine fk_one3 rfl ?_
            go_wp2_with fail
            refine (Awake_any _).mono ?_
            rintro e W10 ⟨rfl, hb10⟩
            have HB10 : Hid (Below w.heap.size w W10) := HB9.out.trans (hb10.mono HB9.out.size)
            clear hb10
            go_wp2_with fail
            refine mix_post (fun h => absurd h (by decide)) ?_
            iterate 2 (refine fk_one3 rfl ?_; go_wp2_with fail; refine mix_post (fun h => absurd h (by decide)) ?_)
            refine fk_nil3 (NoPanic.normal ?_)
            go_wp2_with fail
            go_ret
            exact ⟨rfl, HB10.out⟩
          · go_wp2
            refine mix_post (fun _ => ⟨⟨_, ((((Below.refl _ X30).alloc (Nat.le_refl _) _).alloc (by simp) _).alloc (by simp; omega) _).drew⟩, rfl⟩) ?_
            refine fk_one3 rfl ?_
            go_wp2
            refine mix_post (fun _ => ⟨⟨_, (((((Below.refl _ X30).alloc (Nat.le_refl _) _).alloc (by simp) _).alloc (by simp; omega) _).alloc (by simp; omega) _).drew⟩, rfl⟩) ?_
            refine fk_one3 rfl ?_
            go_wp2_with fail
            obtain ⟨Wz, hX, hb, k0, k1, k2, k3⟩ := bk_pprr X30 #[.int .i64 7, .int .i64 5, .int .i64 9] #[.int .i64 4, .int .i64 5, .int .i64 9] #[.slice (some ⟨X30.heap.size + 1, 0, none⟩) 1 1, .slice (some ⟨X30.heap.size, 0, none⟩) 1 1] #[.slice B4 1 d4, .slice B7 1 d7]
            rw [hX]
            have hbz : Below Wz.heap.size Wz Wz.drew := (Below.refl _ _).drew
            have HBz : Hid (Below w.heap.size w Wz.drew) := (HB30.out.trans (hb.mono HB30.out.size)).drew
            have hx : SpsM Wz.drew (some ⟨X30.heap.size + 1 + 1 + 1, 0, none⟩) 2 [[(⟨4, 5, 9⟩ : Sp)], [⟨7, 5, 9⟩]] [([(⟨4, 5, 9⟩ : Sp)], B4, d4), ([⟨7, 5, 9⟩], B7, d7)] := SpsM.blk [([(⟨4, 5, 9⟩ : Sp)], B4, d4), ([⟨7, 5, 9⟩], B7, d7)] (k3.later hbz) rfl (fun p hp => by
              simp only [List.mem_cons, List.not_mem_nil, or_false] at hp
              rcases hp with rfl | rfl
              · exact HR4.out.below hb.drew
              · exact HR7.out.below hb.drew)
            have hy : SpsM Wz.drew (some ⟨X30.heap.size + 1 + 1, 0, none⟩) 2 [[(⟨4, 5, 9⟩ : Sp)], [⟨7, 5, 9⟩]] [([(⟨4, 5, 9⟩ : Sp)], some ⟨X30.heap.size + 1, 0, none⟩, 1), ([⟨7, 5, 9⟩], some ⟨X30.heap.size, 0, none⟩, 1)] := SpsM.blk [([(⟨4, 5, 9⟩ : Sp)], some ⟨X30.heap.size + 1, 0, none⟩, 1), ([⟨7, 5, 9⟩], some ⟨X30.heap.size, 0, none⟩, 1)] (k2.later hbz) rfl (fun p hp => by
              simp only [List.mem_cons, List.not_mem_nil, or_false] at hp
              rcases hp with rfl | rfl
              · exact rd_blk (enc := Sp.enc) (z := 3) (fun _ => rfl) (k1.later hbz) [(⟨4, 5, 9⟩ : Sp)] rfl
              · exact rd_blk (enc := Sp.enc) (z := 3) (fun _ => rfl) (k0.later hbz) [(⟨7, 5, 9⟩ : Sp)] rfl)
            have hC := sameRuns_any [[(⟨4, 5, 9⟩ : Sp)], [⟨7, 5, 9⟩]] (some ⟨X30.heap.size + 1 + 1 + 1, 0, none⟩) 2 2 [([(⟨4, 5, 9⟩ : Sp)], B4, d4), ([⟨7, 5, 9⟩], B7, d7)] (some ⟨X30.heap.size + 1 + 1, 0, none⟩) 2 [([(⟨4, 5, 9⟩ : Sp)], some ⟨X30.heap.size + 1, 0, none⟩, 1), ([⟨7, 5, 9⟩], some ⟨X30.heap.size, 0, none⟩, 1)] Wz.drew hx hy (by decide) (by decide)
            have HC := Lib.hid hC
            clear hC hx hy k0 k1 k2 k3 hb hbz hX
            refine HC.out.mono ?_
            rintro e W9 ⟨rfl, hb9⟩
            have HB9 : Hid (Below w.heap.size w W9) := HBz.out.trans (hb9.mono HBz.out.size)
            clear hb9 HC
            go_wp2_with fail
            refine mix_post (fun h => absurd h (by decide)) ?_
            refine fk_one3 rfl ?_
            go_wp2_with fail
            refine mix_post (fun h => absurd h (by decide)) ?_
            refine fk_one3 rfl ?_
            go_wp2_with fail
            refine (Awake_any _).mono ?_
            rintro e W10 ⟨rfl, hb10⟩
            have HB10 : Hid (Below w.heap.size w W10) := HB9.out.trans (hb10.mono HB9.out.size)
            clear hb10
            go_wp2_with fail
            refine mix_post (fun h => absurd h (by decide)) ?_
            iterate 2 (refine fk_one3 rfl ?_; go_wp2_with fail; refine mix_post (fun h => absurd h (by decide)) ?_)
            refine fk_nil3 (NoPanic.normal ?_)
            go_wp2_with fail
            go_ret
            exact ⟨rfl, HB10.out⟩
end Go.Proofs.Ytadldndpphdmpaa
namespace Go.Proofs.Ytadldndpphdmpaa
open Go.ChangeShapes Go.WideShapes Go.RowKit

set_option maxRecDepth 100000 in
theorem failureKnown_lifted (os : Os) (started : os.Started) (H : Type) (enc : TypeId × Value → H) :
    ReturnsInHanded {} Try.checked os 17 .any (Rows.failureKnownSpec.pre6 enc Try.prog Try.f17 Rows.failureKnownRow.domain false) (Rows.failureKnownSpec.post enc Try.prog Try.f17 false true false false) := by
  refine returnsInHanded_of_change_sized (C := Try.checked) Try.own started (by kernel_rfl) Try.func17
    (ChangeSpec.witness6 (enc := enc) (C := Try.checked) false ⟨#[], #[], []⟩ 8 (by kernel_rfl) (by kernel_rfl) (by kernel_rfl) (by kernel_rfl)) ?_
  intro W base args ds gs before hval0 hW _ hsz0 _
  have hval : ∀ (j : Nat) t v, Try.f17.params[j]? = some t → args[j]? = some v → Value.okWide Try.prog W .any base t v := hval0
  have hsz : (DataW.weightsEach Try.prog (Try.f17.params.toList ++ Rows.failureKnownSpec.plain.varTypes Try.prog) (ds ++ gs)).all (· ≤ reachBytes) = true := hsz0
  have hW' := hW
  obtain ⟨p, q, hA0, hV, rfl, hfz, hnd⟩ := hW
  have hA : DataW.TrodAll enc Try.prog W 0 (fun _ => true) true Try.f17.params.toList args.toList ds p := hA0
  rw [Try.params17] at hA hval hsz
  obtain ⟨rfl, rfl, rfl⟩ := trodAll_none hA
  obtain ⟨rfl, rfl⟩ := trodVars_none hV
  refine (FailureKnown_any W).mono fun e W' ⟨he, hb⟩ => ?_
  subst he
  exact ⟨_, rfl, law_post rfl (by kernel_rfl) (by rw [Try.params17]; exact fun t ht => by simp at ht) hW' rfl hb⟩

theorem failureKnown_holds : Rows.FailureKnownSaid :=
  OpenClaim.holds_of_wide 17 Try.f17 rfl rfl rfl rfl rfl rfl rfl ⟨rfl, rfl, rfl, rfl, rfl⟩ rfl rfl rfl rfl rfl (by kernel_rfl) Try.func17 (by kernel_rfl)
    (of_decide_eq_true (by kernel_rfl)) (by unfold Func.isWrapper; first | (rw [if_pos (by decide +kernel)]; kernel_rfl) | (rw [if_neg (by decide +kernel)]; exact ⟨rfl, rfl⟩))
    (fun os started H enc _ => failureKnown_lifted os started H enc)

#print axioms failureKnown_holds

end Go.Proofs.Ytadldndpphdmpaa
