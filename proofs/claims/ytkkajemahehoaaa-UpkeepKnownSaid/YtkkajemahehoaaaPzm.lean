/-
  UpkeepKnown (a law without arguments): it returns true. No condition.
-/
import Derived.Test.YtkkajemahehoaaaJ3
import Derived.Test.YtkkajemahehoaaaYr
import Derived.Test.YtkkajemahehoaaaRr
import Derived.Test.YtkkajemahehoaaaR5
import Derived.Test.YtkkajemahehoaaaJ2
import Derived.Test.YtkkajemahehoaaaMix3
import Derived.Test.YtkkajemahehoaaaRows
import Derived.Test.YtkkajemahehoaaaCk
import Derived.ProofKit
import Derived.Deep.Slices
import Derived.OpenShut
namespace Go.Proofs.Ytkkajemahehoaaa
open Go.RowKit

/-- All plans that begin with some starts, in order, of works that are not in their seasons. -/
def plansL (t : Task) : Nat → List Int → List (List Int)
  | 0, ss => [ss]
  | k + 1, ss => match t.works[ss.length]? with
    | none => []
    | some x => (startsF t x).flatMap fun s => plansL t k (ss ++ [s])
def stepG (t : Task) (acc : Acc) (p : List Int) : Acc :=
  if judgeL t p = [] then (match acc with
    | none => some (p, harmR t p)
    | some q => if gtB q.2 (harmR t p) then some (p, harmR t p) else acc) else acc

theorem plansL_ext (t : Task) : ∀ (k : Nat) (ss p : List Int), p ∈ plansL t k ss → ∃ r, p = ss ++ r
  | 0, ss, p, h => by simp [plansL] at h; exact ⟨[], by simp [h]⟩
  | k + 1, ss, p, h => by
    rw [plansL] at h
    split at h
    · simp at h
    · rw [List.mem_flatMap] at h
      obtain ⟨s, _, hp⟩ := h
      obtain ⟨r, rfl⟩ := plansL_ext t k _ p hp
      exact ⟨s :: r, by simp⟩
theorem meetP_ext (t : Task) (ss r : List Int) (k i : Nat) (hk : k < ss.length) (hi : i < ss.length) : meetP t (ss ++ r) k i = meetP t ss k i := by
  unfold meetP
  rw [List.getElem?_append_left hk, List.getElem?_append_left hi]
theorem foldl_same {α β : Type} {f : β → α → β} {l : List α} {b : β} (h : ∀ x ∈ l, f b x = b) : l.foldl f b = b := by
  induction l with
  | nil => rfl
  | cons a l ih =>
    rw [List.foldl_cons, h a (by simp)]
    exact ih (fun x hx => h x (by simp [hx]))
theorem foldl_flat {α β γ : Type} (f : γ → β → γ) (g : α → List β) : ∀ (l : List α) (c : γ), (l.flatMap g).foldl f c = l.foldl (fun c a => (g a).foldl f c) c
  | [], c => rfl
  | a :: l, c => by rw [List.flatMap_cons, List.foldl_append, List.foldl_cons, foldl_flat f g l]

/-- The beginning of a plan that has no reason yet. -/
structure Begun (t : Task) (ss : List Int) : Prop where
  start : ∀ (i : Nat) (s : Int) (x : Work), ss[i]? = some s → t.works[i]? = some x → wrongB s x = false ∧ badF t x s < 0
  meet : ∀ (i k : Nat), i < k → k < ss.length → meetP t ss k i = false

theorem anyMeet_iff {t : Task} {ss : List Int} {k : Nat} : anyMeet t ss k = true ↔ ∃ i, i < k ∧ meetP t ss k i = true := by
  unfold anyMeet
  rw [decide_eq_true_iff, idxF_neg]
  constructor
  · rintro ⟨j, _, h2, h3⟩; exact ⟨j, by omega, h3⟩
  · rintro ⟨j, h2, h3⟩; exact ⟨j, by omega, by omega, h3⟩

theorem dfs_plans (t : Task) (hok : TaskOK t) : ∀ (k : Nat) (ss : List Int) (acc : Acc), ss.length + k = t.works.length → Begun t ss → dfs t k acc ss = (plansL t k ss).foldl (stepG t) acc
  | 0, ss, acc, hl, hb => by
    rw [plansL, List.foldl_cons, List.foldl_nil, dfs]
    unfold accStep stepG
    have hj : judgeL t ss = [] ↔ gtB (harmR t ss) t.plan = false := by
      rw [good_iff]
      exact ⟨fun h => h.risk, fun h => ⟨fun i s x hs hx => (hb.start i s x hs hx).1, hb.meet, fun i s x hs hx => (hb.start i s x hs hx).2, h⟩⟩
    cases hg : gtB (harmR t ss) t.plan
    · rw [if_neg (by simp), if_pos (hj.2 hg)]
      cases acc <;> rfl
    · rw [if_pos rfl, if_neg (fun h => by have := hj.1 h; rw [hg] at this; cases this)]
  | k + 1, ss, acc, hl, hb => by
    rw [plansL, dfs]
    have hlt : ss.length < t.works.length := by omega
    rw [List.getElem?_eq_getElem hlt]
    dsimp only
    rw [foldl_flat]
    have key : ∀ s ∈ startsF t t.works[ss.length], ∀ a : Acc, (if anyMeet t (ss ++ [s]) ss.length = true then a else dfs t k a (ss ++ [s])) = (plansL t k (ss ++ [s])).foldl (stepG t) a := fun s hs a => by
      cases hm : anyMeet t (ss ++ [s]) ss.length
      · rw [if_neg (by simp)]
        refine dfs_plans t hok k (ss ++ [s]) a (by simp; omega) ⟨fun i s' x hs' hx => ?_, fun i j hij hj => ?_⟩
        · by_cases hi : i < ss.length
          · rw [List.getElem?_append_left hi] at hs'
            exact hb.start i s' x hs' hx
          · have hil := (List.getElem?_eq_some_iff.1 hs').1
            simp at hil
            obtain rfl : i = ss.length := by omega
            rw [List.getElem?_append_right (Nat.le_refl _), Nat.sub_self] at hs'
            simp at hs'
            subst hs'
            rw [List.getElem?_eq_getElem hlt] at hx
            injection hx with hx
            subst hx
            exact (mem_startsF (workOK_of (hok.rows _ _ (List.getElem?_eq_getElem hlt)).2.2.1) s).1 hs
        · simp at hj
          by_cases hjl : j < ss.length
          · rw [meetP_ext t ss [s] j i hjl (by omega)]
            exact hb.meet i j hij hjl
          · obtain rfl : j = ss.length := by omega
            cases hmm : meetP t (ss ++ [s]) ss.length i
            · rfl
            · have := anyMeet_iff.2 ⟨i, hij, hmm⟩
              rw [hm] at this
              cases this
      · rw [if_pos rfl]
        refine (foldl_same fun p hp => ?_).symm
        obtain ⟨r, rfl⟩ := plansL_ext t k _ p hp
        unfold stepG
        rw [if_neg]
        intro hj
        obtain ⟨i, hi, hmi⟩ := anyMeet_iff.1 hm
        have h1 := (good_iff.1 hj).meet i ss.length hi (by simp)
        rw [meetP_ext t (ss ++ [s]) r ss.length i (by simp) (by simp; omega), hmi] at h1
        cases h1
    generalize startsF t t.works[ss.length] = SL at key
    clear hl hb
    induction SL generalizing acc with
    | nil => rfl
    | cons s SL ih =>
      rw [List.foldl_cons, List.foldl_cons, key s (by simp) acc]
      exact ih _ (fun s' hs' => key s' (by simp [hs']))

theorem best_plans {t : Task} (hok : TaskOK t) : bestF t = (plansL t t.works.length []).foldl (stepG t) none := by
  unfold bestF
  exact dfs_plans t hok _ [] none (by simp) ⟨fun i s x h => by simp at h, fun i k h1 h2 => by simp at h2⟩

theorem mem_plansL {t : Task} (hok : TaskOK t) : ∀ (k : Nat) (ss p : List Int), ss.length + k = t.works.length → (p ∈ plansL t k ss ↔ (∃ r, p = ss ++ r) ∧ p.length = t.works.length ∧ ∀ (i : Nat) (s : Int) (x : Work), ss.length ≤ i → p[i]? = some s → t.works[i]? = some x → s ∈ startsF t x)
  | 0, ss, p, hl => by
    simp only [plansL, List.mem_singleton]
    constructor
    · rintro rfl
      exact ⟨⟨[], by simp⟩, by omega, fun i s x h1 h2 => by have := (List.getElem?_eq_some_iff.1 h2).1; omega⟩
    · rintro ⟨⟨r, rfl⟩, h2, _⟩
      have : r = [] := List.eq_nil_of_length_eq_zero (by simp at h2; omega)
      simp [this]
  | k + 1, ss, p, hl => by
    rw [plansL]
    have hlt : ss.length < t.works.length := by omega
    rw [List.getElem?_eq_getElem hlt]
    dsimp only
    rw [List.mem_flatMap]
    constructor
    · rintro ⟨s, hs, hp⟩
      obtain ⟨⟨r, rfl⟩, h2, h3⟩ := (mem_plansL hok k (ss ++ [s]) p (by simp; omega)).1 hp
      refine ⟨⟨s :: r, by simp⟩, h2, fun i s' x h4 h5 h6 => ?_⟩
      by_cases hi : i = ss.length
      · subst hi
        rw [List.getElem?_append_left (by simp), List.getElem?_append_right (Nat.le_refl _), Nat.sub_self] at h5
        simp at h5
        subst h5
        rw [List.getElem?_eq_getElem hlt] at h6
        injection h6 with h6
        subst h6
        exact hs
      · exact h3 i s' x (by simp; omega) h5 h6
    · rintro ⟨⟨r, rfl⟩, h2, h3⟩
      match r, h2, h3 with
      | [], h2, _ => simp at h2; omega
      | s :: r, h2, h3 =>
        refine ⟨s, h3 ss.length s _ (Nat.le_refl _) ?_ (List.getElem?_eq_getElem hlt), (mem_plansL hok k (ss ++ [s]) _ (by simp; omega)).2 ⟨⟨r, by simp⟩, h2, fun i s' x h4 h5 h6 => h3 i s' x (by simp at h4; omega) h5 h6⟩⟩
        rw [List.getElem?_append_right (Nat.le_refl _), Nat.sub_self]
        rfl
/-- A good plan is among them. -/
theorem good_mem {t : Task} (hok : TaskOK t) {p : List Int} (hl : p.length = t.works.length) (hg : Good t p) : p ∈ plansL t t.works.length [] :=
  (mem_plansL hok _ [] p (by simp)).2 ⟨⟨p, by simp⟩, hl, fun i s x _ hs hx => (mem_startsF (workOK_of (hok.rows i x hx).2.2.1) s).2 ⟨hg.start i s x hs hx, hg.inside i s x hs hx⟩⟩
theorem plan_days {t : Task} (hok : TaskOK t) {p : List Int} (hp : p ∈ plansL t t.works.length []) : p.length = t.works.length ∧ ∀ s ∈ p, 0 ≤ s ∧ s ≤ 364 := by
  obtain ⟨_, h2, h3⟩ := (mem_plansL hok _ [] p (by simp)).1 hp
  refine ⟨h2, fun s hs => ?_⟩
  obtain ⟨i, hi, rfl⟩ := List.getElem_of_mem hs
  have hx := List.getElem?_eq_getElem (show i < t.works.length by omega)
  have hw := workOK_of (hok.rows i _ hx).2.2.1
  have hm := (mem_startsF hw _).1 (h3 i _ _ (Nat.zero_le _) (List.getElem?_eq_getElem hi) hx)
  have := (mem_triesF hw _).2 hm.1
  have := triesG_mem (by have := hw.s0; omega) 400 _ _ this
  have := hw.f0; have := hw.u1
  omega

/-- Of two risks, neither of which is 0 of 0, the one is not greater. -/
def leR (a b : Int × Int) : Prop := gtB a b = false
theorem leR_refl (a : Int × Int) : leR a a := by unfold leR gtB; simp
theorem leR_trans {a b c : Int × Int} (ha : 1 ≤ a.2) (hb : 1 ≤ b.2) (hc : 1 ≤ c.2) (h1 : leR a b) (h2 : leR b c) : leR a c := by
  unfold leR gtB at *
  simp only [decide_eq_false_iff_not, Int.not_lt] at *
  have e1 := Int.mul_le_mul_of_nonneg_right h1 (by omega : 0 ≤ c.2)
  have e2 := Int.mul_le_mul_of_nonneg_right h2 (by omega : 0 ≤ a.2)
  have e3 : a.1 * c.2 * b.2 ≤ c.1 * a.2 * b.2 := by
    have x1 : a.1 * b.2 * c.2 = a.1 * c.2 * b.2 := by rw [Int.mul_assoc, Int.mul_comm b.2, ← Int.mul_assoc]
    have x2 : b.1 * a.2 * c.2 = b.1 * c.2 * a.2 := by rw [Int.mul_assoc, Int.mul_comm a.2, ← Int.mul_assoc]
    have x3 : c.1 * b.2 * a.2 = c.1 * a.2 * b.2 := by rw [Int.mul_assoc, Int.mul_comm b.2, ← Int.mul_assoc]
    omega
  exact Int.le_of_mul_le_mul_right e3 (by omega)

/-- What a search has found so far. -/
structure Found (t : Task) (ps : List (List Int)) (acc : Acc) : Prop where
  none : acc = none → ∀ p ∈ ps, judgeL t p ≠ []
  some : ∀ q, acc = some q → q.1 ∈ ps ∧ judgeL t q.1 = [] ∧ q.2 = harmR t q.1 ∧ ∀ p ∈ ps, judgeL t p = [] → leR q.2 (harmR t p)
theorem found_fold {t : Task} (hok : TaskOK t) : ∀ (l ps : List (List Int)) (acc : Acc), Found t ps acc → Found t (ps ++ l) (l.foldl (stepG t) acc)
  | [], ps, acc, h => by simpa using h
  | p :: l, ps, acc, h => by
    have hb : ∀ q, 1 ≤ (harmR t q).2 := fun q => (harmR_bounds hok q).2.2.1
    rw [List.foldl_cons, show ps ++ p :: l = (ps ++ [p]) ++ l by simp]
    refine found_fold hok l (ps ++ [p]) _ ?_
    unfold stepG
    by_cases hj : judgeL t p = []
    · rw [if_pos hj]
      cases acc with
      | none =>
        refine ⟨(fun h => by cases h), fun q hq => ?_⟩
        injection hq with hq
        subst hq
        refine ⟨by simp, hj, rfl, fun p' hp' hj' => ?_⟩
        rcases List.mem_append.1 hp' with h1 | h1
        · exact absurd hj' (h.none rfl p' h1)
        · simp at h1; subst h1; exact leR_refl _
      | some q0 =>
        obtain ⟨h1, h2, h3, h4⟩ := h.some q0 rfl
        dsimp only
        cases hg : gtB q0.2 (harmR t p)
        · rw [if_neg (by simp)]
          refine ⟨(fun h => by cases h), fun q hq => ?_⟩
          injection hq with hq
          subst hq
          refine ⟨by simp [h1], h2, h3, fun p' hp' hj' => ?_⟩
          rcases List.mem_append.1 hp' with h5 | h5
          · exact h4 p' h5 hj'
          · simp at h5; subst h5; exact hg
        · rw [if_pos rfl]
          refine ⟨(fun h => by cases h), fun q hq => ?_⟩
          injection hq with hq
          subst hq
          refine ⟨by simp, hj, rfl, fun p' hp' hj' => ?_⟩
          rcases List.mem_append.1 hp' with h5 | h5
          · have h6 : leR (harmR t p) q0.2 := by
              unfold gtB at hg
              unfold leR gtB
              simp at hg ⊢
              omega
            exact leR_trans (hb p) (by rw [h3]; exact hb _) (hb p') h6 (h4 p' h5 hj')
          · simp at h5; subst h5; exact leR_refl _
    · rw [if_neg hj]
      refine ⟨fun hn p' hp' => ?_, fun q hq => ?_⟩
      · rcases List.mem_append.1 hp' with h5 | h5
        · exact h.none hn p' h5
        · simp at h5; subst h5; exact hj
      · obtain ⟨h1, h2, h3, h4⟩ := h.some q hq
        refine ⟨by simp [h1], h2, h3, fun p' hp' hj' => ?_⟩
        rcases List.mem_append.1 hp' with h5 | h5
        · exact h4 p' h5 hj'
        · simp at h5; subst h5; exact absurd hj' hj
theorem best_found {t : Task} (hok : TaskOK t) : Found t (plansL t t.works.length []) (bestF t) := by
  rw [best_plans hok]
  have := found_fold hok (plansL t t.works.length []) [] none ⟨(fun _ p h => by simp at h), (fun q h => by cases h)⟩
  simpa using this
end Go.Proofs.Ytkkajemahehoaaa

namespace Go.Proofs.Ytkkajemahehoaaa
open Go.RowKit

def BoolPost (w : World) (e : Ending) (w' : World) : Prop := ∃ b : Bool, e = .returned (.bool b) ∧ Below w.heap.size w w'

set_option maxRecDepth 100000 in
set_option maxHeartbeats 2000000 in
theorem Many_any (t : Task) (A : Option Addr) (n c : Nat) (A' : Option Addr) (n' c' : Nat) (w : World) (hT : TkM w t A n c A' n' c') :
    Calls Try.prog 24 #[.agg (t.val A n c A' n' c')] w (BoolPost w) := by
  have HB1 : Hid (Below w.heap.size w (w.alloc (.cells (t.val A n c A' n' c') 29))) := (Below.refl _ _).alloc (Nat.le_refl _) _
  have KK : Hid (Blk (w.alloc (.cells (t.val A n c A' n' c') 29)) w.heap.size 29 (t.val A n c A' n' c')) := Blk.new _ _ _ rfl
  have HWk := Lib.hid hT.hw
  clear hT
  unfold Task.val at *
  go_enter Try.func24, Try.ntmps24
  go_wp2
  obtain ⟨W1, hW1⟩ : ∃ W1, w.alloc (Obj.cells #[.int .i64 t.rd.first, .int .i64 t.rd.years, .slice A n c, .slice A' n' c', .int .i64 t.gap, .int .i64 t.width, .int .i64 t.day.1, .int .i64 t.day.2, .int .i64 t.plan.1, .int .i64 t.plan.2] 29) = W1 := ⟨_, rfl⟩
  rw [hW1] at HB1 KK ⊢
  clear hW1
  go_loopw [3, 4] (fun q i wr => ∃ (k : Nat) (z : Int), k ≤ n' ∧ q = .int .i64 z ∧ i = .int .i64 k ∧ Below W1.heap.size W1 wr) (fun _ i _ => n' - (intOf i).toNat)
  case atStart => exact ⟨0, 1, Nat.zero_le _, rfl, rfl, Below.refl _ _⟩
  case round =>
    obtain ⟨k, z, hk, rfl, rfl, hB⟩ := hrel
    have HB := Lib.hid hB; clear hB
    have HBw : Hid (Below w.heap.size w wr) := HB1.out.trans (HB.out.mono HB1.out.size)
    have k3 := (KK.out.later HB.out).cell (i := 3) rfl
    have hz := (KK.out.later HB.out).lt
    by_cases h4 : n' ≤ 4
    · have h4' : decide ((n' : Int) ≤ 4) = true := by simp; omega
      by_cases hlt : k < n'
      · obtain ⟨x, ad, hx, rfl, ha⟩ := (HWk.out.below HBw.out).get hlt
        obtain ⟨c0, c1, c2, c3, c4, c5, c6⟩ := ha.seven
        have hki : (k : Int) < (n' : Int) := by omega
        have HBa : Hid (Below W1.heap.size W1 (wr.alloc (Obj.cells #[.string x.name, .int .i64 x.gate, .int .i64 x.days, .int .i64 x.frm, .int .i64 x.til, .int .i64 x.step, .int .i64 x.level] 61))) := HB.out.alloc HB.out.size _
        have HBb : Hid (Below w.heap.size w (wr.alloc (Obj.cells #[.string x.name, .int .i64 x.gate, .int .i64 x.days, .int .i64 x.frm, .int .i64 x.til, .int .i64 x.step, .int .i64 x.level] 61))) := HBw.out.alloc HBw.out.size _
        clear ha hx
        by_cases hst : 0 < x.step
        · have d1 : decide (0 < x.step) = true := by simpa using hst
          have d1' : ¬ x.step = 0 := by omega
          by_cases htf : x.frm ≤ x.til
          · have d2 : decide (x.frm ≤ x.til) = true := by simpa using htf
            go_wp2
            all_goals first
              | (go_ret; exact ⟨_, rfl, HBb.out⟩)
              | (go_roundw
                 case rel => exact ⟨k + 1, _, by omega, rfl, by go_num, HBa.out⟩
                 case measure => simp [intOf]; omega)
          · have d2 : decide (x.frm ≤ x.til) = false := by simpa using htf
            go_wp2
            all_goals first
              | (go_ret; exact ⟨_, rfl, HBb.out⟩)
              | (go_roundw
                 case rel => exact ⟨k + 1, _, by omega, rfl, by go_num, HBa.out⟩
                 case measure => simp [intOf]; omega)
        · have d1 : decide (0 < x.step) = false := by simpa using hst
          go_wp2
          all_goals first
            | (go_ret; exact ⟨_, rfl, HBb.out⟩)
            | (go_roundw
               case rel => exact ⟨k + 1, _, by omega, rfl, by go_num, HBa.out⟩
               case measure => simp [intOf]; omega)
      · obtain rfl : n' = k := by omega
        have hki : ¬ (n' : Int) < (n' : Int) := by omega
        go_wp2
        go_ret
        exact ⟨_, rfl, HBw.out⟩
    · have h4' : decide ((n' : Int) ≤ 4) = false := by simp; omega
      go_wp2
      all_goals go_ret
      all_goals exact ⟨_, rfl, HBw.out⟩
end Go.Proofs.Ytkkajemahehoaaa

namespace Go.Proofs.Ytkkajemahehoaaa
open Go.RowKit

/-- What Years returns, and what Judge returns. -/
def yOf (t : Task) (ss : List Int) : List Int × (Int × Int) × Int := if shErr t ss = 0 then (harmL t ss, harmR t ss, 0) else ([], (0, 0), shErr t ss)
def jOf (t : Task) (ss : List Int) : List Reason × Int := if shErr t ss = 0 then (judgeL t ss, 0) else ([], shErr t ss)
theorem years_of {t : Task} {ss : List Int} {w : World} {e : Ending} {w' : World} (h : YearsPost t ss w e w') :
    ∃ A c, e = .returned (.tuple #[.slice A (yOf t ss).1.length c, .agg #[.int .i64 (yOf t ss).2.1.1, .int .i64 (yOf t ss).2.1.2], .int .i64 (yOf t ss).2.2]) ∧ RdI w' A (yOf t ss).1.length (yOf t ss).1 ∧ Below w.heap.size w w' := by
  obtain ⟨hb, ⟨h1, rfl⟩ | ⟨h1, v, rfl, ho⟩⟩ := h
  · have e : yOf t ss = ([], (0, 0), shErr t ss) := if_neg h1
    rw [e]
    exact ⟨none, 0, rfl, Rd.nil, hb⟩
  · have e : yOf t ss = (harmL t ss, harmR t ss, 0) := if_pos h1
    rw [e]
    obtain ⟨A, c, rfl, hr, _, _⟩ := rdI_of_own ho rfl
    exact ⟨A, c, rfl, hr, hb⟩
theorem judge_of {t : Task} {ss : List Int} {w : World} {e : Ending} {w' : World} (h : JudgePost t ss w e w') :
    ∃ A c, e = .returned (.tuple #[.slice A (jOf t ss).1.length c, .int .i64 (jOf t ss).2]) ∧ Below w.heap.size w w' := by
  obtain ⟨hb, ⟨h1, rfl⟩ | ⟨h1, v, rfl, ho⟩⟩ := h
  · have e : jOf t ss = ([], shErr t ss) := if_neg h1
    rw [e]
    exact ⟨none, 0, rfl, hb⟩
  · have e : jOf t ss = (judgeL t ss, 0) := if_pos h1
    rw [e]
    obtain ⟨A, c, rfl, hr, _, _⟩ := rd_of_own reason_len ho rfl
    exact ⟨A, c, rfl, hb⟩
theorem shErr_zero {t : Task} {ss : List Int} (h : PlanOK t ss) : shErr t ss = 0 := by
  unfold shErr
  rw [if_neg (by rw [h.chk]; simp), if_neg (by rw [h.len]; simp), anyLate_false.2 h.days]
  rfl

set_option maxRecDepth 100000 in
set_option maxHeartbeats 2000000 in
theorem UpkeepBest_err (t : Task) (A : Option Addr) (n c : Nat) (A' : Option Addr) (n' c' : Nat) (S : Value) (w : World) (hT : TkM w t A n c A' n' c') (he : ((chkTask t).2.2 != 0) = true) :
    Calls Try.prog 12 #[.agg (t.val A n c A' n' c'), S] w fun e w' => e = .returned (.bool true) ∧ Below w.heap.size w w' := by
  have HB1 : Hid (Below w.heap.size w (w.alloc (.cells (t.val A n c A' n' c') 29))) := (Below.refl _ _).alloc (Nat.le_refl _) _
  have K1 : Hid (Blk (w.alloc (.cells (t.val A n c A' n' c') 29)) w.heap.size 29 (t.val A n c A' n' c')) := Blk.new _ _ _ rfl
  have C1 := Lib.hid (check_any t A n c A' n' c' _ (hT.hr.below HB1.out) (hT.hw.below HB1.out) hT.hc hT.nm)
  have C2 := Lib.hid (fun (W : World) (h : Below w.heap.size w W) => Many_any t A n c A' n' c' W (hT.below h))
  clear hT
  generalize chkTask t = Y at *
  obtain ⟨y1, y2, y3⟩ := Y
  unfold Task.val at *
  dsimp only at *
  go_enter Try.func12, Try.ntmps12
  go_wp2_with fail
  refine C1.out.mono ?_
  rintro e W2 ⟨rfl, hb2⟩
  have HB2 : Hid (Below w.heap.size w W2) := HB1.out.trans (hb2.mono HB1.out.size)
  have K2 := Lib.hid (K1.out.later hb2)
  clear hb2
  have q0 := K2.out.cell (i := 0) rfl
  have q1 := K2.out.cell (i := 1) rfl
  have q2 := K2.out.cell (i := 2) rfl
  have q3 := K2.out.cell (i := 3) rfl
  have q4 := K2.out.cell (i := 4) rfl
  have q5 := K2.out.cell (i := 5) rfl
  have q6 := K2.out.cell (i := 6) rfl
  have q7 := K2.out.cell (i := 7) rfl
  have q8 := K2.out.cell (i := 8) rfl
  have q9 := K2.out.cell (i := 9) rfl
  go_wp2_with fail
  refine (C2.out _ HB2.out).mono ?_
  rintro e W3 ⟨b, rfl, hb3⟩
  have HB3 : Hid (Below w.heap.size w W3) := HB2.out.trans (hb3.mono HB2.out.size)
  clear hb3 q0 q1 q2 q3 q4 q5 q6 q7 q8 q9
  cases b
  all_goals
    go_wp2_with fail
    refine (Awake_any _).mono ?_
    rintro e W7 ⟨rfl, hb7⟩
    have HB7 := Lib.hid (HB3.out.trans (hb7.mono HB3.out.size))
    clear hb7
    go_wp2_with fail
    go_ret
    exact ⟨rfl, HB7.out⟩
set_option maxRecDepth 100000 in
set_option maxHeartbeats 2000000 in
theorem UpkeepBest_none (t : Task) (ss : List Int) (A : Option Addr) (n c : Nat) (A' : Option Addr) (n' c' : Nat) (As : Option Addr) (m cs : Nat) (w : World) (hT : TkM w t A n c A' n' c') (hs : RdI w As m ss) (he : (chkTask t).2.2 = 0) (hB : bestF t = none) (hj : ((jOf t ss).2 != 0) = true ∨ (((jOf t ss).2 != 0) = false ∧ decide ((0 : Int) < ((jOf t ss).1.length : Int)) = true)) :
    Calls Try.prog 12 #[.agg (t.val A n c A' n' c'), .slice As m cs] w fun e w' => e = .returned (.bool true) ∧ Below w.heap.size w w' := by
  have HB1 : Hid (Below w.heap.size w (w.alloc (.cells (t.val A n c A' n' c') 29))) := (Below.refl _ _).alloc (Nat.le_refl _) _
  have K1 : Hid (Blk (w.alloc (.cells (t.val A n c A' n' c') 29)) w.heap.size 29 (t.val A n c A' n' c')) := Blk.new _ _ _ rfl
  have C1 := Lib.hid (check_any t A n c A' n' c' _ (hT.hr.below HB1.out) (hT.hw.below HB1.out) hT.hc hT.nm)
  have C2 := Lib.hid (fun (W : World) (h : Below w.heap.size w W) => Many_any t A n c A' n' c' W (hT.below h))
  have C3 := Lib.hid (fun (W : World) (h : Below w.heap.size w W) => best_ok t A n c A' n' c' W (hT.hr.below h) (hT.hw.below h) hT.hc hT.nm he)
  have C4 := Lib.hid (fun (W : World) (h : Below w.heap.size w W) => (Judge_any t ss A n c A' n' c' As m cs W (hT.below h) (hs.below h)).mono fun e w' h => judge_of h)
  clear hT hs
  rw [he] at C1
  generalize (chkTask t).1 = y1 at *
  generalize (chkTask t).2.1 = y2 at *
  unfold Task.val at *
  go_enter Try.func12, Try.ntmps12
  go_wp2_with fail
  refine C1.out.mono ?_
  rintro e W2 ⟨rfl, hb2⟩
  have HB2 : Hid (Below w.heap.size w W2) := HB1.out.trans (hb2.mono HB1.out.size)
  have K2 := Lib.hid (K1.out.later hb2)
  clear hb2
  have q0 := K2.out.cell (i := 0) rfl
  have q1 := K2.out.cell (i := 1) rfl
  have q2 := K2.out.cell (i := 2) rfl
  have q3 := K2.out.cell (i := 3) rfl
  have q4 := K2.out.cell (i := 4) rfl
  have q5 := K2.out.cell (i := 5) rfl
  have q6 := K2.out.cell (i := 6) rfl
  have q7 := K2.out.cell (i := 7) rfl
  have q8 := K2.out.cell (i := 8) rfl
  have q9 := K2.out.cell (i := 9) rfl
  go_wp2_with fail
  refine (C2.out _ HB2.out).mono ?_
  rintro e W3 ⟨b, rfl, hb3⟩
  have HB3 : Hid (Below w.heap.size w W3) := HB2.out.trans (hb3.mono HB2.out.size)
  have K3 := Lib.hid (K2.out.later hb3)
  clear hb3 q0 q1 q2 q3 q4 q5 q6 q7 q8 q9
  cases b
  case true =>
    go_wp2_with fail
    refine (Awake_any _).mono ?_
    rintro e WA ⟨rfl, hbA⟩
    have HBA := Lib.hid (HB3.out.trans (hbA.mono HB3.out.size))
    clear hbA
    go_wp2_with fail
    go_ret
    exact ⟨rfl, HBA.out⟩
  have q0 := K3.out.cell (i := 0) rfl
  have q1 := K3.out.cell (i := 1) rfl
  have q2 := K3.out.cell (i := 2) rfl
  have q3 := K3.out.cell (i := 3) rfl
  have q4 := K3.out.cell (i := 4) rfl
  have q5 := K3.out.cell (i := 5) rfl
  have q6 := K3.out.cell (i := 6) rfl
  have q7 := K3.out.cell (i := 7) rfl
  have q8 := K3.out.cell (i := 8) rfl
  have q9 := K3.out.cell (i := 9) rfl
  go_wp2_with fail
  refine (C3.out _ HB3.out).mono ?_
  rintro e W4 ⟨hb4, hbest⟩
  have HB4 : Hid (Below w.heap.size w W4) := HB3.out.trans (hb4.mono HB3.out.size)
  have K4 := Lib.hid (K3.out.later hb4)
  clear hb4 q0 q1 q2 q3 q4 q5 q6 q7 q8 q9
  rw [hB] at hbest
  subst hbest
  have hz := K4.out.lt
  have q0 := K4.out.cell (i := 0) rfl
  have q1 := K4.out.cell (i := 1) rfl
  have q2 := K4.out.cell (i := 2) rfl
  have q3 := K4.out.cell (i := 3) rfl
  have q4 := K4.out.cell (i := 4) rfl
  have q5 := K4.out.cell (i := 5) rfl
  have q6 := K4.out.cell (i := 6) rfl
  have q7 := K4.out.cell (i := 7) rfl
  have q8 := K4.out.cell (i := 8) rfl
  have q9 := K4.out.cell (i := 9) rfl
  go_wp2_with fail
  obtain ⟨W5, hW5⟩ : ∃ W5, W4.alloc (Obj.cells #[.int .i64 0, .int .i64 0] 27) = W5 := ⟨_, rfl⟩
  have hb5 : Below W4.heap.size W4 W5 := by rw [← hW5]; exact (Below.refl _ _).alloc (Nat.le_refl _) _
  have HB5 : Hid (Below w.heap.size w W5) := HB4.out.trans (hb5.mono HB4.out.size)
  rw [hW5]
  clear hW5 hb5 hz q0 q1 q2 q3 q4 q5 q6 q7 q8 q9
  refine (C4.out _ HB5.out).mono ?_
  rintro e W6 ⟨Ar, cr, rfl, hb6⟩
  have HB6 : Hid (Below w.heap.size w W6) := HB5.out.trans (hb6.mono HB5.out.size)
  clear hb6
  generalize (jOf t ss).2 = je at *
  generalize (jOf t ss).1.length = R at *
  have hj' : (je != 0) = true ∨ ((je != 0) = false ∧ 0 < R) := by
    rcases hj with h | ⟨h1, h2⟩
    · exact .inl h
    · exact .inr ⟨h1, by simpa using h2⟩
  clear hj
  rcases hj' with hj | ⟨hj, hj2⟩
  all_goals
    go_wp2_with fail
    refine (Awake_any _).mono ?_
    rintro e WA ⟨rfl, hbA⟩
    have HBA := Lib.hid (HB6.out.trans (hbA.mono HB6.out.size))
    clear hbA
    go_wp2_with fail
    go_ret
    exact ⟨rfl, HBA.out⟩

set_option maxRecDepth 100000 in
set_option maxHeartbeats 4000000 in
theorem UpkeepBest_some (t : Task) (ss : List Int) (A : Option Addr) (n c : Nat) (A' : Option Addr) (n' c' : Nat) (As : Option Addr) (m cs : Nat) (w : World) (hT : TkM w t A n c A' n' c') (hs : RdI w As m ss) (he : (chkTask t).2.2 = 0) (p : List Int) (x1 x2 : Int) (hB : bestF t = some (p, x1, x2)) (hjp : jOf t p = ([], 0)) (hyp : ∃ L, yOf t p = (L, (x1, x2), 0)) (hgp : gtB (x1, x2) t.plan = false) (xb : 0 ≤ x1 ∧ x1 ≤ 200 ∧ 1 ≤ x2 ∧ x2 ≤ 200) (pb : (0 ≤ t.plan.1 ∧ t.plan.1 ≤ 1000) ∧ 0 ≤ t.plan.2 ∧ t.plan.2 ≤ 1000)
    (hfin : ((jOf t ss).2 != 0) = true ∨ (((jOf t ss).2 != 0) = false ∧ ((yOf t ss).2.2 != 0) = false ∧ decide ((0 : Int) < ((jOf t ss).1.length : Int)) = true) ∨ (((jOf t ss).2 != 0) = false ∧ ((yOf t ss).2.2 != 0) = false ∧ decide ((0 : Int) < ((jOf t ss).1.length : Int)) = false ∧ gtB (x1, x2) ((yOf t ss).2.1.1, (yOf t ss).2.1.2) = false ∧ 0 ≤ (yOf t ss).2.1.1 ∧ (yOf t ss).2.1.1 ≤ 1000 ∧ 0 ≤ (yOf t ss).2.1.2 ∧ (yOf t ss).2.1.2 ≤ 1000)) :
    Calls Try.prog 12 #[.agg (t.val A n c A' n' c'), .slice As m cs] w fun e w' => e = .returned (.bool true) ∧ Below w.heap.size w w' := by
  have HB1 : Hid (Below w.heap.size w (w.alloc (.cells (t.val A n c A' n' c') 29))) := (Below.refl _ _).alloc (Nat.le_refl _) _
  have K1 : Hid (Blk (w.alloc (.cells (t.val A n c A' n' c') 29)) w.heap.size 29 (t.val A n c A' n' c')) := Blk.new _ _ _ rfl
  have C1 := Lib.hid (check_any t A n c A' n' c' _ (hT.hr.below HB1.out) (hT.hw.below HB1.out) hT.hc hT.nm)
  have C2 := Lib.hid (fun (W : World) (h : Below w.heap.size w W) => Many_any t A n c A' n' c' W (hT.below h))
  have C3 := Lib.hid (fun (W : World) (h : Below w.heap.size w W) => best_ok t A n c A' n' c' W (hT.hr.below h) (hT.hw.below h) hT.hc hT.nm he)
  have C4 := Lib.hid (fun (W : World) (h : Below w.heap.size w W) => (Judge_any t ss A n c A' n' c' As m cs W (hT.below h) (hs.below h)).mono fun e w' h => judge_of h)
  obtain ⟨L, hyp⟩ := hyp
  obtain ⟨xb1, xb2, xb3, xb4⟩ := xb
  obtain ⟨⟨pb1, pb2⟩, pb3, pb4⟩ := pb
  have C5 : Hid (∀ (W : World) (Ap : Option Addr) (cp : Nat), Below w.heap.size w W → RdI W Ap p.length p → Calls Try.prog 34 #[.agg (t.val A n c A' n' c'), .slice Ap p.length cp] W fun e w' => ∃ A c, e = .returned (.tuple #[.slice A 0 c, .int .i64 0]) ∧ Below W.heap.size W w') := fun W Ap cp hW hp => (Judge_any t p A n c A' n' c' Ap p.length cp W (hT.below hW) hp).mono fun e w' h => by
    have := judge_of h
    rw [hjp] at this
    exact this
  have C6 : Hid (∀ (W : World) (Ap : Option Addr) (cp : Nat), Below w.heap.size w W → RdI W Ap p.length p → Calls Try.prog 32 #[.agg (t.val A n c A' n' c'), .slice Ap p.length cp] W fun e w' => ∃ A c, e = .returned (.tuple #[.slice A L.length c, .agg #[.int .i64 x1, .int .i64 x2], .int .i64 0]) ∧ Below W.heap.size W w') := fun W Ap cp hW hp => (Years_any t p A n c A' n' c' Ap p.length cp W (hT.below hW) hp).mono fun e w' h => by
    obtain ⟨A, c, h1, _, h3⟩ := years_of h
    rw [hyp] at h1
    exact ⟨A, c, h1, h3⟩
  have C7 : Hid (∀ W : World, Calls Try.prog 37 #[.agg #[.int .i64 x1, .int .i64 x2], .agg #[.int .i64 t.plan.1, .int .i64 t.plan.2]] W fun e w' => e = .returned (.bool false) ∧ Below W.heap.size W w') := fun W => by
    have h := lawGreater_any (x1, x2) t.plan W (by dsimp only; omega) (by dsimp only; omega) (by dsimp only; omega) (by dsimp only; omega) pb1 pb2 pb3 pb4
    rw [hgp] at h
    exact h
  have C8 : Hid (∀ W : World, Below w.heap.size w W → Calls Try.prog 32 #[.agg (t.val A n c A' n' c'), .slice As m cs] W fun e w' => ∃ A c, e = .returned (.tuple #[.slice A (yOf t ss).1.length c, .agg #[.int .i64 (yOf t ss).2.1.1, .int .i64 (yOf t ss).2.1.2], .int .i64 (yOf t ss).2.2]) ∧ Below W.heap.size W w') := fun W hW => (Years_any t ss A n c A' n' c' As m cs W (hT.below hW) (hs.below hW)).mono fun e w' h => by
    obtain ⟨A, c, h1, _, h3⟩ := years_of h
    exact ⟨A, c, h1, h3⟩
  have HGp := Lib.hid hgp
  clear hT hs hjp hyp hgp
  rw [he] at C1
  generalize (chkTask t).1 = y1 at *
  generalize (chkTask t).2.1 = y2 at *
  unfold Task.val at *
  go_enter Try.func12, Try.ntmps12
  go_wp2_with fail
  refine C1.out.mono ?_
  rintro e W2 ⟨rfl, hb2⟩
  have HB2 : Hid (Below w.heap.size w W2) := HB1.out.trans (hb2.mono HB1.out.size)
  have K2 := Lib.hid (K1.out.later hb2)
  clear hb2
  have q0 := K2.out.cell (i := 0) rfl
  have q1 := K2.out.cell (i := 1) rfl
  have q2 := K2.out.cell (i := 2) rfl
  have q3 := K2.out.cell (i := 3) rfl
  have q4 := K2.out.cell (i := 4) rfl
  have q5 := K2.out.cell (i := 5) rfl
  have q6 := K2.out.cell (i := 6) rfl
  have q7 := K2.out.cell (i := 7) rfl
  have q8 := K2.out.cell (i := 8) rfl
  have q9 := K2.out.cell (i := 9) rfl
  go_wp2_with fail
  refine (C2.out _ HB2.out).mono ?_
  rintro e W3 ⟨b, rfl, hb3⟩
  have HB3 : Hid (Below w.heap.size w W3) := HB2.out.trans (hb3.mono HB2.out.size)
  have K3 := Lib.hid (K2.out.later hb3)
  clear hb3 q0 q1 q2 q3 q4 q5 q6 q7 q8 q9
  cases b
  case true =>
    go_wp2_with fail
    refine (Awake_any _).mono ?_
    rintro e WA ⟨rfl, hbA⟩
    have HBA := Lib.hid (HB3.out.trans (hbA.mono HB3.out.size))
    clear hbA
    go_wp2_with fail
    go_ret
    exact ⟨rfl, HBA.out⟩
  have q0 := K3.out.cell (i := 0) rfl
  have q1 := K3.out.cell (i := 1) rfl
  have q2 := K3.out.cell (i := 2) rfl
  have q3 := K3.out.cell (i := 3) rfl
  have q4 := K3.out.cell (i := 4) rfl
  have q5 := K3.out.cell (i := 5) rfl
  have q6 := K3.out.cell (i := 6) rfl
  have q7 := K3.out.cell (i := 7) rfl
  have q8 := K3.out.cell (i := 8) rfl
  have q9 := K3.out.cell (i := 9) rfl
  go_wp2_with fail
  refine (C3.out _ HB3.out).mono ?_
  rintro e W4 ⟨hb4, hbest⟩
  have HB4 : Hid (Below w.heap.size w W4) := HB3.out.trans (hb4.mono HB3.out.size)
  have K4 := Lib.hid (K3.out.later hb4)
  clear hb4 q0 q1 q2 q3 q4 q5 q6 q7 q8 q9
  rw [hB] at hbest
  obtain ⟨Ap, cp, rfl, hp⟩ := hbest
  have HP := Lib.hid hp
  clear hp
  have hz := K4.out.lt
  dsimp only at *
  have q0 := K4.out.cell (i := 0) rfl
  have q1 := K4.out.cell (i := 1) rfl
  have q2 := K4.out.cell (i := 2) rfl
  have q3 := K4.out.cell (i := 3) rfl
  have q4 := K4.out.cell (i := 4) rfl
  have q5 := K4.out.cell (i := 5) rfl
  have q6 := K4.out.cell (i := 6) rfl
  have q7 := K4.out.cell (i := 7) rfl
  have q8 := K4.out.cell (i := 8) rfl
  have q9 := K4.out.cell (i := 9) rfl
  go_wp2_with fail
  obtain ⟨W5, hW5⟩ : ∃ W5, W4.alloc (Obj.cells #[.int .i64 x1, .int .i64 x2] 27) = W5 := ⟨_, rfl⟩
  have hb5 : Below W4.heap.size W4 W5 := by rw [← hW5]; exact (Below.refl _ _).alloc (Nat.le_refl _) _
  have KX : Hid (Blk W5 W4.heap.size 27 #[.int .i64 x1, .int .i64 x2]) := by rw [← hW5]; exact Blk.new _ _ _ rfl
  have HB5 : Hid (Below w.heap.size w W5) := HB4.out.trans (hb5.mono HB4.out.size)
  have K5 := Lib.hid (K4.out.later hb5)
  have HP5 := Lib.hid (HP.out.below hb5)
  rw [hW5]
  clear hW5 hb5 hz q0 q1 q2 q3 q4 q5 q6 q7 q8 q9
  refine (C4.out _ HB5.out).mono ?_
  rintro e W6 ⟨Ar, cr, rfl, hb6⟩
  have HB6 : Hid (Below w.heap.size w W6) := HB5.out.trans (hb6.mono HB5.out.size)
  have K6 := Lib.hid (K5.out.later hb6)
  have KX6 := Lib.hid (KX.out.later hb6)
  have HP6 := Lib.hid (HP5.out.below hb6)
  clear hb6
  have q0 := K6.out.cell (i := 0) rfl
  have q1 := K6.out.cell (i := 1) rfl
  have q2 := K6.out.cell (i := 2) rfl
  have q3 := K6.out.cell (i := 3) rfl
  have q4 := K6.out.cell (i := 4) rfl
  have q5 := K6.out.cell (i := 5) rfl
  have q6 := K6.out.cell (i := 6) rfl
  have q7 := K6.out.cell (i := 7) rfl
  have q8 := K6.out.cell (i := 8) rfl
  have q9 := K6.out.cell (i := 9) rfl
  go_wp2_with fail
  refine (C5.out W6 Ap cp HB6.out HP6.out).mono ?_
  rintro e W7 ⟨Am, cm, rfl, hb7⟩
  have HB7 : Hid (Below w.heap.size w W7) := HB6.out.trans (hb7.mono HB6.out.size)
  have K7 := Lib.hid (K6.out.later hb7)
  have KX7 := Lib.hid (KX6.out.later hb7)
  have HP7 := Lib.hid (HP6.out.below hb7)
  clear hb7 q0 q1 q2 q3 q4 q5 q6 q7 q8 q9
  have q0 := K7.out.cell (i := 0) rfl
  have q1 := K7.out.cell (i := 1) rfl
  have q2 := K7.out.cell (i := 2) rfl
  have q3 := K7.out.cell (i := 3) rfl
  have q4 := K7.out.cell (i := 4) rfl
  have q5 := K7.out.cell (i := 5) rfl
  have q6 := K7.out.cell (i := 6) rfl
  have q7 := K7.out.cell (i := 7) rfl
  have q8 := K7.out.cell (i := 8) rfl
  have q9 := K7.out.cell (i := 9) rfl
  go_wp2_with fail
  refine (C6.out W7 Ap cp HB7.out HP7.out).mono ?_
  rintro e W8 ⟨Ay, cy, rfl, hb8⟩
  have HB8 : Hid (Below w.heap.size w W8) := HB7.out.trans (hb8.mono HB7.out.size)
  have K8 := Lib.hid (K7.out.later hb8)
  have KX8 := Lib.hid (KX7.out.later hb8)
  clear hb8 q0 q1 q2 q3 q4 q5 q6 q7 q8 q9
  have q8 := K8.out.cell (i := 8) rfl
  have q9 := K8.out.cell (i := 9) rfl
  have x0 := KX8.out.cell (i := 0) rfl
  have x1' := KX8.out.cell (i := 1) rfl
  have hz := K8.out.lt
  have hz2 := KX8.out.lt
  have s1 : (x1 != x1) = false := by simp
  have s2 : (x2 != x2) = false := by simp
  go_wp2_with fail
  obtain ⟨W9, hW9⟩ : ∃ W9, W8.alloc (Obj.cells #[.int .i64 x1, .int .i64 x2] 27) = W9 := ⟨_, rfl⟩
  have hb9 : Below W8.heap.size W8 W9 := by rw [← hW9]; exact (Below.refl _ _).alloc (Nat.le_refl _) _
  have HB9 : Hid (Below w.heap.size w W9) := HB8.out.trans (hb9.mono HB8.out.size)
  have K9 := Lib.hid (K8.out.later hb9)
  have KX9 := Lib.hid (KX8.out.later hb9)
  rw [hW9]
  clear hW9 hb9 q8 q9 x0 x1' hz hz2
  refine (C7.out W9).mono ?_
  rintro e W10 ⟨rfl, hb10⟩
  have HB10 : Hid (Below w.heap.size w W10) := HB9.out.trans (hb10.mono HB9.out.size)
  have K10 := Lib.hid (K9.out.later hb10)
  have KX10 := Lib.hid (KX9.out.later hb10)
  clear hb10
  have q0 := K10.out.cell (i := 0) rfl
  have q1 := K10.out.cell (i := 1) rfl
  have q2 := K10.out.cell (i := 2) rfl
  have q3 := K10.out.cell (i := 3) rfl
  have q4 := K10.out.cell (i := 4) rfl
  have q5 := K10.out.cell (i := 5) rfl
  have q6 := K10.out.cell (i := 6) rfl
  have q7 := K10.out.cell (i := 7) rfl
  have q8 := K10.out.cell (i := 8) rfl
  have q9 := K10.out.cell (i := 9) rfl
  go_wp2_with fail
  refine (C8.out W10 HB10.out).mono ?_
  rintro e W11 ⟨Az, cz, rfl, hb11⟩
  have HB11 : Hid (Below w.heap.size w W11) := HB10.out.trans (hb11.mono HB10.out.size)
  have KX11 := KX10.out.later hb11
  clear hb11 q0 q1 q2 q3 q4 q5 q6 q7 q8 q9
  have x0 := KX11.cell (i := 0) rfl
  have x1' := KX11.cell (i := 1) rfl
  have hz2 := KX11.lt
  clear KX11
  generalize (yOf t ss).1.length = Yl at *
  generalize (yOf t ss).2.1.1 = z1 at *
  generalize (yOf t ss).2.1.2 = z2 at *
  generalize (yOf t ss).2.2 = ye at *
  generalize (jOf t ss).2 = je at *
  generalize (jOf t ss).1.length = R at *
  have h12 : Below w.heap.size w (W11.alloc (Obj.cells #[.int .i64 z1, .int .i64 z2] 27)) := HB11.out.alloc HB11.out.size _
  have HB12 := Lib.hid h12
  clear h12
  rcases hfin with hj | ⟨hj, hy, hj2'⟩ | ⟨hj, hy, hj2', hgt, zb⟩
  · clear x0 x1' hz2
    go_wp2_with fail
    refine (Awake_any _).mono ?_
    rintro e WA ⟨rfl, hbA⟩
    have HBA := Lib.hid (HB12.out.trans (hbA.mono HB12.out.size))
    clear hbA
    go_wp2_with fail
    go_ret
    exact ⟨rfl, HBA.out⟩
  · have hj2 : 0 < R := by simpa using hj2'
    clear x0 x1' hz2 hj2'
    go_wp2_with fail
    refine (Awake_any _).mono ?_
    rintro e WA ⟨rfl, hbA⟩
    have HBA := Lib.hid (HB12.out.trans (hbA.mono HB12.out.size))
    clear hbA
    go_wp2_with fail
    go_ret
    exact ⟨rfl, HBA.out⟩
  · have hj2 : R = 0 := by simpa using hj2'
    clear hj2'
    obtain ⟨zb1, zb2, zb3, zb4⟩ := zb
    have HG : Hid (∀ W : World, Calls Try.prog 37 #[.agg #[.int .i64 x1, .int .i64 x2], .agg #[.int .i64 z1, .int .i64 z2]] W fun e w' => e = .returned (.bool false) ∧ Below W.heap.size W w') := fun W => by
      have h := lawGreater_any (x1, x2) (z1, z2) W (by dsimp only; omega) (by dsimp only; omega) (by dsimp only; omega) (by dsimp only; omega) zb1 zb2 zb3 zb4
      rw [hgt] at h
      exact h
    have HGt := Lib.hid hgt
    clear hgt
    go_wp2_with fail
    refine (HG.out _).mono ?_
    rintro e W13 ⟨rfl, hb13⟩
    have HB13 := Lib.hid (HB12.out.trans (hb13.mono HB12.out.size))
    clear hb13 x0 x1' hz2
    go_wp2_with fail
    refine (Awake_any _).mono ?_
    rintro e WA ⟨rfl, hbA⟩
    have HBA := Lib.hid (HB13.out.trans (hbA.mono HB13.out.size))
    clear hbA
    go_wp2_with fail
    go_ret
    exact ⟨rfl, HBA.out⟩

theorem UpkeepBest_any (t : Task) (ss : List Int) (A : Option Addr) (n c : Nat) (A' : Option Addr) (n' c' : Nat) (As : Option Addr) (m cs : Nat) (w : World) (hT : TkM w t A n c A' n' c') (hs : RdI w As m ss) :
    Calls Try.prog 12 #[.agg (t.val A n c A' n' c'), .slice As m cs] w fun e w' => e = .returned (.bool true) ∧ Below w.heap.size w w' := by
  by_cases he : ((chkTask t).2.2 != 0) = true
  · exact UpkeepBest_err t A n c A' n' c' _ w hT he
  · have he0 : (chkTask t).2.2 = 0 := by simpa using he
    have hok := taskOK_of he0
    have hF := best_found hok
    have hgood : shErr t ss = 0 → judgeL t ss = [] → ss ∈ plansL t t.works.length [] := fun h1 h2 => good_mem hok (planOK_of h1).len (good_iff.1 h2)
    have hje : shErr t ss ≠ 0 → ((jOf t ss).2 != 0) = true := fun h => by unfold jOf; rw [if_neg h]; simpa using h
    have hj0 : shErr t ss = 0 → jOf t ss = (judgeL t ss, 0) := fun h => if_pos h
    have hy0 : shErr t ss = 0 → yOf t ss = (harmL t ss, harmR t ss, 0) := fun h => if_pos h
    cases hB : bestF t with
    | none =>
      refine UpkeepBest_none t ss A n c A' n' c' As m cs w hT hs he0 hB ?_
      by_cases h : shErr t ss = 0
      · refine .inr ?_
        rw [hj0 h]
        refine ⟨rfl, ?_⟩
        have hne : judgeL t ss ≠ [] := fun hj => hF.none hB ss (hgood h hj) hj
        have := List.length_pos_iff.2 hne
        simp
        omega
      · exact .inl (hje h)
    | some q =>
      obtain ⟨p, x1, x2⟩ := q
      obtain ⟨h1, h2, h3, h4⟩ := hF.some _ hB
      dsimp only at h1 h2 h3 h4
      obtain ⟨hpl, hpd⟩ := plan_days hok h1
      have hsp := shErr_zero ⟨he0, hpl, hpd⟩
      have hbd := harmR_bounds hok p
      rw [← h3] at hbd
      have hpl2 := hok.plan
      refine UpkeepBest_some t ss A n c A' n' c' As m cs w hT hs he0 p x1 x2 hB ?_ ⟨harmL t p, ?_⟩ ?_ ⟨hbd.1, hbd.2.1, hbd.2.2.1, hbd.2.2.2⟩ ⟨⟨by omega, by omega⟩, by omega, by omega⟩ ?_
      · unfold jOf; rw [if_pos hsp, h2]
      · unfold yOf; rw [if_pos hsp, ← h3]
      · have := (good_iff.1 h2).risk
        rw [← h3] at this
        exact this
      · by_cases h : shErr t ss = 0
        · refine .inr ?_
          rw [hj0 h, hy0 h]
          by_cases hj : judgeL t ss = []
          · have hb2 := harmR_bounds hok ss
            exact .inr ⟨rfl, rfl, by rw [hj]; rfl, h4 ss (hgood h hj) hj, hb2.1, by dsimp only; omega, by dsimp only; omega, by dsimp only; omega⟩
          · have := List.length_pos_iff.2 hj
            exact .inl ⟨rfl, rfl, by simp; omega⟩
        · exact .inl (hje h)
end Go.Proofs.Ytkkajemahehoaaa

namespace Go.Proofs.Ytkkajemahehoaaa
open Go.RowKit

theorem kn_risk0 : riskTop exRec 0 30 2400 = ((2, 4), 0) := by decide +kernel
theorem kn_risk1 : riskTop exRec 0 30 2600 = ((1, 4), 0) := by decide +kernel
theorem kn_chk : (chkRec exRec).2 = 0 := by decide +kernel
theorem kn_rank0 : RankIs exRec 0 30 0 2900 := ⟨by omega, by omega, by decide +kernel, fun _ => by decide +kernel⟩
theorem kn_rank1 : RankIs exRec 0 30 1 2500 := ⟨by omega, by omega, by decide +kernel, fun _ => by decide +kernel⟩
theorem kn_rank2 : RankIs exRec 0 30 2 (-20000) := ⟨by omega, by omega, by decide +kernel, fun h => by omega⟩
theorem kn_rkErr0 : rkErr exRec 0 30 0 = 0 := by decide +kernel
theorem kn_rkErr1 : rkErr exRec 0 30 1 = 0 := by decide +kernel
theorem kn_rkErr2 : rkErr exRec 0 30 2 = 0 := by decide +kernel
theorem kn_season0 : seasonTop exRec 5 2550 (0, 1) = ([1, 2, 3, 4, 5, 96, 97, 98, 99, 100, 346, 347, 348, 349, 350, 358, 359, 360], 0) := by decide +kernel
theorem kn_season1 : seasonTop exRec 5 2550 (1, 4) = ([], 0) := by decide +kernel
theorem kn_starts0 : exTask.works[0]?.map (startsF exTask) = some [105, 120, 135, 150] := by decide +kernel
theorem kn_starts1 : exTask.works[1]?.map (startsF exTask) = some [110, 120, 130] := by decide +kernel
theorem kn_best : bestF exTask = some ([105, 130], (0, 4)) := by decide +kernel
theorem kn_sh1 : shErr exTask [90, 100] = 0 := by decide +kernel
theorem kn_sh2 : shErr exTask [105, 125] = 0 := by decide +kernel
theorem kn_sh3 : shErr exTask [105, 130] = 0 := by decide +kernel
theorem kn_harm : harmL exTask [90, 100] = [2003] ∧ harmR exTask [90, 100] = (1, 4) := by decide +kernel
theorem kn_judge1 : judgeL exTask [90, 100] = [⟨2, 0, 1, -1⟩, ⟨3, 0, -1, 96⟩, ⟨3, 1, -1, 100⟩] := by decide +kernel
theorem kn_judge2 : judgeL exTask [105, 125] = [⟨1, 1, -1, -1⟩, ⟨2, 0, 1, -1⟩] := by decide +kernel
theorem kn_judge3 : judgeL exTask [105, 130] = [] := by decide +kernel
end Go.Proofs.Ytkkajemahehoaaa

namespace Go.Proofs.Ytkkajemahehoaaa
open Go.RowKit

theorem rd_blk {α : Type} {enc : α → List Value} {z : Nat} (hk : ∀ x, (enc x).length = z) {w : World} {g : Nat} {t : TypeId} {cs : Array Value} (h : Blk w g t cs) (xs : List α) (hc : cs.toList = xs.flatMap enc) : Rd enc z w (some ⟨g, 0, none⟩) xs.length xs :=
  ⟨rfl, fun i x hx => ⟨_, rfl, fun j v hj => by
    rw [add_add', Addr.add_mid]
    have h1 := flat_get hk xs i x j v hx hj
    rw [← hc] at h1
    have h2 : cs[i * z + j]? = some v := by simpa using h1
    have h3 := h.cell (i := i * z + j) h2
    simpa using h3⟩⟩
abbrev encP (p : Int × Int) : List Value := [.int .i64 p.1, .int .i64 p.2]
theorem rankV_uniq {k u v : Int} (he : rkErr exRec 0 30 k = 0) (hv : RankIs exRec 0 30 k v) (hu : RankV exRec 0 30 k u) : u = v := hu.uniq (.inr ⟨he, hv⟩)
theorem kn_row {k : Nat} {x y z v : Int} {p : Int × Int} (hk : k < 3) (hx : ([0, 0, 340] : List Int)[k]? = some x) (hy : ([30, 30, 40] : List Int)[k]? = some y) (hz : ([2400, 2600, 2400] : List Int)[k]? = some z) (hp : ([(2, 4), (1, 4), (1, 3)] : List (Int × Int))[k]? = some p) (hv : ([2900, 2500, -20000] : List Int)[k]? = some v) :
    riskTop exRec x y z = (p, 0) ∧ rkErr exRec 0 30 (k : Int) = 0 ∧ ∀ u, RankV exRec 0 30 (k : Int) u → u = v := by
  rcases (by omega : k = 0 ∨ k = 1 ∨ k = 2) with rfl | rfl | rfl
  · simp at hx hy hz hp hv
    subst hx hy hz hp hv
    exact ⟨kn_risk0, kn_rkErr0, fun u h => rankV_uniq kn_rkErr0 kn_rank0 h⟩
  · simp at hx hy hz hp hv
    subst hx hy hz hp hv
    exact ⟨kn_risk1, kn_rkErr1, fun u h => rankV_uniq kn_rkErr1 kn_rank1 h⟩
  · simp at hx hy hz hp hv
    subst hx hy hz hp hv
    exact ⟨ex_risk, kn_rkErr2, fun u h => rankV_uniq kn_rkErr2 kn_rank2 h⟩
theorem seven_blk (w : World) (a b c d e f g : Array Value) (ta tb tc td te tf tg : TypeId) : ∃ W, (((((((w.alloc (.cells a ta)).alloc (.cells b tb)).alloc (.cells c tc)).alloc (.cells d td)).alloc (.cells e te)).alloc (.cells f tf)).alloc (.cells g tg)) = W ∧ Below w.heap.size w W ∧
    Blk W w.heap.size ta a ∧ Blk W (w.heap.size + 1) tb b ∧ Blk W (w.heap.size + 1 + 1) tc c ∧ Blk W (w.heap.size + 1 + 1 + 1) td d ∧ Blk W (w.heap.size + 1 + 1 + 1 + 1) te e ∧ Blk W (w.heap.size + 1 + 1 + 1 + 1 + 1) tf f ∧ Blk W (w.heap.size + 1 + 1 + 1 + 1 + 1 + 1) tg g := by
  refine ⟨_, rfl, ?_, ?_, ?_, ?_, ?_, ?_, ?_, ?_⟩
  · exact ((((((((Below.refl _ w).alloc (Nat.le_refl _) _).alloc (by simp) _).alloc (by simp; omega) _).alloc (by simp; omega) _).alloc (by simp; omega) _).alloc (by simp; omega) _).alloc (by simp; omega) _)
  · exact ((((((Blk.new _ _ _ rfl).alloc _).alloc _).alloc _).alloc _).alloc _).alloc _
  · exact (((((Blk.new _ _ _ (by simp)).alloc _).alloc _).alloc _).alloc _).alloc _
  · exact ((((Blk.new _ _ _ (by simp)).alloc _).alloc _).alloc _).alloc _
  · exact (((Blk.new _ _ _ (by simp)).alloc _).alloc _).alloc _
  · exact ((Blk.new _ _ _ (by simp)).alloc _).alloc _
  · exact (Blk.new _ _ _ (by simp)).alloc _
  · exact Blk.new _ _ _ (by simp)
end Go.Proofs.Ytkkajemahehoaaa

namespace Go.Proofs.Ytkkajemahehoaaa
open Go.RowKit

theorem anyLate_any (ss : List Int) : anyLate ss = ss.any lateB := by
  cases h : ss.any lateB
  · rw [anyLate_false]
    intro s hs
    rw [List.any_eq_false] at h
    have := h s hs
    unfold lateB at this
    exact outB_false (by simpa using this)
  · cases h2 : anyLate ss
    · rw [anyLate_false] at h2
      rw [List.any_eq_true] at h
      obtain ⟨s, hs, hl⟩ := h
      unfold lateB at hl
      have := outB_true hl
      have := h2 s hs
      omega
    · rfl

set_option maxRecDepth 100000 in
set_option maxHeartbeats 2000000 in
theorem shaped_any (t : Task) (ss : List Int) (A : Option Addr) (n c : Nat) (A' : Option Addr) (n' c' : Nat) (As : Option Addr) (m cs : Nat) (w : World) (hT : TkM w t A n c A' n' c') (hs : RdI w As m ss) :
    Calls Try.prog 78 #[.agg (t.val A n c A' n' c'), .slice As m cs] w fun e w' => e = .returned (.int .i64 (shErr t ss)) ∧ Below w.heap.size w w' := by
  have HB1 : Hid (Below w.heap.size w (w.alloc (.cells (t.val A n c A' n' c') 29))) := (Below.refl _ _).alloc (Nat.le_refl _) _
  have KK : Hid (Blk (w.alloc (.cells (t.val A n c A' n' c') 29)) w.heap.size 29 (t.val A n c A' n' c')) := Blk.new _ _ _ rfl
  have HC := Lib.hid (good_any t A n c A' n' c' _ (hT.below HB1.out))
  have hsl := hs.1
  have hwl := hT.hw.1
  have HSs := Lib.hid hs
  have HSh : Hid (shErr t ss = if (chkTask t).2.2 != 0 then (chkTask t).2.2 else if m != n' then 2 else if ss.any lateB then 7 else 0) := by unfold shErr; rw [hsl, hwl, anyLate_any]; rfl
  have HN4 : Hid ((chkTask t).2.2 = 0 → n' ≤ 4) := fun h => by have := (taskOK_of h).len; omega
  clear hT hs
  rw [HSh.out]
  clear HSh
  generalize (chkTask t).2.2 = X at *
  unfold Task.val at *
  by_cases hX : (X != 0) = true
  · rw [if_pos hX]
    have hX' : (X == 0) = false := by simpa using hX
    clear HN4
    go_enter Try.func78, Try.ntmps78
    go_wp2_with fail
    refine HC.out.mono ?_
    rintro e W2 ⟨rfl, hb2⟩
    have HB2 : Hid (Below w.heap.size w W2) := HB1.out.trans (hb2.mono HB1.out.size)
    clear hb2
    go_wp2_with fail
    go_loopw [5, 6] (fun q i wr => q = .int .i64 X ∧ i = .int .i64 0 ∧ Below w.heap.size w wr) (fun _ _ _ => 0)
    case atStart => exact ⟨rfl, rfl, HB2.out⟩
    case round =>
      obtain ⟨rfl, rfl, hB⟩ := hrel
      have HB := Lib.hid hB; clear hB
      go_wp2
      all_goals go_ret
      all_goals exact ⟨rfl, HB.out⟩
  · rw [if_neg hX]
    obtain rfl : X = 0 := by simpa using hX
    have hn4 := HN4.out rfl
    by_cases hmn : (m != n') = true
    · rw [if_pos hmn]
      have hne : ((m : Int) != (n' : Int)) = true := by simp at hmn ⊢; omega
      clear hX hmn HN4
      go_enter Try.func78, Try.ntmps78
      go_wp2_with fail
      refine HC.out.mono ?_
      rintro e W2 ⟨rfl, hb2⟩
      have HB2 : Hid (Below w.heap.size w W2) := HB1.out.trans (hb2.mono HB1.out.size)
      have k3 := (KK.out.later hb2).cell (i := 3) rfl
      have hz := (KK.out.later hb2).lt
      clear hb2
      go_wp2_with fail
      clear k3 hz
      go_loopw [5, 6] (fun q i wr => q = .int .i64 2 ∧ i = .int .i64 0 ∧ Below w.heap.size w wr) (fun _ _ _ => 0)
      case atStart => exact ⟨rfl, rfl, HB2.out⟩
      case round =>
        obtain ⟨rfl, rfl, hB⟩ := hrel
        have HB := Lib.hid hB; clear hB
        go_wp2
        all_goals go_ret
        all_goals exact ⟨rfl, HB.out⟩
    · rw [if_neg hmn]
      obtain rfl : m = n' := by simpa using hmn
      have hne : ((m : Int) != (m : Int)) = false := by simp
      clear hX hmn HN4 hwl
      generalize hV : (if ss.any lateB then (7 : Int) else 0) = V
      have HV := Lib.hid hV; clear hV
      go_enter Try.func78, Try.ntmps78
      go_wp2_with fail
      refine HC.out.mono ?_
      rintro e W2 ⟨rfl, hb2⟩
      have HB2 : Hid (Below w.heap.size w W2) := HB1.out.trans (hb2.mono HB1.out.size)
      have k3 := (KK.out.later hb2).cell (i := 3) rfl
      have hz := (KK.out.later hb2).lt
      clear hb2
      go_wp2_with fail
      clear k3 hz
      go_loopw [5, 6] (fun q i wr => ∃ k : Nat, k ≤ m ∧ i = .int .i64 k ∧ q = .int .i64 (if (ss.take k).any lateB then 7 else 0) ∧ Below w.heap.size w wr) (fun _ i _ => m - (intOf i).toNat)
      case atStart => exact ⟨0, Nat.zero_le _, rfl, by simp, HB2.out⟩
      case round =>
        obtain ⟨k, hk, rfl, rfl, hB⟩ := hrel
        have HB := Lib.hid hB; clear hB
        cases hl : (ss.take k).any lateB
        · simp only [Bool.false_eq_true, if_false]
          have HL := Lib.hid hl
          clear hl
          by_cases hlt : k < m
          · obtain ⟨s, sd, hs, rfl, cs0⟩ := rdI_get (HSs.out.below HB.out) hlt
            have hki : (k : Int) < (m : Int) := by omega
            have HS : Hid ((ss.take (k + 1)).any lateB = lateB s) := by
              obtain ⟨hk', rfl⟩ := List.getElem?_eq_some_iff.1 hs
              rw [List.take_succ_eq_append_getElem hk', List.any_append, HL.out]
              simp [Hid]
            clear hs
            cases hls : lateB s
            · have HS2 : Hid ((if (ss.take (k + 1)).any lateB then (7 : Int) else 0) = 0) := by rw [HS.out, hls]; rfl
              clear HS
              go_wp2_with (go_at_call 84; refine (day_any _ _).mono ?_; rintro e w' ⟨rfl, rfl⟩)
              go_roundw
              case rel => exact ⟨k + 1, by omega, by go_num, by rw [HS2.out], HB.out⟩
              case measure => simp [intOf]; omega
            · have HS2 : Hid ((if (ss.take (k + 1)).any lateB then (7 : Int) else 0) = 7) := by rw [HS.out, hls]; rfl
              clear HS
              go_wp2_with (go_at_call 84; refine (day_any _ _).mono ?_; rintro e w' ⟨rfl, rfl⟩)
              go_roundw
              case rel => exact ⟨k + 1, by omega, by go_num, by rw [HS2.out], HB.out⟩
              case measure => simp [intOf]; omega
          · obtain rfl : m = k := by omega
            have F : Hid (V = 0) := by have := HL.out; rw [List.take_of_length_le (by omega)] at this; rw [← HV.out, this]; rfl
            go_wp2
            go_ret
            exact ⟨ret_int F.out.symm, HB.out⟩
        · have F : Hid (V = 7) := by
            have : ss.any lateB = true := by
              rw [List.any_eq_true] at hl ⊢
              obtain ⟨s, h1, h2⟩ := hl
              exact ⟨s, List.mem_of_mem_take h1, h2⟩
            rw [← HV.out, this]; rfl
          clear hl
          simp only [if_true]
          go_wp2
          all_goals go_ret
          all_goals exact ⟨ret_int F.out.symm, HB.out⟩
theorem harmW_next {ss : List Int} {ws : List Work} {k : Nat} {s : Int} {x : Work} (hs : ss[k]? = some s) (hx : ws[k]? = some x) : harmW ((ss.zip ws).take (k + 1)) = (harmW ((ss.zip ws).take k) || wrapsB s x.days) := by
  rw [zip_take_succ hs hx]; unfold harmW; rw [List.any_append]; simp
theorem harmP_next {hs : List High} {ss : List Int} {ws : List Work} {k : Nat} {s : Int} {x : Work} {y : Int} (h1 : ss[k]? = some s) (hx : ws[k]? = some x) : harmP hs ((ss.zip ws).take (k + 1)) y = (harmP hs ((ss.zip ws).take k) y || excB hs s x.days x.level y) := by
  rw [zip_take_succ h1 hx]; unfold harmP; rw [List.any_append]; simp
theorem zip_whole {ss : List Int} {ws : List Work} {m : Nat} (h1 : ss.length = m) : (ss.zip ws).take m = ss.zip ws := List.take_of_length_le (by rw [List.length_zip]; omega)
theorem yearsL_succ (P : Int → Bool) (f : Int) (k : Nat) : yearsL f ((k : Int) + 1) P = if P (f + k) then yearsL f k P ++ [f + (k : Int)] else yearsL f k P := by
  unfold yearsL
  rw [show ((k : Int) + 1).toNat = k + 1 by omega, show ((k : Int)).toNat = k from rfl, List.range_succ, List.map_append, List.filter_append]
  simp only [List.map_cons, List.map_nil, List.filter_cons, List.filter_nil]
  split <;> simp

set_option maxRecDepth 100000 in
set_option maxHeartbeats 4000000 in
theorem refYears0_any (t : Task) (ss : List Int) (A : Option Addr) (n c : Nat) (A' : Option Addr) (n' c' : Nat) (As : Option Addr) (m cs : Nat) (w : World) (hT : TkM w t A n c A' n' c') (hs : RdI w As m ss) (hok : TaskOK t) (hm : m = n') (hss : ∀ s ∈ ss, 0 ≤ s ∧ s ≤ 364) :
    Calls Try.prog 70 #[.agg (t.val A n c A' n' c'), .slice As m cs] w (HarmPost t ss w) := by
  obtain ⟨i0, hi, hz0, hz1, hz2⟩ := info_parts info3
  have hsl := hs.1
  have hml : m ≤ 4 := by have := hT.hw.1; have := hok.len; omega
  have HWs : Hid (∀ (i : Nat) (v : Work), t.works[i]? = some v → WorkOK v) := fun i v hv => workOK_of (hok.rows i v hv).2.2.1
  have HSr := Lib.hid hss; have HSs := Lib.hid hs; have HWk := Lib.hid hT.hw
  obtain ⟨f0, f1, y0, y1⟩ : 0 ≤ t.rd.first ∧ t.rd.first ≤ 9999 ∧ 2 ≤ t.rd.years ∧ t.rd.years ≤ 200 := ⟨hok.rd.f0, hok.rd.f1, hok.rd.y0, hok.rd.y1⟩
  have HEx : Hid (∀ (W : World) (d l s y : Int), Below w.heap.size w W → 0 ≤ s → s ≤ 364 → 1 ≤ d → d ≤ 365 → -5 ≤ y → y ≤ 100000 → Calls Try.prog 105 #[.agg #[.int .i64 t.rd.first, .int .i64 t.rd.years, .slice A n c], .int .i64 s, .int .i64 d, .int .i64 l, .int .i64 y] W fun e w' => e = .returned (.bool (excB t.rd.highs s d l y)) ∧ Below W.heap.size W w') :=
    fun W d l s y hW s0 s1 d0 d1 a b => refExceeded_rec t.rd s d l y A n c W (hT.hr.below hW) hok.rd s0 s1 d0 d1 a b
  have HZ : Hid ((ss.zip t.works).take m = ss.zip t.works) := zip_whole hsl
  have HPo : Hid (∀ (v : Value) (w' : World) (o : Int), ofF t.rd.years (harmW (ss.zip t.works)) = o → w'.ownsRow w.heap.size 3 1 v (yearsL t.rd.first o (harmP t.rd.highs (ss.zip t.works))).length ((yearsL t.rd.first o (harmP t.rd.highs (ss.zip t.works))).map (Value.int .i64)) → Below w.heap.size w w' → HarmPost t ss w (.returned (.tuple #[v, .agg #[.int .i64 ((yearsL t.rd.first o (harmP t.rd.highs (ss.zip t.works))).length : Int), .int .i64 o]])) w') := fun v w' o ho h1 h2 => by
    subst ho
    exact ⟨v, rfl, h1, h2⟩
  clear hT hs hok hss
  subst hm
  obtain ⟨b1, b2, b3⟩ := two w (t.val A n c A' m c') #[.int .i64 0, .int .i64 0] 29 27
  have HB1 := Lib.hid b1; have K1 := Lib.hid b2; have K2 := Lib.hid b3
  clear b1 b2 b3
  unfold Task.val at *
  go_enter Try.func70, Try.ntmps70
  go_wp2
  obtain ⟨W1, hW1⟩ : ∃ W1, (w.alloc (Obj.cells #[.int .i64 t.rd.first, .int .i64 t.rd.years, .slice A n c, .slice A' m c', .int .i64 t.gap, .int .i64 t.width, .int .i64 t.day.1, .int .i64 t.day.2, .int .i64 t.plan.1, .int .i64 t.plan.2] 29)).alloc (Obj.cells #[.int .i64 0, .int .i64 0] 27) = W1 := ⟨_, rfl⟩
  have hs1 : W1.heap.size = w.heap.size + 2 := by rw [← hW1]; simp
  rw [hW1] at HB1 K1 K2 ⊢
  have HS1 := Lib.hid hs1
  clear hW1 hs1
  go_loopw [6, 7] (fun b i wr => ∃ k : Nat, k ≤ m ∧ b = .bool (harmW ((ss.zip t.works).take k)) ∧ i = .int .i64 k ∧ Below W1.heap.size W1 wr) (fun _ i _ => m - (intOf i).toNat)
  case atStart => exact ⟨0, Nat.zero_le _, rfl, rfl, Below.refl _ _⟩
  case round =>
    obtain ⟨k, hk, rfl, rfl, hB⟩ := hrel
    have HB := Lib.hid hB; clear hB
    have HBw : Hid (Below w.heap.size w wr) := HB1.out.trans (HB.out.mono HB1.out.size)
    by_cases hlt : k < m
    · obtain ⟨x, ad, hx, rfl, ha⟩ := (HWk.out.below HBw.out).get hlt
      obtain ⟨s, sd, hs, rfl, cs0⟩ := rdI_get (HSs.out.below HBw.out) hlt
      obtain ⟨c0, c1, c2, c3, c4, c5, c6⟩ := ha.seven
      have q3 := later_cell (((K1.out.later HB.out)).cell (i := 3) rfl)
      have q4 := later_cell cs0
      have q5 := later_cell c2
      obtain ⟨d0, d1, _, _, _, _, _, _, _, _⟩ := HWs.out k x hx
      obtain ⟨s0, s1⟩ := HSr.out s (List.mem_of_getElem? hs)
      have HSt := Lib.hid (harmW_next hs hx)
      have hki : (k : Int) < (m : Int) := by omega
      have HW1 : Hid (∀ u : Later wr, Calls Try.prog 103 #[.int .i64 s, .int .i64 x.days] u.w fun e w' => e = .returned (.bool (wrapsB s x.days)) ∧ u.w = w') := fun u => refWraps_any s x.days u.w (by omega) (by omega) (by omega) (by omega)
      clear c0 c1 c2 c3 c4 c5 c6 cs0 ha hx hs
      generalize harmW ((ss.zip t.works).take k) = Z at *
      cases Z
      all_goals
        go_wp2
        refine wp_region_later (by kernel_rfl) (by kernel_rfl) ?_
        repeat (first | go_big_quiet_skip | (go_big_quiet_want; go_big_quiet_op; first | go_big_quiet_on | (apply Exists.intro; refine ⟨fun _ => ?_, ?_⟩; (· (with_reducible exact later_same (HW1.out _))); go_big_quiet_on)))
        refine wpQuiet_nil ?_
        intro _ hw'
        obtain ⟨u, hu⟩ := hw'
        subst hu
        go_wp2
        go_roundw
        case rel => exact ⟨k + 1, by omega, by rw [HSt.out]; simp, by go_num, HB.out.trans (u.h.mono HB.out.size)⟩
        case measure => simp [intOf]; omega
    · obtain rfl : m = k := by omega
      rw [HZ.out]
      have hob := ofF_bounds (harmW (ss.zip t.works)) y0 y1
      have HLa : Hid (∀ W : World, Calls Try.prog 104 #[.agg #[.int .i64 t.rd.first, .int .i64 t.rd.years, .slice A n c], .bool (harmW (ss.zip t.works))] W fun e w' => e = .returned (.int .i64 (t.rd.first + ofF t.rd.years (harmW (ss.zip t.works)) - 1)) ∧ Below W.heap.size W w') := fun W => refLast_any _ _ _ _ W f0 f1 y0 y1
      generalize harmW (ss.zip t.works) = wb at *
      obtain ⟨K, hK⟩ : ∃ K : Nat, ofF t.rd.years wb = (K : Int) := ⟨(ofF t.rd.years wb).toNat, by omega⟩
      rw [hK] at hob HLa
      have HK := Lib.hid hK
      clear hK
      obtain ⟨W4, rfl⟩ : ∃ W4 : World, W4 = wr := ⟨_, rfl⟩
      have k0 := (K1.out.later HB.out).cell (i := 0) rfl
      have hz1 := (K1.out.later HB.out).lt
      go_wp2
      clear k0 hz1
      obtain ⟨W5, hW5⟩ : ∃ W5, W4.alloc (Obj.cells #[.int .i64 0, .int .i64 0] 27) = W5 := ⟨_, rfl⟩
      have hb5 : Below W4.heap.size W4 W5 := by rw [← hW5]; exact (Below.refl _ _).alloc (Nat.le_refl _) _
      have KX : Hid (Blk W5 W4.heap.size 27 #[.int .i64 0, .int .i64 0]) := by rw [← hW5]; exact Blk.new _ _ _ rfl
      have hs5 : W5.heap.size = W4.heap.size + 1 := by rw [← hW5]; simp
      have HS5 := Lib.hid hs5
      rw [hW5]
      clear hW5 hs5
      have L1 := Lib.hid ((K1.out.later HB.out).later hb5)
      have L2 := Lib.hid ((K2.out.later HB.out).later hb5)
      have HB5 : Hid (Below w.heap.size w W5) := HBw.out.trans (hb5.mono HBw.out.size)
      have HL14 : Hid (w.heap.size + 1 < W4.heap.size) := (K2.out.later HB.out).lt
      clear hb5 HB HBw
      generalize hPP : harmP t.rd.highs (ss.zip t.works) = PP at *
      have HPP := Lib.hid hPP; clear hPP
      go_loopw [8, 10] (fun v q wr => ∃ k : Nat, k ≤ K ∧ q = .int .i64 (t.rd.first + k) ∧ Blk wr W4.heap.size 27 #[.int .i64 ((yearsL t.rd.first k PP).length : Int), .int .i64 (k : Int)] ∧ wr.ownsRow W5.heap.size 3 1 v (yearsL t.rd.first k PP).length ((yearsL t.rd.first k PP).map (Value.int .i64)) ∧ Below W4.heap.size W5 wr ∧ W5.heap.size ≤ wr.heap.size) (fun _ q _ => (t.rd.first + K - intOf q).toNat)
      case atStart => exact ⟨0, Nat.zero_le _, by simp, KX.out, World.ownsRow_nil _ _ _ _, Below.refl _ _, Nat.le_refl _⟩
      case round =>
        obtain ⟨k, hk, rfl, hKk, hown, hB, hsz⟩ := hrel
        have HB := Lib.hid hB; clear hB
        have HKk := Lib.hid hKk; clear hKk
        have HOw := Lib.hid hown; clear hown
        have hyl := yearsL_len t.rd.first k PP
        have HBw : Hid (Below w.heap.size w wr) := HB5.out.trans (HB.out.mono (by have := HL14.out; omega))
        have M1 := Lib.hid (L1.out.below HB.out (by have := HL14.out; omega))
        have M2 := Lib.hid (L2.out.below HB.out HL14.out)
        have j0 := M1.out.cell (i := 0) rfl
        have j1 := M1.out.cell (i := 1) rfl
        have j2 := M1.out.cell (i := 2) rfl
        have hz1 := M1.out.lt
        have HYs := Lib.hid (yearsL_succ PP t.rd.first k)
        by_cases hlt2 : k < K
        · have hd1 : decide (t.rd.first + (k : Int) ≤ t.rd.first + (K : Int) - 1) = true := by simp; omega
          go_wp2_with fail
          refine (HLa.out wr).mono ?_
          rintro e W6 ⟨rfl, hb6⟩
          have HB6 : Hid (Below w.heap.size w W6) := HBw.out.trans (hb6.mono HBw.out.size)
          have N1 := Lib.hid (M1.out.later hb6)
          have NK := Lib.hid (HKk.out.later hb6)
          have NO := Lib.hid (HOw.out.kept (grown_of_below hb6 none) (Classical.em _))
          have HB56 : Hid (Below W4.heap.size W5 W6) := HB.out.trans (hb6.mono (by have := HKk.out.lt; omega))
          have hs6 : W5.heap.size ≤ W6.heap.size := Nat.le_trans hsz hb6.size
          clear hb6 j0 j1 j2 hz1
          go_wp2_with fail
          generalize hyy : t.rd.first + (k : Int) = yy at *
          have hyb : -5 ≤ yy ∧ yy ≤ 100000 := by omega
          have HYY := Lib.hid hyy; clear hyy
          go_loopw [11, 12] (fun b i wi => ∃ j : Nat, j ≤ m ∧ b = .bool (harmP t.rd.highs ((ss.zip t.works).take j) yy) ∧ i = .int .i64 j ∧ Below W6.heap.size W6 wi) (fun _ i _ => m - (intOf i).toNat)
          case atStart => exact ⟨0, Nat.zero_le _, by simp [harmP], rfl, Below.refl _ _⟩
          case round =>
            obtain ⟨j, hj, rfl, rfl, hBi⟩ := hrel
            have HBi := Lib.hid hBi; clear hBi
            have HBiw : Hid (Below w.heap.size w wr) := HB6.out.trans (HBi.out.mono HB6.out.size)
            by_cases hjt : j < m
            · obtain ⟨x, ad, hx, rfl, ha⟩ := (HWk.out.below HBiw.out).get hjt
              obtain ⟨s, sd, hs, rfl, cs0⟩ := rdI_get (HSs.out.below HBiw.out) hjt
              obtain ⟨c0, c1, c2, c3, c4, c5, c6⟩ := ha.seven
              have Q1 := N1.out.later HBi.out
              have q0 := later_cell (Q1.cell (i := 0) rfl)
              have q1 := later_cell (Q1.cell (i := 1) rfl)
              have q2 := later_cell (Q1.cell (i := 2) rfl)
              have q3 := later_cell (Q1.cell (i := 3) rfl)
              have q4 := later_cell cs0
              have q5 := later_cell c2
              have q6 := later_cell c6
              obtain ⟨d0, d1, _, _, _, _, _, _, _, _⟩ := HWs.out j x hx
              obtain ⟨s0, s1⟩ := HSr.out s (List.mem_of_getElem? hs)
              have HSt := Lib.hid (harmP_next (hs := t.rd.highs) (y := yy) hs hx)
              have hji : (j : Int) < (m : Int) := by omega
              have HLq : Hid (∀ u : Later wr, Calls Try.prog 105 #[.agg #[.int .i64 t.rd.first, .int .i64 t.rd.years, .slice A n c], .int .i64 s, .int .i64 x.days, .int .i64 x.level, .int .i64 yy] u.w fun e w' => e = .returned (.bool (excB t.rd.highs s x.days x.level yy)) ∧ Below u.w.heap.size u.w w') := fun u => HEx.out u.w x.days x.level s yy (HBiw.out.trans (u.h.mono HBiw.out.size)) s0 s1 d0 (by omega) hyb.1 hyb.2
              clear Q1 c0 c1 c2 c3 c4 c5 c6 cs0 ha hx hs
              generalize harmP t.rd.highs ((ss.zip t.works).take j) yy = Z at *
              cases Z
              all_goals
                go_wp2
                refine wp_region_later (by kernel_rfl) (by kernel_rfl) ?_
                repeat (first | go_big_quiet_skip | (go_big_quiet_want; go_big_quiet_op; first | go_big_quiet_on | (apply Exists.intro; refine ⟨fun _ => ?_, ?_⟩; (· (with_reducible exact later_calls (HLq.out _))); go_big_quiet_on)))
                refine wpQuiet_nil ?_
                intro _ hw'
                obtain ⟨u, hu⟩ := hw'
                subst hu
                go_wp2
                go_roundw
                case rel => exact ⟨j + 1, by omega, by rw [HSt.out]; simp, by go_num, HBi.out.trans (u.h.mono HBi.out.size)⟩
                case measure => simp [intOf]; omega
            · obtain rfl : m = j := by omega
              have hPy : harmP t.rd.highs ((ss.zip t.works).take m) yy = PP yy := by rw [HZ.out, HPP.out]
              rw [hPy]
              clear hPy
              have Q2 := NK.out.later HBi.out
              have i0' := Q2.cell (i := 0) rfl
              have i1' := Q2.cell (i := 1) rfl
              have z0' := Q2.frozen 0
              have z1' := Q2.frozen 1
              have hzq := Q2.lt
              have HQ2 := Lib.hid Q2
              have HOi := HOw.out
              have hownI := NO.out.kept (grown_of_below HBi.out none) (Classical.em _)
              have HBI : Hid (Below W4.heap.size W5 wr) := HB56.out.trans (HBi.out.mono (by have := NK.out.lt; omega))
              have hsI : W5.heap.size ≤ wr.heap.size := Nat.le_trans hs6 HBi.out.size
              have hs45 := HS5.out
              have e45 : W4.heap.size < W5.heap.size := by omega
              clear Q2 hs45 HOi
              have hk1 : (((k + 1 : Nat)) : Int) = (k : Int) + 1 := by omega
              have HK1 := Lib.hid hk1
              clear hk1
              have HYk : Hid (yearsL t.rd.first (((k + 1 : Nat)) : Int) PP = if PP yy then yearsL t.rd.first k PP ++ [yy] else yearsL t.rd.first k PP) := by
                rw [HK1.out]
                exact HYs.out
              generalize yearsL t.rd.first (k : Int) PP = YL at *
              cases hP : PP yy
              · have HY2 : Hid (yearsL t.rd.first (((k + 1 : Nat)) : Int) PP = YL) := by rw [HYk.out, hP]; rfl
                have JK := Lib.hid (HQ2.out.set 1 (.int .i64 ((k : Int) + 1)))
                clear HYk
                go_wp2_with fail
                go_roundw
                case rel => exact ⟨k + 1, by omega, by rw [← HYY.out]; go_num, by rw [HY2.out, HK1.out]; exact JK.out, by rw [HY2.out]; exact own_low hownI (p := ⟨W4.heap.size, 1, none⟩) e45 _, HBI.out.setCell (p := ⟨W4.heap.size, 1, none⟩) (Nat.le_refl _) _, by simpa [World.setCell] using hsI⟩
                case measure => have := HYY.out; simp [intOf]; omega
              · have HY2 : Hid (yearsL t.rd.first (((k + 1 : Nat)) : Int) PP = YL ++ [yy]) := by rw [HYk.out, hP]; rfl
                clear HYk
                have hYl : YL.length ≤ 200 := by omega
                have JK := Lib.hid ((HQ2.out.set 1 (.int .i64 ((k : Int) + 1))).set 0 (.int .i64 ((YL.length : Int) + 1)))
                have hown7 := own_low (own_low hownI (p := ⟨W4.heap.size, 1, none⟩) e45 (.int .i64 ((k : Int) + 1))) (p := ⟨W4.heap.size, 0, none⟩) e45 (.int .i64 ((YL.length : Int) + 1))
                have HB7 : Hid (Below W4.heap.size W5 ((wr.setCell ⟨W4.heap.size, 1, none⟩ (.int .i64 ((k : Int) + 1))).setCell ⟨W4.heap.size, 0, none⟩ (.int .i64 ((YL.length : Int) + 1)))) := (HBI.out.setCell (p := ⟨W4.heap.size, 1, none⟩) (Nat.le_refl _) _).setCell (p := ⟨W4.heap.size, 0, none⟩) (Nat.le_refl _) _
                have hs7 : W5.heap.size ≤ ((wr.setCell ⟨W4.heap.size, 1, none⟩ (.int .i64 ((k : Int) + 1))).setCell ⟨W4.heap.size, 0, none⟩ (.int .i64 ((YL.length : Int) + 1))).heap.size := by simpa [World.setCell] using hsI
                have hsz7 : ((wr.setCell ⟨W4.heap.size, 1, none⟩ (.int .i64 ((k : Int) + 1))).setCell ⟨W4.heap.size, 0, none⟩ (.int .i64 ((YL.length : Int) + 1))).heap.size = wr.heap.size := by simp [World.setCell]
                have hcn := cell_one_new ((wr.setCell ⟨W4.heap.size, 1, none⟩ (.int .i64 ((k : Int) + 1))).setCell ⟨W4.heap.size, 0, none⟩ (.int .i64 ((YL.length : Int) + 1))) (.int .i64 yy) 3
                rw [hsz7] at hcn
                have HCN := Lib.hid hcn; have HSZ7 := Lib.hid hsz7
                clear hcn hsz7
                go_wp2_with (at_builtin; refine wpList_append_own _ rfl _ _ 33 rfl W5.heap.size 3 i0 (.int .i64 0) 1 8 Try.underlying33 hi hz0 hz1 hz2 rfl (by decide) _ _ _ rfl (hown7.alloc _) ⟨wr.heap.size, 0, none⟩ 1 1 [.int .i64 yy] rfl rfl HCN.out (by simp [Value.oneCell']) (by unfold maxLen; omega) (by omega) (by have := HSZ7.out; simp; omega) ?_; intro v' w2 hown' hgrow _; have HJ : Hid (Blk w2 W4.heap.size 27 #[.int .i64 ((YL.length : Int) + 1), .int .i64 ((k : Int) + 1)]) := (JK.out.alloc _).grown hgrow (fun e => by have := (hown7.lt _ e.symm).1; omega); have HB8 : Hid (Below W4.heap.size W5 w2) := (HB7.out.alloc (by have := HSZ7.out; omega) _).grown hgrow (by have := HSZ7.out; simp; omega) (fun j e => by have := (hown7.lt j e).1; omega); have hs8 : W5.heap.size ≤ w2.heap.size := Nat.le_trans hs7 (Nat.le_trans (by simp) hgrow.size); clear hgrow)
                go_roundw
                case rel => exact ⟨k + 1, by omega, by rw [← HYY.out]; go_num, by rw [HY2.out, HK1.out, List.length_append]; exact HJ.out, by rw [HY2.out, List.length_append, List.map_append]; exact hown', HB8.out, hs8⟩
                case measure => have := HYY.out; simp [intOf]; omega
        · obtain rfl : K = k := by omega
          have hd1 : decide (t.rd.first + (K : Int) ≤ t.rd.first + (K : Int) - 1) = false := by simp; omega
          go_wp2_with fail
          refine (HLa.out wr).mono ?_
          rintro e W6 ⟨rfl, hb6⟩
          have HB6 : Hid (Below w.heap.size w W6) := HBw.out.trans (hb6.mono HBw.out.size)
          have N2 := M2.out.later hb6
          have NK := HKk.out.later hb6
          have hown6 := HOw.out.kept (grown_of_below hb6 none) (Classical.em _)
          clear hb6 j0 j1 j2 hz1
          have p0 := N2.cell (i := 0) rfl
          have p1 := N2.cell (i := 1) rfl
          have z0 := N2.frozen 0
          have z1 := N2.frozen 1
          have k0 := NK.cell (i := 0) rfl
          have k1 := NK.cell (i := 1) rfl
          have hz3 := N2.lt
          have hz4 := NK.lt
          have hl14 := HL14.out
          have hs45 := HS5.out
          have HN2 := Lib.hid N2
          clear N2 NK hs45
          have HFin := Lib.hid (fun (v : Value) (w' : World) => HPo.out v w' (K : Int) HK.out)
          generalize yearsL t.rd.first (K : Int) PP = YL at *
          go_wp2_with fail
          go_region
          go_wp2_with fail
          have JK := (HN2.out.set 0 (.int .i64 (YL.length : Int))).set 1 (.int .i64 (K : Int))
          have c0 := JK.cell (i := 0) rfl
          have c1 := JK.cell (i := 1) rfl
          refine bodyPost_ret (v := .tuple #[u8, .agg #[.int .i64 (YL.length : Int), .int .i64 (K : Int)]]) (by simp [results, Try.results70, go_sem, c0, c1]) rfl (HFin.out u8 _ ?_ ?_)
          · exact own_lower (own_drew (own_low (own_low hown6 (p := ⟨w.heap.size + 1, 0, none⟩) (by dsimp only; have := HS5.out; omega) _) (p := ⟨w.heap.size + 1, 1, none⟩) (by dsimp only; have := HS5.out; omega) _)) HB5.out.size
          · exact ((HB6.out.setCell (p := ⟨w.heap.size + 1, 0, none⟩) (by dsimp only; omega) _).setCell (p := ⟨w.heap.size + 1, 1, none⟩) (by dsimp only; omega) _).drew
set_option maxRecDepth 100000 in
set_option maxHeartbeats 2000000 in
theorem refYears_any (t : Task) (ss : List Int) (A : Option Addr) (n c : Nat) (A' : Option Addr) (n' c' : Nat) (As : Option Addr) (m cs : Nat) (w : World) (hT : TkM w t A n c A' n' c') (hs : RdI w As m ss) :
    Calls Try.prog 33 #[.agg (t.val A n c A' n' c'), .slice As m cs] w (YearsPost t ss w) := by
  obtain ⟨hb1, hk1, hk2⟩ := two w (t.val A n c A' n' c') #[.int .i64 0, .int .i64 0] 29 27
  have HB1 := Lib.hid hb1; have KT := Lib.hid hk1; have KK := Lib.hid hk2
  have HC := Lib.hid (shaped_any t ss A n c A' n' c' As m cs _ (hT.below hb1) (hs.below hb1))
  have HH : Hid (∀ W, shErr t ss = 0 → Below w.heap.size w W → Calls Try.prog 70 #[.agg (t.val A n c A' n' c'), .slice As m cs] W (HarmPost t ss W)) := fun W h hW =>
    refYears0_any t ss A n c A' n' c' As m cs W (hT.below hW) (hs.below hW) (taskOK_of (planOK_of h).chk) (by have := hT.hw.1; have := hs.1; have := (planOK_of h).len; omega) (planOK_of h).days
  clear hT hs hb1 hk1 hk2
  unfold Task.val at *
  by_cases hX : shErr t ss = 0
  · have HX := Lib.hid hX
    rw [hX] at HC
    clear hX
    go_enter Try.func33, Try.ntmps33
    go_wp2_with fail
    refine HC.out.mono ?_
    rintro e W2 ⟨rfl, hb2⟩
    have HB2 : Hid (Below w.heap.size w W2) := HB1.out.trans (hb2.mono HB1.out.size)
    have L1 := KT.out.later hb2
    have L2 := Lib.hid (KK.out.later hb2)
    clear hb2
    have q0 := L1.cell (i := 0) rfl
    have q1 := L1.cell (i := 1) rfl
    have q2 := L1.cell (i := 2) rfl
    have q3 := L1.cell (i := 3) rfl
    have q4 := L1.cell (i := 4) rfl
    have q5 := L1.cell (i := 5) rfl
    have q6 := L1.cell (i := 6) rfl
    have q7 := L1.cell (i := 7) rfl
    have q8 := L1.cell (i := 8) rfl
    have q9 := L1.cell (i := 9) rfl
    have hz := L1.lt
    clear L1
    go_wp2_with fail
    refine (HH.out W2 HX.out HB2.out).mono ?_
    rintro e w3 ⟨v, rfl, hown, hb3⟩
    have HOw := Lib.hid hown
    have hzz := L2.out.lt
    have HB3 : Hid (Below w.heap.size w w3) := HB2.out.trans (hb3.mono HB2.out.size)
    have k3 := L2.out.later hb3
    clear hown hb3 q0 q1 q2 q3 q4 q5 q6 q7 q8 q9 hz
    have p0 := k3.cell (i := 0) rfl
    have p1 := k3.cell (i := 1) rfl
    have z0 := k3.frozen 0
    have z1 := k3.frozen 1
    have hz := k3.lt
    have K3 := Lib.hid k3; clear k3
    generalize ha : (harmR t ss).1 = a at *
    generalize hb : (harmR t ss).2 = b at *
    have HAB : Hid (Ending.returned (.tuple #[v, .agg #[.int .i64 a, .int .i64 b], .int .i64 0]) = .returned (.tuple #[v, .agg #[.int .i64 (harmR t ss).1, .int .i64 (harmR t ss).2], .int .i64 0])) := by rw [ha, hb]; rfl
    clear ha hb
    go_wp2_with fail
    go_region
    go_wp2_with fail
    have JK := (((K3.out.set 0 (.int .i64 a)).set 1 (.int .i64 b)).alloc (Obj.cells #[.int .i64 a, .int .i64 b] 27))
    have c0 := JK.cell (i := 0) rfl
    have c1 := JK.cell (i := 1) rfl
    refine bodyPost_ret (v := .tuple #[v, .agg #[.int .i64 a, .int .i64 b], .int .i64 0]) (by simp [results, Try.results33, go_sem, c0, c1]) rfl ⟨?_, .inr ⟨HX.out, v, ?_, ?_⟩⟩
    · exact (((HB3.out.setCell (p := ⟨w.heap.size + 1, 0, none⟩) (by simp) _).setCell (p := ⟨w.heap.size + 1, 1, none⟩) (by simp) _).alloc (by simp [World.setCell] <;> omega) _).drew
    · exact HAB.out
    · refine own_lower (own_drew (World.ownsRow.alloc (own_low (own_low HOw.out (p := ⟨w.heap.size + 1, 0, none⟩) hzz _) (p := ⟨w.heap.size + 1, 1, none⟩) hzz _) _)) HB2.out.size
  · have hXb : (shErr t ss != 0) = true := by simpa using hX
    have HPost : Hid (∀ w', Below w.heap.size w w' → YearsPost t ss w (.returned (.tuple #[.slice none 0 0, .agg #[.int .i64 0, .int .i64 0], .int .i64 (shErr t ss)])) w') := fun w' h => ⟨h, .inl ⟨hX, rfl⟩⟩
    clear hX HH
    generalize shErr t ss = X at *
    go_enter Try.func33, Try.ntmps33
    go_wp2_with fail
    refine HC.out.mono ?_
    rintro e W2 ⟨rfl, hb2⟩
    have HB2 : Hid (Below w.heap.size w W2) := HB1.out.trans (hb2.mono HB1.out.size)
    have k2 := KK.out.later hb2
    clear hb2
    have p0 := k2.cell (i := 0) rfl
    have p1 := k2.cell (i := 1) rfl
    have z0 := k2.frozen 0
    have z1 := k2.frozen 1
    have hz := k2.lt
    have K2 := Lib.hid k2; clear k2
    go_wp2_with fail
    have JK := (K2.out.set 0 (.int .i64 0)).set 1 (.int .i64 0)
    have c0 := JK.cell (i := 0) rfl
    have c1 := JK.cell (i := 1) rfl
    refine bodyPost_ret (v := .tuple #[.slice none 0 0, .agg #[.int .i64 0, .int .i64 0], .int .i64 X]) (by simp [results, Try.results33, go_sem, c0, c1]) rfl (HPost.out _ ?_)
    exact (HB2.out.setCell (p := ⟨w.heap.size + 1, 0, none⟩) (by simp) _).setCell (p := ⟨w.heap.size + 1, 1, none⟩) (by simp) _
end Go.Proofs.Ytkkajemahehoaaa

namespace Go.Proofs.Ytkkajemahehoaaa
open Go.RowKit

set_option maxHeartbeats 1000000 in
theorem may_any (x : Work) (s : Int) (w : World) (hw : WorkOK x) :
    Calls Try.prog 101 #[.agg x.val, .int .i64 s] w fun e w' => e = .returned (.bool (!wrongB s x)) ∧ Below w.heap.size w w' := by
  obtain ⟨d0, d1, u0, u1, f0, f1, t0, t1, _, _⟩ := hw
  unfold wrongB Work.val
  cases ho : outB s x.frm x.til
  · obtain ⟨w3, w4⟩ := outB_false ho
    have w5 : 0 ≤ s - x.frm := by omega
    go_enter Try.func101, Try.ntmps101
    go_wp2_with (go_at_call 53; refine (in_any _ _ _ _).mono ?_; rintro e w' ⟨rfl, rfl⟩)
    go_ret
    exact ⟨ret_bool (by simp [bne]), (Below.refl _ _).alloc (Nat.le_refl _) _⟩
  · go_enter Try.func101, Try.ntmps101
    go_wp2_with (go_at_call 53; refine (in_any _ _ _ _).mono ?_; rintro e w' ⟨rfl, rfl⟩)
    go_ret
    exact ⟨ret_bool (by simp), (Below.refl _ _).alloc (Nat.le_refl _) _⟩

theorem mB_ref (gap a d1 b d2 : Int) : mB gap a d1 b d2 = if b < a then (decide (a ≤ b + d2 - 1 + gap) || decide (b + 365 ≤ a + d1 - 1 + gap)) else (decide (b ≤ a + d1 - 1 + gap) || decide (a + 365 ≤ b + d2 - 1 + gap)) := by
  unfold mB
  split <;> (rw [Bool.eq_iff_iff]; simp; omega)

set_option maxRecDepth 100000 in
set_option maxHeartbeats 4000000 in
theorem refMeet_any (t : Task) (A : Option Addr) (n c : Nat) (A' : Option Addr) (n' c' : Nat) (As : Option Addr) (m cs : Nat) (ss : List Int) (i j : Nat) (w : World) (hT : TkM w t A n c A' n' c') (hs : RdI w As m ss) (hok : TaskOK t) (hm : m = n') (hss : ∀ s ∈ ss, 0 ≤ s ∧ s ≤ 364) (hi : i < m) (hj : j < m) :
    Calls Try.prog 102 #[.agg (t.val A n c A' n' c'), .slice As m cs, .int .i64 (i : Int), .int .i64 (j : Int)] w fun e w' => e = .returned (.bool (meetP t ss j i)) ∧ Below w.heap.size w w' := by
  have HB1 : Hid (Below w.heap.size w (w.alloc (.cells (t.val A n c A' n' c') 29))) := (Below.refl _ _).alloc (Nat.le_refl _) _
  have KK : Hid (Blk (w.alloc (.cells (t.val A n c A' n' c') 29)) w.heap.size 29 (t.val A n c A' n' c')) := Blk.new _ _ _ rfl
  obtain ⟨xi, ad, hxi, rfl, hai⟩ := (hT.hw.below HB1.out).get (i := i) (by omega)
  obtain ⟨xj, ad', hxj, e', haj⟩ := (hT.hw.below HB1.out).get (i := j) (by omega)
  cases e'
  obtain ⟨si, sd, hsi, rfl, ci⟩ := rdI_get (hs.below HB1.out) hi
  obtain ⟨sj, sd', hsj, e', cj⟩ := rdI_get (hs.below HB1.out) hj
  cases e'
  obtain ⟨_, _, i2, _, _, _, _⟩ := hai.seven
  obtain ⟨_, _, j2, _, _, _, _⟩ := haj.seven
  have e : meetP t ss j i = mB t.gap si xi.days sj xj.days := by unfold meetP; rw [hsi, hxi, hsj, hxj]
  rw [e, mB_ref]
  have wi := workOK_of (hok.rows i xi hxi).2.2.1
  have wj := workOK_of (hok.rows j xj hxj).2.2.1
  obtain ⟨a0, a1, _, _, _, _, _, _, _, _⟩ := wi
  obtain ⟨b0, b1, _, _, _, _, _, _, _, _⟩ := wj
  obtain ⟨c0, c1⟩ := hss si (List.mem_of_getElem? hsi)
  obtain ⟨d0, d1⟩ := hss sj (List.mem_of_getElem? hsj)
  obtain ⟨g0, g1⟩ := hok.gap
  have hii : (i : Int) < (m : Int) := by omega
  have hjj : (j : Int) < (m : Int) := by omega
  have hii' : (i : Int) < (n' : Int) := by omega
  have hjj' : (j : Int) < (n' : Int) := by omega
  clear hT hs hok hm hss hi hj hxi hxj hsi hsj hai haj e
  unfold Task.val at *
  go_enter Try.func102, Try.ntmps102
  go_wp2
  obtain ⟨W1, hW1⟩ : ∃ W1, w.alloc (Obj.cells #[.int .i64 t.rd.first, .int .i64 t.rd.years, .slice A n c, .slice (some ad) n' c', .int .i64 t.gap, .int .i64 t.width, .int .i64 t.day.1, .int .i64 t.day.2, .int .i64 t.plan.1, .int .i64 t.plan.2] 29) = W1 := ⟨_, rfl⟩
  rw [hW1] at HB1 KK ci cj i2 j2 ⊢
  clear hW1
  have q0 := later_cell ci
  have q1 := later_cell cj
  by_cases hlt : sj < si
  · have hd : decide (sj < si) = true := by simpa using hlt
    refine wp_region_later (by kernel_rfl) (by kernel_rfl) ?_
    repeat (first | go_big_quiet_skip | (go_big_quiet_want; go_big_quiet_op; go_big_quiet_on))
    refine wpQuiet_nil ?_
    intro _ hw'
    obtain ⟨u, hu⟩ := hw'
    subst hu
    clear q0 q1
    have HBu : Hid (Below w.heap.size w u.w) := HB1.out.trans (u.h.mono HB1.out.size)
    have KU := KK.out.later u.h
    have r0 := later_cell (cell_below u.h ci)
    have r1 := later_cell (cell_below u.h cj)
    have r2 := later_cell (cell_below u.h i2)
    have r3 := later_cell (cell_below u.h j2)
    have r4 := later_cell (KU.cell (i := 3) rfl)
    have r5 := later_cell (KU.cell (i := 4) rfl)
    clear KU
    cases h1 : decide (si ≤ sj + xj.days - 1 + t.gap)
    all_goals
      go_wp2
      refine wp_region_later (by kernel_rfl) (by kernel_rfl) ?_
      repeat (first | go_big_quiet_skip | (go_big_quiet_want; go_big_quiet_op; go_big_quiet_on))
      refine wpQuiet_nil ?_
      intro _ hw'
      obtain ⟨u2, hu⟩ := hw'
      subst hu
      clear r0 r1 r2 r3 r4 r5
      go_wp2
      go_ret
      exact ⟨ret_bool rfl, HBu.out.trans (u2.h.mono HBu.out.size)⟩
  · have hd : decide (sj < si) = false := by simpa using hlt
    refine wp_region_later (by kernel_rfl) (by kernel_rfl) ?_
    repeat (first | go_big_quiet_skip | (go_big_quiet_want; go_big_quiet_op; go_big_quiet_on))
    refine wpQuiet_nil ?_
    intro _ hw'
    obtain ⟨u, hu⟩ := hw'
    subst hu
    clear q0 q1
    have HBu : Hid (Below w.heap.size w u.w) := HB1.out.trans (u.h.mono HB1.out.size)
    have KU := KK.out.later u.h
    have r0 := later_cell (cell_below u.h ci)
    have r1 := later_cell (cell_below u.h cj)
    have r2 := later_cell (cell_below u.h i2)
    have r3 := later_cell (cell_below u.h j2)
    have r4 := later_cell (KU.cell (i := 3) rfl)
    have r5 := later_cell (KU.cell (i := 4) rfl)
    clear KU
    cases h1 : decide (sj ≤ si + xi.days - 1 + t.gap)
    all_goals
      go_wp2
      refine wp_region_later (by kernel_rfl) (by kernel_rfl) ?_
      repeat (first | go_big_quiet_skip | (go_big_quiet_want; go_big_quiet_op; go_big_quiet_on))
      refine wpQuiet_nil ?_
      intro _ hw'
      obtain ⟨u2, hu⟩ := hw'
      subst hu
      clear r0 r1 r2 r3 r4 r5
      go_wp2
      go_ret
      exact ⟨ret_bool rfl, HBu.out.trans (u2.h.mono HBu.out.size)⟩
set_option maxRecDepth 100000 in
set_option maxHeartbeats 4000000 in
theorem refJudge0_any (t : Task) (A : Option Addr) (n c : Nat) (A' : Option Addr) (n' c' : Nat) (As : Option Addr) (m cs : Nat) (ss : List Int) (w : World) (hT : TkM w t A n c A' n' c') (hs : RdI w As m ss) (hok : TaskOK t) (hm : m = n') (hss : ∀ s ∈ ss, 0 ≤ s ∧ s ≤ 364) :
    Calls Try.prog 69 #[.agg (t.val A n c A' n' c'), .slice As m cs] w (ListPostR (judgeL t ss) w) := by
  obtain ⟨i0, hi, hz0, hz1, hz2⟩ := info_parts info77
  have hsl := hs.1
  have hml : m ≤ 4 := by have := hT.hw.1; have := hok.len; omega
  have HWs : Hid (∀ (i : Nat) (v : Work), t.works[i]? = some v → WorkOK v) := fun i v hv => workOK_of (hok.rows i v hv).2.2.1
  have HSr := Lib.hid hss; have HSs := Lib.hid hs; have HWk := Lib.hid hT.hw
  have HMt : Hid (∀ (i j : Nat) (W : World), i < m → j < m → Below w.heap.size w W → Calls Try.prog 102 #[.agg (t.val A n c A' n' c'), .slice As m cs, .int .i64 (i : Int), .int .i64 (j : Int)] W fun e w' => e = .returned (.bool (meetP t ss j i)) ∧ Below W.heap.size W w') := fun i j W h1 h2 hW => refMeet_any t A n c A' n' c' As m cs ss i j W (hT.below hW) (hs.below hW) hok hm hss h1 h2
  have HBd : Hid (∀ (W : World) (i : Nat) (x : Work) (s : Int), Below w.heap.size w W → t.works[i]? = some x → 0 ≤ s → s ≤ 364 → Calls Try.prog 59 #[.agg (t.val A n c A' n' c'), .int .i64 (i : Int), .int .i64 s] W fun e w' => e = .returned (.int .i64 (badF t x s)) ∧ Below W.heap.size W w') := fun W i x s hW hx a b => refBad_any t A n c A' n' c' i x s W (hT.below hW) hx hok a (by omega)
  have HYr : Hid (∀ W : World, Below w.heap.size w W → Calls Try.prog 70 #[.agg (t.val A n c A' n' c'), .slice As m cs] W (HarmPost t ss W)) := fun W hW => refYears0_any t ss A n c A' n' c' As m cs W (hT.below hW) (hs.below hW) hok hm hss
  obtain ⟨r1, r2, r3, r4⟩ := harmR_bounds hok ss
  obtain ⟨⟨p0, p1⟩, p2, p3⟩ := hok.plan
  have HJ : Hid (judgeL t ss = upTo (wrongAt t ss) m ++ upTo (fun i => fromTo (meetAt t ss i) i m) m ++ upTo (insideAt t ss) m ++ riskyL t ss) := by unfold judgeL wrongL meetsL insideL; rw [hsl]; rfl
  have HRl : Hid (riskyL t ss = if gtB (harmR t ss) t.plan then [⟨4, -1, -1, -1⟩] else []) := rfl
  rw [HJ.out, HRl.out]
  clear HJ HRl hT hs hok hss
  subst hm
  generalize hF : (fun i => fromTo (meetAt t ss i) i m) = F
  have HF : Hid (∀ i, F i = fromTo (meetAt t ss i) i m) := fun i => by rw [← hF]
  have HFl : Hid (∀ i, (F i).length ≤ m) := fun i => by rw [HF.out i]; have := fromTo_len (meetAt_len t ss i) i m; omega
  clear hF
  have HB1 : Hid (Below w.heap.size w (w.alloc (.cells (t.val A n c A' m c') 29))) := (Below.refl _ _).alloc (Nat.le_refl _) _
  have KK : Hid (Blk (w.alloc (.cells (t.val A n c A' m c') 29)) w.heap.size 29 (t.val A n c A' m c')) := Blk.new _ _ _ rfl
  have HG : Hid (∀ W : World, Calls Try.prog 71 #[.agg #[.int .i64 (harmR t ss).1, .int .i64 (harmR t ss).2], .agg #[.int .i64 t.plan.1, .int .i64 t.plan.2]] W fun e w' => e = .returned (.bool (gtB (harmR t ss) t.plan)) ∧ Below W.heap.size W w') := fun W => refGreater_any (harmR t ss) t.plan W (by omega) (by omega) (by omega) (by omega) (by omega) (by omega) (by omega) (by omega)
  unfold Task.val at *
  generalize hgb : gtB (harmR t ss) t.plan = gb at *
  clear hgb
  generalize hRL : (if gb = true then [(⟨4, -1, -1, -1⟩ : Reason)] else []) = RL
  have HRL := Lib.hid hRL; clear hRL
  have hU1 := upTo_len (wrongAt_len t ss) m
  have hU2 := upTo_len HFl.out m
  have hU2' : (upTo F m).length ≤ 16 := Nat.le_trans hU2 (Nat.mul_le_mul hml hml)
  have hU3 := upTo_len (insideAt_len t ss) m
  clear hU2
  go_enter Try.func69, Try.ntmps69
  go_wp2
  obtain ⟨W1, hW1⟩ : ∃ W1, w.alloc (Obj.cells #[.int .i64 t.rd.first, .int .i64 t.rd.years, .slice A n c, .slice A' m c', .int .i64 t.gap, .int .i64 t.width, .int .i64 t.day.1, .int .i64 t.day.2, .int .i64 t.plan.1, .int .i64 t.plan.2] 29) = W1 := ⟨_, rfl⟩
  rw [hW1] at HB1 KK ⊢
  clear hW1
  go_loopw [5, 6] (fun v q wr => ∃ k : Nat, k ≤ m ∧ q = .int .i64 k ∧ wr.ownsRow W1.heap.size 77 4 v (upTo (wrongAt t ss) k).length ((upTo (wrongAt t ss) k).flatMap Reason.enc) ∧ Below W1.heap.size W1 wr) (fun _ q _ => m - (intOf q).toNat)
  case atStart => exact ⟨0, Nat.zero_le _, rfl, World.ownsRow_nil _ _ _ _, Below.refl _ _⟩
  case round =>
    obtain ⟨k, hk, rfl, hown, hB⟩ := hrel
    have HB := Lib.hid hB; clear hB
    have hul := upTo_len (wrongAt_len t ss) k
    have HBw : Hid (Below w.heap.size w wr) := HB1.out.trans (HB.out.mono HB1.out.size)
    by_cases hlt : k < m
    · obtain ⟨x, ad, hx, rfl, ha⟩ := (HWk.out.below HBw.out).get hlt
      obtain ⟨s, sd, hs, rfl, cs0⟩ := rdI_get (HSs.out.below HBw.out) hlt
      obtain ⟨c0, c1, c2, c3, c4, c5, c6⟩ := ha.seven
      have hwk := HWs.out k x hx
      have HAt : Hid (wrongAt t ss k = if wrongB s x then [⟨1, k, -1, -1⟩] else []) := by unfold wrongAt; rw [hs, hx]; rfl
      have HMy : Hid (∀ u : Later wr, Calls Try.prog 101 #[.agg #[.string x.name, .int .i64 x.gate, .int .i64 x.days, .int .i64 x.frm, .int .i64 x.til, .int .i64 x.step, .int .i64 x.level], .int .i64 s] u.w fun e w' => e = .returned (.bool (!wrongB s x)) ∧ Below u.w.heap.size u.w w') := fun u => may_any x s u.w hwk
      have hki : (k : Int) < (m : Int) := by omega
      have HSu := Lib.hid (upTo_succ (wrongAt t ss) k)
      have qt := later_cell ((KK.out.later HB.out).cell (i := 3) rfl)
      have q0 := later_cell c0
      have q1 := later_cell c1
      have q2 := later_cell c2
      have q3 := later_cell c3
      have q4 := later_cell c4
      have q5 := later_cell c5
      have q6 := later_cell c6
      have qs := later_cell cs0
      clear ha hx hs c0 c1 c2 c3 c4 c5 c6 cs0 hwk
      cases hw : wrongB s x
      · have HS2 : Hid (upTo (wrongAt t ss) (k + 1) = upTo (wrongAt t ss) k) := by rw [HSu.out, HAt.out, hw]; simp [Hid]
        rw [hw] at HMy
        go_wp2
        refine wp_region_later (by kernel_rfl) (by kernel_rfl) ?_
        repeat (first | go_big_quiet_skip | (go_big_quiet_want; go_big_quiet_op; first | go_big_quiet_on | (apply Exists.intro; refine ⟨fun _ => ?_, ?_⟩; (· (with_reducible exact later_calls (HMy.out _))); go_big_quiet_on)))
        refine wpQuiet_nil ?_
        intro _ hw'
        obtain ⟨u, hu⟩ := hw'
        subst hu
        clear qt q0 q1 q2 q3 q4 q5 q6 qs
        go_wp2
        go_roundw
        case rel => exact ⟨k + 1, by omega, by go_num, by rw [HS2.out]; exact hown.kept (grown_of_below u.h none) (Classical.em _), HB.out.trans (u.h.mono HB.out.size)⟩
        case measure => simp [intOf]; omega
      · have HS2 : Hid (upTo (wrongAt t ss) (k + 1) = upTo (wrongAt t ss) k ++ [⟨1, k, -1, -1⟩]) := by rw [HSu.out, HAt.out, hw]; simp [Hid]
        rw [hw] at HMy
        go_wp2
        refine wp_region_later (by kernel_rfl) (by kernel_rfl) ?_
        repeat (first | go_big_quiet_skip | (go_big_quiet_want; go_big_quiet_op; first | go_big_quiet_on | (apply Exists.intro; refine ⟨fun _ => ?_, ?_⟩; (· (with_reducible exact later_calls (HMy.out _))); go_big_quiet_on)))
        refine wpQuiet_nil ?_
        intro _ hw'
        obtain ⟨u, hu⟩ := hw'
        subst hu
        clear qt q0 q1 q2 q3 q4 q5 q6 qs
        have HB3 : Hid (Below W1.heap.size W1 u.w) := HB.out.trans (u.h.mono HB.out.size)
        have hown3 := hown.kept (grown_of_below u.h none) (Classical.em _)
        generalize upTo (wrongAt t ss) k = L at *
        clear hown
        go_wp2_with (first | (refine wpList_buildSlice_one rfl 64 77 _ rfl 4 _ #[.int .i64 1, .int .i64 (k : Int), .int .i64 (-1), .int .i64 (-1)] rfl Try.underlying64 (size77 _) (zero77 _) rfl (by omega) (by omega) ?_) | (at_builtin; refine wpList_append_own _ rfl _ _ 64 rfl W1.heap.size 77 i0 (.agg #[.int .i64 0, .int .i64 0, .int .i64 0, .int .i64 0]) 4 32 Try.underlying64 hi hz0 hz1 hz2 rfl (by decide) _ _ _ rfl (hown3.alloc _) ⟨u.w.heap.size, 0, none⟩ 1 1 [.int .i64 1, .int .i64 (k : Int), .int .i64 (-1), .int .i64 (-1)] rfl rfl (cells_new4 _ _ _ _ _ _) (one4 _ _ _ _) (by unfold maxLen; omega) (by omega) (by have := HB3.out.size; simp; omega) ?_; intro v' w2 hown' hgrow _; have HB4 : Hid (Below W1.heap.size W1 w2) := ((HB3.out.alloc HB3.out.size _).grown hgrow (by have := HB3.out.size; simp; omega) (fun j e => (hown3.lt j e).1)); clear hgrow))
        go_roundw
        case rel => exact ⟨k + 1, by omega, by go_num, by rw [HS2.out, List.length_append, List.flatMap_append]; exact hown', HB4.out⟩
        case measure => simp [intOf]; omega
    · obtain rfl : m = k := by omega
      have HO2 := Lib.hid hown
      have HBB2 := Lib.hid HB.out
      clear hown HB HBw
      generalize upTo (wrongAt t ss) m = L1 at *
      go_wp2
      go_loopw [5, 7] (fun v q wr => ∃ k : Nat, k ≤ m ∧ q = .int .i64 k ∧ wr.ownsRow W1.heap.size 77 4 v (L1 ++ upTo F k).length ((L1 ++ upTo F k).flatMap Reason.enc) ∧ Below W1.heap.size W1 wr) (fun _ q _ => m - (intOf q).toNat)
      case atStart => exact ⟨0, Nat.zero_le _, rfl, by unfold upTo; simp; exact HO2.out, HBB2.out⟩
      case round =>
        obtain ⟨k, hk, rfl, hown, hB⟩ := hrel
        have HB := Lib.hid hB; clear hB
        have HOw := Lib.hid hown; clear hown
        have hul := upTo_len HFl.out k
        have hul2 : (upTo F k).length ≤ 16 := Nat.le_trans hul (Nat.mul_le_mul hml (by omega : k ≤ 4))
        clear hul
        have HSu := Lib.hid (upTo_succ F k)
        by_cases hlt2 : k < m
        · have hki : (k : Int) < (m : Int) := by omega
          have hLl : (L1 ++ upTo F k).length ≤ 40 := by rw [List.length_append]; omega
          have HSu2 : Hid (L1 ++ upTo F (k + 1) = (L1 ++ upTo F k) ++ F k) := by rw [HSu.out, List.append_assoc]; rfl
          generalize L1 ++ upTo F k = L at *
          go_wp2
          go_loopw [5, 8] (fun v q wi => ∃ j : Nat, k + 1 ≤ j ∧ j ≤ m ∧ q = .int .i64 j ∧ wi.ownsRow W1.heap.size 77 4 v (L ++ fromTo (meetAt t ss k) k j).length ((L ++ fromTo (meetAt t ss k) k j).flatMap Reason.enc) ∧ Below W1.heap.size W1 wi) (fun _ q _ => m - (intOf q).toNat)
          case atStart => exact ⟨k + 1, Nat.le_refl _, by omega, by go_num, by unfold fromTo; simp; exact HOw.out, HB.out⟩
          case round =>
            obtain ⟨j, hj0, hj, rfl, hown, hB⟩ := hrel
            have HBj := Lib.hid hB; clear hB
            have HBjw : Hid (Below w.heap.size w wr) := HB1.out.trans (HBj.out.mono HB1.out.size)
            have hfl := fromTo_len (meetAt_len t ss k) k j
            have hfs := Lib.hid (fromTo_succ (meetAt t ss k) k j hj0)
            have KJ := KK.out.later HBj.out
            have b0 := KJ.cell (i := 0) rfl
            have b1 := KJ.cell (i := 1) rfl
            have b2 := KJ.cell (i := 2) rfl
            have b3 := KJ.cell (i := 3) rfl
            have b4 := KJ.cell (i := 4) rfl
            have b5 := KJ.cell (i := 5) rfl
            have b6 := KJ.cell (i := 6) rfl
            have b7 := KJ.cell (i := 7) rfl
            have b8 := KJ.cell (i := 8) rfl
            have b9 := KJ.cell (i := 9) rfl
            have hzj := KJ.lt
            clear KJ
            by_cases hjt : j < m
            · have hji : (j : Int) < (m : Int) := by omega
              have HAt : Hid (meetAt t ss k j = if meetP t ss j k then [⟨2, k, j, -1⟩] else []) := rfl
              have HC := Lib.hid (HMt.out k j wr hlt2 hjt HBjw.out)
              cases hmt : meetP t ss j k
              · have HS2 : Hid (L ++ fromTo (meetAt t ss k) k (j + 1) = L ++ fromTo (meetAt t ss k) k j) := by rw [hfs.out, HAt.out, hmt]; simp [Hid]
                rw [hmt] at HC
                go_wp2_with fail
                refine HC.out.mono ?_
                rintro e W3 ⟨rfl, hb3⟩
                have HB3 : Hid (Below W1.heap.size W1 W3) := HBj.out.trans (hb3.mono HBj.out.size)
                have hown3 := hown.kept (grown_of_below hb3 none) (Classical.em _)
                clear hb3 hown b0 b1 b2 b3 b4 b5 b6 b7 b8 b9 hzj
                go_wp2_with fail
                go_roundw
                case rel => exact ⟨j + 1, by omega, by omega, by go_num, by rw [HS2.out]; exact hown3, HB3.out⟩
                case measure => simp [intOf]; omega
              · have HS2 : Hid (L ++ fromTo (meetAt t ss k) k (j + 1) = (L ++ fromTo (meetAt t ss k) k j) ++ [⟨2, k, j, -1⟩]) := by rw [hfs.out, HAt.out, hmt]; simp [Hid]
                rw [hmt] at HC
                have hMl : (L ++ fromTo (meetAt t ss k) k j).length ≤ 60 := by rw [List.length_append]; omega
                generalize L ++ fromTo (meetAt t ss k) k j = M at *
                go_wp2_with fail
                refine HC.out.mono ?_
                rintro e W3 ⟨rfl, hb3⟩
                have HB3 : Hid (Below W1.heap.size W1 W3) := HBj.out.trans (hb3.mono HBj.out.size)
                have hown3 := hown.kept (grown_of_below hb3 none) (Classical.em _)
                clear hb3 hown b0 b1 b2 b3 b4 b5 b6 b7 b8 b9 hzj
                go_wp2_with (first | (refine wpList_buildSlice_one rfl 64 77 _ rfl 4 _ #[.int .i64 2, .int .i64 (k : Int), .int .i64 (j : Int), .int .i64 (-1)] rfl Try.underlying64 (size77 _) (zero77 _) rfl (by omega) (by omega) ?_) | (at_builtin; refine wpList_append_own _ rfl _ _ 64 rfl W1.heap.size 77 i0 (.agg #[.int .i64 0, .int .i64 0, .int .i64 0, .int .i64 0]) 4 32 Try.underlying64 hi hz0 hz1 hz2 rfl (by decide) _ _ _ rfl (hown3.alloc _) ⟨W3.heap.size, 0, none⟩ 1 1 [.int .i64 2, .int .i64 (k : Int), .int .i64 (j : Int), .int .i64 (-1)] rfl rfl (cells_new4 _ _ _ _ _ _) (one4 _ _ _ _) (by unfold maxLen; omega) (by omega) (by have := HB3.out.size; simp; omega) ?_; intro v' w2 hown' hgrow _; have HB4 : Hid (Below W1.heap.size W1 w2) := ((HB3.out.alloc HB3.out.size _).grown hgrow (by have := HB3.out.size; simp; omega) (fun j e => (hown3.lt j e).1)); clear hgrow))
                go_roundw
                case rel => exact ⟨j + 1, by omega, by omega, by go_num, by rw [HS2.out, List.length_append, List.flatMap_append]; exact hown', HB4.out⟩
                case measure => simp [intOf]; omega
            · obtain rfl : m = j := by omega
              clear b0 b1 b2 b3 b4 b5 b6 b7 b8 b9 hzj
              go_wp2
              go_roundw
              case rel => exact ⟨k + 1, by omega, by go_num, by rw [HSu2.out, HF.out]; exact hown, HBj.out⟩
              case measure => simp [intOf]; omega
        · obtain rfl : m = k := by omega
          have hLl : (L1 ++ upTo F m).length ≤ 40 := by rw [List.length_append]; omega
          generalize L1 ++ upTo F m = L2 at *
          clear HSu hul2
          go_wp2
          go_loopw [5, 9] (fun v q wr => ∃ k : Nat, k ≤ m ∧ q = .int .i64 k ∧ wr.ownsRow W1.heap.size 77 4 v (L2 ++ upTo (insideAt t ss) k).length ((L2 ++ upTo (insideAt t ss) k).flatMap Reason.enc) ∧ Below W1.heap.size W1 wr) (fun _ q _ => m - (intOf q).toNat)
          case atStart => exact ⟨0, Nat.zero_le _, rfl, by unfold upTo; simp; exact HOw.out, HB.out⟩
          case round =>
            obtain ⟨k, hk, rfl, hown, hB⟩ := hrel
            have HBk := Lib.hid hB; clear hB
            have HBkw : Hid (Below w.heap.size w wr) := HB1.out.trans (HBk.out.mono HB1.out.size)
            have hul := upTo_len (insideAt_len t ss) k
            have HSu := Lib.hid (upTo_succ (insideAt t ss) k)
            have KJ := KK.out.later HBk.out
            by_cases hlt3 : k < m
            · obtain ⟨x, ad, hx, hAd, _⟩ := (HWk.out.below HBkw.out).get hlt3
              clear hAd
              obtain ⟨s, sd, hs, rfl, cs0⟩ := rdI_get (HSs.out.below HBkw.out) hlt3
              obtain ⟨s0, s1⟩ := HSr.out s (List.mem_of_getElem? hs)
              have HBq : Hid (∀ u : Later wr, Calls Try.prog 59 #[.agg #[.int .i64 t.rd.first, .int .i64 t.rd.years, .slice A n c, .slice A' m c', .int .i64 t.gap, .int .i64 t.width, .int .i64 t.day.1, .int .i64 t.day.2, .int .i64 t.plan.1, .int .i64 t.plan.2], .int .i64 (k : Int), .int .i64 s] u.w fun e w' => e = .returned (.int .i64 (badF t x s)) ∧ Below u.w.heap.size u.w w') := fun u => HBd.out u.w k x s (HBkw.out.trans (u.h.mono HBkw.out.size)) hx s0 s1
              have HAt : Hid (insideAt t ss k = if 0 ≤ badF t x s then [⟨3, k, -1, badF t x s⟩] else []) := by unfold insideAt; rw [hs, hx]; rfl
              have hki : (k : Int) < (m : Int) := by omega
              have hMl : (L2 ++ upTo (insideAt t ss) k).length ≤ 60 := by rw [List.length_append]; omega
              have HSu2 : Hid (L2 ++ upTo (insideAt t ss) (k + 1) = (L2 ++ upTo (insideAt t ss) k) ++ insideAt t ss k) := by rw [HSu.out, List.append_assoc]; rfl
              have q0 := later_cell (KJ.cell (i := 0) rfl)
              have q1 := later_cell (KJ.cell (i := 1) rfl)
              have q2 := later_cell (KJ.cell (i := 2) rfl)
              have q3 := later_cell (KJ.cell (i := 3) rfl)
              have q4 := later_cell (KJ.cell (i := 4) rfl)
              have q5 := later_cell (KJ.cell (i := 5) rfl)
              have q6 := later_cell (KJ.cell (i := 6) rfl)
              have q7 := later_cell (KJ.cell (i := 7) rfl)
              have q8 := later_cell (KJ.cell (i := 8) rfl)
              have q9 := later_cell (KJ.cell (i := 9) rfl)
              have qs := later_cell cs0
              clear hx hs KJ cs0 HSu
              generalize badF t x s = bd at *
              generalize L2 ++ upTo (insideAt t ss) k = M at *
              by_cases hb : 0 ≤ bd
              · have hb' : decide (0 ≤ bd) = true := by simpa using hb
                have HS2 : Hid (L2 ++ upTo (insideAt t ss) (k + 1) = M ++ [⟨3, k, -1, bd⟩]) := by rw [HSu2.out, HAt.out, if_pos hb]; rfl
                go_wp2
                refine wp_region_later (by kernel_rfl) (by kernel_rfl) ?_
                repeat (first | go_big_quiet_skip | (go_big_quiet_want; go_big_quiet_op; first | go_big_quiet_on | (apply Exists.intro; refine ⟨fun _ => ?_, ?_⟩; (· (with_reducible exact later_calls (HBq.out _))); go_big_quiet_on)))
                refine wpQuiet_nil ?_
                intro _ hw'
                obtain ⟨u, hu⟩ := hw'
                subst hu
                clear q0 q1 q2 q3 q4 q5 q6 q7 q8 q9 qs
                have HB3 : Hid (Below W1.heap.size W1 u.w) := HBk.out.trans (u.h.mono HBk.out.size)
                have hown3 := hown.kept (grown_of_below u.h none) (Classical.em _)
                clear hown
                go_wp2_with (first | (refine wpList_buildSlice_one rfl 64 77 _ rfl 4 _ #[.int .i64 3, .int .i64 (k : Int), .int .i64 (-1), .int .i64 bd] rfl Try.underlying64 (size77 _) (zero77 _) rfl (by omega) (by omega) ?_) | (at_builtin; refine wpList_append_own _ rfl _ _ 64 rfl W1.heap.size 77 i0 (.agg #[.int .i64 0, .int .i64 0, .int .i64 0, .int .i64 0]) 4 32 Try.underlying64 hi hz0 hz1 hz2 rfl (by decide) _ _ _ rfl (hown3.alloc _) ⟨u.w.heap.size, 0, none⟩ 1 1 [.int .i64 3, .int .i64 (k : Int), .int .i64 (-1), .int .i64 bd] rfl rfl (cells_new4 _ _ _ _ _ _) (one4 _ _ _ _) (by unfold maxLen; omega) (by omega) (by have := HB3.out.size; simp; omega) ?_; intro v' w2 hown' hgrow _; have HB4 : Hid (Below W1.heap.size W1 w2) := ((HB3.out.alloc HB3.out.size _).grown hgrow (by have := HB3.out.size; simp; omega) (fun j e => (hown3.lt j e).1)); clear hgrow))
                go_roundw
                case rel => exact ⟨k + 1, by omega, by go_num, by rw [HS2.out, List.length_append, List.flatMap_append]; exact hown', HB4.out⟩
                case measure => simp [intOf]; omega
              · have hb' : decide (0 ≤ bd) = false := by simpa using hb
                have HS2 : Hid (L2 ++ upTo (insideAt t ss) (k + 1) = M) := by rw [HSu2.out, HAt.out, if_neg hb]; simp [Hid]
                go_wp2
                refine wp_region_later (by kernel_rfl) (by kernel_rfl) ?_
                repeat (first | go_big_quiet_skip | (go_big_quiet_want; go_big_quiet_op; first | go_big_quiet_on | (apply Exists.intro; refine ⟨fun _ => ?_, ?_⟩; (· (with_reducible exact later_calls (HBq.out _))); go_big_quiet_on)))
                refine wpQuiet_nil ?_
                intro _ hw'
                obtain ⟨u, hu⟩ := hw'
                subst hu
                clear q0 q1 q2 q3 q4 q5 q6 q7 q8 q9 qs
                go_wp2
                go_roundw
                case rel => exact ⟨k + 1, by omega, by go_num, by rw [HS2.out]; exact hown.kept (grown_of_below u.h none) (Classical.em _), HBk.out.trans (u.h.mono HBk.out.size)⟩
                case measure => simp [intOf]; omega
            · obtain rfl : m = k := by omega
              have hMl : (L2 ++ upTo (insideAt t ss) m).length ≤ 60 := by rw [List.length_append]; omega
              generalize L2 ++ upTo (insideAt t ss) m = L3 at *
              have b0 := KJ.cell (i := 0) rfl
              have b1 := KJ.cell (i := 1) rfl
              have b2 := KJ.cell (i := 2) rfl
              have b3 := KJ.cell (i := 3) rfl
              have b4 := KJ.cell (i := 4) rfl
              have b5 := KJ.cell (i := 5) rfl
              have b6 := KJ.cell (i := 6) rfl
              have b7 := KJ.cell (i := 7) rfl
              have b8 := KJ.cell (i := 8) rfl
              have b9 := KJ.cell (i := 9) rfl
              have hzj := KJ.lt
              have HKJ := Lib.hid KJ
              clear KJ HSu
              unfold HarmPost at HYr
              generalize (harmR t ss).1 = h1 at *
              generalize (harmR t ss).2 = h2 at *
              go_wp2_with fail
              refine (HYr.out wr HBkw.out).mono ?_
              rintro e W4 ⟨v, rfl, _, hb4⟩
              have HB4 : Hid (Below W1.heap.size W1 W4) := HBk.out.trans (hb4.mono HBk.out.size)
              have KT4 := HKJ.out.later hb4
              have hown4 := hown.kept (grown_of_below hb4 none) (Classical.em _)
              clear hb4 hown b0 b1 b2 b3 b4 b5 b6 b7 b8 b9 hzj
              have b8 := KT4.cell (i := 8) rfl
              have b9 := KT4.cell (i := 9) rfl
              have hz4 := KT4.lt
              clear KT4
              go_wp2_with fail
              refine (HG.out _).mono ?_
              rintro e W5 ⟨rfl, hb5⟩
              have h5 : Below W1.heap.size W1 (W4.alloc (Obj.cells #[.int .i64 h1, .int .i64 h2] 27)) := HB4.out.alloc HB4.out.size _
              have HB5 : Hid (Below W1.heap.size W1 W5) := h5.trans (hb5.mono h5.size)
              have hown5 := (hown4.alloc (Obj.cells #[.int .i64 h1, .int .i64 h2] 27)).kept (grown_of_below hb5 none) (Classical.em _)
              clear hb5 h5 hown4 b8 b9 hz4
              cases gb
              · have HR2 : Hid (RL = []) := HRL.out.symm
                go_wp2_with fail
                go_ret
                refine ⟨_, rfl, ?_, HB1.out.trans (HB5.out.mono HB1.out.size)⟩
                rw [HR2.out, List.append_nil]
                exact own_lower hown5 HB1.out.size
              · have HR2 : Hid (RL = [⟨4, -1, -1, -1⟩]) := HRL.out.symm
                go_wp2_with (first | (refine wpList_buildSlice_one rfl 64 77 _ rfl 4 _ #[.int .i64 4, .int .i64 (-1), .int .i64 (-1), .int .i64 (-1)] rfl Try.underlying64 (size77 _) (zero77 _) rfl (by omega) (by omega) ?_) | (at_builtin; refine wpList_append_own _ rfl _ _ 64 rfl W1.heap.size 77 i0 (.agg #[.int .i64 0, .int .i64 0, .int .i64 0, .int .i64 0]) 4 32 Try.underlying64 hi hz0 hz1 hz2 rfl (by decide) _ _ _ rfl (hown5.alloc _) ⟨W5.heap.size, 0, none⟩ 1 1 [.int .i64 4, .int .i64 (-1), .int .i64 (-1), .int .i64 (-1)] rfl rfl (cells_new4 _ _ _ _ _ _) (one4 _ _ _ _) (by unfold maxLen; omega) (by omega) (by have := HB5.out.size; simp; omega) ?_; intro v' w2 hown' hgrow _; have HB6 : Hid (Below W1.heap.size W1 w2) := ((HB5.out.alloc HB5.out.size _).grown hgrow (by have := HB5.out.size; simp; omega) (fun j e => (hown5.lt j e).1)); clear hgrow))
                go_ret
                refine ⟨_, rfl, ?_, HB1.out.trans (HB6.out.mono HB1.out.size)⟩
                rw [HR2.out, List.length_append, List.flatMap_append]
                exact own_lower hown' HB1.out.size
set_option maxRecDepth 100000 in
set_option maxHeartbeats 2000000 in
theorem refJudge_any (t : Task) (ss : List Int) (A : Option Addr) (n c : Nat) (A' : Option Addr) (n' c' : Nat) (As : Option Addr) (m cs : Nat) (w : World) (hT : TkM w t A n c A' n' c') (hs : RdI w As m ss) :
    Calls Try.prog 35 #[.agg (t.val A n c A' n' c'), .slice As m cs] w (JudgePost t ss w) := by
  have HB1 : Hid (Below w.heap.size w (w.alloc (.cells (t.val A n c A' n' c') 29))) := (Below.refl _ _).alloc (Nat.le_refl _) _
  have KK : Hid (Blk (w.alloc (.cells (t.val A n c A' n' c') 29)) w.heap.size 29 (t.val A n c A' n' c')) := Blk.new _ _ _ rfl
  have HC := Lib.hid (shaped_any t ss A n c A' n' c' As m cs _ (hT.below HB1.out) (hs.below HB1.out))
  have HH : Hid (∀ W, shErr t ss = 0 → Below w.heap.size w W → Calls Try.prog 69 #[.agg (t.val A n c A' n' c'), .slice As m cs] W (ListPostR (judgeL t ss) W)) := fun W h hW =>
    refJudge0_any t A n c A' n' c' As m cs ss W (hT.below hW) (hs.below hW) (taskOK_of (planOK_of h).chk) (by have := hT.hw.1; have := hs.1; have := (planOK_of h).len; omega) (planOK_of h).days
  clear hT hs
  unfold Task.val at *
  by_cases hX : shErr t ss = 0
  · have HX := Lib.hid hX
    rw [hX] at HC
    clear hX
    go_enter Try.func35, Try.ntmps35
    go_wp2_with fail
    refine HC.out.mono ?_
    rintro e W2 ⟨rfl, hb2⟩
    have HB2 : Hid (Below w.heap.size w W2) := HB1.out.trans (hb2.mono HB1.out.size)
    have L1 := KK.out.later hb2
    clear hb2
    have q0 := L1.cell (i := 0) rfl
    have q1 := L1.cell (i := 1) rfl
    have q2 := L1.cell (i := 2) rfl
    have q3 := L1.cell (i := 3) rfl
    have q4 := L1.cell (i := 4) rfl
    have q5 := L1.cell (i := 5) rfl
    have q6 := L1.cell (i := 6) rfl
    have q7 := L1.cell (i := 7) rfl
    have q8 := L1.cell (i := 8) rfl
    have q9 := L1.cell (i := 9) rfl
    have hz := L1.lt
    clear L1
    go_wp2_with fail
    refine (HH.out W2 HX.out HB2.out).mono ?_
    rintro e W3 ⟨v, rfl, hown, hb3⟩
    have HOw := Lib.hid hown
    have HB3 : Hid (Below w.heap.size w W3) := HB2.out.trans (hb3.mono HB2.out.size)
    clear hown hb3 q0 q1 q2 q3 q4 q5 q6 q7 q8 q9 hz
    go_wp2_with fail
    go_ret2
    exact ⟨HB3.out, .inr ⟨HX.out, v, rfl, own_lower HOw.out HB2.out.size⟩⟩
  · have hXb : (shErr t ss != 0) = true := by simpa using hX
    have HPost : Hid (∀ w', Below w.heap.size w w' → JudgePost t ss w (.returned (.tuple #[.slice none 0 0, .int .i64 (shErr t ss)])) w') := fun w' h => ⟨h, .inl ⟨hX, rfl⟩⟩
    clear hX HH
    generalize shErr t ss = X at *
    go_enter Try.func35, Try.ntmps35
    go_wp2_with fail
    refine HC.out.mono ?_
    rintro e W2 ⟨rfl, hb2⟩
    have HB2 : Hid (Below w.heap.size w W2) := HB1.out.trans (hb2.mono HB1.out.size)
    clear hb2
    go_wp2_with fail
    go_ret2
    exact HPost.out _ HB2.out

theorem At.four {w : World} {p : Addr} {a b c d : Value} (h : At w p [a, b, c, d]) :
    w.cell? p = some a ∧ w.cell? ⟨p.block, p.off + 1, none⟩ = some b ∧ w.cell? ⟨p.block, p.off + 2, none⟩ = some c ∧ w.cell? ⟨p.block, p.off + 3, none⟩ = some d :=
  ⟨h 0 a rfl, h 1 b rfl, h 2 c rfl, h 3 d rfl⟩

set_option maxRecDepth 100000 in
set_option maxHeartbeats 2000000 in
/-- Two lists that are the same. -/
theorem sameReasons_any (xs : List Reason) (A : Option Addr) (n c : Nat) (B : Option Addr) (d : Nat) (w : World) (hx : RdR w A n xs) (hy : RdR w B n xs) (hn : n ≤ 1000000) :
    Calls Try.prog 36 #[.slice A n c, .slice B n d] w fun e w' => e = .returned (.bool true) ∧ Below w.heap.size w w' := by
  have HX := Lib.hid hx; have HY := Lib.hid hy
  have hne : ((n : Int) != (n : Int)) = false := by simp
  clear hx hy
  go_enter Try.func36, Try.ntmps36
  go_wp2
  go_loopw [5] (fun i wr => ∃ k : Nat, k ≤ n ∧ i = .int .i64 k ∧ Below w.heap.size w wr) (fun i _ => n - (intOf i).toNat)
  case atStart => exact ⟨0, Nat.zero_le _, rfl, Below.refl _ _⟩
  case round =>
    obtain ⟨k, hk, rfl, hB⟩ := hrel
    have HB := Lib.hid hB; clear hB
    by_cases hlt : k < n
    · obtain ⟨x, ad, h1, rfl, ha⟩ := (HX.out.below HB.out).get hlt
      obtain ⟨y, bd, h2, rfl, hb⟩ := (HY.out.below HB.out).get hlt
      rw [h1] at h2
      injection h2 with h2
      subst h2
      obtain ⟨a0, a1, a2, a3⟩ := ha.four
      obtain ⟨b0, b1, b2, b3⟩ := hb.four
      have hki : (k : Int) < (n : Int) := by omega
      have q0 := later_cell a0
      have q1 := later_cell a1
      have q2 := later_cell a2
      have q3 := later_cell a3
      have q4 := later_cell b0
      have q5 := later_cell b1
      have q6 := later_cell b2
      have q7 := later_cell b3
      clear a0 a1 a2 a3 b0 b1 b2 b3 ha hb h1
      go_wp2
      refine wp_region_later (by kernel_rfl) (by kernel_rfl) ?_
      repeat (first | go_big_quiet_skip | (go_big_quiet_want; go_big_quiet_op; go_big_quiet_on))
      refine wpQuiet_nil ?_
      intro _ hw'
      obtain ⟨u, hu⟩ := hw'
      subst hu
      clear q0 q1 q2 q3 q4 q5 q6 q7
      go_wp2
      go_roundw
      case rel => exact ⟨k + 1, by omega, by go_num, HB.out.trans (u.h.mono HB.out.size)⟩
      case measure => simp [intOf]; omega
    · go_wp2
      go_ret
      exact ⟨rfl, HB.out⟩
end Go.Proofs.Ytkkajemahehoaaa

namespace Go.Proofs.Ytkkajemahehoaaa
open Go.RowKit

/-- The task of the examples, as it lies in memory. -/
abbrev exVal (A B : Option Addr) : Array Value := #[.int .i64 exTask.rd.first, .int .i64 exTask.rd.years, .slice A 5 5, .slice B 2 2, .int .i64 exTask.gap, .int .i64 exTask.width, .int .i64 exTask.day.1, .int .i64 exTask.day.2, .int .i64 exTask.plan.1, .int .i64 exTask.plan.2]
abbrev exRV (ar : Addr) : Array Value := #[.int .i64 exRec.first, .int .i64 exRec.years, .slice (some ar) 5 5]
def seasonEx : List Int := [1, 2, 3, 4, 5, 96, 97, 98, 99, 100, 346, 347, 348, 349, 350, 358, 359, 360]
theorem c_season0 (ar : Addr) (W : World) (hr : RdH W (some ar) 5 exRec.highs) : Calls Try.prog 29 #[.agg (exRV ar), .int .i64 5, .int .i64 2550, .agg #[.int .i64 0, .int .i64 1]] W fun e w' => ∃ A c, e = .returned (.tuple #[.slice A 18 c, .int .i64 0]) ∧ RdI w' A 18 seasonEx ∧ Below W.heap.size W w' := by
  have h := Season_any exRec 5 2550 (0, 1) (some ar) 5 5 W hr
  rw [kn_season0] at h
  refine Calls.mono h fun e w' ⟨v, h1, h2, h3⟩ => ?_
  obtain ⟨A, c, rfl, hra, _, _⟩ := rdI_of_own (xs := seasonEx) (n := 18) h2 rfl
  exact ⟨A, c, h1, hra, h3⟩
theorem c_season1 (ar : Addr) (W : World) (hr : RdH W (some ar) 5 exRec.highs) : Calls Try.prog 29 #[.agg (exRV ar), .int .i64 5, .int .i64 2550, .agg #[.int .i64 1, .int .i64 4]] W fun e w' => ∃ A c, e = .returned (.tuple #[.slice A 0 c, .int .i64 0]) ∧ Below W.heap.size W w' := by
  have h := Season_any exRec 5 2550 (1, 4) (some ar) 5 5 W hr
  rw [kn_season1] at h
  refine Calls.mono h fun e w' ⟨v, h1, h2, h3⟩ => ?_
  obtain ⟨A, c, rfl, _, _, _⟩ := rdI_of_own (xs := []) (n := 0) h2 rfl
  exact ⟨A, c, h1, h3⟩
theorem c_starts (A B : Option Addr) (W : World) (hT : TkM W exTask A 5 5 B 2 2) (i : Nat) (L : List Int) (hL : startsTop exTask (i : Int) = (L, 0)) : Calls Try.prog 20 #[.agg (exVal A B), .int .i64 (i : Int)] W fun e w' => ∃ A' c, e = .returned (.tuple #[.slice A' L.length c, .int .i64 0]) ∧ RdI w' A' L.length L ∧ Below W.heap.size W w' := by
  have h := Starts_any exTask A 5 5 B 2 2 (i : Int) W hT
  rw [hL] at h
  refine Calls.mono h fun e w' ⟨v, h1, h2, h3⟩ => ?_
  obtain ⟨A', c, rfl, hra, _, _⟩ := rdI_of_own (xs := L) h2 rfl
  exact ⟨A', c, h1, hra, h3⟩
theorem k_starts0 : startsTop exTask ((0 : Nat) : Int) = ([105, 120, 135, 150], 0) := by decide +kernel
theorem k_starts1 : startsTop exTask ((1 : Nat) : Int) = ([110, 120, 130], 0) := by decide +kernel
theorem c_starts0 (A B : Option Addr) (W : World) (hT : TkM W exTask A 5 5 B 2 2) : Calls Try.prog 20 #[.agg (exVal A B), .int .i64 0] W fun e w' => ∃ A' c, e = .returned (.tuple #[.slice A' 4 c, .int .i64 0]) ∧ RdI w' A' 4 [105, 120, 135, 150] ∧ Below W.heap.size W w' := c_starts A B W hT 0 _ k_starts0
theorem c_starts1 (A B : Option Addr) (W : World) (hT : TkM W exTask A 5 5 B 2 2) : Calls Try.prog 20 #[.agg (exVal A B), .int .i64 1] W fun e w' => ∃ A' c, e = .returned (.tuple #[.slice A' 3 c, .int .i64 0]) ∧ RdI w' A' 3 [110, 120, 130] ∧ Below W.heap.size W w' := c_starts A B W hT 1 _ k_starts1
theorem c_best (A B : Option Addr) (W : World) (hT : TkM W exTask A 5 5 B 2 2) : Calls Try.prog 25 #[.agg (exVal A B)] W fun e w' => ∃ A' c, e = .returned (.tuple #[.slice A' 2 c, .agg #[.int .i64 0, .int .i64 4], .int .i64 0]) ∧ RdI w' A' 2 [105, 130] ∧ Below W.heap.size W w' :=
  (best_ok exTask A 5 5 B 2 2 W hT.hr hT.hw hT.hc hT.nm ex_chk).mono fun e w' ⟨h1, h2⟩ => by
    rw [kn_best] at h2
    obtain ⟨A', c, h3, h4⟩ := h2
    exact ⟨A', c, h3, h4, h1⟩
theorem plan_lit (W : World) (a b : Int) : RdI (W.alloc (.cells #[.int .i64 a, .int .i64 b] 3)) (some ⟨W.heap.size, 0, none⟩) 2 [a, b] :=
  rd_blk (enc := fun x : Int => [Value.int .i64 x]) (z := 1) (fun _ => rfl) (Blk.new W 3 _ rfl) [a, b] rfl
theorem up_alloc (W : World) (o : Obj) : Below W.heap.size W (W.alloc o) := (Below.refl _ _).alloc (Nat.le_refl _) _
theorem c_years (A B : Option Addr) (W : World) (hT : TkM W exTask A 5 5 B 2 2) : Calls Try.prog 32 #[.agg (exVal A B), .slice (some ⟨W.heap.size, 0, none⟩) 2 2] (W.alloc (.cells #[.int .i64 90, .int .i64 100] 3)) fun e w' => ∃ A' c, e = .returned (.tuple #[.slice A' 1 c, .agg #[.int .i64 1, .int .i64 4], .int .i64 0]) ∧ RdI w' A' 1 [2003] ∧ Below W.heap.size W w' :=
  (Years_any exTask [90, 100] A 5 5 B 2 2 _ 2 2 _ (hT.below (up_alloc W _)) (plan_lit W 90 100)).mono fun e w' h => by
    obtain ⟨A', c, h1, h2, h3⟩ := years_of h
    have e1 : yOf exTask [90, 100] = ([2003], (1, 4), 0) := by unfold yOf; rw [if_pos kn_sh1, kn_harm.1, kn_harm.2]
    rw [e1] at h1 h2
    exact ⟨A', c, h1, h2, (up_alloc W _).trans (h3.mono (up_alloc W _).size)⟩
theorem c_judge (A B : Option Addr) (W : World) (hT : TkM W exTask A 5 5 B 2 2) (a b : Int) (L : List Reason) (hs : shErr exTask [a, b] = 0) (hL : judgeL exTask [a, b] = L) : Calls Try.prog 34 #[.agg (exVal A B), .slice (some ⟨W.heap.size, 0, none⟩) 2 2] (W.alloc (.cells #[.int .i64 a, .int .i64 b] 3)) fun e w' => ∃ A' c, e = .returned (.tuple #[.slice A' L.length c, .int .i64 0]) ∧ RdR w' A' L.length L ∧ Below W.heap.size W w' :=
  (Judge_any exTask [a, b] A 5 5 B 2 2 _ 2 2 _ (hT.below (up_alloc W _)) (plan_lit W a b)).mono fun e w' ⟨hb, h⟩ => by
    rcases h with ⟨h1, _⟩ | ⟨_, v, h2, h3⟩
    · exact absurd hs h1
    · rw [hL] at h3
      obtain ⟨A', c, rfl, hr, _, _⟩ := rd_of_own reason_len h3 rfl
      exact ⟨A', c, h2, hr, (up_alloc W _).trans (hb.mono (up_alloc W _).size)⟩
theorem c_judge1 (A B : Option Addr) (W : World) (hT : TkM W exTask A 5 5 B 2 2) : Calls Try.prog 34 #[.agg (exVal A B), .slice (some ⟨W.heap.size, 0, none⟩) 2 2] (W.alloc (.cells #[.int .i64 90, .int .i64 100] 3)) fun e w' => ∃ A' c, e = .returned (.tuple #[.slice A' 3 c, .int .i64 0]) ∧ RdR w' A' 3 [⟨2, 0, 1, -1⟩, ⟨3, 0, -1, 96⟩, ⟨3, 1, -1, 100⟩] ∧ Below W.heap.size W w' := c_judge A B W hT 90 100 _ kn_sh1 kn_judge1
theorem c_judge2 (A B : Option Addr) (W : World) (hT : TkM W exTask A 5 5 B 2 2) : Calls Try.prog 34 #[.agg (exVal A B), .slice (some ⟨W.heap.size, 0, none⟩) 2 2] (W.alloc (.cells #[.int .i64 105, .int .i64 125] 3)) fun e w' => ∃ A' c, e = .returned (.tuple #[.slice A' 2 c, .int .i64 0]) ∧ RdR w' A' 2 [⟨1, 1, -1, -1⟩, ⟨2, 0, 1, -1⟩] ∧ Below W.heap.size W w' := c_judge A B W hT 105 125 _ kn_sh2 kn_judge2
theorem c_judge3 (A B : Option Addr) (W : World) (hT : TkM W exTask A 5 5 B 2 2) : Calls Try.prog 34 #[.agg (exVal A B), .slice (some ⟨W.heap.size, 0, none⟩) 2 2] (W.alloc (.cells #[.int .i64 105, .int .i64 130] 3)) fun e w' => ∃ A' c, e = .returned (.tuple #[.slice A' 0 c, .int .i64 0]) ∧ RdR w' A' 0 [] ∧ Below W.heap.size W w' := c_judge A B W hT 105 130 _ kn_sh3 kn_judge3
theorem c_ints {W : World} {A : Option Addr} {n c : Nat} {L : List Int} {cs : Array Value} (hr : RdI W A n L) (hc : cs.toList = L.flatMap (fun x : Int => [Value.int .i64 x])) (hn : n ≤ 1000) : Calls Try.prog 22 #[.slice A n c, .slice (some ⟨W.heap.size, 0, none⟩) n n] (W.alloc (.cells cs 3)) fun e w' => e = .returned (.bool true) ∧ Below W.heap.size W w' := by
  have h1 := rd_blk (enc := fun x : Int => [Value.int .i64 x]) (z := 1) (fun _ => rfl) (Blk.new W 3 cs rfl) L hc
  rw [hr.1] at h1
  have h := ints_any L L A n c (some ⟨W.heap.size, 0, none⟩) n n (W.alloc (.cells cs 3)) (hr.below (up_alloc W _)) h1 (by omega)
  have e : decide (L = L) = true := by simp
  rw [e] at h
  exact h.mono fun e w' ⟨g1, g2⟩ => ⟨g1, (up_alloc W _).trans (g2.mono (up_alloc W _).size)⟩
theorem c_reasons {W : World} {A : Option Addr} {n c : Nat} {L : List Reason} {cs : Array Value} (hr : RdR W A n L) (hc : cs.toList = L.flatMap Reason.enc) (hn : n ≤ 1000) : Calls Try.prog 36 #[.slice A n c, .slice (some ⟨W.heap.size, 0, none⟩) n n] (W.alloc (.cells cs 77)) fun e w' => e = .returned (.bool true) ∧ Below W.heap.size W w' := by
  have h1 := rd_blk (enc := Reason.enc) (z := 4) (fun _ => rfl) (Blk.new W 77 cs rfl) L hc
  rw [hr.1] at h1
  have h := sameReasons_any L A n c (some ⟨W.heap.size, 0, none⟩) n (W.alloc (.cells cs 77)) (hr.below (up_alloc W _)) h1 (by omega)
  exact h.mono fun e w' ⟨g1, g2⟩ => ⟨g1, (up_alloc W _).trans (g2.mono (up_alloc W _).size)⟩
end Go.Proofs.Ytkkajemahehoaaa

namespace Go.Proofs.Ytkkajemahehoaaa
open Go.RowKit

set_option maxRecDepth 100000 in
set_option maxHeartbeats 8000000 in
theorem UpkeepKnown_any (w : World) : Calls Try.prog 17 #[] w fun e w' => e = .returned (.bool true) ∧ Below w.heap.size w w' := by
  go_enter Try.func17, Try.ntmps17
  go_wp2_with fail
  refine (Record_any _).mono ?_
  rintro e W1 ⟨rfl, hr1, hb1⟩
  have HR1 := Lib.hid hr1; have HB1 := Lib.hid hb1
  clear hr1 hb1
  generalize (⟨w.heap.size + 1, 0, none⟩ : Addr) = ar at *
  go_wp2_with fail
  refine (Task_any _).mono ?_
  rintro e W2 ⟨A, B, rfl, hh, hw, hb2⟩
  have HB2 : Hid (Below w.heap.size w W2) := HB1.out.trans (hb2.mono HB1.out.size)
  have HR2 := Lib.hid (HR1.out.below hb2)
  have HT2 : Hid (TkM W2 exTask A 5 5 B 2 2) := ⟨hh, hw, by omega, ex_name⟩
  clear hh hw hb2 HR1 HB1
  unfold Task.val
  go_wp2_with fail
  obtain ⟨W3, hW3, b3, k1, k2, k3, k4, k5, k6, k7⟩ := seven_blk W2 #[.int .i64 exRec.first, .int .i64 exRec.years, .slice (some ar) 5 5] #[.int .i64 exTask.rd.first, .int .i64 exTask.rd.years, .slice A 5 5, .slice B 2 2, .int .i64 exTask.gap, .int .i64 exTask.width, .int .i64 exTask.day.1, .int .i64 exTask.day.2, .int .i64 exTask.plan.1, .int .i64 exTask.plan.2] #[.int .i64 0, .int .i64 0, .int .i64 340] #[.int .i64 30, .int .i64 30, .int .i64 40] #[.int .i64 2400, .int .i64 2600, .int .i64 2400] #[.int .i64 2, .int .i64 4, .int .i64 1, .int .i64 4, .int .i64 1, .int .i64 3] #[.int .i64 2900, .int .i64 2500, .int .i64 (-20000)] 24 29 3 3 3 27 3
  rw [hW3]
  have HB3 : Hid (Below w.heap.size w W3) := HB2.out.trans (b3.mono HB2.out.size)
  have KR := Lib.hid k1; have KT := Lib.hid k2
  have HD : Hid (RdI W3 (some ⟨W2.heap.size + 1 + 1, 0, none⟩) 3 [0, 0, 340]) := rd_blk (enc := fun x : Int => [Value.int .i64 x]) (z := 1) (fun _ => rfl) k3 [0, 0, 340] rfl
  have HM : Hid (RdI W3 (some ⟨W2.heap.size + 1 + 1 + 1, 0, none⟩) 3 [30, 30, 40]) := rd_blk (enc := fun x : Int => [Value.int .i64 x]) (z := 1) (fun _ => rfl) k4 [30, 30, 40] rfl
  have HL : Hid (RdI W3 (some ⟨W2.heap.size + 1 + 1 + 1 + 1, 0, none⟩) 3 [2400, 2600, 2400]) := rd_blk (enc := fun x : Int => [Value.int .i64 x]) (z := 1) (fun _ => rfl) k5 [2400, 2600, 2400] rfl
  have HP : Hid (Rd encP 2 W3 (some ⟨W2.heap.size + 1 + 1 + 1 + 1 + 1, 0, none⟩) 3 [(2, 4), (1, 4), (1, 3)]) := rd_blk (enc := encP) (z := 2) (fun _ => rfl) k6 [(2, 4), (1, 4), (1, 3)] rfl
  have HV : Hid (RdI W3 (some ⟨W2.heap.size + 1 + 1 + 1 + 1 + 1 + 1, 0, none⟩) 3 [2900, 2500, -20000]) := rd_blk (enc := fun x : Int => [Value.int .i64 x]) (z := 1) (fun _ => rfl) k7 [2900, 2500, -20000] rfl
  have HT3 := Lib.hid (HT2.out.below b3); have HR3 := Lib.hid (HR2.out.below b3)
  clear hW3 b3 k1 k2 k3 k4 k5 k6 k7 HT2 HR2
  generalize (⟨W2.heap.size + 1 + 1, 0, none⟩ : Addr) = aD at *
  generalize (⟨W2.heap.size + 1 + 1 + 1, 0, none⟩ : Addr) = aM at *
  generalize (⟨W2.heap.size + 1 + 1 + 1 + 1, 0, none⟩ : Addr) = aL at *
  generalize (⟨W2.heap.size + 1 + 1 + 1 + 1 + 1, 0, none⟩ : Addr) = aP at *
  generalize (⟨W2.heap.size + 1 + 1 + 1 + 1 + 1 + 1, 0, none⟩ : Addr) = aV at *
  go_loopw [8] (fun q wr => ∃ k : Nat, k ≤ 3 ∧ q = .int .i64 k ∧ Below W3.heap.size W3 wr) (fun q _ => 3 - (intOf q).toNat)
  case atStart => exact ⟨0, Nat.zero_le _, rfl, Below.refl _ _⟩
  case round =>
    obtain ⟨k, hk, rfl, hB⟩ := hrel
    have HB := Lib.hid hB; clear hB
    have HBw : Hid (Below w.heap.size w wr) := HB3.out.trans (HB.out.mono HB3.out.size)
    by_cases hlt : k < 3
    · obtain ⟨x, _, hx, e1, cx⟩ := rdI_get (HD.out.below HB.out) hlt
      cases e1
      obtain ⟨y, _, hy, e2, cy⟩ := rdI_get (HM.out.below HB.out) hlt
      cases e2
      obtain ⟨z, _, hz, e3, cz⟩ := rdI_get (HL.out.below HB.out) hlt
      cases e3
      obtain ⟨p, _, hp, e4, cp⟩ := (HP.out.below HB.out).get hlt
      cases e4
      obtain ⟨v, _, hv, e5, cv⟩ := rdI_get (HV.out.below HB.out) hlt
      cases e5
      obtain ⟨h1, h2, h3⟩ := kn_row hlt hx hy hz hp hv
      have hp0 : wr.cell? (aP.add (k * 2)) = some (.int .i64 p.1) := cp 0 _ rfl
      have hp1 : wr.cell? ⟨(aP.add (k * 2)).block, (aP.add (k * 2)).off + 1, none⟩ = some (.int .i64 p.2) := cp 1 _ rfl
      have CR : Hid (∀ W, Below wr.heap.size wr W → Calls Try.prog 27 #[.agg #[.int .i64 exRec.first, .int .i64 exRec.years, .slice (some ar) 5 5], .int .i64 x, .int .i64 y, .int .i64 z] W fun e w' => e = .returned (.tuple #[.agg #[.int .i64 p.1, .int .i64 p.2], .int .i64 0]) ∧ Below W.heap.size W w') := fun W hW => by
        have h := Risk_any exRec x y z (some ar) 5 5 W ((HR3.out.below HB.out).below hW)
        rw [h1] at h
        exact h
      have CK : Hid (∀ W, Below wr.heap.size wr W → Calls Try.prog 41 #[.agg #[.int .i64 exRec.first, .int .i64 exRec.years, .slice (some ar) 5 5], .int .i64 0, .int .i64 30, .int .i64 (k : Int)] W fun e w' => e = .returned (.tuple #[.int .i64 v, .int .i64 0]) ∧ Below W.heap.size W w') := fun W hW =>
        (Rank_any exRec 0 30 (k : Int) (some ar) 5 5 W ((HR3.out.below HB.out).below hW)).mono fun e w' ⟨⟨u, g1, g2⟩, g3⟩ => by
          rw [h2, h3 u g2] at g1
          exact ⟨g1, g3⟩
      have HCp0 := Lib.hid hp0; have HCp1 := Lib.hid hp1; have HCv := Lib.hid cv
      have hki : (k : Int) < 3 := by omega
      clear hx hy hz hp hv h1 h2 h3 cp hp0 hp1 cv
      obtain ⟨p1, p2⟩ := p
      dsimp only at *
      have KRr := Lib.hid (KR.out.later HB.out)
      have q0 := later_cell (KRr.out.cell (i := 0) rfl)
      have q1 := later_cell (KRr.out.cell (i := 1) rfl)
      have q2 := later_cell (KRr.out.cell (i := 2) rfl)
      have q3 := later_cell cx
      have q4 := later_cell cy
      have q5 := later_cell cz
      clear cx cy cz
      go_wp2_with fail
      refine wp_region_noPanic ?_
      refine wp_region_fork (fun w' => ∃ u : Later wr, w' = u.w) 19 (fun k => decide (k < 13) || k == 14 || k == 15 || k == 16) (fkOf _ (.op 0 (.op 1 (.op 2 (.op 3 (.op 4 (.op 5 (.op 6 (.op 7 (.op 8 (.op 9 (.op 10 (.op 11 (.op 12 (.two 13 (.op 14 (.op 15 (.op 16 (.op 17 (.op 18 (.op 19 .nil)))))) 17 (.op 13 (.op 14 (.op 15 (.op 16 (.op 18 (.op 19 .nil))))))))))))))))))))) (by kernel_rfl) (by kernel_rfl) (fkOf_mem _ _) (fun _ _ _ _ _ h => h) ?_
      have HS0 : Hid ((fun w' => ∃ u : Later wr, w' = u.w) wr.drew) := ⟨⟨wr.drew, (Below.refl _ _).drew⟩, rfl⟩
      simp only [fkOf, List.getElem?_cons_zero, List.getElem?_cons_succ]
      iterate 13 (refine fk_quiet rfl rfl rfl HS0.out ?_; intro K hK; go_big_quiet_op; go_big_quiet_on)
      clear q0 q1 q2 q3 q4 q5 HS0
      refine fk_two ?_ ?_
      · go_wp2_with fail
        refine (CR.out wr.drew (Below.refl _ _).drew).mono ?_
        rintro e W6 ⟨rfl, hb6⟩
        have HB6 : Hid (Below wr.heap.size wr W6) := below_of_drew hb6
        clear hb6
        have HS6 : Hid ((fun w' => ∃ u : Later wr, w' = u.w) W6) := ⟨⟨W6, HB6.out⟩, rfl⟩
        go_wp2
        refine mix_post (fun _ => HS6.out) ?_
        iterate 3 (refine fk_quiet rfl rfl rfl HS6.out ?_; intro K hK; go_big_quiet_op; go_big_quiet_on)
        clear HS6
        refine fk_one rfl ?_
        go_wp2
        refine mix_post (fun _ => ⟨⟨_, HB6.out.alloc HB6.out.size _⟩, rfl⟩) ?_
        refine fk_one rfl ?_
        go_wp2
        refine mix_post (fun _ => ⟨⟨_, HB6.out.alloc HB6.out.size _⟩, rfl⟩) ?_
        refine fk_one rfl ?_
        go_wp2
        refine mix_post (fun h => absurd h (by decide)) ?_
        refine fk_nil (NoPanic.normal ?_)
        have hX7 : Blk (W6.alloc (Obj.cells #[.int .i64 p1, .int .i64 p2] 27)) W6.heap.size 27 #[.int .i64 p1, .int .i64 p2] := Blk.new _ _ _ rfl
        have hB7 : Below wr.heap.size wr (W6.alloc (Obj.cells #[.int .i64 p1, .int .i64 p2] 27)) := HB6.out.alloc HB6.out.size _
        have HX7 := Lib.hid hX7; have HB7 := Lib.hid hB7
        clear hX7 hB7
        generalize W6.alloc (Obj.cells #[.int .i64 p1, .int .i64 p2] 27) = W7 at *
        generalize W6.heap.size = X at *
        have K7 := KRr.out.later HB7.out
        have q0 := K7.cell (i := 0) rfl
        have q1 := K7.cell (i := 1) rfl
        have q2 := K7.cell (i := 2) rfl
        have hz7 := K7.lt
        clear K7
        go_wp2_with fail
        refine (CK.out W7 HB7.out).mono ?_
        rintro e W8 ⟨rfl, hb8⟩
        have HB8 : Hid (Below wr.heap.size wr W8) := HB7.out.trans (hb8.mono HB7.out.size)
        have X8 := HX7.out.later hb8
        clear hb8 q0 q1 q2 hz7
        have s0 := later_cell (X8.cell (i := 0) rfl)
        have s1 := later_cell (X8.cell (i := 1) rfl)
        have s2 := later_cell (cell_below HB8.out HCp0.out)
        have s3 := later_cell (cell_below HB8.out HCp1.out)
        have s4 := later_cell (cell_below HB8.out HCv.out)
        clear X8
        go_wp2_with fail
        refine wp_region_later (by kernel_rfl) (by kernel_rfl) ?_
        repeat (first | go_big_quiet_skip | (go_big_quiet_want; go_big_quiet_op; go_big_quiet_on))
        refine wpQuiet_nil ?_
        intro _ hw'
        obtain ⟨u2, hu⟩ := hw'
        subst hu
        clear s0 s1 s2 s3 s4
        go_wp2
        go_roundw
        case rel => exact ⟨k + 1, by omega, by go_num, HB.out.trans ((HB8.out.trans (u2.h.mono HB8.out.size)).mono HB.out.size)⟩
        case measure => simp [intOf]; omega
      · go_wp2
        have HBa : Hid (Below wr.heap.size wr (wr.alloc (Obj.cells #[.int .i64 0, .int .i64 0] 27)).drew) := ((Below.refl _ wr).alloc (Nat.le_refl _) _).drew
        refine mix_post (fun _ => ⟨⟨_, HBa.out⟩, rfl⟩) ?_
        have KXa : Hid (Blk (wr.alloc (Obj.cells #[.int .i64 0, .int .i64 0] 27)).drew wr.heap.size 27 #[.int .i64 0, .int .i64 0]) := Blk.new wr 27 #[.int .i64 0, .int .i64 0] rfl
        refine fk_one rfl ?_
        go_wp2_with fail
        refine (CR.out _ HBa.out).mono ?_
        rintro e W6 ⟨rfl, hb6⟩
        have HB6 : Hid (Below wr.heap.size wr W6) := HBa.out.trans (hb6.mono HBa.out.size)
        have KX6 := KXa.out.later hb6
        clear hb6
        have HS6 : Hid ((fun w' => ∃ u : Later wr, w' = u.w) W6) := ⟨⟨W6, HB6.out⟩, rfl⟩
        go_wp2
        refine mix_post (fun _ => HS6.out) ?_
        iterate 3 (refine fk_quiet rfl rfl rfl HS6.out ?_; intro K hK; go_big_quiet_op; go_big_quiet_on)
        clear HS6
        have x0 := KX6.cell (i := 0) rfl
        have x1 := KX6.cell (i := 1) rfl
        have x2 := KX6.frozen 0
        have x3 := KX6.frozen 1
        have x4 := KX6.lt
        have HK6 := Lib.hid KX6
        clear KX6
        refine fk_one rfl ?_
        go_wp2
        have hX7 : Blk ((W6.setCell ⟨wr.heap.size, 0, none⟩ (.int .i64 p1)).setCell ⟨wr.heap.size, 1, none⟩ (.int .i64 p2)) wr.heap.size 27 #[.int .i64 p1, .int .i64 p2] := (HK6.out.set 0 (.int .i64 p1)).set 1 (.int .i64 p2)
        have hB7 : Below wr.heap.size wr ((W6.setCell ⟨wr.heap.size, 0, none⟩ (.int .i64 p1)).setCell ⟨wr.heap.size, 1, none⟩ (.int .i64 p2)) := (HB6.out.setCell (p := ⟨wr.heap.size, 0, none⟩) (Nat.le_refl _) _).setCell (p := ⟨wr.heap.size, 1, none⟩) (Nat.le_refl _) _
        have HX7 := Lib.hid hX7; have HB7 := Lib.hid hB7
        refine mix_post (fun _ => ⟨⟨_, HB7.out⟩, rfl⟩) ?_
        refine fk_one rfl ?_
        go_wp2
        refine mix_post (fun h => absurd h (by decide)) ?_
        refine fk_nil (NoPanic.normal ?_)
        clear hX7 hB7 x0 x1 x2 x3 x4 HK6 KXa
        generalize (W6.setCell ⟨wr.heap.size, 0, none⟩ (.int .i64 p1)).setCell ⟨wr.heap.size, 1, none⟩ (.int .i64 p2) = W7 at *
        generalize hXe : wr.heap.size = X at *
        rw [← hXe] at HB7 CK
        clear hXe
        have K7 := KRr.out.later HB7.out
        have q0 := K7.cell (i := 0) rfl
        have q1 := K7.cell (i := 1) rfl
        have q2 := K7.cell (i := 2) rfl
        have hz7 := K7.lt
        clear K7
        go_wp2_with fail
        refine (CK.out W7 HB7.out).mono ?_
        rintro e W8 ⟨rfl, hb8⟩
        have HB8 : Hid (Below wr.heap.size wr W8) := HB7.out.trans (hb8.mono HB7.out.size)
        have X8 := HX7.out.later hb8
        clear hb8 q0 q1 q2 hz7
        have s0 := later_cell (X8.cell (i := 0) rfl)
        have s1 := later_cell (X8.cell (i := 1) rfl)
        have s2 := later_cell (cell_below HB8.out HCp0.out)
        have s3 := later_cell (cell_below HB8.out HCp1.out)
        have s4 := later_cell (cell_below HB8.out HCv.out)
        clear X8
        go_wp2_with fail
        refine wp_region_later (by kernel_rfl) (by kernel_rfl) ?_
        repeat (first | go_big_quiet_skip | (go_big_quiet_want; go_big_quiet_op; go_big_quiet_on))
        refine wpQuiet_nil ?_
        intro _ hw'
        obtain ⟨u2, hu⟩ := hw'
        subst hu
        clear s0 s1 s2 s3 s4
        go_wp2
        go_roundw
        case rel => exact ⟨k + 1, by omega, by go_num, HB.out.trans ((HB8.out.trans (u2.h.mono HB8.out.size)).mono HB.out.size)⟩
        case measure => simp [intOf]; omega
    · obtain rfl : k = 3 := by omega
      have KR0 := Lib.hid (KR.out.later HB.out); have KT0 := Lib.hid (KT.out.later HB.out); have HT0 := Lib.hid (HT3.out.below HB.out); have HR0 := Lib.hid (HR3.out.below HB.out)
      have HW0 := HBw
      clear KR KT HT3 HR3 HD HM HL HP HV HB HBw HB3 HB2 hk hlt
      have q0 := KR0.out.cell (i := 0) rfl
      have q1 := KR0.out.cell (i := 1) rfl
      have q2 := KR0.out.cell (i := 2) rfl
      have qz := KR0.out.lt
      go_wp2_with fail
      refine (c_season0 ar wr HR0.out).mono ?_
      rintro e V1 ⟨Aa, ca, rfl, hra, hb⟩
      have KR_1 := Lib.hid (KR0.out.later hb)
      have KT_1 := Lib.hid (KT0.out.later hb)
      have HT_1 := Lib.hid (HT0.out.below hb)
      have HR_1 := Lib.hid (HR0.out.below hb)
      have HW_1 : Hid (Below w.heap.size w V1) := HW0.out.trans (hb.mono HW0.out.size)
      clear hb q0 q1 q2 qz KR0 KT0 HT0 HR0
      have Sa := Lib.hid hra
      clear hra
      have q0 := KR_1.out.cell (i := 0) rfl
      have q1 := KR_1.out.cell (i := 1) rfl
      have q2 := KR_1.out.cell (i := 2) rfl
      have qz := KR_1.out.lt
      go_wp2_with fail
      refine (c_season1 ar V1 HR_1.out).mono ?_
      rintro e V2 ⟨Ab, cb, rfl, hb⟩
      have KR_2 := Lib.hid (KR_1.out.later hb)
      have KT_2 := Lib.hid (KT_1.out.later hb)
      have HT_2 := Lib.hid (HT_1.out.below hb)
      have HR_2 := Lib.hid (HR_1.out.below hb)
      have Sa_2 := Lib.hid (Sa.out.below hb)
      have HW_2 : Hid (Below w.heap.size w V2) := HW_1.out.trans (hb.mono HW_1.out.size)
      clear hb q0 q1 q2 qz KR_1 KT_1 HT_1 HR_1 Sa
      go_wp2_with fail
      refine (c_ints (c := ca) (W := V2) (L := seasonEx) Sa_2.out rfl (by omega)).mono ?_
      rintro e V3 ⟨rfl, hb⟩
      have KR_3 := Lib.hid (KR_2.out.later hb)
      have KT_3 := Lib.hid (KT_2.out.later hb)
      have HT_3 := Lib.hid (HT_2.out.below hb)
      have HR_3 := Lib.hid (HR_2.out.below hb)
      have Sa_3 := Lib.hid (Sa_2.out.below hb)
      have HW_3 : Hid (Below w.heap.size w V3) := HW_2.out.trans (hb.mono HW_2.out.size)
      clear hb KR_2 KT_2 HT_2 HR_2 Sa_2
      have q0 := KT_3.out.cell (i := 0) rfl
      have q1 := KT_3.out.cell (i := 1) rfl
      have q2 := KT_3.out.cell (i := 2) rfl
      have q3 := KT_3.out.cell (i := 3) rfl
      have q4 := KT_3.out.cell (i := 4) rfl
      have q5 := KT_3.out.cell (i := 5) rfl
      have q6 := KT_3.out.cell (i := 6) rfl
      have q7 := KT_3.out.cell (i := 7) rfl
      have q8 := KT_3.out.cell (i := 8) rfl
      have q9 := KT_3.out.cell (i := 9) rfl
      have qz := KT_3.out.lt
      go_wp2_with fail
      refine (c_starts0 A B V3 HT_3.out).mono ?_
      rintro e V4 ⟨As, cs, rfl, hrs, hb⟩
      have KT_4 := Lib.hid (KT_3.out.later hb)
      have HT_4 := Lib.hid (HT_3.out.below hb)
      have HW_4 : Hid (Below w.heap.size w V4) := HW_3.out.trans (hb.mono HW_3.out.size)
      clear hb q0 q1 q2 q3 q4 q5 q6 q7 q8 q9 qz KT_3 HT_3
      have S0 := Lib.hid hrs
      clear hrs
      have q0 := KT_4.out.cell (i := 0) rfl
      have q1 := KT_4.out.cell (i := 1) rfl
      have q2 := KT_4.out.cell (i := 2) rfl
      have q3 := KT_4.out.cell (i := 3) rfl
      have q4 := KT_4.out.cell (i := 4) rfl
      have q5 := KT_4.out.cell (i := 5) rfl
      have q6 := KT_4.out.cell (i := 6) rfl
      have q7 := KT_4.out.cell (i := 7) rfl
      have q8 := KT_4.out.cell (i := 8) rfl
      have q9 := KT_4.out.cell (i := 9) rfl
      have qz := KT_4.out.lt
      go_wp2_with fail
      refine (c_starts1 A B V4 HT_4.out).mono ?_
      rintro e V5 ⟨At, ct, rfl, hrt, hb⟩
      have KT_5 := Lib.hid (KT_4.out.later hb)
      have HT_5 := Lib.hid (HT_4.out.below hb)
      have S0_5 := Lib.hid (S0.out.below hb)
      have HW_5 : Hid (Below w.heap.size w V5) := HW_4.out.trans (hb.mono HW_4.out.size)
      clear hb q0 q1 q2 q3 q4 q5 q6 q7 q8 q9 qz KT_4 HT_4 S0
      have S1 := Lib.hid hrt
      clear hrt
      have q0 := KT_5.out.cell (i := 0) rfl
      have q1 := KT_5.out.cell (i := 1) rfl
      have q2 := KT_5.out.cell (i := 2) rfl
      have q3 := KT_5.out.cell (i := 3) rfl
      have q4 := KT_5.out.cell (i := 4) rfl
      have q5 := KT_5.out.cell (i := 5) rfl
      have q6 := KT_5.out.cell (i := 6) rfl
      have q7 := KT_5.out.cell (i := 7) rfl
      have q8 := KT_5.out.cell (i := 8) rfl
      have q9 := KT_5.out.cell (i := 9) rfl
      have qz := KT_5.out.lt
      go_wp2_with fail
      refine (c_best A B V5 HT_5.out).mono ?_
      rintro e V6 ⟨Ap, cp, rfl, hrp, hb⟩
      have KT_6 := Lib.hid (KT_5.out.later hb)
      have HT_6 := Lib.hid (HT_5.out.below hb)
      have S0_6 := Lib.hid (S0_5.out.below hb)
      have S1_6 := Lib.hid (S1.out.below hb)
      have HW_6 : Hid (Below w.heap.size w V6) := HW_5.out.trans (hb.mono HW_5.out.size)
      clear hb q0 q1 q2 q3 q4 q5 q6 q7 q8 q9 qz KT_5 HT_5 S0_5 S1
      have SB := Lib.hid hrp
      clear hrp
      have q0 := KT_6.out.cell (i := 0) rfl
      have q1 := KT_6.out.cell (i := 1) rfl
      have q2 := KT_6.out.cell (i := 2) rfl
      have q3 := KT_6.out.cell (i := 3) rfl
      have q4 := KT_6.out.cell (i := 4) rfl
      have q5 := KT_6.out.cell (i := 5) rfl
      have q6 := KT_6.out.cell (i := 6) rfl
      have q7 := KT_6.out.cell (i := 7) rfl
      have q8 := KT_6.out.cell (i := 8) rfl
      have q9 := KT_6.out.cell (i := 9) rfl
      have qz := KT_6.out.lt
      go_wp2_with fail
      obtain ⟨V7, hV7⟩ : ∃ V7, V6.alloc (Obj.cells #[.int .i64 0, .int .i64 4] 27) = V7 := ⟨_, rfl⟩
      have hb : Below V6.heap.size V6 V7 := by rw [← hV7]; exact (Below.refl _ _).alloc (Nat.le_refl _) _
      have hsV7 : V7.heap.size = V6.heap.size + 1 := by rw [← hV7]; simp
      have hkV7 : Hid (Blk V7 V6.heap.size 27 #[.int .i64 0, .int .i64 4]) := by rw [← hV7]; exact Blk.new _ _ _ rfl
      rw [hV7]
      have HSV7 := Lib.hid hsV7
      have KT_7 := Lib.hid (KT_6.out.later hb)
      have HT_7 := Lib.hid (HT_6.out.below hb)
      have S0_7 := Lib.hid (S0_6.out.below hb)
      have S1_7 := Lib.hid (S1_6.out.below hb)
      have SB_7 := Lib.hid (SB.out.below hb)
      have HW_7 : Hid (Below w.heap.size w V7) := HW_6.out.trans (hb.mono HW_6.out.size)
      clear hV7 hsV7 hb KT_6 HT_6 S0_6 S1_6 SB q0 q1 q2 q3 q4 q5 q6 q7 q8 q9 qz
      have CY := Lib.hid (c_years A B V7 HT_7.out)
      rw [HSV7.out] at CY
      refine CY.out.mono ?_
      rintro e V8 ⟨Ay, cy, rfl, hry, hb⟩
      rw [← HSV7.out] at hb
      have KT_8 := Lib.hid (KT_7.out.later hb)
      have HT_8 := Lib.hid (HT_7.out.below hb)
      have S0_8 := Lib.hid (S0_7.out.below hb)
      have S1_8 := Lib.hid (S1_7.out.below hb)
      have SB_8 := Lib.hid (SB_7.out.below hb)
      have X20_8 := Lib.hid (hkV7.out.later hb)
      have HW_8 : Hid (Below w.heap.size w V8) := HW_7.out.trans (hb.mono HW_7.out.size)
      clear hb CY KT_7 HT_7 S0_7 S1_7 SB_7 hkV7
      have SY := Lib.hid hry
      clear hry
      go_wp2_with fail
      obtain ⟨V9, hV9⟩ : ∃ V9, V8.alloc (Obj.cells #[.int .i64 1, .int .i64 4] 27) = V9 := ⟨_, rfl⟩
      have hb : Below V8.heap.size V8 V9 := by rw [← hV9]; exact (Below.refl _ _).alloc (Nat.le_refl _) _
      have hsV9 : V9.heap.size = V8.heap.size + 1 := by rw [← hV9]; simp
      have hkV9 : Hid (Blk V9 V8.heap.size 27 #[.int .i64 1, .int .i64 4]) := by rw [← hV9]; exact Blk.new _ _ _ rfl
      rw [hV9]
      have HSV9 := Lib.hid hsV9
      have KT_9 := Lib.hid (KT_8.out.later hb)
      have HT_9 := Lib.hid (HT_8.out.below hb)
      have S0_9 := Lib.hid (S0_8.out.below hb)
      have S1_9 := Lib.hid (S1_8.out.below hb)
      have SB_9 := Lib.hid (SB_8.out.below hb)
      have X20_9 := Lib.hid (X20_8.out.later hb)
      have SY_9 := Lib.hid (SY.out.below hb)
      have HW_9 : Hid (Below w.heap.size w V9) := HW_8.out.trans (hb.mono HW_8.out.size)
      clear hV9 hsV9 hb KT_8 HT_8 S0_8 S1_8 SB_8 X20_8 SY 
      have CI := Lib.hid (c_ints (c := cs) (W := V9) (L := [105, 120, 135, 150]) (cs := #[.int .i64 105, .int .i64 120, .int .i64 135, .int .i64 150]) S0_9.out rfl (by omega))
      rw [HSV9.out] at CI
      refine CI.out.mono ?_
      rintro e V10 ⟨rfl, hb⟩
      rw [← HSV9.out] at hb
      have KT_10 := Lib.hid (KT_9.out.later hb)
      have HT_10 := Lib.hid (HT_9.out.below hb)
      have S0_10 := Lib.hid (S0_9.out.below hb)
      have S1_10 := Lib.hid (S1_9.out.below hb)
      have SB_10 := Lib.hid (SB_9.out.below hb)
      have X20_10 := Lib.hid (X20_9.out.later hb)
      have SY_10 := Lib.hid (SY_9.out.below hb)
      have X23_10 := Lib.hid (hkV9.out.later hb)
      have HW_10 : Hid (Below w.heap.size w V10) := HW_9.out.trans (hb.mono HW_9.out.size)
      clear hb CI KT_9 HT_9 S0_9 S1_9 SB_9 X20_9 SY_9 hkV9
      go_wp2_with fail
      refine (c_ints (c := ct) (W := V10) (L := [110, 120, 130]) S1_10.out rfl (by omega)).mono ?_
      rintro e V11 ⟨rfl, hb⟩
      have KT_11 := Lib.hid (KT_10.out.later hb)
      have HT_11 := Lib.hid (HT_10.out.below hb)
      have S1_11 := Lib.hid (S1_10.out.below hb)
      have SB_11 := Lib.hid (SB_10.out.below hb)
      have X20_11 := Lib.hid (X20_10.out.later hb)
      have SY_11 := Lib.hid (SY_10.out.below hb)
      have X23_11 := Lib.hid (X23_10.out.later hb)
      have HW_11 : Hid (Below w.heap.size w V11) := HW_10.out.trans (hb.mono HW_10.out.size)
      clear hb KT_10 HT_10 S1_10 SB_10 X20_10 SY_10 X23_10
      go_wp2_with fail
      refine (c_ints (c := cp) (W := V11) (L := [105, 130]) SB_11.out rfl (by omega)).mono ?_
      rintro e V12 ⟨rfl, hb⟩
      have KT_12 := Lib.hid (KT_11.out.later hb)
      have HT_12 := Lib.hid (HT_11.out.below hb)
      have SB_12 := Lib.hid (SB_11.out.below hb)
      have X20_12 := Lib.hid (X20_11.out.later hb)
      have SY_12 := Lib.hid (SY_11.out.below hb)
      have X23_12 := Lib.hid (X23_11.out.later hb)
      have HW_12 : Hid (Below w.heap.size w V12) := HW_11.out.trans (hb.mono HW_11.out.size)
      clear hb KT_11 HT_11 SB_11 X20_11 SY_11 X23_11
      have x0 := X20_12.out.cell (i := 0) rfl
      have x1 := X20_12.out.cell (i := 1) rfl
      have xz := X20_12.out.lt
      go_wp2_with fail
      refine (c_ints (c := cy) (W := V12) (L := [2003]) SY_12.out rfl (by omega)).mono ?_
      rintro e V13 ⟨rfl, hb⟩
      have KT_13 := Lib.hid (KT_12.out.later hb)
      have HT_13 := Lib.hid (HT_12.out.below hb)
      have X20_13 := Lib.hid (X20_12.out.later hb)
      have SY_13 := Lib.hid (SY_12.out.below hb)
      have X23_13 := Lib.hid (X23_12.out.later hb)
      have HW_13 : Hid (Below w.heap.size w V13) := HW_12.out.trans (hb.mono HW_12.out.size)
      clear hb x0 x1 xz KT_12 HT_12 X20_12 SY_12 X23_12
      have x0 := X23_13.out.cell (i := 0) rfl
      have x1 := X23_13.out.cell (i := 1) rfl
      have xz := X23_13.out.lt
      have q0 := KT_13.out.cell (i := 0) rfl
      have q1 := KT_13.out.cell (i := 1) rfl
      have q2 := KT_13.out.cell (i := 2) rfl
      have q3 := KT_13.out.cell (i := 3) rfl
      have q4 := KT_13.out.cell (i := 4) rfl
      have q5 := KT_13.out.cell (i := 5) rfl
      have q6 := KT_13.out.cell (i := 6) rfl
      have q7 := KT_13.out.cell (i := 7) rfl
      have q8 := KT_13.out.cell (i := 8) rfl
      have q9 := KT_13.out.cell (i := 9) rfl
      have qz := KT_13.out.lt
      go_wp2_with fail
      obtain ⟨V14, hV14⟩ : ∃ V14, V13.alloc (Obj.cells #[.int .i64 2, .int .i64 0, .int .i64 1, .int .i64 (-1)] 77) = V14 := ⟨_, rfl⟩
      have hb : Below V13.heap.size V13 V14 := by rw [← hV14]; exact (Below.refl _ _).alloc (Nat.le_refl _) _
      have hsV14 : V14.heap.size = V13.heap.size + 1 := by rw [← hV14]; simp
      have hkV14 : Hid (Blk V14 V13.heap.size 77 #[.int .i64 2, .int .i64 0, .int .i64 1, .int .i64 (-1)]) := by rw [← hV14]; exact Blk.new _ _ _ rfl
      rw [hV14]
      have HSV14 := Lib.hid hsV14
      have KT_14 := Lib.hid (KT_13.out.later hb)
      have HT_14 := Lib.hid (HT_13.out.below hb)
      have X23_14 := Lib.hid (X23_13.out.later hb)
      have HW_14 : Hid (Below w.heap.size w V14) := HW_13.out.trans (hb.mono HW_13.out.size)
      clear hV14 hsV14 hb KT_13 HT_13 X23_13 x0 x1 xz q0 q1 q2 q3 q4 q5 q6 q7 q8 q9 qz
      have CJ := Lib.hid (c_judge1 A B V14 HT_14.out)
      rw [HSV14.out] at CJ
      refine CJ.out.mono ?_
      rintro e V15 ⟨Ai, ci, rfl, hri, hb⟩
      rw [← HSV14.out] at hb
      have KT_15 := Lib.hid (KT_14.out.later hb)
      have HT_15 := Lib.hid (HT_14.out.below hb)
      have M25_15 := Lib.hid (hkV14.out.later hb)
      have HW_15 : Hid (Below w.heap.size w V15) := HW_14.out.trans (hb.mono HW_14.out.size)
      clear hb CJ KT_14 HT_14 hkV14
      have J1 := Lib.hid hri
      clear hri
      have q0 := KT_15.out.cell (i := 0) rfl
      have q1 := KT_15.out.cell (i := 1) rfl
      have q2 := KT_15.out.cell (i := 2) rfl
      have q3 := KT_15.out.cell (i := 3) rfl
      have q4 := KT_15.out.cell (i := 4) rfl
      have q5 := KT_15.out.cell (i := 5) rfl
      have q6 := KT_15.out.cell (i := 6) rfl
      have q7 := KT_15.out.cell (i := 7) rfl
      have q8 := KT_15.out.cell (i := 8) rfl
      have q9 := KT_15.out.cell (i := 9) rfl
      have qz := KT_15.out.lt
      go_wp2_with fail
      refine (c_judge2 A B V15 HT_15.out).mono ?_
      rintro e V16 ⟨Aj, cj, rfl, hrj, hb⟩
      have KT_16 := Lib.hid (KT_15.out.later hb)
      have HT_16 := Lib.hid (HT_15.out.below hb)
      have M25_16 := Lib.hid (M25_15.out.later hb)
      have J1_16 := Lib.hid (J1.out.below hb)
      have HW_16 : Hid (Below w.heap.size w V16) := HW_15.out.trans (hb.mono HW_15.out.size)
      clear hb q0 q1 q2 q3 q4 q5 q6 q7 q8 q9 qz KT_15 HT_15 M25_15 J1
      have J2 := Lib.hid hrj
      clear hrj
      have q0 := KT_16.out.cell (i := 0) rfl
      have q1 := KT_16.out.cell (i := 1) rfl
      have q2 := KT_16.out.cell (i := 2) rfl
      have q3 := KT_16.out.cell (i := 3) rfl
      have q4 := KT_16.out.cell (i := 4) rfl
      have q5 := KT_16.out.cell (i := 5) rfl
      have q6 := KT_16.out.cell (i := 6) rfl
      have q7 := KT_16.out.cell (i := 7) rfl
      have q8 := KT_16.out.cell (i := 8) rfl
      have q9 := KT_16.out.cell (i := 9) rfl
      have qz := KT_16.out.lt
      go_wp2_with fail
      refine (c_judge3 A B V16 HT_16.out).mono ?_
      rintro e V17 ⟨Ak, ck, rfl, _, hb⟩
      have KT_17 := Lib.hid (KT_16.out.later hb)
      have HT_17 := Lib.hid (HT_16.out.below hb)
      have M25_17 := Lib.hid (M25_16.out.later hb)
      have J1_17 := Lib.hid (J1_16.out.below hb)
      have J2_17 := Lib.hid (J2.out.below hb)
      have HW_17 : Hid (Below w.heap.size w V17) := HW_16.out.trans (hb.mono HW_16.out.size)
      clear hb q0 q1 q2 q3 q4 q5 q6 q7 q8 q9 qz KT_16 HT_16 M25_16 J1_16 J2
      have x0 := M25_17.out.cell (i := 0) rfl
      have x1 := M25_17.out.cell (i := 1) rfl
      have x2 := M25_17.out.cell (i := 2) rfl
      have x3 := M25_17.out.cell (i := 3) rfl
      have xz := M25_17.out.lt
      go_wp2_with fail
      refine (c_reasons (c := ci) (W := V17) (L := [⟨2, 0, 1, -1⟩, ⟨3, 0, -1, 96⟩, ⟨3, 1, -1, 100⟩]) J1_17.out rfl (by omega)).mono ?_
      rintro e V18 ⟨rfl, hb⟩
      have M25_18 := Lib.hid (M25_17.out.later hb)
      have J1_18 := Lib.hid (J1_17.out.below hb)
      have J2_18 := Lib.hid (J2_17.out.below hb)
      have HW_18 : Hid (Below w.heap.size w V18) := HW_17.out.trans (hb.mono HW_17.out.size)
      clear hb x0 x1 x2 x3 xz M25_17 J1_17 J2_17
      have x0 := M25_18.out.cell (i := 0) rfl
      have x1 := M25_18.out.cell (i := 1) rfl
      have x2 := M25_18.out.cell (i := 2) rfl
      have x3 := M25_18.out.cell (i := 3) rfl
      have xz := M25_18.out.lt
      go_wp2_with fail
      refine (c_reasons (c := cj) (W := V18) (L := [⟨1, 1, -1, -1⟩, ⟨2, 0, 1, -1⟩]) J2_18.out rfl (by omega)).mono ?_
      rintro e V19 ⟨rfl, hb⟩
      have M25_19 := Lib.hid (M25_18.out.later hb)
      have J2_19 := Lib.hid (J2_18.out.below hb)
      have HW_19 : Hid (Below w.heap.size w V19) := HW_18.out.trans (hb.mono HW_18.out.size)
      clear hb x0 x1 x2 x3 xz M25_18 J2_18
      go_wp2_with fail
      refine (Awake_any _).mono ?_
      rintro e WA ⟨rfl, hbA⟩
      have HBA := Lib.hid (HW_19.out.trans (hbA.mono HW_19.out.size))
      clear hbA
      go_wp2_with fail
      go_ret
      exact ⟨rfl, HBA.out⟩
end Go.Proofs.Ytkkajemahehoaaa

namespace Go.Proofs.Ytkkajemahehoaaa
open Go.ChangeShapes Go.WideShapes Go.RowKit Go.Deep

/-- Some cells can be read as data of a type. -/
def Reads (w : World) (t : TypeId) (cs : List Value) : Prop :=
  ∃ (H : Type) (enc : TypeId × Value → H) (fuel : Nat) (x : DataW H × List MemPlace), DataW.trod enc Try.prog w 0 (fun _ => true) true fuel t cs = some x

theorem reads_of {H : Type} {enc : TypeId × Value → H} {w : World} {t : TypeId} {v : Value} {d : DataW H} {p : List MemPlace} (h : DataW.Trod enc Try.prog w 0 (fun _ => true) true t v d p) : Reads w t v.cells.toList := by
  obtain ⟨fuel, hf⟩ := h
  exact ⟨H, enc, fuel, _, hf⟩

theorem Reads.int {w : World} {t : TypeId} {cs : List Value} {k : IntKind} (ht : Try.prog.underlying t = some (.int k)) (h : Reads w t cs) : ∃ n, cs = [.int k n] ∧ (Lit.int k n).wf = true := by
  obtain ⟨H, enc, fuel, x, hx⟩ := h
  obtain ⟨n, h1, _, h3⟩ := DataW.trod_int ht hx
  exact ⟨n, h1, h3⟩
theorem Reads.string {w : World} {t : TypeId} {cs : List Value} (ht : Try.prog.underlying t = some .string) (h : Reads w t cs) : ∃ s : ByteArray, cs = [.string s] ∧ s.size ≤ maxLen := by
  obtain ⟨H, enc, fuel, x, hx⟩ := h
  obtain ⟨n, h1, _, h3⟩ := DataW.trod_string ht hx
  exact ⟨n, h1, h3⟩
theorem Reads.struct {w : World} {t : TypeId} {cs : List Value} {fs : Array Field} (ht : Try.prog.underlying t = some (.struct fs)) (h : Reads w t cs) :
    cs.length = Try.prog.cellsOf t ∧ ∀ (i : Nat) (f : Field), fs[i]? = some f → Reads w f.type ((cs.drop f.offset).take (Try.prog.cellsOf f.type)) := by
  obtain ⟨H, enc, fuel, x, hx⟩ := h
  obtain ⟨xs, n, _, _, hl, hxl, hf⟩ := DataW.trod_struct ht hx
  refine ⟨hl, fun i f hi => ?_⟩
  have hil : i < fs.size := (Array.getElem?_eq_some_iff.1 hi).1
  exact ⟨H, enc, n, xs[i]'(by omega), (hf i f hi).trans (List.getElem?_eq_getElem (by omega))⟩
theorem Reads.array {w : World} {t e : TypeId} {cs : List Value} {n : Nat} (ht : Try.prog.underlying t = some (.array n e)) (h : Reads w t cs) :
    cs.length = Try.prog.cellsOf t ∧ ∀ (i : Nat), i < n → Reads w e ((cs.drop (i * Try.prog.cellsOf e)).take (Try.prog.cellsOf e)) := by
  obtain ⟨H, enc, fuel, x, hx⟩ := h
  obtain ⟨xs, m, _, _, hl, hxl, hf⟩ := DataW.trod_array ht hx
  refine ⟨hl, fun i hi => ?_⟩
  exact ⟨H, enc, m, xs[i]'(by omega), (hf i hi).trans (List.getElem?_eq_getElem (by omega))⟩
theorem Reads.slice {w : World} {t e : TypeId} {cs : List Value} (ht : Try.prog.underlying t = some (.slice e)) (h : Reads w t cs) :
    ∃ (A : Option Addr) (n c : Nat), cs = [.slice A n c] ∧ n ≤ c ∧ c ≤ maxLen ∧ ∀ i, i < n → ∃ ad cs', A = some ad ∧ cs'.length = Try.prog.cellsOf e ∧ At w (ad.add (i * Try.prog.cellsOf e)) cs' ∧ Reads w e cs' := by
  obtain ⟨H, enc, fuel, x, hx⟩ := h
  rcases open_slice ht hx with ⟨rfl, _⟩ | ⟨a, len, cap, m, n, D, Pl, rfl, _, hl, hm, hmm, _, hi⟩
  · exact ⟨none, 0, 0, rfl, Nat.le_refl _, Nat.zero_le _, fun i h => by omega⟩
  · refine ⟨some a, len, cap, rfl, hl, hm, fun i hil => ?_⟩
    simp only [if_true] at hmm
    obtain ⟨cs', hc, ht'⟩ := hi i (by omega)
    obtain ⟨_, hcl, hat⟩ := World.cells?_some hc
    refine ⟨a, cs', rfl, hcl, fun j v hj => ?_, H, enc, n, _, ht'⟩
    have hjl := (List.getElem?_eq_some_iff.1 hj).1
    rw [hat j (by omega)]
    exact hj

theorem rd_of_reads {α : Type} {enc : α → List Value} {k : Nat} {w : World} {A : Option Addr} : ∀ {n : Nat}, (∀ i, i < n → ∃ ad x, A = some ad ∧ At w (ad.add (i * k)) (enc x)) → ∃ xs, Rd enc k w A n xs
  | 0, _ => ⟨[], Rd.nil⟩
  | n + 1, h => by
    obtain ⟨xs, hxl, hx⟩ := rd_of_reads (n := n) (fun i hi => h i (by omega))
    obtain ⟨ad, x, h1, h2⟩ := h n (by omega)
    refine ⟨xs ++ [x], by simp [hxl], fun i y hy => ?_⟩
    by_cases hi : i < n
    · rw [List.getElem?_append_left (by omega)] at hy
      exact hx i y hy
    · have hil := (List.getElem?_eq_some_iff.1 hy).1
      simp at hil
      obtain rfl : i = n := by omega
      rw [List.getElem?_append_right (by omega), hxl] at hy
      simp at hy
      subst hy
      exact ⟨ad, h1, h2⟩

theorem cells3 : Try.prog.cellsOf 3 = 1 := by kernel_rfl

theorem len1 {α : Type} {l : List α} (h : l.length = 1) : ∃ a, l = [a] := by
  match l, h with
  | [a], _ => exact ⟨a, rfl⟩
theorem len2 {α : Type} {l : List α} (h : l.length = 2) : ∃ a b, l = [a, b] := by
  match l, h with
  | [a, b], _ => exact ⟨a, b, rfl⟩
theorem len3 {α : Type} {l : List α} (h : l.length = 3) : ∃ a b c, l = [a, b, c] := by
  match l, h with
  | [a, b, c], _ => exact ⟨a, b, c, rfl⟩
theorem len4 {α : Type} {l : List α} (h : l.length = 4) : ∃ a b c d, l = [a, b, c, d] := by
  match l, h with
  | [a, b, c, d], _ => exact ⟨a, b, c, d, rfl⟩
theorem len7 {α : Type} {l : List α} (h : l.length = 7) : ∃ a b c d e f g, l = [a, b, c, d, e, f, g] := by
  match l, h with
  | [a, b, c, d, e, f, g], _ => exact ⟨a, b, c, d, e, f, g, rfl⟩
theorem len10 {α : Type} {l : List α} (h : l.length = 10) : ∃ a b c d e f g i j k, l = [a, b, c, d, e, f, g, i, j, k] := by
  match l, h with
  | [a, b, c, d, e, f, g, i, j, k], _ => exact ⟨a, b, c, d, e, f, g, i, j, k, rfl⟩

/-- An integer within its 64 bits. -/
def I64 (n : Int) : Prop := -9223372036854775808 ≤ n ∧ n ≤ 9223372036854775807
theorem Reads.i64 {w : World} {v : Value} (h : Reads w 3 [v]) : ∃ n, v = .int .i64 n ∧ I64 n := by
  obtain ⟨n, hn, hw⟩ := h.int Try.underlying3
  simp at hn
  simp [Lit.wf, IntKind.min, IntKind.max, IntKind.signed, IntKind.bits] at hw
  exact ⟨n, hn, hw⟩

theorem Reads.field {w : World} {t : TypeId} {cs : List Value} {fs : Array Field} (ht : Try.prog.underlying t = some (.struct fs)) (h : Reads w t cs) (i : Nat) {u : TypeId} {off k : Nat}
    (hi : (fs[i]?).map (fun f => (f.type, f.offset)) = some (u, off)) (hk : Try.prog.cellsOf u = k) : Reads w u ((cs.drop off).take k) := by
  cases hf : fs[i]? with
  | none => rw [hf] at hi; cases hi
  | some f =>
    rw [hf] at hi
    simp at hi
    obtain ⟨rfl, rfl⟩ := hi
    have := (h.struct ht).2 i f hf
    rw [hk] at this
    exact this
theorem Reads.len {w : World} {t : TypeId} {cs : List Value} {fs : Array Field} (ht : Try.prog.underlying t = some (.struct fs)) (h : Reads w t cs) {k : Nat} (hk : Try.prog.cellsOf t = k) : cs.length = k := (h.struct ht).1.trans hk

theorem cells108 : Try.prog.cellsOf 108 = 3 := by kernel_rfl
theorem cells24 : Try.prog.cellsOf 24 = 3 := by kernel_rfl
theorem cells43 : Try.prog.cellsOf 43 = 4 := by kernel_rfl
theorem cells22 : Try.prog.cellsOf 22 = 1 := by kernel_rfl
theorem cells25 : Try.prog.cellsOf 25 = 1 := by kernel_rfl
theorem cells27 : Try.prog.cellsOf 27 = 2 := by kernel_rfl
theorem cells29 : Try.prog.cellsOf 29 = 10 := by kernel_rfl
theorem cells61 : Try.prog.cellsOf 61 = 7 := by kernel_rfl
theorem cells9 : Try.prog.cellsOf 9 = 1 := by kernel_rfl

theorem Reads.high {w : World} {cs : List Value} (h : Reads w 108 cs) : ∃ x : High, cs = High.enc x := by
  obtain ⟨a, b, c, rfl⟩ := len3 (h.len Try.underlying108 cells108)
  have h0 : Reads w 3 [a] := h.field Try.underlying108 0 rfl cells3
  have h1 : Reads w 3 [b] := h.field Try.underlying108 1 rfl cells3
  have h2 : Reads w 3 [c] := h.field Try.underlying108 2 rfl cells3
  obtain ⟨x, rfl, _⟩ := h0.i64
  obtain ⟨y, rfl, _⟩ := h1.i64
  obtain ⟨z, rfl, _⟩ := h2.i64
  exact ⟨⟨x, y, z⟩, rfl⟩
theorem Reads.highs {w : World} {v : Value} (h : Reads w 22 [v]) : ∃ (A : Option Addr) (n c : Nat) (xs : List High), v = .slice A n c ∧ n ≤ c ∧ c ≤ maxLen ∧ RdH w A n xs := by
  obtain ⟨A, n, c, e, h1, h2, hi⟩ := h.slice Try.underlying22
  simp at e
  obtain ⟨xs, hx⟩ := rd_of_reads (enc := High.enc) (k := 3) (w := w) (A := A) (n := n) (fun i hin => by
    obtain ⟨ad, cs', e, _, ha, hr⟩ := hi i hin
    obtain ⟨x, rfl⟩ := hr.high
    rw [cells108] at ha
    exact ⟨ad, x, e, ha⟩)
  exact ⟨A, n, c, xs, e, h1, h2, hx⟩
theorem Reads.record {w : World} {cs : List Value} (h : Reads w 24 cs) : ∃ (r : Rec) (A : Option Addr) (n c : Nat), cs = [.int .i64 r.first, .int .i64 r.years, .slice A n c] ∧ n ≤ c ∧ c ≤ maxLen ∧ RdH w A n r.highs ∧ I64 r.first ∧ I64 r.years := by
  obtain ⟨a, b, c, rfl⟩ := len3 (h.len Try.underlying24 cells24)
  have h0 : Reads w 3 [a] := h.field Try.underlying24 0 rfl cells3
  have h1 : Reads w 3 [b] := h.field Try.underlying24 1 rfl cells3
  have h2 : Reads w 22 [c] := h.field Try.underlying24 2 rfl cells22
  obtain ⟨x, rfl, bx⟩ := h0.i64
  obtain ⟨y, rfl, bz⟩ := h1.i64
  obtain ⟨A, n, c', xs, rfl, hnc, hcm, hr⟩ := h2.highs
  exact ⟨⟨x, y, xs⟩, A, n, c', rfl, hnc, hcm, hr, bx, bz⟩
theorem Reads.window {w : World} {cs : List Value} (h : Reads w 43 cs) : ∃ d m l y : Int, cs = [.int .i64 d, .int .i64 m, .int .i64 l, .int .i64 y] ∧ I64 d ∧ I64 m ∧ I64 l ∧ I64 y := by
  obtain ⟨a, b, c, d, rfl⟩ := len4 (h.len Try.underlying43 cells43)
  have h0 : Reads w 3 [a] := h.field Try.underlying43 0 rfl cells3
  have h1 : Reads w 3 [b] := h.field Try.underlying43 1 rfl cells3
  have h2 : Reads w 3 [c] := h.field Try.underlying43 2 rfl cells3
  have h3 : Reads w 3 [d] := h.field Try.underlying43 3 rfl cells3
  obtain ⟨x0, rfl, b0⟩ := h0.i64
  obtain ⟨x1, rfl, b1⟩ := h1.i64
  obtain ⟨x2, rfl, b2⟩ := h2.i64
  obtain ⟨x3, rfl, b3⟩ := h3.i64
  exact ⟨x0, x1, x2, x3, rfl, b0, b1, b2, b3⟩
/-- Two integers. -/
theorem Reads.risk {w : World} {cs : List Value} (h : Reads w 27 cs) : ∃ a b : Int, cs = [.int .i64 a, .int .i64 b] ∧ I64 a ∧ I64 b := by
  obtain ⟨a, b, rfl⟩ := len2 (h.len Try.underlying27 cells27)
  have h0 : Reads w 3 [a] := h.field Try.underlying27 0 rfl cells3
  have h1 : Reads w 3 [b] := h.field Try.underlying27 1 rfl cells3
  obtain ⟨x0, rfl, b0⟩ := h0.i64
  obtain ⟨x1, rfl, b1⟩ := h1.i64
  exact ⟨x0, x1, rfl, b0, b1⟩
theorem Reads.work {w : World} {cs : List Value} (h : Reads w 61 cs) : ∃ x : Work, cs = Work.enc x ∧ x.name.size ≤ maxLen ∧ I64 x.days ∧ I64 x.frm ∧ I64 x.til ∧ I64 x.step := by
  obtain ⟨a, b, c, d, e, f, g, rfl⟩ := len7 (h.len Try.underlying61 cells61)
  have h0 : Reads w 9 [a] := h.field Try.underlying61 0 rfl cells9
  have h1 : Reads w 3 [b] := h.field Try.underlying61 1 rfl cells3
  have h2 : Reads w 3 [c] := h.field Try.underlying61 2 rfl cells3
  have h3 : Reads w 3 [d] := h.field Try.underlying61 3 rfl cells3
  have h4 : Reads w 3 [e] := h.field Try.underlying61 4 rfl cells3
  have h5 : Reads w 3 [f] := h.field Try.underlying61 5 rfl cells3
  have h6 : Reads w 3 [g] := h.field Try.underlying61 6 rfl cells3
  obtain ⟨s, hs, hsz⟩ := h0.string Try.underlying9
  simp at hs
  subst hs
  obtain ⟨x1, rfl, b1⟩ := h1.i64
  obtain ⟨x2, rfl, b2⟩ := h2.i64
  obtain ⟨x3, rfl, b3⟩ := h3.i64
  obtain ⟨x4, rfl, b4⟩ := h4.i64
  obtain ⟨x5, rfl, b5⟩ := h5.i64
  obtain ⟨x6, rfl, b6⟩ := h6.i64
  exact ⟨⟨s, x1, x2, x3, x4, x5, x6⟩, rfl, hsz, b2, b3, b4, b5⟩
/-- What is known of every work that was read. -/
def WkOK (x : Work) : Prop := x.name.size ≤ maxLen ∧ I64 x.days ∧ I64 x.frm ∧ I64 x.til ∧ I64 x.step
theorem Reads.works {w : World} {v : Value} (h : Reads w 25 [v]) : ∃ (A : Option Addr) (n c : Nat) (xs : List Work), v = .slice A n c ∧ n ≤ c ∧ c ≤ maxLen ∧ RdW w A n xs ∧ ∀ (i : Nat) (x : Work), xs[i]? = some x → WkOK x := by
  obtain ⟨A, n, c, e, h1, h2, hi⟩ := h.slice Try.underlying25
  simp at e
  obtain ⟨ys, hy⟩ := rd_of_reads (enc := fun x : { x : Work // WkOK x } => Work.enc x.1) (k := 7) (w := w) (A := A) (n := n) (fun i hin => by
    obtain ⟨ad, cs', e, _, ha, hr⟩ := hi i hin
    obtain ⟨x, rfl, hx⟩ := hr.work
    rw [cells61] at ha
    exact ⟨ad, ⟨x, hx⟩, e, ha⟩)
  refine ⟨A, n, c, ys.map (·.1), e, h1, h2, ⟨by simp [hy.1], fun i x hx => ?_⟩, fun i x hx => ?_⟩
  · rw [List.getElem?_map, Option.map_eq_some_iff] at hx
    obtain ⟨z, hz, rfl⟩ := hx
    exact hy.2 i z hz
  · rw [List.getElem?_map, Option.map_eq_some_iff] at hx
    obtain ⟨z, hz, rfl⟩ := hx
    exact z.2

/-- The cells of an aggregate that is well formed for a struct type. -/
theorem agg_of {P : Program} {w : World} {t : TypeId} {fs : Array Field} {b : Nat} {v : Value} (ht : P.underlying t = some (.struct fs)) (h : Value.okWide P w .any b t v) : v = .agg v.cells := by
  obtain ⟨cs, rfl, _⟩ := okWide_struct ht h
  rfl
theorem agg_list {v : Value} {l : List Value} (h : v = .agg v.cells) (hl : v.cells.toList = l) : v = .agg l.toArray := by
  subst hl; exact h

/-! The row. -/
theorem Try.own : ownKnob Try.prog.godebug = none := by kernel_rfl
theorem Try.laidOut : laidOutB Try.prog = true := by kernel_rfl

section
variable {H : Type} {enc : TypeId × Value → H}
theorem trodAll_below {W W' : World} (hb : Below W.heap.size W W') : ∀ {ts : List TypeId} {vs : List Value} {ds : List (DataW H)} {ps : List MemPlace}, (∀ t ∈ ts, Try.prog.readableRec t = true ∧ t < Try.prog.types.size) →
    DataW.TrodAll enc Try.prog W 0 (fun _ => true) true ts vs ds ps → (∀ x ∈ ps, x.block < W.heap.size) → DataW.TrodAll enc Try.prog W' 0 (fun b => decide (b < W.heap.size)) true ts vs ds ps
  | [], vs, ds, ps, _, h, _ => by
    obtain ⟨rfl, rfl, rfl⟩ := trodAll_nil h
    exact trodAll_mk0
  | t :: ts, vs, ds, ps, hr, h, hlt => by
    obtain ⟨v, vs', d, ds', p, q, rfl, rfl, rfl, h1, h2⟩ := trodAll_cons h
    exact trodAll_cons_mk (Below.trod Try.laidOut (hr t (by simp)).1 (hr t (by simp)).2 h1 hb (fun x hx => hlt x (by simp [hx]))) (trodAll_below hb (fun u hu => hr u (by simp [hu])) h2 (fun x hx => hlt x (by simp [hx])))

/-- What a law owes behind its walk. -/
theorem law_post {f : Func} {s : ChangeSpec} {W W' : World} {args : Array Value} {ds gs : List (DataW H)} {before : List MemPlace} (hv : s.vars = []) (hrt : f.resultTypes = #[4])
    (hr : ∀ t ∈ f.params.toList, Try.prog.readableRec t = true ∧ t < Try.prog.types.size) (hW : DataW.Whole enc Try.prog f.params.toList s.vars false W args.toList ds gs before)
    (hfn : s.fn H (ds ++ gs) = { results := [.lit (.bool true)], args := ds }) (hb : Below W.heap.size W W') : s.post enc Try.prog f false true false false W args (.bool true) W' := by
  have hlt : ∀ x ∈ before, x.block < W.heap.size := fun x hx => hW.lt x hx
  have hW2 := hW
  obtain ⟨p, q, hA, hV, rfl, _, _⟩ := hW
  rw [hv] at hV
  obtain ⟨rfl, rfl⟩ := trodVars_none hV
  rw [List.append_nil] at hW2 hlt
  refine ⟨ds, [], p, [], p, [], hW2, ?_, ?_, ?_, hb.frame _, fun h => by cases h⟩
  · rw [hfn, hrt]; exact trodAll_mk1 (shut_bool Try.underlying4 true)
  · rw [hfn]; exact trodAll_below hb hr hA hlt
  · rw [hfn, hv]; rfl
end
end Go.Proofs.Ytkkajemahehoaaa

namespace Go.Proofs.Ytkkajemahehoaaa
open Go.ChangeShapes Go.WideShapes Go.RowKit Go.Deep

theorem cells33 : Try.prog.cellsOf 33 = 1 := by kernel_rfl

theorem Reads.task {w : World} {cs : List Value} (h : Reads w 29 cs) : ∃ (t : Task) (A : Option Addr) (n c : Nat) (A' : Option Addr) (n' c' : Nat), cs = (t.val A n c A' n' c').toList ∧ TkM w t A n c A' n' c' ∧ (I64 t.rd.first ∧ I64 t.rd.years) ∧ (∀ (i : Nat) (x : Work), t.works[i]? = some x → WkOK x) ∧ n ≤ c ∧ c ≤ maxLen ∧ c' ≤ maxLen ∧ I64 t.gap ∧ I64 t.width := by
  obtain ⟨a0, a1, a2, a3, a4, a5, a6, a7, a8, a9, rfl⟩ := len10 (h.len Try.underlying29 cells29)
  have h0 : Reads w 24 [a0, a1, a2] := h.field Try.underlying29 0 rfl cells24
  have h1 : Reads w 25 [a3] := h.field Try.underlying29 1 rfl cells25
  have h2 : Reads w 3 [a4] := h.field Try.underlying29 2 rfl cells3
  have h3 : Reads w 3 [a5] := h.field Try.underlying29 3 rfl cells3
  have h4 : Reads w 27 [a6, a7] := h.field Try.underlying29 4 rfl cells27
  have h5 : Reads w 27 [a8, a9] := h.field Try.underlying29 5 rfl cells27
  obtain ⟨r, A, n, c, e0, e1, e2, hr, b0, b1⟩ := h0.record
  obtain ⟨A', n', c', ws, rfl, k1, k2, hw, hk⟩ := h1.works
  obtain ⟨g, rfl, bg⟩ := h2.i64
  obtain ⟨wd, rfl, bw⟩ := h3.i64
  obtain ⟨d1, d2, ed, _, _⟩ := h4.risk
  obtain ⟨p1, p2, ep, _, _⟩ := h5.risk
  simp only [List.cons.injEq, and_true] at e0 ed ep
  obtain ⟨rfl, rfl, rfl⟩ := e0
  obtain ⟨rfl, rfl⟩ := ed
  obtain ⟨rfl, rfl⟩ := ep
  exact ⟨⟨r, ws, g, wd, (d1, d2), (p1, p2)⟩, A, n, c, A', n', c', rfl, ⟨hr, hw, k1, fun i v hv => by have := (hk i v hv).1; unfold maxLen at this; omega⟩, ⟨b0, b1⟩, hk, e1, e2, k2, bg, bw⟩

theorem Reads.ints {w : World} {v : Value} (h : Reads w 33 [v]) : ∃ (A : Option Addr) (n c : Nat) (xs : List Int), v = .slice A n c ∧ n ≤ c ∧ c ≤ maxLen ∧ RdI w A n xs ∧ ∀ x ∈ xs, I64 x := by
  obtain ⟨A, n, c, e, h1, h2, hi⟩ := h.slice Try.underlying33
  simp at e
  obtain ⟨ys, hy⟩ := rd_of_reads (enc := fun x : { x : Int // I64 x } => [Value.int .i64 x.1]) (k := 1) (w := w) (A := A) (n := n) (fun i hin => by
    obtain ⟨ad, cs', e, hl, ha, hr⟩ := hi i hin
    rw [cells3] at ha hl
    obtain ⟨a, rfl⟩ := len1 hl
    obtain ⟨x, rfl, hx⟩ := hr.i64
    exact ⟨ad, ⟨x, hx⟩, e, ha⟩)
  refine ⟨A, n, c, ys.map (·.1), e, h1, h2, ⟨by simp [hy.1], fun i x hx => ?_⟩, fun x hx => ?_⟩
  · rw [List.getElem?_map, Option.map_eq_some_iff] at hx
    obtain ⟨z, hz, rfl⟩ := hx
    exact hy.2 i z hz
  · rw [List.mem_map] at hx
    obtain ⟨z, _, rfl⟩ := hx
    exact z.2

/-- A value of one cell is that cell. -/
theorem one_int {P : Program} {w : World} {t : TypeId} {k : IntKind} {v : Value} {b : Nat} (ht : P.underlying t = some (.int k)) (h : Value.okWide P w .any b t v) : v.cells.toList = [v] := by
  obtain ⟨n, rfl⟩ := okWide_int ht h
  rfl
theorem one_slice {P : Program} {w : World} {t e : TypeId} {v : Value} {b : Nat} (ht : P.underlying t = some (.slice e)) (h : Value.okWide P w .any b t v) : v.cells.toList = [v] := by
  obtain ⟨a, l, c, rfl⟩ := okWide_slice ht h
  rfl
end Go.Proofs.Ytkkajemahehoaaa

namespace Go.Proofs.Ytkkajemahehoaaa
open Go.ChangeShapes Go.WideShapes Go.RowKit Go.Deep

theorem okWide_array {P : Program} {w : World} {r : Reach} {base : Nat} {t e : TypeId} {n : Nat} {v : Value} (ht : P.underlying t = some (.array n e)) (h : Value.okWide P w r base t v) : ∃ cs, v = .agg cs := by
  simp only [Value.okWide, ht] at h
  obtain ⟨cs, h1, _⟩ := h
  exact ⟨cs, h1⟩
theorem arr_of {P : Program} {w : World} {t e : TypeId} {n : Nat} {b : Nat} {v : Value} (ht : P.underlying t = some (.array n e)) (h : Value.okWide P w .any b t v) : v = .agg v.cells := by
  obtain ⟨cs, rfl⟩ := okWide_array ht h
  rfl
theorem cells51 : Try.prog.cellsOf 51 = 2 := by kernel_rfl
theorem cells49 : Try.prog.cellsOf 49 = 4 := by kernel_rfl
theorem cells56 : Try.prog.cellsOf 56 = 3 := by kernel_rfl
theorem cells55 : Try.prog.cellsOf 55 = 5 := by kernel_rfl
theorem cells48 : Try.prog.cellsOf 48 = 1 := by kernel_rfl
theorem cells5 : Try.prog.cellsOf 5 = 1 := by kernel_rfl

theorem Reads.two {w : World} {cs : List Value} (h : Reads w 51 cs) : ∃ a b : Int, cs = [.int .i64 a, .int .i64 b] ∧ I64 a ∧ I64 b := by
  obtain ⟨hl, hi⟩ := h.array Try.underlying51
  rw [cells51] at hl
  obtain ⟨a, b, rfl⟩ := len2 hl
  rw [cells3] at hi
  have h0 : Reads w 3 [a] := hi 0 (by omega)
  have h1 : Reads w 3 [b] := hi 1 (by omega)
  obtain ⟨x0, rfl, b0⟩ := h0.i64
  obtain ⟨x1, rfl, b1⟩ := h1.i64
  exact ⟨x0, x1, rfl, b0, b1⟩
/-- An integer of 16 bits without a sign. -/
def U16 (n : Int) : Prop := 0 ≤ n ∧ n ≤ 65535
theorem Reads.u16 {w : World} {v : Value} (h : Reads w 48 [v]) : ∃ n, v = .int .u16 n ∧ U16 n := by
  obtain ⟨n, hn, hw⟩ := h.int Try.underlying48
  simp at hn
  simp [Lit.wf, IntKind.min, IntKind.max, IntKind.signed, IntKind.bits] at hw
  exact ⟨n, hn, hw⟩
theorem Reads.u8 {w : World} {v : Value} (h : Reads w 5 [v]) : ∃ n, v = .int .u8 n ∧ 0 ≤ n ∧ n ≤ 255 := by
  obtain ⟨n, hn, hw⟩ := h.int Try.underlying5
  simp at hn
  simp [Lit.wf, IntKind.min, IntKind.max, IntKind.signed, IntKind.bits] at hw
  exact ⟨n, hn, hw⟩
theorem Reads.four16 {w : World} {cs : List Value} (h : Reads w 49 cs) : ∃ a b c d : Int, cs = [.int .u16 a, .int .u16 b, .int .u16 c, .int .u16 d] ∧ U16 a ∧ U16 b ∧ U16 c ∧ U16 d := by
  obtain ⟨hl, hi⟩ := h.array Try.underlying49
  rw [cells49] at hl
  obtain ⟨a, b, c, d, rfl⟩ := len4 hl
  rw [cells48] at hi
  have h0 : Reads w 48 [a] := hi 0 (by omega)
  have h1 : Reads w 48 [b] := hi 1 (by omega)
  have h2 : Reads w 48 [c] := hi 2 (by omega)
  have h3 : Reads w 48 [d] := hi 3 (by omega)
  obtain ⟨x0, rfl, b0⟩ := h0.u16
  obtain ⟨x1, rfl, b1⟩ := h1.u16
  obtain ⟨x2, rfl, b2⟩ := h2.u16
  obtain ⟨x3, rfl, b3⟩ := h3.u16
  exact ⟨x0, x1, x2, x3, rfl, b0, b1, b2, b3⟩
theorem Reads.three16 {w : World} {cs : List Value} (h : Reads w 56 cs) : ∃ a b c : Int, cs = [.int .u16 a, .int .u16 b, .int .u16 c] ∧ U16 a ∧ U16 b ∧ U16 c := by
  obtain ⟨hl, hi⟩ := h.array Try.underlying56
  rw [cells56] at hl
  obtain ⟨a, b, c, rfl⟩ := len3 hl
  rw [cells48] at hi
  have h0 : Reads w 48 [a] := hi 0 (by omega)
  have h1 : Reads w 48 [b] := hi 1 (by omega)
  have h2 : Reads w 48 [c] := hi 2 (by omega)
  obtain ⟨x0, rfl, b0⟩ := h0.u16
  obtain ⟨x1, rfl, b1⟩ := h1.u16
  obtain ⟨x2, rfl, b2⟩ := h2.u16
  exact ⟨x0, x1, x2, rfl, b0, b1, b2⟩
theorem len5 {α : Type} {l : List α} (h : l.length = 5) : ∃ a b c d e, l = [a, b, c, d, e] := by
  match l, h with
  | [a, b, c, d, e], _ => exact ⟨a, b, c, d, e, rfl⟩
theorem Reads.season {w : World} {cs : List Value} (h : Reads w 55 cs) : ∃ wd l a b d : Int, cs = [.int .i64 wd, .int .i64 l, .int .i64 a, .int .i64 b, .int .i64 d] ∧ I64 wd ∧ I64 l ∧ I64 a ∧ I64 b ∧ I64 d := by
  obtain ⟨a, b, c, d, e, rfl⟩ := len5 (h.len Try.underlying55 cells55)
  have h0 : Reads w 3 [a] := h.field Try.underlying55 0 rfl cells3
  have h1 : Reads w 3 [b] := h.field Try.underlying55 1 rfl cells3
  have h2 : Reads w 27 [c, d] := h.field Try.underlying55 2 rfl cells27
  have h3 : Reads w 3 [e] := h.field Try.underlying55 3 rfl cells3
  obtain ⟨x0, rfl, b0⟩ := h0.i64
  obtain ⟨x1, rfl, b1⟩ := h1.i64
  obtain ⟨x2, x3, e2, b2, b3⟩ := h2.risk
  obtain ⟨x4, rfl, b4⟩ := h3.i64
  simp only [List.cons.injEq, and_true] at e2
  obtain ⟨rfl, rfl⟩ := e2
  exact ⟨x0, x1, x2, x3, x4, rfl, b0, b1, b2, b3, b4⟩
end Go.Proofs.Ytkkajemahehoaaa

namespace Go.Proofs.Ytkkajemahehoaaa
open Go.ChangeShapes Go.WideShapes Go.RowKit

set_option maxRecDepth 100000 in
theorem upkeepKnown_lifted (os : Os) (started : os.Started) (H : Type) (enc : TypeId × Value → H) :
    ReturnsInHanded {} Try.checked os 17 .any (Rows.upkeepKnownSpec.pre6 enc Try.prog Try.f17 Rows.upkeepKnownRow.domain false) (Rows.upkeepKnownSpec.post enc Try.prog Try.f17 false true false false) := by
  refine returnsInHanded_of_change (C := Try.checked) Try.own started (by kernel_rfl) Try.func17
    (ChangeSpec.witness6 (enc := enc) (C := Try.checked) false ⟨#[], #[], []⟩ 8 (by kernel_rfl) (by kernel_rfl) (by kernel_rfl) (by kernel_rfl)) ?_
  intro W base args ds gs before hval0 hW _ _
  have hval : ∀ (j : Nat) t v, Try.f17.params[j]? = some t → args[j]? = some v → Value.okWide Try.prog W .any base t v := hval0
  have hW' := hW
  obtain ⟨p, q, hA0, hV, rfl, hfz, hnd⟩ := hW
  have hA : DataW.TrodAll enc Try.prog W 0 (fun _ => true) true Try.f17.params.toList args.toList ds p := hA0
  rw [Try.params17] at hA hval
  obtain ⟨rfl, rfl, rfl⟩ := trodAll_none hA
  obtain ⟨rfl, rfl⟩ := trodVars_none hV
  refine (UpkeepKnown_any W).mono fun e W' ⟨he, hb⟩ => ?_
  subst he
  exact ⟨_, rfl, law_post rfl (by kernel_rfl) (by rw [Try.params17]; exact fun t ht => by simp at ht) hW' rfl hb⟩

theorem upkeepKnown_holds : Rows.UpkeepKnownSaid :=
  OpenClaim.holds_of_wide 17 Try.f17 rfl rfl rfl rfl rfl rfl rfl ⟨rfl, rfl, rfl, rfl, rfl⟩ rfl rfl rfl rfl rfl (by kernel_rfl) Try.func17 (by kernel_rfl)
    (of_decide_eq_true (by kernel_rfl)) (by unfold Func.isWrapper; first | (rw [if_pos (by decide +kernel)]; kernel_rfl) | (rw [if_neg (by decide +kernel)]; exact ⟨rfl, rfl⟩))
    (fun os started H enc _ => upkeepKnown_lifted os started H enc)

#print axioms upkeepKnown_holds

end Go.Proofs.Ytkkajemahehoaaa
