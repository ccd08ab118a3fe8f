/- The search for the best plan, in plain: all plans, in order. -/
import Derived.Test.YtkkajemahehoaaaJ3
namespace Go.Proofs.Ytkkajemahehoaaa
open Go.RowKit

/-- All plans that begin with some starts, in order, of works that are not in their seasons. -/
def plansL (t : Task) : Nat → List Int → List (List Int)
  | 0, ss => [ss]
  | k + 1, ss => match t.works[ss.length]? with
    | none => []
    | some x => (startsF t x).flatMap fun s => plansL t k (ss ++ [s])
def stepG (t : Task) (acc : Acc) (p : List Int) : Acc :=
  if judgeL t p = [] then (match acc with
    | none => some (p, harmR t p)
    | some q => if gtB q.2 (harmR t p) then some (p, harmR t p) else acc) else acc

theorem plansL_ext (t : Task) : ∀ (k : Nat) (ss p : List Int), p ∈ plansL t k ss → ∃ r, p = ss ++ r
  | 0, ss, p, h => by simp [plansL] at h; exact ⟨[], by simp [h]⟩
  | k + 1, ss, p, h => by
    rw [plansL] at h
    split at h
    · simp at h
    · rw [List.mem_flatMap] at h
      obtain ⟨s, _, hp⟩ := h
      obtain ⟨r, rfl⟩ := plansL_ext t k _ p hp
      exact ⟨s :: r, by simp⟩
theorem meetP_ext (t : Task) (ss r : List Int) (k i : Nat) (hk : k < ss.length) (hi : i < ss.length) : meetP t (ss ++ r) k i = meetP t ss k i := by
  unfold meetP
  rw [List.getElem?_append_left hk, List.getElem?_append_left hi]
theorem foldl_same {α β : Type} {f : β → α → β} {l : List α} {b : β} (h : ∀ x ∈ l, f b x = b) : l.foldl f b = b := by
  induction l with
  | nil => rfl
  | cons a l ih =>
    rw [List.foldl_cons, h a (by simp)]
    exact ih (fun x hx => h x (by simp [hx]))
theorem foldl_flat {α β γ : Type} (f : γ → β → γ) (g : α → List β) : ∀ (l : List α) (c : γ), (l.flatMap g).foldl f c = l.foldl (fun c a => (g a).foldl f c) c
  | [], c => rfl
  | a :: l, c => by rw [List.flatMap_cons, List.foldl_append, List.foldl_cons, foldl_flat f g l]

/-- The beginning of a plan that has no reason yet. -/
structure Begun (t : Task) (ss : List Int) : Prop where
  start : ∀ (i : Nat) (s : Int) (x : Work), ss[i]? = some s → t.works[i]? = some x → wrongB s x = false ∧ badF t x s < 0
  meet : ∀ (i k : Nat), i < k → k < ss.length → meetP t ss k i = false

theorem anyMeet_iff {t : Task} {ss : List Int} {k : Nat} : anyMeet t ss k = true ↔ ∃ i, i < k ∧ meetP t ss k i = true := by
  unfold anyMeet
  rw [decide_eq_true_iff, idxF_neg]
  constructor
  · rintro ⟨j, _, h2, h3⟩; exact ⟨j, by omega, h3⟩
  · rintro ⟨j, h2, h3⟩; exact ⟨j, by omega, by omega, h3⟩

theorem dfs_plans (t : Task) (hok : TaskOK t) : ∀ (k : Nat) (ss : List Int) (acc : Acc), ss.length + k = t.works.length → Begun t ss → dfs t k acc ss = (plansL t k ss).foldl (stepG t) acc
  | 0, ss, acc, hl, hb => by
    rw [plansL, List.foldl_cons, List.foldl_nil, dfs]
    unfold accStep stepG
    have hj : judgeL t ss = [] ↔ gtB (harmR t ss) t.plan = false := by
      rw [good_iff]
      exact ⟨fun h => h.risk, fun h => ⟨fun i s x hs hx => (hb.start i s x hs hx).1, hb.meet, fun i s x hs hx => (hb.start i s x hs hx).2, h⟩⟩
    cases hg : gtB (harmR t ss) t.plan
    · rw [if_neg (by simp), if_pos (hj.2 hg)]
      cases acc <;> rfl
    · rw [if_pos rfl, if_neg (fun h => by have := hj.1 h; rw [hg] at this; cases this)]
  | k + 1, ss, acc, hl, hb => by
    rw [plansL, dfs]
    have hlt : ss.length < t.works.length := by omega
    rw [List.getElem?_eq_getElem hlt]
    dsimp only
    rw [foldl_flat]
    have key : ∀ s ∈ startsF t t.works[ss.length], ∀ a : Acc, (if anyMeet t (ss ++ [s]) ss.length = true then a else dfs t k a (ss ++ [s])) = (plansL t k (ss ++ [s])).foldl (stepG t) a := fun s hs a => by
      cases hm : anyMeet t (ss ++ [s]) ss.length
      · rw [if_neg (by simp)]
        refine dfs_plans t hok k (ss ++ [s]) a (by simp; omega) ⟨fun i s' x hs' hx => ?_, fun i j hij hj => ?_⟩
        · by_cases hi : i < ss.length
          · rw [List.getElem?_append_left hi] at hs'
            exact hb.start i s' x hs' hx
          · have hil := (List.getElem?_eq_some_iff.1 hs').1
            simp at hil
            obtain rfl : i = ss.length := by omega
            rw [List.getElem?_append_right (Nat.le_refl _), Nat.sub_self] at hs'
            simp at hs'
            subst hs'
            rw [List.getElem?_eq_getElem hlt] at hx
            injection hx with hx
            subst hx
            exact (mem_startsF (workOK_of (hok.rows _ _ (List.getElem?_eq_getElem hlt)).2.2.1) s).1 hs
        · simp at hj
          by_cases hjl : j < ss.length
          · rw [meetP_ext t ss [s] j i hjl (by omega)]
            exact hb.meet i j hij hjl
          · obtain rfl : j = ss.length := by omega
            cases hmm : meetP t (ss ++ [s]) ss.length i
            · rfl
            · have := anyMeet_iff.2 ⟨i, hij, hmm⟩
              rw [hm] at this
              cases this
      · rw [if_pos rfl]
        refine (foldl_same fun p hp => ?_).symm
        obtain ⟨r, rfl⟩ := plansL_ext t k _ p hp
        unfold stepG
        rw [if_neg]
        intro hj
        obtain ⟨i, hi, hmi⟩ := anyMeet_iff.1 hm
        have h1 := (good_iff.1 hj).meet i ss.length hi (by simp)
        rw [meetP_ext t (ss ++ [s]) r ss.length i (by simp) (by simp; omega), hmi] at h1
        cases h1
    generalize startsF t t.works[ss.length] = SL at key
    clear hl hb
    induction SL generalizing acc with
    | nil => rfl
    | cons s SL ih =>
      rw [List.foldl_cons, List.foldl_cons, key s (by simp) acc]
      exact ih _ (fun s' hs' => key s' (by simp [hs']))

theorem best_plans {t : Task} (hok : TaskOK t) : bestF t = (plansL t t.works.length []).foldl (stepG t) none := by
  unfold bestF
  exact dfs_plans t hok _ [] none (by simp) ⟨fun i s x h => by simp at h, fun i k h1 h2 => by simp at h2⟩

theorem mem_plansL {t : Task} (hok : TaskOK t) : ∀ (k : Nat) (ss p : List Int), ss.length + k = t.works.length → (p ∈ plansL t k ss ↔ (∃ r, p = ss ++ r) ∧ p.length = t.works.length ∧ ∀ (i : Nat) (s : Int) (x : Work), ss.length ≤ i → p[i]? = some s → t.works[i]? = some x → s ∈ startsF t x)
  | 0, ss, p, hl => by
    simp only [plansL, List.mem_singleton]
    constructor
    · rintro rfl
      exact ⟨⟨[], by simp⟩, by omega, fun i s x h1 h2 => by have := (List.getElem?_eq_some_iff.1 h2).1; omega⟩
    · rintro ⟨⟨r, rfl⟩, h2, _⟩
      have : r = [] := List.eq_nil_of_length_eq_zero (by simp at h2; omega)
      simp [this]
  | k + 1, ss, p, hl => by
    rw [plansL]
    have hlt : ss.length < t.works.length := by omega
    rw [List.getElem?_eq_getElem hlt]
    dsimp only
    rw [List.mem_flatMap]
    constructor
    · rintro ⟨s, hs, hp⟩
      obtain ⟨⟨r, rfl⟩, h2, h3⟩ := (mem_plansL hok k (ss ++ [s]) p (by simp; omega)).1 hp
      refine ⟨⟨s :: r, by simp⟩, h2, fun i s' x h4 h5 h6 => ?_⟩
      by_cases hi : i = ss.length
      · subst hi
        rw [List.getElem?_append_left (by simp), List.getElem?_append_right (Nat.le_refl _), Nat.sub_self] at h5
        simp at h5
        subst h5
        rw [List.getElem?_eq_getElem hlt] at h6
        injection h6 with h6
        subst h6
        exact hs
      · exact h3 i s' x (by simp; omega) h5 h6
    · rintro ⟨⟨r, rfl⟩, h2, h3⟩
      match r, h2, h3 with
      | [], h2, _ => simp at h2; omega
      | s :: r, h2, h3 =>
        refine ⟨s, h3 ss.length s _ (Nat.le_refl _) ?_ (List.getElem?_eq_getElem hlt), (mem_plansL hok k (ss ++ [s]) _ (by simp; omega)).2 ⟨⟨r, by simp⟩, h2, fun i s' x h4 h5 h6 => h3 i s' x (by simp at h4; omega) h5 h6⟩⟩
        rw [List.getElem?_append_right (Nat.le_refl _), Nat.sub_self]
        rfl
/-- A good plan is among them. -/
theorem good_mem {t : Task} (hok : TaskOK t) {p : List Int} (hl : p.length = t.works.length) (hg : Good t p) : p ∈ plansL t t.works.length [] :=
  (mem_plansL hok _ [] p (by simp)).2 ⟨⟨p, by simp⟩, hl, fun i s x _ hs hx => (mem_startsF (workOK_of (hok.rows i x hx).2.2.1) s).2 ⟨hg.start i s x hs hx, hg.inside i s x hs hx⟩⟩
theorem plan_days {t : Task} (hok : TaskOK t) {p : List Int} (hp : p ∈ plansL t t.works.length []) : p.length = t.works.length ∧ ∀ s ∈ p, 0 ≤ s ∧ s ≤ 364 := by
  obtain ⟨_, h2, h3⟩ := (mem_plansL hok _ [] p (by simp)).1 hp
  refine ⟨h2, fun s hs => ?_⟩
  obtain ⟨i, hi, rfl⟩ := List.getElem_of_mem hs
  have hx := List.getElem?_eq_getElem (show i < t.works.length by omega)
  have hw := workOK_of (hok.rows i _ hx).2.2.1
  have hm := (mem_startsF hw _).1 (h3 i _ _ (Nat.zero_le _) (List.getElem?_eq_getElem hi) hx)
  have := (mem_triesF hw _).2 hm.1
  have := triesG_mem (by have := hw.s0; omega) 400 _ _ this
  have := hw.f0; have := hw.u1
  omega

/-- Of two risks, neither of which is 0 of 0, the one is not greater. -/
def leR (a b : Int × Int) : Prop := gtB a b = false
theorem leR_refl (a : Int × Int) : leR a a := by unfold leR gtB; simp
theorem leR_trans {a b c : Int × Int} (ha : 1 ≤ a.2) (hb : 1 ≤ b.2) (hc : 1 ≤ c.2) (h1 : leR a b) (h2 : leR b c) : leR a c := by
  unfold leR gtB at *
  simp only [decide_eq_false_iff_not, Int.not_lt] at *
  have e1 := Int.mul_le_mul_of_nonneg_right h1 (by omega : 0 ≤ c.2)
  have e2 := Int.mul_le_mul_of_nonneg_right h2 (by omega : 0 ≤ a.2)
  have e3 : a.1 * c.2 * b.2 ≤ c.1 * a.2 * b.2 := by
    have x1 : a.1 * b.2 * c.2 = a.1 * c.2 * b.2 := by rw [Int.mul_assoc, Int.mul_comm b.2, ← Int.mul_assoc]
    have x2 : b.1 * a.2 * c.2 = b.1 * c.2 * a.2 := by rw [Int.mul_assoc, Int.mul_comm a.2, ← Int.mul_assoc]
    have x3 : c.1 * b.2 * a.2 = c.1 * a.2 * b.2 := by rw [Int.mul_assoc, Int.mul_comm b.2, ← Int.mul_assoc]
    omega
  exact Int.le_of_mul_le_mul_right e3 (by omega)

/-- What a search has found so far. -/
structure Found (t : Task) (ps : List (List Int)) (acc : Acc) : Prop where
  none : acc = none → ∀ p ∈ ps, judgeL t p ≠ []
  some : ∀ q, acc = some q → q.1 ∈ ps ∧ judgeL t q.1 = [] ∧ q.2 = harmR t q.1 ∧ ∀ p ∈ ps, judgeL t p = [] → leR q.2 (harmR t p)
theorem found_fold {t : Task} (hok : TaskOK t) : ∀ (l ps : List (List Int)) (acc : Acc), Found t ps acc → Found t (ps ++ l) (l.foldl (stepG t) acc)
  | [], ps, acc, h => by simpa using h
  | p :: l, ps, acc, h => by
    have hb : ∀ q, 1 ≤ (harmR t q).2 := fun q => (harmR_bounds hok q).2.2.1
    rw [List.foldl_cons, show ps ++ p :: l = (ps ++ [p]) ++ l by simp]
    refine found_fold hok l (ps ++ [p]) _ ?_
    unfold stepG
    by_cases hj : judgeL t p = []
    · rw [if_pos hj]
      cases acc with
      | none =>
        refine ⟨(fun h => by cases h), fun q hq => ?_⟩
        injection hq with hq
        subst hq
        refine ⟨by simp, hj, rfl, fun p' hp' hj' => ?_⟩
        rcases List.mem_append.1 hp' with h1 | h1
        · exact absurd hj' (h.none rfl p' h1)
        · simp at h1; subst h1; exact leR_refl _
      | some q0 =>
        obtain ⟨h1, h2, h3, h4⟩ := h.some q0 rfl
        dsimp only
        cases hg : gtB q0.2 (harmR t p)
        · rw [if_neg (by simp)]
          refine ⟨(fun h => by cases h), fun q hq => ?_⟩
          injection hq with hq
          subst hq
          refine ⟨by simp [h1], h2, h3, fun p' hp' hj' => ?_⟩
          rcases List.mem_append.1 hp' with h5 | h5
          · exact h4 p' h5 hj'
          · simp at h5; subst h5; exact hg
        · rw [if_pos rfl]
          refine ⟨(fun h => by cases h), fun q hq => ?_⟩
          injection hq with hq
          subst hq
          refine ⟨by simp, hj, rfl, fun p' hp' hj' => ?_⟩
          rcases List.mem_append.1 hp' with h5 | h5
          · have h6 : leR (harmR t p) q0.2 := by
              unfold gtB at hg
              unfold leR gtB
              simp at hg ⊢
              omega
            exact leR_trans (hb p) (by rw [h3]; exact hb _) (hb p') h6 (h4 p' h5 hj')
          · simp at h5; subst h5; exact leR_refl _
    · rw [if_neg hj]
      refine ⟨fun hn p' hp' => ?_, fun q hq => ?_⟩
      · rcases List.mem_append.1 hp' with h5 | h5
        · exact h.none hn p' h5
        · simp at h5; subst h5; exact hj
      · obtain ⟨h1, h2, h3, h4⟩ := h.some q hq
        refine ⟨by simp [h1], h2, h3, fun p' hp' hj' => ?_⟩
        rcases List.mem_append.1 hp' with h5 | h5
        · exact h4 p' h5 hj'
        · simp at h5; subst h5; exact absurd hj' hj
theorem best_found {t : Task} (hok : TaskOK t) : Found t (plansL t t.works.length []) (bestF t) := by
  rw [best_plans hok]
  have := found_fold hok (plansL t t.works.length []) [] none ⟨(fun _ p h => by simp at h), (fun q h => by cases h)⟩
  simpa using this
end Go.Proofs.Ytkkajemahehoaaa
