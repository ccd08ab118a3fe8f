/- A task without one of its works, in plain. -/
import Derived.Test.YtkkajemahehoaaaPlain5
namespace Go.Proofs.Ytkkajemahehoaaa
open Go.RowKit

def Task.less (t : Task) (k : Nat) : Task := { t with works := t.works.eraseIdx k }

theorem firstErr_iff {g : Nat → Int} : ∀ (m i : Nat), (firstErr g i m).2 = 0 ↔ ∀ j, i ≤ j → j < i + m → g j = 0
  | 0, i => by simp [firstErr]; omega
  | m + 1, i => by
    rw [firstErr]
    by_cases h : g i = 0
    · rw [if_pos h, firstErr_iff m (i + 1)]
      constructor
      · intro h1 j h2 h3
        rcases Nat.eq_or_lt_of_le h2 with rfl | h4
        · exact h
        · exact h1 j h4 (by omega)
      · intro h1 j h2 h3
        exact h1 j (by omega) (by omega)
    · rw [if_neg h]
      constructor
      · intro h1; exact absurd h1 h
      · intro h1; exact absurd (h1 i (Nat.le_refl _) (by omega)) h
theorem idxF_none {p : Nat → Bool} : ∀ (m i : Nat), idxF p i m < 0 ↔ ∀ j, i ≤ j → j < i + m → p j = false
  | 0, i => by simp [idxF]; omega
  | m + 1, i => by
    rw [idxF]
    by_cases h : p i = true
    · rw [if_pos h]
      constructor
      · intro h1; omega
      · intro h1; rw [h1 i (Nat.le_refl _) (by omega)] at h; cases h
    · rw [if_neg h, idxF_none m (i + 1)]
      constructor
      · intro h1 j h2 h3
        rcases Nat.eq_or_lt_of_le h2 with rfl | h4
        · simpa using h
        · exact h1 j h4 (by omega)
      · intro h1 j h2 h3
        exact h1 j (by omega) (by omega)
theorem anyB_none {ws : List Work} {nm : ByteArray} {n : Nat} : anyB ws nm n = false ↔ ∀ j, j < n → sameB ws nm j = false := by
  unfold anyB
  rw [decide_eq_false_iff_not, Int.not_le, idxF_none]
  constructor
  · intro h j hj; exact h j (Nat.zero_le _) (by omega)
  · intro h j _ hj; exact h j (by omega)
/-- The place of an element before one was taken out. -/
def upI (k i : Nat) : Nat := if i < k then i else i + 1
theorem less_get {α : Type} (l : List α) (k i : Nat) : (l.eraseIdx k)[i]? = l[upI k i]? := by
  rw [List.getElem?_eraseIdx]
  unfold upI
  split <;> rfl
theorem upI_lt {k i j : Nat} (h : i < j) : upI k i < upI k j := by unfold upI; split <;> split <;> omega
theorem less_err {ws : List Work} (k : Nat) (h : ∀ i, i < ws.length → wErr ws i = 0) : ∀ i, i < (ws.eraseIdx k).length → wErr (ws.eraseIdx k) i = 0 := by
  intro i hi
  unfold wErr
  rw [less_get]
  cases hv : ws[upI k i]? with
  | none => rfl
  | some v =>
    have h1 := h (upI k i) (List.getElem?_eq_some_iff.1 hv).1
    unfold wErr at h1
    rw [hv] at h1
    obtain ⟨a, b, c, d⟩ := vErr_zero h1
    have e : anyB (ws.eraseIdx k) v.name i = false := by
      rw [anyB_none]
      intro j hj
      have := (anyB_none.1 b) (upI k j) (upI_lt hj)
      unfold sameB at this ⊢
      rw [less_get]
      exact this
    dsimp only
    unfold vErr
    rw [if_neg (by rw [a]; simp), if_neg (by rw [e]; simp), if_neg (by rw [c]; simp), if_neg (by omega)]
theorem less_len {α : Type} (l : List α) (k : Nat) : (l.eraseIdx k).length ≤ l.length := by
  rw [List.length_eraseIdx]; split <;> omega
theorem chk_less {t : Task} (k : Nat) (h : (chkTask t).2.2 = 0) : (chkTask (t.less k)).2.2 = 0 := by
  unfold chkTask at h ⊢
  have e : (t.less k).rd = t.rd := rfl
  rw [e]
  by_cases h1 : ((chkRec t.rd).2 != 0) = true
  · rw [if_pos h1] at h; simp at h1; exact absurd h h1
  · rw [if_neg h1] at h ⊢
    by_cases h2 : 4 < t.works.length
    · rw [if_pos h2] at h; cases h
    · rw [if_neg h2] at h
      rw [if_neg (by have := less_len t.works k; show ¬ 4 < (t.works.eraseIdx k).length; omega)]
      by_cases h3 : (firstErr (wErr t.works) 0 (t.works.length - 0)).2 = 0
      · rw [if_pos h3] at h
        rw [firstErr_iff] at h3
        have h4 : (firstErr (wErr (t.less k).works) 0 ((t.less k).works.length - 0)).2 = 0 := by
          rw [firstErr_iff]
          intro j _ hj
          exact less_err k (fun i hi => h3 i (Nat.zero_le _) (by omega)) j (by have : (t.less k).works = t.works.eraseIdx k := rfl; rw [this] at hj; omega)
        rw [if_pos h4]
        exact h
      · rw [if_neg h3] at h; exact absurd h h3
theorem zip_less {α β : Type} : ∀ (a : List α) (b : List β) (k : Nat), a.length = b.length → (a.eraseIdx k).zip (b.eraseIdx k) = (a.zip b).eraseIdx k
  | [], [], k, _ => by simp
  | x :: a, y :: b, 0, _ => by simp
  | x :: a, y :: b, k + 1, h => by
    simp only [List.eraseIdx_cons_succ, List.zip_cons_cons]
    rw [zip_less a b k (by simpa using h)]
theorem harm_less {t : Task} {p : List Int} (k : Nat) (hl : p.length = t.works.length) (he : (harmR (t.less k) (p.eraseIdx k)).2 = (harmR t p).2) : (harmR (t.less k) (p.eraseIdx k)).1 ≤ (harmR t p).1 := by
  have e : (p.eraseIdx k).zip (t.less k).works = (p.zip t.works).eraseIdx k := zip_less _ _ k hl
  unfold harmR harmL at *
  dsimp only at *
  rw [e] at he ⊢
  have e2 : (t.less k).rd = t.rd := rfl
  rw [e2] at he ⊢
  rw [he]
  have := yearsL_mono (f := t.rd.first) (cnt := ofF t.rd.years (harmW (p.zip t.works))) (P := harmP t.rd.highs ((p.zip t.works).eraseIdx k)) (Q := harmP t.rd.highs (p.zip t.works)) (fun y hy => by
    unfold harmP at hy ⊢
    rw [List.any_eq_true] at hy ⊢
    obtain ⟨q, hq, h1⟩ := hy
    exact ⟨q, List.mem_of_mem_eraseIdx hq, h1⟩)
  omega
theorem leR_same {a b : Int × Int} (h2 : a.2 = b.2) (h0 : 0 ≤ b.2) (h : a.1 ≤ b.1) : leR a b := by
  unfold leR gtB
  rw [h2]
  simp only [decide_eq_false_iff_not, Int.not_lt]
  exact Int.mul_le_mul_of_nonneg_right h h0
theorem meet_less {t : Task} {p : List Int} (k i j : Nat) : meetP (t.less k) (p.eraseIdx k) i j = meetP t p (upI k i) (upI k j) := by
  unfold meetP
  have e : (t.less k).works = t.works.eraseIdx k := rfl
  rw [e, less_get, less_get, less_get, less_get]
  rfl
theorem good_less {t : Task} {p : List Int} (k : Nat) (hok : TaskOK t) (hok' : TaskOK (t.less k)) (hl : p.length = t.works.length) (hg : Good t p) (he : (harmR (t.less k) (p.eraseIdx k)).2 = (harmR t p).2) : Good (t.less k) (p.eraseIdx k) := by
  have hb := harmR_bounds hok p
  have hb' := harmR_bounds hok' (p.eraseIdx k)
  refine ⟨fun i s x hs hx => ?_, fun i j h1 h2 => ?_, fun i s x hs hx => ?_, ?_⟩
  · rw [less_get] at hs
    exact hg.start (upI k i) s x hs (by rw [← less_get]; exact hx)
  · rw [meet_less]
    by_cases hj : upI k j < p.length
    · exact hg.meet (upI k i) (upI k j) (upI_lt h1) hj
    · unfold meetP
      rw [List.getElem?_eq_none (l := p) (i := upI k j) (by omega)]
      split <;> simp_all
  · rw [less_get] at hs
    exact hg.inside (upI k i) s x hs (by rw [← less_get]; exact hx)
  · exact leR_trans (c := t.plan) hb'.2.2.1 hb.2.2.1 hok.plan.1.1 (leR_same he (by have := hb.2.2.1; omega) (harm_less k hl he)) hg.risk
/-- The best plan without one of its works. -/
theorem best_less {t : Task} {q : List Int × (Int × Int)} (k : Nat) (hchk : (chkTask t).2.2 = 0) (hb : bestF t = some q) :
    q.1.length = t.works.length ∧ shErr (t.less k) (q.1.eraseIdx k) = 0 ∧ ((harmR (t.less k) (q.1.eraseIdx k)).2 = q.2.2 → judgeL (t.less k) (q.1.eraseIdx k) = [] ∧ ∃ z, bestF (t.less k) = some z ∧ gtB z.2 q.2 = false) := by
  have hok := taskOK_of hchk
  have hchk' := chk_less k hchk
  have hok' := taskOK_of hchk'
  obtain ⟨h1, h2, h3, h4⟩ := (best_found hok).some q hb
  obtain ⟨hl, hd⟩ := plan_days hok h1
  have hl' : (q.1.eraseIdx k).length = (t.less k).works.length := by
    show (q.1.eraseIdx k).length = (t.works.eraseIdx k).length
    rw [List.length_eraseIdx, List.length_eraseIdx, hl]
  refine ⟨hl, ?_, fun he => ?_⟩
  · unfold shErr
    rw [if_neg (by simp [hchk']), if_neg (by simp [hl']), if_neg ?_]
    have : anyLate (q.1.eraseIdx k) = false := anyLate_false.2 fun s hs => hd s (List.mem_of_mem_eraseIdx hs)
    simp [this]
  · rw [h3] at he
    have hg := good_less k hok hok' hl (good_iff.1 h2) he
    have hj := good_iff.2 hg
    refine ⟨hj, ?_⟩
    have hm := good_mem hok' hl' hg
    have hF := best_found hok'
    cases hz : bestF (t.less k) with
    | none => exact absurd hj (hF.none hz _ hm)
    | some z =>
      obtain ⟨z1, z2, z3, z4⟩ := hF.some z hz
      refine ⟨z, rfl, ?_⟩
      have hb := harmR_bounds hok q.1
      have hb' := harmR_bounds hok' (q.1.eraseIdx k)
      have hbz := harmR_bounds hok' z.1
      rw [h3]
      exact leR_trans (c := harmR t q.1) (by rw [z3]; exact hbz.2.2.1) hb'.2.2.1 hb.2.2.1 (z4 _ hm hj) (leR_same he (by have := hb.2.2.1; omega) (harm_less k hl he))
end Go.Proofs.Ytkkajemahehoaaa
