/- Plain: the highs of a window that is exceeded in no year are not above the level. -/
import Derived.Test.YtjdaigffgfnhaaaGreatPlain3
namespace Go.Proofs.YtjdaigffgfnhaaaGreat

theorem yearsL_mono {f cnt : Int} {P Q : Int → Bool} (h : ∀ y, P y = true → Q y = true) : (yearsL f cnt P).length ≤ (yearsL f cnt Q).length := by
  unfold yearsL
  generalize (List.range cnt.toNat).map (fun i : Nat => f + (i : Int)) = l
  induction l with
  | nil => simp
  | cons a l ih =>
    simp only [List.filter_cons]
    by_cases hp : P a = true
    · rw [if_pos hp, if_pos (h a hp)]; simp; exact ih
    · rw [if_neg hp]
      split
      · simp; omega
      · exact ih

theorem winB_iff {d n : Int} {h : High} {y : Int} : winB d n h y = true ↔ d ≤ h.day + (h.year - y) * 365 ∧ h.day + (h.year - y) * 365 < d + n := by
  unfold winB
  rw [Bool.not_eq_true', outB_eq_false]
  omega

theorem excB_level {hs : List High} {d n lvl lvl' y : Int} (hl : lvl ≤ lvl') (h : excB hs d n lvl' y = true) : excB hs d n lvl y = true := by
  unfold excB at *
  rw [List.any_eq_true] at *
  obtain ⟨z, hz, hp⟩ := h
  refine ⟨z, hz, ?_⟩
  simp only [Bool.and_eq_true, decide_eq_true_eq] at *
  exact ⟨by omega, hp.2⟩
theorem excB_window {hs : List High} {d n d' n' lvl y : Int} (h1 : d ≤ d') (h2 : d' + n' ≤ d + n) (h : excB hs d' n' lvl y = true) : excB hs d n lvl y = true := by
  unfold excB at *
  rw [List.any_eq_true] at *
  obtain ⟨z, hz, hp⟩ := h
  refine ⟨z, hz, ?_⟩
  simp only [Bool.and_eq_true, winB_iff] at *
  exact ⟨hp.1, by omega, by omega⟩
theorem excB_sub {hs hs' : List High} {d n lvl y : Int} (hm : ∀ z ∈ hs', z ∈ hs) (h : excB hs' d n lvl y = true) : excB hs d n lvl y = true := by
  unfold excB at *
  rw [List.any_eq_true] at *
  obtain ⟨z, hz, hp⟩ := h
  exact ⟨z, hm z hz, hp⟩

theorem riskF_level {r : Rec} {d n lvl lvl' : Int} (hl : lvl ≤ lvl') : (riskF r d n lvl').1 ≤ (riskF r d n lvl).1 ∧ (riskF r d n lvl').2 = (riskF r d n lvl).2 := by
  unfold riskF
  refine ⟨?_, rfl⟩
  have := yearsL_mono (f := r.first) (cnt := ofF r.years (wrapsB d n)) (P := excB r.highs d n lvl') (Q := excB r.highs d n lvl) (fun y => excB_level hl)
  dsimp only
  omega
theorem riskF_window {r : Rec} {d n d' n' lvl : Int} (h1 : d ≤ d') (h2 : d' + n' ≤ d + n) (he : (riskF r d' n' lvl).2 = (riskF r d n lvl).2) : (riskF r d' n' lvl).1 ≤ (riskF r d n lvl).1 := by
  unfold riskF at *
  dsimp only at *
  rw [he]
  have := yearsL_mono (f := r.first) (cnt := ofF r.years (wrapsB d n)) (P := excB r.highs d' n' lvl) (Q := excB r.highs d n lvl) (fun y => excB_window h1 h2)
  omega

/-- A record without its high of index k. -/
def Rec.less (r : Rec) (k : Nat) : Rec := { r with highs := r.highs.eraseIdx k }
theorem riskF_less {r : Rec} {d n lvl : Int} (k : Nat) : (riskF (r.less k) d n lvl).1 ≤ (riskF r d n lvl).1 ∧ (riskF (r.less k) d n lvl).2 = (riskF r d n lvl).2 := by
  unfold riskF Rec.less
  refine ⟨?_, rfl⟩
  have := yearsL_mono (f := r.first) (cnt := ofF r.years (wrapsB d n)) (P := excB (r.highs.eraseIdx k) d n lvl) (Q := excB r.highs d n lvl) (fun y => excB_sub (fun z hz => List.mem_of_mem_eraseIdx hz))
  dsimp only
  omega

theorem firstErr_none {g : Nat → Int} : ∀ (m i : Nat), (∀ j, i ≤ j → j < i + m → g j = 0) → firstErr g i m = (0, 0)
  | 0, _, _ => rfl
  | m + 1, i, h => by
    rw [firstErr, if_pos (h i (by omega) (by omega))]
    exact firstErr_none m (i + 1) (fun j h1 h2 => h j (by omega) (by omega))

/-- The rows of a record are in their ranges, and ascend. -/
structure RowsAsc (f y : Int) (hs : List High) : Prop where
  row : ∀ h ∈ hs, outB h.year f (f + y - 1) = false ∧ lateB h.day = false ∧ highB h.level = false
  asc : hs.Pairwise fun a b => numF f a < numF f b

theorem asc_of_next {α : Type} {R : α → α → Prop} (ht : ∀ a b c, R a b → R b c → R a c) : ∀ (l : List α), (∀ (i : Nat) (a b : α), l[i]? = some a → l[i + 1]? = some b → R a b) → l.Pairwise R
  | [], _ => List.Pairwise.nil
  | [a], _ => by simp
  | a :: b :: l, h => by
    have ih := asc_of_next ht (b :: l) (fun i x y hx hy => h (i + 1) x y (by simpa using hx) (by simpa using hy))
    refine List.pairwise_cons.2 ⟨fun z hz => ?_, ih⟩
    have hab := h 0 a b rfl rfl
    rcases List.mem_cons.1 hz with rfl | hz
    · exact hab
    · exact ht a b z hab ((List.pairwise_cons.1 ih).1 z hz)

theorem rowsAsc_of {f y : Int} {hs : List High} (h : ∀ j, j < hs.length → hErr f y hs j = 0) : RowsAsc f y hs := by
  refine ⟨fun z hz => ?_, asc_of_next (fun a b c h1 h2 => by omega) hs (fun i a b ha hb => ?_)⟩
  · obtain ⟨i, hi, rfl⟩ := List.getElem_of_mem hz
    exact hErr_row (List.getElem?_eq_getElem hi) (h i hi)
  · have hl := (List.getElem?_eq_some_iff.1 hb).1
    have h0 := h (i + 1) hl
    obtain ⟨g1, g2, g3⟩ := hErr_row hb h0
    rw [hErr_next hb ha (by rw [g1, g2, g3]; rfl)] at h0
    by_cases hc : numF f b ≤ numF f a
    · rw [if_pos hc] at h0; cases h0
    · omega
theorem RowsAsc.err {f y : Int} {hs : List High} (h : RowsAsc f y hs) (j : Nat) (hj : j < hs.length) : hErr f y hs j = 0 := by
  have g : ∀ (i : Nat) (hi : i < hs.length), (outB hs[i].year f (f + y - 1) || lateB hs[i].day || highB hs[i].level) = false := fun i hi => by
    obtain ⟨g1, g2, g3⟩ := h.row _ (List.getElem_mem hi)
    rw [g1, g2, g3]; rfl
  match j, hj with
  | 0, hj => exact hErr_first (List.getElem?_eq_getElem hj) (g 0 hj)
  | i + 1, hj =>
    rw [hErr_next (List.getElem?_eq_getElem hj) (List.getElem?_eq_getElem (by omega)) (g (i + 1) hj)]
    have := (List.pairwise_iff_getElem.1 h.asc) i (i + 1) (by omega) hj (by omega)
    rw [if_neg (by omega)]

structure RecAll (r : Rec) : Prop where
  f : outB r.first 0 9999 = false
  y : outB r.years 2 200 = false
  len : r.highs.length ≤ 300
  rows : RowsAsc r.first r.years r.highs
theorem recAll_of {r : Rec} (h : (chkRec r).2 = 0) : RecAll r := by
  unfold chkRec at h
  by_cases g1 : (outB r.first 0 9999 || outB r.years 2 200) = true
  · rw [if_pos g1] at h; simp at h
  · rw [if_neg g1] at h
    simp only [Bool.or_eq_true, not_or, Bool.not_eq_true] at g1
    by_cases g2 : 300 < r.highs.length
    · rw [if_pos g2] at h; simp at h
    · rw [if_neg g2] at h
      exact ⟨g1.1, g1.2, by omega, rowsAsc_of fun j hj => firstErr_all _ _ h j (by omega) (by omega)⟩
theorem RecAll.chk {r : Rec} (h : RecAll r) : chkRec r = (0, 0) := by
  unfold chkRec
  rw [if_neg (by rw [h.f, h.y]; simp), if_neg (by have := h.len; omega)]
  exact firstErr_none _ _ fun j _ h2 => h.rows.err j (by omega)
theorem RecAll.less {r : Rec} (h : RecAll r) (k : Nat) : RecAll (r.less k) := by
  refine ⟨h.f, h.y, ?_, ⟨fun z hz => h.rows.row z (List.mem_of_mem_eraseIdx hz), h.rows.asc.sublist (List.eraseIdx_sublist ..)⟩⟩
  have := List.length_eraseIdx_le r.highs k
  have := h.len
  unfold Rec.less
  dsimp only
  omega

theorem riskTop_ok {r : Rec} {d n lvl : Int} (h : RecAll r) (d0 : 0 ≤ d) (d1 : d ≤ 364) (n0 : 1 ≤ n) (n1 : n ≤ 365) (l0 : -20000 ≤ lvl) (l1 : lvl ≤ 20000) : riskTop r d n lvl = (riskF r d n lvl, 0) := by
  unfold riskTop
  rw [if_neg (by rw [h.chk]; simp), if_neg]
  unfold lateB highB
  rw [outB_eq_false.2 ⟨d0, d1⟩, outB_eq_false.2 ⟨n0, n1⟩, outB_eq_false.2 ⟨l0, l1⟩]
  simp

end Go.Proofs.YtjdaigffgfnhaaaGreat

namespace Go.Proofs.YtjdaigffgfnhaaaGreat

def inW (d m : Int) (h : High) : Bool := decide (d ≤ h.day) && decide (h.day < d + m)
def gath (d m : Int) (hs : List High) : List Int := (hs.filter (inW d m)).map (·.level)
theorem gath_succ {d m : Int} {hs : List High} {k : Nat} {h : High} (hk : hs[k]? = some h) : gath d m (hs.take (k + 1)) = gath d m (hs.take k) ++ if inW d m h = true then [h.level] else [] := by
  unfold gath
  rw [List.take_add_one, hk, List.filter_append, List.map_append]
  congr 1
  simp only [Option.toList_some, List.filter_cons, List.filter_nil]
  split <;> simp
theorem riskTop_parts {r : Rec} {d m lvl : Int} (h : (riskTop r d m lvl).2 = 0) : RecAll r ∧ (0 ≤ d ∧ d ≤ 364) ∧ (1 ≤ m ∧ m ≤ 365) ∧ riskTop r d m lvl = (riskF r d m lvl, 0) := by
  unfold riskTop at h
  by_cases h1 : ((chkRec r).2 != 0) = true
  · rw [if_pos h1] at h
    simp at h1
    exact absurd h h1
  · rw [if_neg h1] at h
    by_cases h2 : (lateB d || outB m 1 365 || highB lvl) = true
    · rw [if_pos h2] at h
      simp at h
    · have e : riskTop r d m lvl = (riskF r d m lvl, 0) := by unfold riskTop; rw [if_neg h1, if_neg h2]
      simp only [Bool.not_eq_true, Bool.or_eq_false_iff] at h2
      exact ⟨recAll_of (by simpa using h1), outB_false h2.1.1, outB_false h2.1.2, e⟩
theorem harmless_le {r : Rec} {d m lvl : Int} (h : (riskTop r d m lvl).2 = 0) (hy : (riskTop r d m lvl).1.1 ≤ 0) (hw : d + m ≤ 365) (k : Nat) : ∀ v ∈ gath d m (r.highs.take k), v ≤ lvl := by
  obtain ⟨hr, ⟨d0, d1⟩, ⟨m0, m1⟩, e⟩ := riskTop_parts h
  intro v hv
  unfold gath at hv
  rw [List.mem_map] at hv
  obtain ⟨x, hx, rfl⟩ := hv
  rw [List.mem_filter] at hx
  obtain ⟨hx, hin⟩ := hx
  have hx := List.mem_of_mem_take hx
  unfold inW at hin
  simp only [Bool.and_eq_true, decide_eq_true_eq] at hin
  by_cases hl : lvl < x.level
  · exfalso
    obtain ⟨g1, g2, g3⟩ := hr.rows.row x hx
    obtain ⟨y0, y1⟩ := outB_false g1
    rw [e] at hy
    have hmem : x.year ∈ yearsL r.first (ofF r.years (wrapsB d m)) (excB r.highs d m lvl) := by
      refine mem_yearsL.2 ⟨⟨y0, ?_⟩, ?_⟩
      · have : wrapsB d m = false := by unfold wrapsB; simp; omega
        rw [this]
        show x.year < r.first + r.years
        omega
      · unfold excB
        refine List.any_eq_true.2 ⟨x, hx, ?_⟩
        have : winB d m x x.year = true := by
          unfold winB outB
          simp
          omega
        rw [this]
        simpa using hl
    have h0 : (yearsL r.first (ofF r.years (wrapsB d m)) (excB r.highs d m lvl)).length ≤ 0 := by
      have : (riskF r d m lvl).1 ≤ 0 := hy
      unfold riskF at this
      omega
    rw [List.length_eq_zero_iff.1 (Nat.le_zero.1 h0)] at hmem
    cases hmem
  · omega
end Go.Proofs.YtjdaigffgfnhaaaGreat
