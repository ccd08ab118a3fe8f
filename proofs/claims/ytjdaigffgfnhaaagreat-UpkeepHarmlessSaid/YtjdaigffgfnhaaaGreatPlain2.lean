/- The plain functions of the upkeep layer: years, risks, seasons. -/
import Derived.Test.YtjdaigffgfnhaaaGreatPlain
namespace Go.Proofs.YtjdaigffgfnhaaaGreat

theorem sorted_ext : ∀ {l m : List Int}, l.Pairwise (· < ·) → m.Pairwise (· < ·) → (∀ y, y ∈ l ↔ y ∈ m) → l = m
  | [], [], _, _, _ => rfl
  | [], b :: m, _, _, h => by have := (h b).2 (by simp); simp at this
  | a :: l, [], _, _, h => by have := (h a).1 (by simp); simp at this
  | a :: l, b :: m, hl, hm, h => by
    rw [List.pairwise_cons] at hl hm
    have hab : a = b := by
      have h1 := (h a).1 (by simp)
      have h2 := (h b).2 (by simp)
      simp only [List.mem_cons] at h1 h2
      rcases h1 with h1 | h1
      · exact h1
      · rcases h2 with h2 | h2
        · exact h2.symm
        · have := hl.1 b h2
          have := hm.1 a h1
          omega
    subst hab
    have := sorted_ext hl.2 hm.2 (fun y => by
      have hy := h y
      simp only [List.mem_cons] at hy
      constructor
      · intro hx
        rcases hy.1 (.inr hx) with rfl | h'
        · have := hl.1 y hx; omega
        · exact h'
      · intro hx
        rcases hy.2 (.inr hx) with rfl | h'
        · have := hm.1 y hx; omega
        · exact h')
    rw [this]

/-- Is a high on a day of the window that begins in a year? -/
def winB (d n : Int) (h : High) (y : Int) : Bool := !outB (h.day + (h.year - y) * 365 - d) 0 (n - 1)
/-- Is a window exceeded in a year? -/
def excB (hs : List High) (d n lvl y : Int) : Bool := hs.any fun h => decide (lvl < h.level) && winB d n h y
def wrapsB (d n : Int) : Bool := decide (365 < d + n)
def ofF (y : Int) (wrap : Bool) : Int := if wrap then y - 1 else y
/-- The years from f on, of so many, for which P holds. -/
def yearsL (f cnt : Int) (P : Int → Bool) : List Int := ((List.range cnt.toNat).map fun i : Nat => f + (i : Int)).filter P

theorem mem_yearsL {f cnt : Int} {P : Int → Bool} {y : Int} : y ∈ yearsL f cnt P ↔ (f ≤ y ∧ y < f + cnt) ∧ P y = true := by
  unfold yearsL
  simp only [List.mem_filter, List.mem_map, List.mem_range]
  constructor
  · rintro ⟨⟨i, hi, rfl⟩, hp⟩
    exact ⟨by omega, hp⟩
  · rintro ⟨h1, hp⟩
    exact ⟨⟨(y - f).toNat, by omega, by omega⟩, hp⟩
theorem yearsL_sorted (f cnt : Int) (P : Int → Bool) : (yearsL f cnt P).Pairwise (· < ·) := by
  unfold yearsL
  refine List.Pairwise.filter _ ?_
  rw [List.pairwise_map]
  refine List.pairwise_lt_range.imp ?_
  intro a b h
  omega
theorem yearsL_len (f cnt : Int) (P : Int → Bool) : ((yearsL f cnt P).length : Int) ≤ max 0 cnt := by
  unfold yearsL
  have := List.length_filter_le P ((List.range cnt.toNat).map fun i : Nat => f + (i : Int))
  simp at this
  omega

/-- The risk of a window. -/
def riskF (r : Rec) (d n lvl : Int) : Int × Int :=
  (((yearsL r.first (ofF r.years (wrapsB d n)) (excB r.highs d n lvl)).length : Int), ofF r.years (wrapsB d n))
/-- Is a risk greater than another one? -/
def gtB (a b : Int × Int) : Bool := decide (b.1 * a.2 < a.1 * b.2)
def wildB (a : Int × Int) : Bool := outB a.2 1 200 || outB a.1 0 a.2


/-- The rows of a record are in their ranges. -/
def RowsOK (f : Int) (hs : List High) : Prop := ∀ (i : Nat) (h : High), hs[i]? = some h → f ≤ h.year ∧ h.year ≤ f + 199 ∧ 0 ≤ h.day ∧ h.day ≤ 364 ∧ -20000 ≤ h.level ∧ h.level ≤ 20000
/-- A record that has been checked. -/
structure RecOK (r : Rec) : Prop where
  f0 : 0 ≤ r.first
  f1 : r.first ≤ 9999
  y0 : 2 ≤ r.years
  y1 : r.years ≤ 200
  len : r.highs.length ≤ 300
  rows : RowsOK r.first r.highs

theorem firstErr_all {g : Nat → Int} : ∀ (m i : Nat), (firstErr g i m).2 = 0 → ∀ j, i ≤ j → j < i + m → g j = 0
  | 0, i, _, j, h1, h2 => by omega
  | m + 1, i, h, j, h1, h2 => by
    rw [firstErr] at h
    by_cases hg : g i = 0
    · rw [if_pos hg] at h
      rcases Nat.eq_or_lt_of_le h1 with rfl | hlt
      · exact hg
      · exact firstErr_all m (i + 1) h j hlt (by omega)
    · rw [if_neg hg] at h
      exact absurd h hg

theorem recOK_of {r : Rec} (h : (chkRec r).2 = 0) : RecOK r := by
  unfold chkRec at h
  by_cases g1 : (outB r.first 0 9999 || outB r.years 2 200) = true
  · rw [if_pos g1] at h; simp at h
  · rw [if_neg g1] at h
    simp only [Bool.or_eq_true, not_or, Bool.not_eq_true] at g1
    obtain ⟨a1, a2⟩ := outB_false g1.1
    obtain ⟨a3, a4⟩ := outB_false g1.2
    by_cases g2 : 300 < r.highs.length
    · rw [if_pos g2] at h; simp at h
    · rw [if_neg g2] at h
      refine ⟨a1, a2, a3, a4, by omega, fun i g hi => ?_⟩
      have hl : i < r.highs.length := (List.getElem?_eq_some_iff.1 hi).1
      obtain ⟨b1, b2, b3⟩ := hErr_row hi (firstErr_all _ _ h i (by omega) (by omega))
      have := outB_false b1
      have := outB_false b2
      have := outB_false b3
      omega

/-- What Risk returns. -/
def riskTop (r : Rec) (d n lvl : Int) : (Int × Int) × Int :=
  if (chkRec r).2 != 0 then ((0, 0), (chkRec r).2)
  else if lateB d || outB n 1 365 || highB lvl then ((0, 0), 7)
  else (riskF r d n lvl, 0)

theorem ofF_bounds {y : Int} (b : Bool) (y0 : 2 ≤ y) (y1 : y ≤ 200) : 1 ≤ ofF y b ∧ ofF y b ≤ 200 := by cases b <;> simp [ofF] <;> omega
theorem riskF_bounds {r : Rec} (h : RecOK r) (d n lvl : Int) : 0 ≤ (riskF r d n lvl).1 ∧ (riskF r d n lvl).1 ≤ 200 ∧ 1 ≤ (riskF r d n lvl).2 ∧ (riskF r d n lvl).2 ≤ 200 := by
  have h1 := ofF_bounds (wrapsB d n) h.y0 h.y1
  have h2 := yearsL_len r.first (ofF r.years (wrapsB d n)) (excB r.highs d n lvl)
  unfold riskF
  dsimp only
  omega

/-- Is a day in the season? -/
def seasonB (r : Rec) (wd lvl : Int) (al : Int × Int) (d : Int) : Bool := gtB (riskF r d wd lvl) al

end Go.Proofs.YtjdaigffgfnhaaaGreat
