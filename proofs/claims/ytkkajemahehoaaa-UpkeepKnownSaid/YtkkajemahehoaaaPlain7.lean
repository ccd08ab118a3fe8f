/- The level of a rank, in plain. -/
import Derived.Test.YtkkajemahehoaaaW3
import Derived.Test.YtkkajemahehoaaaPlain4
namespace Go.Proofs.Ytkkajemahehoaaa
open Go.RowKit

/-- The greatest level of each year up to e, so far. -/
abbrev TopT := Int → Option Int
def topStep (e : Int) (T : TopT) (y lv : Int) : TopT :=
  if y ≤ e ∧ (∀ t, T y = some t → t < lv) then fun z => if z = y then some lv else T z else T
structure TopI (e : Int) (ps : List (Int × High)) (T : TopT) : Prop where
  some : ∀ y t, T y = some t → y ≤ e ∧ (∃ h, (y, h) ∈ ps ∧ h.level = t) ∧ ∀ h, (y, h) ∈ ps → h.level ≤ t
  none : ∀ y, T y = none → y ≤ e → ∀ h, (y, h) ∉ ps
theorem TopI.start (e : Int) : TopI e [] (fun _ => Option.none) := ⟨(fun y t h => by cases h), (fun y _ _ h hm => by simp at hm)⟩
theorem TopI.step {e : Int} {ps : List (Int × High)} {T : TopT} (hT : TopI e ps T) (y : Int) (h : High) : TopI e (ps ++ [(y, h)]) (topStep e T y h.level) := by
  unfold topStep
  by_cases hc : y ≤ e ∧ (∀ t, T y = Option.some t → t < h.level)
  · rw [if_pos hc]
    refine ⟨fun z t hz => ?_, fun z hz hze g hg => ?_⟩
    · by_cases hzy : z = y
      · subst hzy
        rw [if_pos rfl] at hz
        injection hz with hz
        subst hz
        refine ⟨hc.1, ⟨h, by simp, rfl⟩, fun g hg => ?_⟩
        rcases List.mem_append.1 hg with hg | hg
        · cases hTz : T z with
          | none => exact absurd hg (hT.none z hTz hc.1 g)
          | some t => have := (hT.some z t hTz).2.2 g hg; have := hc.2 t hTz; omega
        · simp at hg; subst hg; exact Int.le_refl _
      · rw [if_neg hzy] at hz
        obtain ⟨h1, ⟨g, h2, h3⟩, h4⟩ := hT.some z t hz
        refine ⟨h1, ⟨g, by simp [h2], h3⟩, fun g' hg' => ?_⟩
        rcases List.mem_append.1 hg' with hg' | hg'
        · exact h4 g' hg'
        · simp at hg'; exact absurd hg'.1 hzy
    · by_cases hzy : z = y
      · rw [if_pos hzy] at hz; cases hz
      · rw [if_neg hzy] at hz
        rcases List.mem_append.1 hg with hg | hg
        · exact hT.none z hz hze g hg
        · simp at hg; exact hzy hg.1
  · rw [if_neg hc]
    refine ⟨fun z t hz => ?_, fun z hz hze g hg => ?_⟩
    · obtain ⟨h1, ⟨g, h2, h3⟩, h4⟩ := hT.some z t hz
      refine ⟨h1, ⟨g, by simp [h2], h3⟩, fun g' hg' => ?_⟩
      rcases List.mem_append.1 hg' with hg' | hg'
      · exact h4 g' hg'
      · simp at hg'
        obtain ⟨e1, e2⟩ := hg'
        subst e1 e2
        by_cases hlt : t < g'.level
        · exact absurd ⟨h1, fun t' ht' => by rw [hz] at ht'; injection ht' with ht'; omega⟩ hc
        · omega
    · rcases List.mem_append.1 hg with hg | hg
      · exact hT.none z hz hze g hg
      · simp at hg
        obtain ⟨e1, e2⟩ := hg
        subst e1
        exact hc ⟨hze, fun t ht => by rw [hz] at ht; cases ht⟩
theorem TopI.above {e : Int} {ps : List (Int × High)} {T : TopT} (hT : TopI e ps T) (y n : Int) : (∃ t, T y = Option.some t ∧ n < t) ↔ y ≤ e ∧ ∃ h, (y, h) ∈ ps ∧ n < h.level := by
  constructor
  · rintro ⟨t, ht, hn⟩
    obtain ⟨h1, ⟨h, h2, h3⟩, _⟩ := hT.some y t ht
    exact ⟨h1, h, h2, by omega⟩
  · rintro ⟨h1, h, h2, h3⟩
    cases hTy : T y with
    | none => exact absurd h2 (hT.none y hTy h1 h)
    | some t => exact ⟨t, rfl, by have := (hT.some y t hTy).2.2 h h2; omega⟩

/-- How many numbers of a list are above one. -/
def aboveN (l : List Int) (n : Int) : Nat := (l.filter fun v => decide (n < v)).length
theorem aboveN_perm {l l' : List Int} (h : l.Perm l') (n : Int) : aboveN l n = aboveN l' n := (h.filter _).length_eq
theorem aboveN_map (T : TopT) (ks : List Int) (n : Int) : aboveN (ks.map fun y => (T y).getD 0) n = (ks.filter fun y => decide (n < (T y).getD 0)).length := by
  unfold aboveN
  rw [List.filter_map, List.length_map]
  rfl
theorem yearsL_nodup (f cnt : Int) (P : Int → Bool) : (yearsL f cnt P).Nodup := (yearsL_sorted f cnt P).imp fun h => by omega
/-- The tops above a level are as many as the years of its risk. -/
theorem tops_risk {r : Rec} {d m : Int} {e : Int} {T : TopT} {ks : List Int} (hR : RecOK r) (d0 : 0 ≤ d) (d1 : d ≤ 364) (m1 : m ≤ 365) (he : e = r.first + ofF r.years (wrapsB d m) - 1) (hT : TopI e (yhAll r.first d m r.highs) T) (hn : ks.Nodup) (hk : ∀ y, y ∈ ks ↔ T y ≠ none) (n : Int) :
    (aboveN (ks.map fun y => (T y).getD 0) n : Int) = (riskF r d m n).1 := by
  rw [aboveN_map]
  have hp : (ks.filter fun y => decide (n < (T y).getD 0)).Perm (yearsL r.first (ofF r.years (wrapsB d m)) (excB r.highs d m n)) := by
    refine (List.perm_ext_iff_of_nodup (hn.filter _) (yearsL_nodup _ _ _)).2 fun y => ?_
    rw [List.mem_filter, mem_yearsL, hk]
    have h1 := hT.above y n
    have h2 := yhS_iff (f := r.first) (lvl := n) hR.rows d0 d1 m1 y
    unfold yhS at h2
    constructor
    · rintro ⟨h3, h4⟩
      cases hTy : T y with
      | none => exact absurd hTy h3
      | some t =>
        rw [hTy] at h4
        have h5 := h1.1 ⟨t, hTy, by simpa using h4⟩
        have h6 := h2.1 h5.2
        exact ⟨⟨h6.1, by omega⟩, h6.2⟩
    · rintro ⟨⟨h3, h4⟩, h5⟩
      obtain ⟨t, ht, hlt⟩ := h1.2 ⟨by omega, h2.2 ⟨h3, h5⟩⟩
      exact ⟨by rw [ht]; simp, by rw [ht]; simpa using hlt⟩
  rw [hp.length_eq]
  unfold riskF
  rfl
theorem sorted_above {l : List Int} (hs : l.Pairwise (fun x y => y ≤ x)) {k : Nat} {v : Int} (hv : l[k]? = some v) : aboveN l v ≤ k ∧ k < aboveN l (v - 1) := by
  have hk := (List.getElem?_eq_some_iff.1 hv).1
  have hg := List.pairwise_iff_getElem.1 hs
  have hvv := (List.getElem?_eq_some_iff.1 hv).2
  have hsp : ∀ n, aboveN l n = aboveN (l.take k) n + aboveN (l.drop k) n := fun n => by
    unfold aboveN
    rw [← List.length_append, ← List.filter_append, List.take_append_drop]
  have hsp' : aboveN l (v - 1) = aboveN (l.take (k + 1)) (v - 1) + aboveN (l.drop (k + 1)) (v - 1) := by
    unfold aboveN
    rw [← List.length_append, ← List.filter_append, List.take_append_drop]
  constructor
  · rw [hsp]
    have h1 : aboveN (l.drop k) v = 0 := by
      unfold aboveN
      rw [List.length_eq_zero_iff, List.filter_eq_nil_iff]
      intro x hx
      obtain ⟨i, hi⟩ := List.getElem?_of_mem hx
      rw [List.getElem?_drop] at hi
      obtain ⟨hi1, hi2⟩ := List.getElem?_eq_some_iff.1 hi
      rcases Nat.eq_zero_or_pos i with rfl | hp
      · simp only [Nat.add_zero] at hi2; rw [hvv] at hi2; simp; omega
      · have := hg k (k + i) hk hi1 (by omega)
        rw [hvv, hi2] at this
        simp; omega
    have h2 : aboveN (l.take k) v ≤ k := by
      unfold aboveN
      exact Nat.le_trans (List.length_filter_le _ _) (List.length_take_le _ _)
    omega
  · rw [hsp']
    have h1 : aboveN (l.take (k + 1)) (v - 1) = k + 1 := by
      unfold aboveN
      rw [List.filter_eq_self.2 ?_, List.length_take]
      · omega
      · intro x hx
        obtain ⟨i, hi⟩ := List.getElem?_of_mem hx
        have hlt : i < k + 1 := by have := (List.getElem?_eq_some_iff.1 hi).1; rw [List.length_take] at this; omega
        rw [List.getElem?_take_of_lt hlt] at hi
        obtain ⟨hi1, hi2⟩ := List.getElem?_eq_some_iff.1 hi
        rcases Nat.lt_or_ge i k with hp | hp
        · have := hg i k hi1 hk hp
          rw [hvv, hi2] at this
          simp; omega
        · obtain rfl : i = k := by omega
          rw [hvv] at hi2
          simp; omega
    omega

/-- A level is the one that a rank asks for. -/
structure RankIs (r : Rec) (d m many v : Int) : Prop where
  lo : -20000 ≤ v
  hi : v ≤ 20000
  most : (riskF r d m v).1 ≤ many
  more : -20000 < v → many < (riskF r d m (v - 1)).1
theorem RankIs.uniq {r : Rec} {d m many v v' : Int} (h : RankIs r d m many v) (h' : RankIs r d m many v') : v = v' := by
  have key : ∀ {a b : Int}, RankIs r d m many a → RankIs r d m many b → ¬ a < b := fun {a b} ha hb hlt => by
    have h1 := hb.more (by have := ha.lo; omega)
    have h2 := (riskF_level (r := r) (d := d) (n := m) (lvl := a) (lvl' := b - 1) (by omega)).1
    have := ha.most
    omega
  have := key h h'
  have := key h' h
  omega
/-- What is found in the sorted tops. -/
theorem rank_of {r : Rec} {d m many : Int} {e : Int} {T : TopT} {ks s : List Int} (hR : RecOK r) (d0 : 0 ≤ d) (d1 : d ≤ 364) (m1 : m ≤ 365) (hm : 0 ≤ many) (he : e = r.first + ofF r.years (wrapsB d m) - 1) (hT : TopI e (yhAll r.first d m r.highs) T) (hn : ks.Nodup) (hk : ∀ y, y ∈ ks ↔ T y ≠ none)
    (hp : s.Perm (ks.map fun y => (T y).getD 0)) (hs : s.Pairwise (fun x y => y ≤ x)) : RankIs r d m many (if (s.length : Int) ≤ many then -20000 else s.getD many.toNat 0) := by
  have hab : ∀ n, (aboveN s n : Int) = (riskF r d m n).1 := fun n => by rw [aboveN_perm hp n]; exact tops_risk hR d0 d1 m1 he hT hn hk n
  by_cases hl : (s.length : Int) ≤ many
  · rw [if_pos hl]
    refine ⟨by omega, by omega, ?_, fun h => by omega⟩
    rw [← hab]
    have : aboveN s (-20000) ≤ s.length := List.length_filter_le _ _
    omega
  · rw [if_neg hl]
    have hlt : many.toNat < s.length := by omega
    have hg : s[many.toNat]? = some (s.getD many.toNat 0) := by rw [List.getD_eq_getElem?_getD, List.getElem?_eq_getElem hlt]; rfl
    have hsa := sorted_above hs hg
    have hmem : s.getD many.toNat 0 ∈ ks.map fun y => (T y).getD 0 := hp.subset (List.mem_of_getElem? hg)
    generalize s.getD many.toNat 0 = v at *
    rw [List.mem_map] at hmem
    obtain ⟨y, hy, hyv⟩ := hmem
    have hne := (hk y).1 hy
    obtain ⟨t, ht⟩ : ∃ t, T y = some t := by cases hTy : T y with | none => exact absurd hTy hne | some t => exact ⟨t, rfl⟩
    rw [ht] at hyv
    obtain ⟨_, ⟨h, h2, h3⟩, _⟩ := hT.some y t ht
    have hh := ((yhAll_mem r.first d m r.highs y h).1 h2).1
    obtain ⟨i, hi⟩ := List.getElem?_of_mem hh
    have hrow := hR.rows i h hi
    simp at hyv
    refine ⟨by omega, by omega, ?_, fun _ => ?_⟩
    · rw [← hab]; omega
    · rw [← hab]; omega
end Go.Proofs.Ytkkajemahehoaaa
