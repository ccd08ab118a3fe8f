/- A good plan, in plain. -/
import Derived.Test.YtkkajemahehoaaaJ2
import Derived.Test.YtkkajemahehoaaaR5
namespace Go.Proofs.Ytkkajemahehoaaa
open Go.RowKit

structure Good (t : Task) (ss : List Int) : Prop where
  start : ∀ (i : Nat) (s : Int) (x : Work), ss[i]? = some s → t.works[i]? = some x → wrongB s x = false
  meet : ∀ (i k : Nat), i < k → k < ss.length → meetP t ss k i = false
  inside : ∀ (i : Nat) (s : Int) (x : Work), ss[i]? = some s → t.works[i]? = some x → badF t x s < 0
  risk : gtB (harmR t ss) t.plan = false

theorem upTo_nil {f : Nat → List Reason} {n : Nat} : upTo f n = [] ↔ ∀ i, i < n → f i = [] := by
  unfold upTo
  rw [List.flatMap_eq_nil_iff]
  simp
theorem fromTo_nil {f : Nat → List Reason} {i n : Nat} : fromTo f i n = [] ↔ ∀ k, i < k → k < n → f k = [] := by
  unfold fromTo
  rw [List.flatMap_eq_nil_iff]
  simp only [List.mem_range]
  constructor
  · intro h k h1 h2
    have := h (k - (i + 1)) (by omega)
    rw [show i + 1 + (k - (i + 1)) = k by omega] at this
    exact this
  · intro h j hj
    exact h (i + 1 + j) (by omega) (by omega)
theorem good_iff {t : Task} {ss : List Int} : judgeL t ss = [] ↔ Good t ss := by
  unfold judgeL wrongL meetsL insideL riskyL
  simp only [List.append_eq_nil_iff, upTo_nil]
  constructor
  · rintro ⟨⟨⟨h1, h2⟩, h3⟩, h4⟩
    refine ⟨fun i s x hs hx => ?_, fun i k hik hk => ?_, fun i s x hs hx => ?_, ?_⟩
    · have := h1 i (List.getElem?_eq_some_iff.1 hs).1
      unfold wrongAt at this
      rw [hs, hx] at this
      dsimp only at this
      cases hw : wrongB s x
      · rfl
      · rw [hw] at this; simp at this
    · have := (fromTo_nil.1 (h2 i (by omega))) k hik hk
      unfold meetAt at this
      cases hw : meetP t ss k i
      · rfl
      · rw [hw] at this; simp at this
    · have := h3 i (List.getElem?_eq_some_iff.1 hs).1
      unfold insideAt at this
      rw [hs, hx] at this
      dsimp only at this
      by_cases hw : 0 ≤ badF t x s
      · rw [if_pos hw] at this; simp at this
      · omega
    · cases hw : gtB (harmR t ss) t.plan
      · rfl
      · rw [hw] at h4; simp at h4
  · intro h
    refine ⟨⟨⟨fun i hi => ?_, fun i hi => fromTo_nil.2 fun k h1 h2 => ?_⟩, fun i hi => ?_⟩, ?_⟩
    · unfold wrongAt
      split
      · rename_i s x hs hx
        rw [h.start i s x hs hx]; rfl
      · rfl
    · unfold meetAt
      rw [h.meet i k h1 h2]; rfl
    · unfold insideAt
      split
      · rename_i s x hs hx
        rw [if_neg (by have := h.inside i s x hs hx; omega)]
      · rfl
    · rw [h.risk]; rfl

theorem triesG_iff {til step : Int} (hs : 1 ≤ step) : ∀ (f : Nat) (d s : Int), (til + 1 - d).toNat ≤ f → (s ∈ triesG til step f d ↔ d ≤ s ∧ s ≤ til ∧ (s - d) % step = 0)
  | 0, d, s, hf => by
    simp only [triesG, List.not_mem_nil, false_iff]
    omega
  | f + 1, d, s, hf => by
    rw [triesG]
    by_cases hd : d ≤ til
    · rw [if_pos hd, List.mem_cons, triesG_iff hs f (d + step) s (by omega)]
      have e : (s - (d + step)) % step = (s - d) % step := by
        rw [show s - (d + step) = s - d - step by omega, Int.sub_emod_right]
      rw [e]
      constructor
      · rintro (rfl | ⟨h1, h2, h3⟩)
        · exact ⟨Int.le_refl _, hd, by simp⟩
        · exact ⟨by omega, h2, h3⟩
      · rintro ⟨h1, h2, h3⟩
        by_cases he : s = d
        · exact .inl he
        · have := Int.le_of_dvd (by omega : 0 < s - d) (Int.dvd_of_emod_eq_zero h3)
          exact .inr ⟨by omega, h2, h3⟩
    · rw [if_neg hd]
      simp only [List.not_mem_nil, false_iff]
      omega
theorem mem_triesF {x : Work} (hw : WorkOK x) (s : Int) : s ∈ triesF x ↔ wrongB s x = false := by
  have := hw.s0; have := hw.f0; have := hw.u1; have := hw.u0
  unfold triesF
  rw [triesG_iff hw.s0 400 x.frm s (by omega)]
  unfold wrongB
  rw [Bool.or_eq_false_iff, outB_eq_false]
  simp only [bne_eq_false_iff_eq]
  constructor
  · rintro ⟨a, b, c⟩; exact ⟨⟨a, b⟩, c⟩
  · rintro ⟨⟨a, b⟩, c⟩; exact ⟨a, b, c⟩
theorem mem_startsF {t : Task} {x : Work} (hw : WorkOK x) (s : Int) : s ∈ startsF t x ↔ wrongB s x = false ∧ badF t x s < 0 := by
  unfold startsF
  rw [List.mem_filter, mem_triesF hw]
  simp
theorem dayF_neg {g : Int → Bool} {s : Int} : ∀ (m k : Nat), dayF g s k m < 0 → ∀ j, k ≤ j → j < k + m → g ((s + (j : Int)) % 365) = false
  | 0, k, _, j, h1, h2 => by omega
  | m + 1, k, h, j, h1, h2 => by
    rw [dayF] at h
    by_cases hg : g ((s + (k : Int)) % 365) = true
    · rw [if_pos hg] at h; omega
    · rw [if_neg hg] at h
      rcases Nat.eq_or_lt_of_le h1 with rfl | hlt
      · simpa using hg
      · exact dayF_neg m (k + 1) h j hlt (by omega)
theorem far_ok {gap a d1 b d2 : Int} (p1 : 1 ≤ d1) (p2 : 1 ≤ d2) (g0 : 0 ≤ gap) (h : mB gap a d1 b d2 = false) : ¬ ((b - a + 365) % 365 < d1 + gap) ∧ ¬ ((a - b + 365) % 365 < d2 + gap) := by
  unfold mB at h
  by_cases hc : b < a
  · rw [if_pos hc] at h
    simp at h
    omega
  · rw [if_neg hc] at h
    simp at h
    omega
end Go.Proofs.Ytkkajemahehoaaa
