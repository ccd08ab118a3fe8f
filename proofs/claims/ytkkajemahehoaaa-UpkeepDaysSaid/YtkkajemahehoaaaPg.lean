/-
  UpkeepDays, for every record, season and whatever numbers that can be read: the law returns true, and its arguments read as they did. No condition.
-/
import Derived.Test.YtkkajemahehoaaaUg
import Derived.Test.YtkkajemahehoaaaRk3
namespace Go.Proofs.Ytkkajemahehoaaa
open Go.ChangeShapes Go.WideShapes Go.RowKit

set_option maxRecDepth 100000 in
theorem upkeepDays_lifted (os : Os) (started : os.Started) (H : Type) (enc : TypeId × Value → H) :
    ReturnsInHanded {} Try.checked os 8 .any (Rows.upkeepDaysSpec.pre6 enc Try.prog Try.f8 Rows.upkeepDaysRow.domain false) (Rows.upkeepDaysSpec.post enc Try.prog Try.f8 false true false false) := by
  refine returnsInHanded_of_change (C := Try.checked) Try.own started (by kernel_rfl) Try.func8
    (ChangeSpec.witness6 (enc := enc) (C := Try.checked) false ⟨#[], #[.agg #[.int .i64 0, .int .i64 0, .slice none 0 0], .agg #[.int .i64 0, .int .i64 0, .int .i64 0, .int .i64 0, .int .i64 0], .agg #[.int .u16 0, .int .u16 0, .int .u16 0]], []⟩ 8 (by kernel_rfl) (by kernel_rfl) (by kernel_rfl) (by kernel_rfl)) ?_
  intro W base args ds gs before hval0 hW _ _
  have hval : ∀ (j : Nat) t v, Try.f8.params[j]? = some t → args[j]? = some v → Value.okWide Try.prog W .any base t v := hval0
  have hW' := hW
  obtain ⟨p, q, hA0, hV, rfl, hfz, hnd⟩ := hW
  have hA : DataW.TrodAll enc Try.prog W 0 (fun _ => true) true Try.f8.params.toList args.toList ds p := hA0
  rw [Try.params8] at hA hval
  obtain ⟨v0, v1, v2, d0, d1, d2, p0, p1, p2, rfl, rfl, rfl, h0, h1, h2⟩ := trodAll_three hA
  obtain ⟨rfl, rfl⟩ := trodVars_none hV
  obtain ⟨r, A, n, c, e0, b0, b0', hr, x0, x0'⟩ := (reads_of h0).record
  have e0' := agg_list (agg_of Try.underlying24 (hval 0 24 v0 rfl rfl)) e0
  subst e0'
  obtain ⟨wd, lvl, a1, a2, dy, e1, s0, s1, s2, s3, s4⟩ := (reads_of h1).season
  have e1' := agg_list (agg_of Try.underlying55 (hval 1 55 v1 rfl rfl)) e1
  subst e1'
  obtain ⟨x0, x1, x2, e2, u0, u1, u2⟩ := (reads_of h2).three16
  have e2' := agg_list (arr_of Try.underlying56 (hval 2 56 v2 rfl rfl)) e2
  subst e2'
  refine (UpkeepDays_any r wd lvl a1 a2 dy x0 x1 x2 A n c W hr b0 u0 u1 u2).mono fun e W' ⟨he, hb⟩ => ?_
  subst he
  exact ⟨_, rfl, law_post rfl (by kernel_rfl) (by rw [Try.params8]; exact fun t ht => by simp at ht; rcases ht with rfl | rfl | rfl <;> exact ⟨by kernel_rfl, of_decide_eq_true (by kernel_rfl)⟩) hW' rfl hb⟩

theorem upkeepDays_holds : Rows.UpkeepDaysSaid :=
  OpenClaim.holds_of_wide 8 Try.f8 rfl rfl rfl rfl rfl rfl rfl ⟨rfl, rfl, rfl, rfl, rfl⟩ rfl rfl rfl rfl rfl (by kernel_rfl) Try.func8 (by kernel_rfl)
    (of_decide_eq_true (by kernel_rfl)) (by unfold Func.isWrapper; first | (rw [if_pos (by decide +kernel)]; kernel_rfl) | (rw [if_neg (by decide +kernel)]; exact ⟨rfl, rfl⟩))
    (fun os started H enc _ => upkeepDays_lifted os started H enc)

#print axioms upkeepDays_holds

end Go.Proofs.Ytkkajemahehoaaa
