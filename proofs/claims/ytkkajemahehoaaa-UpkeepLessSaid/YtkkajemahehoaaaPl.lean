/-
  UpkeepLess, for every record and window, and whatever numbers that can be read: the law returns true, and its arguments read as they did. No condition.
-/
import Derived.Test.YtkkajemahehoaaaUl
import Derived.Test.YtkkajemahehoaaaRk3
namespace Go.Proofs.Ytkkajemahehoaaa
open Go.ChangeShapes Go.WideShapes Go.RowKit

set_option maxRecDepth 100000 in
theorem upkeepLess_lifted (os : Os) (started : os.Started) (H : Type) (enc : TypeId × Value → H) :
    ReturnsInHanded {} Try.checked os 6 .any (Rows.upkeepLessSpec.pre6 enc Try.prog Try.f6 Rows.upkeepLessRow.domain false) (Rows.upkeepLessSpec.post enc Try.prog Try.f6 false true false false) := by
  refine returnsInHanded_of_change (C := Try.checked) Try.own started (by kernel_rfl) Try.func6
    (ChangeSpec.witness6 (enc := enc) (C := Try.checked) false ⟨#[], #[.agg #[.int .i64 0, .int .i64 0, .slice none 0 0], .agg #[.int .i64 0, .int .i64 0, .int .i64 0, .int .i64 0], .agg #[.int .u16 0, .int .u16 0, .int .u16 0, .int .u16 0]], []⟩ 8 (by kernel_rfl) (by kernel_rfl) (by kernel_rfl) (by kernel_rfl)) ?_
  intro W base args ds gs before hval0 hW _ _
  have hval : ∀ (j : Nat) t v, Try.f6.params[j]? = some t → args[j]? = some v → Value.okWide Try.prog W .any base t v := hval0
  have hW' := hW
  obtain ⟨p, q, hA0, hV, rfl, hfz, hnd⟩ := hW
  have hA : DataW.TrodAll enc Try.prog W 0 (fun _ => true) true Try.f6.params.toList args.toList ds p := hA0
  rw [Try.params6] at hA hval
  obtain ⟨v0, v1, v2, d0, d1, d2, p0, p1, p2, rfl, rfl, rfl, h0, h1, h2⟩ := trodAll_three hA
  obtain ⟨rfl, rfl⟩ := trodVars_none hV
  obtain ⟨r, A, n, c, e0, b0, b0', hr, x0, x0'⟩ := (reads_of h0).record
  have e0' := agg_list (agg_of Try.underlying24 (hval 0 24 v0 rfl rfl)) e0
  subst e0'
  obtain ⟨d, m, l, y, e1, w0, w1, w2, w3⟩ := (reads_of h1).window
  have e1' := agg_list (agg_of Try.underlying43 (hval 1 43 v1 rfl rfl)) e1
  subst e1'
  obtain ⟨x0, x1, x2, x3, e2, u0, u1, u2, u3⟩ := (reads_of h2).four16
  have e2' := agg_list (arr_of Try.underlying49 (hval 2 49 v2 rfl rfl)) e2
  subst e2'
  refine (UpkeepLess_any r d m l (.int .i64 y) x0 x1 x2 x3 A n c W hr b0 u0 u1 u2 u3).mono fun e W' ⟨he, hb⟩ => ?_
  subst he
  exact ⟨_, rfl, law_post rfl (by kernel_rfl) (by rw [Try.params6]; exact fun t ht => by simp at ht; rcases ht with rfl | rfl | rfl <;> exact ⟨by kernel_rfl, of_decide_eq_true (by kernel_rfl)⟩) hW' rfl hb⟩

theorem upkeepLess_holds : Rows.UpkeepLessSaid :=
  OpenClaim.holds_of_wide 6 Try.f6 rfl rfl rfl rfl rfl rfl rfl ⟨rfl, rfl, rfl, rfl, rfl⟩ rfl rfl rfl rfl rfl (by kernel_rfl) Try.func6 (by kernel_rfl)
    (of_decide_eq_true (by kernel_rfl)) (by unfold Func.isWrapper; first | (rw [if_pos (by decide +kernel)]; kernel_rfl) | (rw [if_neg (by decide +kernel)]; exact ⟨rfl, rfl⟩))
    (fun os started H enc _ => upkeepLess_lifted os started H enc)

#print axioms upkeepLess_holds

end Go.Proofs.Ytkkajemahehoaaa
