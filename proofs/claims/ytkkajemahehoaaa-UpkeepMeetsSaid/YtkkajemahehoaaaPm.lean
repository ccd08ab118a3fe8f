/-
  UpkeepMeets, for every task, plan and year that can be read: the law returns true, and its arguments read as they did. No condition.
-/
import Derived.Test.YtkkajemahehoaaaUm
import Derived.Test.YtkkajemahehoaaaRk2
namespace Go.Proofs.Ytkkajemahehoaaa
open Go.ChangeShapes Go.WideShapes Go.RowKit

set_option maxRecDepth 100000 in
theorem upkeepMeets_lifted (os : Os) (started : os.Started) (H : Type) (enc : TypeId × Value → H) :
    ReturnsInHanded {} Try.checked os 9 .any (Rows.upkeepMeetsSpec.pre6 enc Try.prog Try.f9 Rows.upkeepMeetsRow.domain false) (Rows.upkeepMeetsSpec.post enc Try.prog Try.f9 false true false false) := by
  refine returnsInHanded_of_change (C := Try.checked) Try.own started (by kernel_rfl) Try.func9
    (ChangeSpec.witness6 (enc := enc) (C := Try.checked) false ⟨#[], #[.agg #[.int .i64 0, .int .i64 0, .slice none 0 0, .slice none 0 0, .int .i64 0, .int .i64 0, .int .i64 0, .int .i64 0, .int .i64 0, .int .i64 0], .slice none 0 0, .int .i64 0], []⟩ 8 (by kernel_rfl) (by kernel_rfl) (by kernel_rfl) (by kernel_rfl)) ?_
  intro W base args ds gs before hval0 hW _ _
  have hval : ∀ (j : Nat) t v, Try.f9.params[j]? = some t → args[j]? = some v → Value.okWide Try.prog W .any base t v := hval0
  have hW' := hW
  obtain ⟨p, q, hA0, hV, rfl, hfz, hnd⟩ := hW
  have hA : DataW.TrodAll enc Try.prog W 0 (fun _ => true) true Try.f9.params.toList args.toList ds p := hA0
  rw [Try.params9] at hA hval
  obtain ⟨v0, v1, v2, d0, d1, d2, p0, p1, p2, rfl, rfl, rfl, h0, h1, h2⟩ := trodAll_three hA
  obtain ⟨rfl, rfl⟩ := trodVars_none hV
  obtain ⟨t, A, n, c, A', n', c', e0, hT, _⟩ := (reads_of h0).task
  have r1 := reads_of h1
  rw [one_slice Try.underlying33 (hval 1 33 v1 rfl rfl)] at r1
  have r2 := reads_of h2
  rw [one_int Try.underlying3 (hval 2 3 v2 rfl rfl)] at r2
  obtain ⟨As, m, cs, ss, rfl, _, _, hs, _⟩ := r1.ints
  obtain ⟨y, rfl, hy0, hy1⟩ := r2.i64
  have e0' := agg_list (agg_of Try.underlying29 (hval 0 29 v0 rfl rfl)) e0
  subst e0'
  refine (UpkeepMeets_any t ss y A n c A' n' c' As m cs W hT hs hy0 hy1).mono fun e W' ⟨he, hb⟩ => ?_
  subst he
  exact ⟨_, rfl, law_post rfl (by kernel_rfl) (by rw [Try.params9]; exact fun t ht => by simp at ht; rcases ht with rfl | rfl | rfl <;> exact ⟨by kernel_rfl, of_decide_eq_true (by kernel_rfl)⟩) hW' rfl hb⟩

theorem upkeepMeets_holds : Rows.UpkeepMeetsSaid :=
  OpenClaim.holds_of_wide 9 Try.f9 rfl rfl rfl rfl rfl rfl rfl ⟨rfl, rfl, rfl, rfl, rfl⟩ rfl rfl rfl rfl rfl (by kernel_rfl) Try.func9 (by kernel_rfl)
    (of_decide_eq_true (by kernel_rfl)) (by unfold Func.isWrapper; first | (rw [if_pos (by decide +kernel)]; kernel_rfl) | (rw [if_neg (by decide +kernel)]; exact ⟨rfl, rfl⟩))
    (fun os started H enc _ => upkeepMeets_lifted os started H enc)

#print axioms upkeepMeets_holds

end Go.Proofs.Ytkkajemahehoaaa
