/-
  UpkeepBest, for every task and plan that can be read: the law returns true, and its arguments read as they did. No condition.
-/
import Derived.Test.YtkkajemahehoaaaUb
import Derived.Test.YtkkajemahehoaaaRk3
namespace Go.Proofs.Ytkkajemahehoaaa
open Go.ChangeShapes Go.WideShapes Go.RowKit

set_option maxRecDepth 100000 in
theorem upkeepBest_lifted (os : Os) (started : os.Started) (H : Type) (enc : TypeId × Value → H) :
    ReturnsInHanded {} Try.checked os 12 .any (Rows.upkeepBestSpec.pre6 enc Try.prog Try.f12 Rows.upkeepBestRow.domain false) (Rows.upkeepBestSpec.post enc Try.prog Try.f12 false true false false) := by
  refine returnsInHanded_of_change (C := Try.checked) Try.own started (by kernel_rfl) Try.func12
    (ChangeSpec.witness6 (enc := enc) (C := Try.checked) false ⟨#[], #[.agg #[.int .i64 0, .int .i64 0, .slice none 0 0, .slice none 0 0, .int .i64 0, .int .i64 0, .int .i64 0, .int .i64 0, .int .i64 0, .int .i64 0], .slice none 0 0], []⟩ 8 (by kernel_rfl) (by kernel_rfl) (by kernel_rfl) (by kernel_rfl)) ?_
  intro W base args ds gs before hval0 hW _ _
  have hval : ∀ (j : Nat) t v, Try.f12.params[j]? = some t → args[j]? = some v → Value.okWide Try.prog W .any base t v := hval0
  have hW' := hW
  obtain ⟨p, q, hA0, hV, rfl, hfz, hnd⟩ := hW
  have hA : DataW.TrodAll enc Try.prog W 0 (fun _ => true) true Try.f12.params.toList args.toList ds p := hA0
  rw [Try.params12] at hA hval
  obtain ⟨v0, v1, d0, d1, p0, p1, rfl, rfl, rfl, h0, h1⟩ := trodAll_two hA
  obtain ⟨rfl, rfl⟩ := trodVars_none hV
  obtain ⟨t, A, n, c, A', n', c', e0, hT, b0⟩ := (reads_of h0).task
  have e0' := agg_list (agg_of Try.underlying29 (hval 0 29 v0 rfl rfl)) e0
  subst e0'
  have r1 := reads_of h1
  rw [one_slice Try.underlying33 (hval 1 33 v1 rfl rfl)] at r1
  obtain ⟨As, m, cs, ss, rfl, k1, k1', hs, x1⟩ := r1.ints
  refine (UpkeepBest_any t ss A n c A' n' c' As m cs W hT hs).mono fun e W' ⟨he, hb⟩ => ?_
  subst he
  exact ⟨_, rfl, law_post rfl (by kernel_rfl) (by rw [Try.params12]; exact fun t ht => by simp at ht; rcases ht with rfl | rfl <;> exact ⟨by kernel_rfl, of_decide_eq_true (by kernel_rfl)⟩) hW' rfl hb⟩

theorem upkeepBest_holds : Rows.UpkeepBestSaid :=
  OpenClaim.holds_of_wide 12 Try.f12 rfl rfl rfl rfl rfl rfl rfl ⟨rfl, rfl, rfl, rfl, rfl⟩ rfl rfl rfl rfl rfl (by kernel_rfl) Try.func12 (by kernel_rfl)
    (of_decide_eq_true (by kernel_rfl)) (by unfold Func.isWrapper; first | (rw [if_pos (by decide +kernel)]; kernel_rfl) | (rw [if_neg (by decide +kernel)]; exact ⟨rfl, rfl⟩))
    (fun os started H enc _ => upkeepBest_lifted os started H enc)

#print axioms upkeepBest_holds

end Go.Proofs.Ytkkajemahehoaaa
