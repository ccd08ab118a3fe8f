/-
  FailureWeights, for every tree and two nodes that can be read: the law returns true, and its arguments read as they did. No condition.
-/
import Derived.Test.YtadldndpphdmpaaL16
import Derived.Test.YtadldndpphdmpaaRk
namespace Go.Proofs.Ytadldndpphdmpaa
open Go.ChangeShapes Go.WideShapes Go.RowKit

set_option maxRecDepth 100000 in
theorem failureWeights_lifted (os : Os) (started : os.Started) (H : Type) (enc : TypeId × Value → H) :
    ReturnsInHanded {} Try.checked os 16 .any (Rows.failureWeightsSpec.pre6 enc Try.prog Try.f16 Rows.failureWeightsRow.domain false) (Rows.failureWeightsSpec.post enc Try.prog Try.f16 false true false false) := by
  refine returnsInHanded_of_change_sized (C := Try.checked) Try.own started (by kernel_rfl) Try.func16
    (ChangeSpec.witness6 (enc := enc) (C := Try.checked) false ⟨#[], #[.agg #[.slice none 0 0], .agg #[.int .i64 0, .int .i64 0]], []⟩ 8 (by kernel_rfl) (by kernel_rfl) (by kernel_rfl) (by kernel_rfl)) ?_
  intro W base args ds gs before hval0 hW _ hsz0 _
  have hval : ∀ (j : Nat) t v, Try.f16.params[j]? = some t → args[j]? = some v → Value.okWide Try.prog W .any base t v := hval0
  have hsz : (DataW.weightsEach Try.prog (Try.f16.params.toList ++ Rows.failureWeightsSpec.plain.varTypes Try.prog) (ds ++ gs)).all (· ≤ reachBytes) = true := hsz0
  have hW' := hW
  obtain ⟨p, q, hA0, hV, rfl, hfz, hnd⟩ := hW
  have hA : DataW.TrodAll enc Try.prog W 0 (fun _ => true) true Try.f16.params.toList args.toList ds p := hA0
  rw [Try.params16] at hA hval hsz
  obtain ⟨v0, v1, d0, d1, p0, p1, rfl, rfl, rfl, h0, h1⟩ := trodAll_two hA
  obtain ⟨rfl, rfl⟩ := trodVars_none hV
  obtain ⟨t, A, n, c, ms, e0, hc, hT⟩ := (reads_of h0 (weights_arg hsz (j := 0) rfl rfl)).tree
  have e0' := agg_list (agg_of Try.underlying24 (hval 0 24 v0 rfl rfl)) e0
  subst e0'
  obtain ⟨x0, x1, e1, hx0, hx1⟩ := (reads_of h1 (weights_arg hsz (j := 1) rfl rfl)).two
  have e1' := agg_list (arr_of Try.underlying36 (hval 1 36 v1 rfl rfl)) e1
  subst e1'
  refine (FailureWeights_any t x0 x1 A n c ms W hT hc).mono fun e W' ⟨he, hb⟩ => ?_
  subst he
  exact ⟨_, rfl, law_post rfl (by kernel_rfl) (by rw [Try.params16]; exact fun t ht => by simp at ht; rcases ht with rfl | rfl <;> exact ⟨by kernel_rfl, of_decide_eq_true (by kernel_rfl)⟩) hW' rfl hb⟩

theorem failureWeights_holds : Rows.FailureWeightsSaid :=
  OpenClaim.holds_of_wide 16 Try.f16 rfl rfl rfl rfl rfl rfl rfl ⟨rfl, rfl, rfl, rfl, rfl⟩ rfl rfl rfl rfl rfl (by kernel_rfl) Try.func16 (by kernel_rfl)
    (of_decide_eq_true (by kernel_rfl)) (by unfold Func.isWrapper; first | (rw [if_pos (by decide +kernel)]; kernel_rfl) | (rw [if_neg (by decide +kernel)]; exact ⟨rfl, rfl⟩))
    (fun os started H enc _ => failureWeights_lifted os started H enc)

#print axioms failureWeights_holds

end Go.Proofs.Ytadldndpphdmpaa
