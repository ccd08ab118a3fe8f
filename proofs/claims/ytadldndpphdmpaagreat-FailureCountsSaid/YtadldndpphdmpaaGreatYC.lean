/-
  FailureCounts, for every tree and two nodes that can be read: the law returns true, and its arguments read as they did. No condition.
-/
import Derived.Test.YtadldndpphdmpaaGreatLC
import Derived.Test.YtadldndpphdmpaaGreatRk
namespace Go.Proofs.YtadldndpphdmpaaGreat
open Go.ChangeShapes Go.WideShapes Go.RowKit

set_option maxRecDepth 100000 in
theorem failureCounts_lifted (os : Os) (started : os.Started) (H : Type) (enc : TypeId × Value → H) :
    ReturnsInHanded {} Tryz.checked os 4 .any (Rows.failureCountsSpec.pre6 enc Tryz.prog Tryz.f4 Rows.failureCountsRow.domain false) (Rows.failureCountsSpec.post enc Tryz.prog Tryz.f4 false true false false) := by
  refine returnsInHanded_of_change_sized (C := Tryz.checked) Tryz.own started (by kernel_rfl) Tryz.func4
    (ChangeSpec.witness6 (enc := enc) (C := Tryz.checked) false ⟨#[], #[.agg #[.slice none 0 0], .agg #[.int .i64 0, .int .i64 0]], []⟩ 8 (by kernel_rfl) (by kernel_rfl) (by kernel_rfl) (by kernel_rfl)) ?_
  intro W base args ds gs before hval0 hW _ hsz0 _
  have hval : ∀ (j : Nat) t v, Tryz.f4.params[j]? = some t → args[j]? = some v → Value.okWide Tryz.prog W .any base t v := hval0
  have hsz : (DataW.weightsEach Tryz.prog (Tryz.f4.params.toList ++ Rows.failureCountsSpec.plain.varTypes Tryz.prog) (ds ++ gs)).all (· ≤ reachBytes) = true := hsz0
  have hW' := hW
  obtain ⟨p, q, hA0, hV, rfl, hfz, hnd⟩ := hW
  have hA : DataW.TrodAll enc Tryz.prog W 0 (fun _ => true) true Tryz.f4.params.toList args.toList ds p := hA0
  rw [Tryz.params4] at hA hval hsz
  obtain ⟨v0, v1, d0, d1, p0, p1, rfl, rfl, rfl, h0, h1⟩ := trodAll_two hA
  obtain ⟨rfl, rfl⟩ := trodVars_none hV
  obtain ⟨t, A, n, c, ms, e0, hc, hT⟩ := (reads_of h0 (weights_arg hsz (j := 0) rfl rfl)).tree
  have e0' := agg_list (agg_of Tryz.underlying24 (hval 0 24 v0 rfl rfl)) e0
  subst e0'
  obtain ⟨x0, x1, e1, hx0, hx1⟩ := (reads_of h1 (weights_arg hsz (j := 1) rfl rfl)).two
  have e1' := agg_list (arr_of Tryz.underlying33 (hval 1 33 v1 rfl rfl)) e1
  subst e1'
  refine (FailureCounts_any t x0 x1 A n c ms W hT hc).mono fun e W' ⟨he, hb⟩ => ?_
  subst he
  exact ⟨_, rfl, law_post rfl (by kernel_rfl) (by rw [Tryz.params4]; exact fun t ht => by simp at ht; rcases ht with rfl | rfl <;> exact ⟨by kernel_rfl, of_decide_eq_true (by kernel_rfl)⟩) hW' rfl hb⟩

theorem failureCounts_holds : Rows.FailureCountsSaid :=
  OpenClaim.holds_of_wide 4 Tryz.f4 rfl rfl rfl rfl rfl rfl rfl ⟨rfl, rfl, rfl, rfl, rfl⟩ rfl rfl rfl rfl rfl (by kernel_rfl) Tryz.func4 (by kernel_rfl)
    (of_decide_eq_true (by kernel_rfl)) (by unfold Func.isWrapper; first | (rw [if_pos (by decide +kernel)]; kernel_rfl) | (rw [if_neg (by decide +kernel)]; exact ⟨rfl, rfl⟩))
    (fun os started H enc _ => failureCounts_lifted os started H enc)

#print axioms failureCounts_holds
end Go.Proofs.YtadldndpphdmpaaGreat

