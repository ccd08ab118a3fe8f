/-
  FailureRuns, for every tree, spans and number of ticks that can be read: the law returns true, and its arguments read as they did. No condition.
-/
import Derived.Test.YtadldndpphdmpaaL11
import Derived.Test.YtadldndpphdmpaaRk
namespace Go.Proofs.Ytadldndpphdmpaa
open Go.ChangeShapes Go.WideShapes Go.RowKit

set_option maxRecDepth 100000 in
theorem failureRuns_lifted (os : Os) (started : os.Started) (H : Type) (enc : TypeId × Value → H) :
    ReturnsInHanded {} Try.checked os 11 .any (Rows.failureRunsSpec.pre6 enc Try.prog Try.f11 Rows.failureRunsRow.domain false) (Rows.failureRunsSpec.post enc Try.prog Try.f11 false true false false) := by
  refine returnsInHanded_of_change_sized (C := Try.checked) Try.own started (by kernel_rfl) Try.func11
    (ChangeSpec.witness6 (enc := enc) (C := Try.checked) false ⟨#[], #[.agg #[.slice none 0 0], .slice none 0 0, .int .i64 0], []⟩ 8 (by kernel_rfl) (by kernel_rfl) (by kernel_rfl) (by kernel_rfl)) ?_
  intro W base args ds gs before hval0 hW _ hsz0 _
  have hval : ∀ (j : Nat) t v, Try.f11.params[j]? = some t → args[j]? = some v → Value.okWide Try.prog W .any base t v := hval0
  have hsz : (DataW.weightsEach Try.prog (Try.f11.params.toList ++ Rows.failureRunsSpec.plain.varTypes Try.prog) (ds ++ gs)).all (· ≤ reachBytes) = true := hsz0
  have hW' := hW
  obtain ⟨p, q, hA0, hV, rfl, hfz, hnd⟩ := hW
  have hA : DataW.TrodAll enc Try.prog W 0 (fun _ => true) true Try.f11.params.toList args.toList ds p := hA0
  rw [Try.params11] at hA hval hsz
  obtain ⟨v0, v1, v2, d0, d1, d2, p0, p1, p2, rfl, rfl, rfl, h0, h1, h2⟩ := trodAll_three hA
  obtain ⟨rfl, rfl⟩ := trodVars_none hV
  obtain ⟨t, A, n, c, ms, e0, hc, hT⟩ := (reads_of h0 (weights_arg hsz (j := 0) rfl rfl)).tree
  have e0' := agg_list (agg_of Try.underlying24 (hval 0 24 v0 rfl rfl)) e0
  subst e0'
  have r1 := (reads_of h1 (weights_arg hsz (j := 1) rfl rfl))
  rw [one_slice Try.underlying56 (hval 1 56 v1 rfl rfl)] at r1
  obtain ⟨L, cl, l, rfl, hcl, hcm, hl8, hL, hLi⟩ := r1.spans
  have hl : l.length ≤ 1000000000000000 := by unfold reachBytes at hl8; omega
  have r2 := (reads_of h2 (weights_arg hsz (j := 2) rfl rfl))
  rw [one_int Try.underlying3 (hval 2 3 v2 rfl rfl)] at r2
  obtain ⟨y, rfl, hy⟩ := r2.i64
  refine (FailureRuns_any t l y A n c ms L cl W hT hc hL hl).mono fun e W' ⟨he, hb⟩ => ?_
  subst he
  exact ⟨_, rfl, law_post rfl (by kernel_rfl) (by rw [Try.params11]; exact fun t ht => by simp at ht; rcases ht with rfl | rfl | rfl <;> exact ⟨by kernel_rfl, of_decide_eq_true (by kernel_rfl)⟩) hW' rfl hb⟩

theorem failureRuns_holds : Rows.FailureRunsSaid :=
  OpenClaim.holds_of_wide 11 Try.f11 rfl rfl rfl rfl rfl rfl rfl ⟨rfl, rfl, rfl, rfl, rfl⟩ rfl rfl rfl rfl rfl (by kernel_rfl) Try.func11 (by kernel_rfl)
    (of_decide_eq_true (by kernel_rfl)) (by unfold Func.isWrapper; first | (rw [if_pos (by decide +kernel)]; kernel_rfl) | (rw [if_neg (by decide +kernel)]; exact ⟨rfl, rfl⟩))
    (fun os started H enc _ => failureRuns_lifted os started H enc)

#print axioms failureRuns_holds

end Go.Proofs.Ytadldndpphdmpaa
