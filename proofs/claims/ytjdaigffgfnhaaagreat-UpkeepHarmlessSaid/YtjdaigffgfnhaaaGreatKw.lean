/-
  UpkeepHarmless, for every record, window and task of closing that can be read: the law returns true, and its arguments read as they did. No condition.
-/
import Derived.Test.YtjdaigffgfnhaaaGreatKu
import Derived.Test.YtjdaigffgfnhaaaGreatKr
namespace Go.Proofs.YtjdaigffgfnhaaaGreat
open Go.ChangeShapes Go.WideShapes Go.RowKit

set_option maxRecDepth 100000 in
theorem upkeepHarmless_lifted (os : Os) (started : os.Started) (H : Type) (enc : TypeId × Value → H) :
    ReturnsInHanded {} Tryz.checked os 3 .any (Rows.upkeepHarmlessSpec.pre6 enc Tryz.prog Tryz.f3 Rows.upkeepHarmlessRow.domain false) (Rows.upkeepHarmlessSpec.post enc Tryz.prog Tryz.f3 false true false false) := by
  refine returnsInHanded_of_change (C := Tryz.checked) Tryz.own started (by kernel_rfl) Tryz.func3
    (ChangeSpec.witness6 (enc := enc) (C := Tryz.checked) false ⟨#[], #[.agg #[.int .i64 0, .int .i64 0, .slice none 0 0], .agg #[.int .i64 0, .int .i64 0, .int .i64 0, .int .i64 0], .agg #[.slice none 0 0, .int .i64 0, .int .i64 0, .int .i64 0, .slice none 0 0, .slice none 0 0, .slice none 0 0, .slice none 0 0, .int .i64 0, .int .i64 0, .int .i64 0]], []⟩ 8 (by kernel_rfl) (by kernel_rfl) (by kernel_rfl) (by kernel_rfl)) ?_
  intro W base args ds gs before hval0 hW _ _
  have hval : ∀ (j : Nat) t v, Tryz.f3.params[j]? = some t → args[j]? = some v → Value.okWide Tryz.prog W .any base t v := hval0
  have hW' := hW
  obtain ⟨p, q, hA0, hV, rfl, hfz, hnd⟩ := hW
  have hA : DataW.TrodAll enc Tryz.prog W 0 (fun _ => true) true Tryz.f3.params.toList args.toList ds p := hA0
  rw [Tryz.params3] at hA hval
  obtain ⟨v0, v1, v2, d0, d1, d2, p0, p1, p2, rfl, rfl, rfl, h0, h1, h2⟩ := trodAll_three hA
  obtain ⟨rfl, rfl⟩ := trodVars_none hV
  obtain ⟨r, A, n, c, e0, hnc, hcm, hr, _, _⟩ := (reads_of h0).record
  obtain ⟨d, m, l, y, e1, _⟩ := (reads_of h1).window
  obtain ⟨t, mm, HH, RR, e2, hin⟩ := (reads_of h2).cltask
  have e0' := agg_list (agg_of Tryz.underlying24 (hval 0 24 v0 rfl rfl)) e0
  have e1' := agg_list (agg_of Tryz.underlying26 (hval 1 26 v1 rfl rfl)) e1
  have e2' := agg_list (agg_of Tryz.underlying34 (hval 2 34 v2 rfl rfl)) e2
  subst e0' e1' e2'
  refine (harmless_any r d m l (.int .i64 y) A n c t mm HH RR W hr (Nat.le_trans hnc hcm) hin).mono fun e W' ⟨he, hb⟩ => ?_
  subst he
  exact ⟨_, rfl, law_post rfl (by kernel_rfl) (by rw [Tryz.params3]; exact fun t ht => by simp at ht; rcases ht with rfl | rfl | rfl <;> exact ⟨by kernel_rfl, of_decide_eq_true (by kernel_rfl)⟩) hW' rfl hb⟩

theorem upkeepHarmless_holds : Rows.UpkeepHarmlessSaid :=
  OpenClaim.holds_of_wide 3 Tryz.f3 rfl rfl rfl rfl rfl rfl rfl ⟨rfl, rfl, rfl, rfl, rfl⟩ rfl rfl rfl rfl rfl (by kernel_rfl) Tryz.func3 (by kernel_rfl)
    (of_decide_eq_true (by kernel_rfl)) (by unfold Func.isWrapper; first | (rw [if_pos (by decide +kernel)]; kernel_rfl) | (rw [if_neg (by decide +kernel)]; exact ⟨rfl, rfl⟩))
    (fun os started H enc _ => upkeepHarmless_lifted os started H enc)

#print axioms upkeepHarmless_holds

end Go.Proofs.YtjdaigffgfnhaaaGreat
