/- As Mt, within a round of a range over a function. -/
import Derived.Test.YtjdaigffgfnhaaaGreatMt
import Derived.Test.YtjdaigffgfnhaaaGreatIt
namespace Go.Proofs.YtjdaigffgfnhaaaGreat
open Go.RowKit Go.Shelf

attribute [local go_sem] Oper.semAt_some

theorem wpOpIn_of_wpOp {P : Program} {ops : Array Oper} {Q : Exit → Act → World → Prop} {l n i : Nat} (hQ : ¬ LetsOut Q) (hd : noDefer ops = true) {K : Act → World → Prop} {a : Act} {w : World} (h : wpOp P ops Q i K a w) :
    wpOpIn (Fence.wide.inRound l) n P ops Q i K a w := by
  unfold wpOp at h
  unfold wpOpIn
  split
  · rename_i e
    simpa [e] using h
  · rename_i o ho
    simp only [ho] at h
    split
    · rename_i hw
      rw [if_pos hw] at h
      rcases h with h | ⟨_, h⟩
      · refine ⟨fun _ _ => trivial, ?_⟩
        rw [Oper.semAt_eq _ _ _ (noDefer_spec hd ho)]
        unfold Oper.wp at h
        generalize (execOp a.eval o).run P w = r at *
        cases r with
        | ok x w' =>
          cases x with
          | enter f args => exact ⟨fun h => (by cases h), CallsIn.inRound l (callsIn_wide.2 h)⟩
          | row row args => exact ⟨fun h => (by cases h), fun c cs _ => let ⟨v, w', r, s⟩ := h c cs; ⟨v, w', r, stepsIn_wide.2 s⟩⟩
          | _ => first | exact h | exact (h : False).elim
        | halt x w' => cases x <;> first | exact h | exact (h : False).elim
      · exact absurd h hQ
    · rename_i hw
      rw [if_neg hw] at h
      exact ⟨fun _ _ => trivial, h⟩
theorem wpAnyIn_of_wpAny {P : Program} {md : Region.Mode} {ops : Array Oper} {Q : Exit → Act → World → Prop} {l n : Nat} (hQ : ¬ LetsOut Q) (hd : noDefer ops = true) : ∀ (f : Nat) (listed : Array Bool) (a : Act) (w : World),
    wpAny P md ops Q f listed a w → wpAnyIn (Fence.wide.inRound l) n P md ops Q f listed a w
  | 0, _, _, _, h => h
  | f + 1, _, _, _, h => ⟨h.1, fun i hi => wpOpIn_mono (fun a' w' h' => wpAnyIn_of_wpAny hQ hd f _ a' w' h') (wpOpIn_of_wpOp hQ hd (h.2 i hi))⟩

/-- As wpIn_region_trW, within a round. -/
theorem wpIn_region_trR {P : Program} {l n : Nat} {id : Nat} {Q : Exit → Act → World → Prop} {a : Act} {w : World} {ol : List Oper} (S : World → Prop) (m : Nat) (t : TrN) (hm : P.follows .mixedOrders = true)
    (hd : noDefer ol.toArray = true)
    (hB : (Region.noSelect ol.toArray && decide (m < ol.toArray.size) && Region.sinkB .any ol.toArray m && Region.chainB .any ol.toArray m && trB .any ol.toArray m (t.fill ol) ol.length true (Array.replicate ol.toArray.size false)) = true)
    (h : wpTr P ol.toArray (OnlyN Q) S m (t.fill ol) a w.drew) : (Code.region id ol.toArray true).wpIn (Fence.wide.inRound l) n P Q a w := by
  simp only [Bool.and_eq_true, decide_eq_true_eq] at hB
  obtain ⟨⟨⟨⟨hsel, hn⟩, hs⟩, hc⟩, hmix⟩ := hB
  have inv : HeadInv .any ol.toArray m (Array.replicate ol.toArray.size false) :=
    ⟨by simp, fun j oj _ hl => (by rw [getD_replicate_false] at hl; cases hl), fun t _ ht => getD_in (by simpa using ht) (getD_replicate_false _ _)⟩
  have H := anyT_of_tr (S := S) hsel hs hc hn (fun _ _ _ _ _ h => h) _ ol.length true _ a w.drew (TrN.fill_ok ol t) (fun _ => inv) hmix h
  have hA := any_of_anyT _ _ _ _ H
  refine wpIn_mono ?_ OnlyN.imp
  refine wpIn_region_any hm (wpAnyIn_of_wpAny OnlyN.letsOut hd _ _ _ _ ?_)
  simpa using hA
end Go.Proofs.YtjdaigffgfnhaaaGreat
