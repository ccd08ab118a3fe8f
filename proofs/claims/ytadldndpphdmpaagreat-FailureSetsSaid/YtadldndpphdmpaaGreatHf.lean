/- What holds of causes, in plain. -/
import Derived.Test.YtadldndpphdmpaaGreatHe
import Derived.Test.YtadldndpphdmpaaGreatP4
namespace Go.Proofs.YtadldndpphdmpaaGreat

abbrev causeP (t : List Nd) (node : Int) (s : Nat) : Bool := (eff t s).testBit node.toNat
theorem causes_err {t : List Nd} {node : Int} (h : (causesT t node).2 ≠ 0) : (causesT t node).1 = [] := by
  unfold causesT at h ⊢
  by_cases c : (aboutT t node []).1 ≠ 0
  · rw [if_pos c]
  · rw [if_neg c] at h; exact absurd rfl h
theorem causes_ask (t : List Nd) (node : Int) : (causesT t node).2 = askT t node := by
  rw [← ask_about]
  unfold causesT
  by_cases c : (aboutT t node []).1 ≠ 0
  · rw [if_pos c]
  · rw [if_neg c]; exact (Classical.byContradiction c : (aboutT t node []).1 = 0).symm
theorem causes_ok {t : List Nd} {node : Int} (h : (causesT t node).2 = 0) : TrOk t ∧ 0 ≤ node ∧ node < t.length ∧ (causesT t node).1 = (leastN (causeP t node) (bas t)).map bitsL := by
  rw [causes_ask] at h
  obtain ⟨h1, h2, h3⟩ := ask_ok h
  refine ⟨h1, h2, h3, ?_⟩
  unfold causesT
  rw [if_neg (by rw [ask_about, h]; decide)]
theorem guards_ask (t : List Nd) (node : Int) : (guardsT t node).2 = askT t node := by
  rw [← ask_about]
  unfold guardsT
  by_cases c : (aboutT t node []).1 ≠ 0
  · rw [if_pos c]
  · rw [if_neg c]; exact (Classical.byContradiction c : (aboutT t node []).1 = 0).symm
theorem guards_ok {t : List Nd} {node : Int} (h : (guardsT t node).2 = 0) : TrOk t ∧ 0 ≤ node ∧ node < t.length ∧ (guardsT t node).1 = (leastN (soundB t node.toNat) (bas t)).map bitsL := by
  rw [guards_ask] at h
  obtain ⟨h1, h2, h3⟩ := ask_ok h
  refine ⟨h1, h2, h3, ?_⟩
  unfold guardsT
  rw [if_neg (by rw [ask_about, h]; decide)]
/-- A cause: a set of basic nodes. -/
theorem cause_get {t : List Nd} {node : Int} (h : (causesT t node).2 = 0) {i : Nat} {c : List Int} (hc : (causesT t node).1[i]? = some c) : ∃ s, c = bitsL s ∧ Sub t s ∧ causeP t node s = true ∧ ∀ j, s.testBit j = true → causeP t node (sub1 s j) = false := by
  obtain ⟨h1, h2, h3, h4⟩ := causes_ok h
  rw [h4, List.getElem?_map, Option.map_eq_some_iff] at hc
  obtain ⟨s, hs, rfl⟩ := hc
  obtain ⟨h5, h6⟩ := mem_leastN.1 (List.mem_of_getElem? hs)
  have h7 := sub_bas_iff.1 h5
  obtain ⟨h8, h9⟩ := (minB_iff (sub_lt_64 h1 h7)).1 h6
  exact ⟨s, rfl, h7, h8, h9⟩
theorem cause_eff {t : List Nd} (h : TrOk t) {s : Nat} (hs : Sub t s) (node : Int) (hn : 0 ≤ node) : decide (node ∈ bitsL (eff t s)) = causeP t node s := by
  have h64 : eff t s < 2 ^ 64 := by have := pow_40 h (eff_lt h hs); omega
  rw [Bool.eq_iff_iff, decide_eq_true_eq, mem_bitsL h64]
  exact ⟨fun h => h.2, fun h => ⟨hn, h⟩⟩
theorem sub1_Sub {t : List Nd} {s : Nat} (hs : Sub t s) (i : Nat) : Sub t (sub1 s i) := fun j hj => hs j (sub1_sub s i j hj)
theorem subN_lst {t : List Nd} {l : List Int} (hl : setT t l = 0) {s : Nat} (h64 : s < 2 ^ 64) : (bitsL s).all (fun x => decide (x ∈ l)) = true ↔ SubN s (lstGo t l 0).2 := by
  rw [List.all_eq_true]
  constructor
  · intro h j hj
    rw [lst_bits hl, decide_eq_true_eq]
    have := h (j : Int) ((mem_bitsL h64).2 ⟨by omega, by simpa using hj⟩)
    simpa using this
  · intro h x hx
    obtain ⟨h0, h1⟩ := (mem_bitsL h64).1 hx
    have := h _ h1
    rw [lst_bits hl, decide_eq_true_eq] at this
    rw [decide_eq_true_eq]
    rwa [show ((x.toNat : Nat) : Int) = x by omega] at this
theorem caused {t : List Nd} {node : Int} (h : (causesT t node).2 = 0) {l : List Int} (hl : (effectsT t l).1 = 0) :
    ((causesT t node).1.any fun c => c.all fun x => decide (x ∈ l)) = decide (node ∈ (effectsT t l).2) := by
  obtain ⟨h1, h2, h3, h4⟩ := causes_ok h
  obtain ⟨_, h6, h7⟩ := effectsT_ok hl
  rw [h7, cause_eff h1 (lst_sub l) node h2, h4, Bool.eq_iff_iff, List.any_eq_true]
  constructor
  · rintro ⟨c, hc, hall⟩
    rw [List.mem_map] at hc
    obtain ⟨s, hs, rfl⟩ := hc
    obtain ⟨h8, h9⟩ := mem_leastN.1 hs
    have h10 := sub_bas_iff.1 h8
    have h64 := sub_lt_64 h1 h10
    exact eff_mono h1 h10 (lst_sub l) ((subN_lst h6 h64).1 hall) _ ((minB_iff h64).1 h9).1
  · intro hp
    obtain ⟨m, h8, h9⟩ := least_below (p := causeP t node) (bas_lt_64 h1) _ (sub_bas_iff.2 (lst_sub l)) hp
    have h10 := sub_bas_iff.1 (mem_leastN.1 h8).1
    exact ⟨bitsL m, List.mem_map.2 ⟨m, h8, rfl⟩, (subN_lst h6 (sub_lt_64 h1 h10)).2 h9⟩
theorem causes_some {t : List Nd} {node : Int} (h : (causesT t node).2 = 0) : (causesT t node).1 ≠ [] := fun e => by
  obtain ⟨h1, h2, h3, h4⟩ := causes_ok h
  obtain ⟨m, h5, _⟩ := least_below (p := causeP t node) (bas_lt_64 h1) (bas t) (fun _ h => h) (eff_bas h1 (by omega))
  have : bitsL m ∈ (causesT t node).1 := by rw [h4]; exact List.mem_map.2 ⟨m, h5, rfl⟩
  rw [e] at this
  simp at this
end Go.Proofs.YtadldndpphdmpaaGreat
