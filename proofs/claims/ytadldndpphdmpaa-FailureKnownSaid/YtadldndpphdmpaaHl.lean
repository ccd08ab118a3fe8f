/- Plain: guards, causes and proofs. -/
import Derived.Test.YtadldndpphdmpaaP5
import Derived.Test.YtadldndpphdmpaaHd
import Derived.Test.YtadldndpphdmpaaHe
namespace Go.Proofs.Ytadldndpphdmpaa

/-- Whether a set of nodes shares none with a guard. -/
def disL (s g : List Int) : Bool := s.all fun x => !decide (x ∈ g)
theorem diff_sub (t : List Nd) (s : Nat) : Sub t (diffN (bas t) s) := sub_bas t s
/-- A sound guard and a set apart from it: the node does not fail. -/
theorem sound_apart {t : List Nd} (h : TrOk t) {s g y : Nat} (hs : Sub t s) (ha : ∀ j, s.testBit j = true → g.testBit j = false) (hg : soundB t y g = true) : (eff t s).testBit y = false := by
  unfold soundB at hg
  rw [Bool.not_eq_true'] at hg
  rw [← Bool.not_eq_true]
  refine fun c => Bool.false_ne_true (hg.symm.trans (eff_mono h hs (diff_sub t g) (fun j hj => ?_) y c))
  rw [diffN_bit, ha j hj, bas_bit, hs j hj]
  rfl
/-- A greater guard is sound. -/
theorem sound_mono {t : List Nd} (h : TrOk t) {a b y : Nat} (hab : SubN a b) (ha : soundB t y a = true) : soundB t y b = true := by
  unfold soundB at ha ⊢
  rw [Bool.not_eq_true'] at ha ⊢
  rw [← Bool.not_eq_true]
  refine fun c => Bool.false_ne_true (ha.symm.trans (eff_mono h (diff_sub t b) (diff_sub t a) (fun j hj => ?_) y c))
  rw [diffN_bit, Bool.and_eq_true, Bool.not_eq_true'] at hj ⊢
  refine ⟨hj.1, ?_⟩
  rw [← Bool.not_eq_true]
  exact fun c => Bool.false_ne_true (hj.2.symm.trans (hab j c))
theorem dis_and {t : List Nd} {s g : List Int} (hs : setT t s = 0) (hg : setT t g = 0) : decide ((lstGo t s 0).2 &&& (lstGo t g 0).2 = 0) = disL s g := by
  unfold disL
  rw [Bool.eq_iff_iff, decide_eq_true_eq, List.all_eq_true]
  constructor
  · intro h x hx
    have hb := (((lstGo_ok s 0).1 hs).1 x hx).1
    obtain ⟨x0, _, _⟩ := basI_nat hb
    obtain ⟨k, rfl⟩ : ∃ k : Nat, x = (k : Int) := ⟨x.toNat, by omega⟩
    have h1 := congrArg (fun n => n.testBit k) h
    simp only [Nat.testBit_and, Nat.zero_testBit] at h1
    rw [lst_bits hs, lst_bits hg] at h1
    simp [hx] at h1
    simpa using h1
  · intro h
    refine Nat.eq_of_testBit_eq fun j => ?_
    rw [Nat.testBit_and, Nat.zero_testBit, lst_bits hs, lst_bits hg]
    by_cases hj : (j : Int) ∈ s
    · have := h _ hj
      simp at this
      simp [this]
    · simp [hj]
theorem proves_eq {t : List Nd} {y : Int} {s g : List Int} (ha : askT t y = 0) (hs : setT t s = 0) (hg : setT t g = 0) : provesT t y s g = (disL s g && soundB t y.toNat (lstGo t g 0).2, 0) := by
  unfold provesT
  rw [if_neg (by rw [ask_about2, if_neg (fun c => c ha), if_neg (fun c => c hs)]; exact fun c => c hg), dis_and hs hg]
theorem setT_nil (t : List Nd) : setT t [] = 0 := rfl
theorem proves_nil {t : List Nd} {y : Int} {g : List Int} (ha : askT t y = 0) (hg : setT t g = 0) : provesT t y [] g = (soundB t y.toNat (lstGo t g 0).2, 0) := by
  rw [proves_eq ha (setT_nil t) hg]; rfl
theorem proves_nil_err {t : List Nd} {y : Int} {g : List Int} (h : (provesT t y [] g).2 = 0) : TrOk t ∧ 0 ≤ y ∧ y < t.length ∧ askT t y = 0 ∧ setT t g = 0 := by
  unfold provesT at h
  by_cases c : (aboutT t y [[], g]).1 ≠ 0
  · rw [if_pos c] at h; exact absurd h c
  · obtain ⟨_, _, h3, h4⟩ := about_set2 (Classical.byContradiction c)
    obtain ⟨h5, h6, h7⟩ := ask_ok h4
    exact ⟨h5, h6, h7, h4, h3⟩
/-- What is proved with the set apart does not fail. -/
theorem guarded1 {t : List Nd} {y : Int} {s g : List Int} (h1 : (provesT t y [] g).2 = 0) (h2 : (effectsT t s).1 = 0) (hp : (provesT t y [] g).1 = true) (hd : disL s g = true) : y ∉ (effectsT t s).2 := by
  obtain ⟨hT, y0, y1, ha, hg⟩ := proves_nil_err h1
  obtain ⟨_, hs, _⟩ := effectsT_ok h2
  rw [proves_nil ha hg] at hp
  rw [mem_eff h2]
  rintro ⟨_, hc⟩
  have := sound_apart hT (lst_sub s) (g := (lstGo t g 0).2) (y := y.toNat) (fun j hj => by
    rw [lst_bits hs, decide_eq_true_eq] at hj
    rw [lst_bits hg, decide_eq_false_iff_not]
    have := List.all_eq_true.1 hd _ hj
    simpa using this) hp
  rw [this] at hc
  exact Bool.false_ne_true hc
/-- The guards: each is proved; each that lies in the guard proves the node with it. -/
theorem guard_ok {t : List Nd} {y : Int} {gd : List Int} (ha : askT t y = 0) (hm : gd ∈ (guardsT t y).1) : setT t gd = 0 ∧ soundB t y.toNat (lstGo t gd 0).2 = true := by
  unfold guardsT at hm
  rw [ask_about, if_neg (fun c => c ha), List.mem_map] at hm
  obtain ⟨m, hm, rfl⟩ := hm
  obtain ⟨hT, y0, y1⟩ := ask_ok ha
  obtain ⟨h1, h2⟩ := mem_leastN.1 hm
  obtain ⟨h3, h4⟩ := setT_bits hT (sub_bas_iff.1 h1)
  have h64 := sub_lt_64 hT (sub_bas_iff.1 h1)
  rw [h4]
  exact ⟨h3, ((minB_iff h64).1 h2).1⟩
theorem cause_ok {t : List Nd} {y : Int} {cs : List Int} (ha : askT t y = 0) (hm : cs ∈ (causesT t y).1) : setT t cs = 0 ∧ (eff t (lstGo t cs 0).2).testBit y.toNat = true := by
  unfold causesT at hm
  rw [ask_about, if_neg (fun c => c ha), List.mem_map] at hm
  obtain ⟨m, hm, rfl⟩ := hm
  obtain ⟨hT, y0, y1⟩ := ask_ok ha
  obtain ⟨h1, h2⟩ := mem_leastN.1 hm
  obtain ⟨h3, h4⟩ := setT_bits hT (sub_bas_iff.1 h1)
  have h64 := sub_lt_64 hT (sub_bas_iff.1 h1)
  rw [h4]
  exact ⟨h3, ((minB_iff h64).1 h2).1⟩
theorem guards_err {t : List Nd} {y : Int} (ha : askT t y = 0) : (guardsT t y).2 = 0 ∧ (causesT t y).2 = 0 := by
  unfold guardsT causesT
  rw [ask_about, if_neg (fun c => c ha), if_neg (fun c => c ha)]
  exact ⟨rfl, rfl⟩
/-- Each guard meets each cause. -/
theorem guard_meets {t : List Nd} {y : Int} (ha : askT t y = 0) {gd cs : List Int} (hg : gd ∈ (guardsT t y).1) (hc : cs ∈ (causesT t y).1) : (cs.any fun x => decide (x ∈ gd)) = true := by
  obtain ⟨hT, y0, y1⟩ := ask_ok ha
  obtain ⟨g1, g2⟩ := guard_ok ha hg
  obtain ⟨c1, c2⟩ := cause_ok ha hc
  rw [← Bool.not_eq_false]
  intro hn
  rw [List.any_eq_false] at hn
  have := sound_apart hT (lst_sub cs) (g := (lstGo t gd 0).2) (y := y.toNat) (fun j hj => by
    rw [lst_bits c1, decide_eq_true_eq] at hj
    rw [lst_bits g1, decide_eq_false_iff_not]
    have := hn _ hj
    simpa using this) g2
  rw [this] at c2
  exact Bool.false_ne_true c2
/-- A guard within a greater guard: the greater one proves. -/
theorem guard_within {t : List Nd} {y : Int} {gd g : List Int} (ha : askT t y = 0) (hm : gd ∈ (guardsT t y).1) (hg : setT t g = 0) (hw : (gd.all fun x => decide (x ∈ g)) = true) : soundB t y.toNat (lstGo t g 0).2 = true := by
  obtain ⟨hT, _, _⟩ := ask_ok ha
  obtain ⟨g1, g2⟩ := guard_ok ha hm
  exact sound_mono hT (lst_subN g1 hg fun n hn => by simpa using List.all_eq_true.1 hw n hn) g2
end Go.Proofs.Ytadldndpphdmpaa
