/- Plain: how many sets make a node fail, and the weight of a basic node. -/
import Derived.Test.YtadldndpphdmpaaHm
namespace Go.Proofs.Ytadldndpphdmpaa

/-- How many sets of basic nodes make a node fail. -/
def cntN (t : List Nd) (y : Nat) : Nat := ((subL (bas t)).filter fun s => (eff t s).testBit y).length
def othN (t : List Nd) (b : Nat) : Nat := diffN (bas t) (withN 0 b)
/-- For how many sets of the others a node decides. -/
def wtB (t : List Nd) (y b s : Nat) : Bool := (eff t (withN s b)).testBit y && !(eff t s).testBit y
def wtN (t : List Nd) (y b : Nat) : Nat := ((subL (othN t b)).filter (wtB t y b)).length
def countT (t : List Nd) (y : Int) : Int × Int := if askT t y ≠ 0 then (0, askT t y) else ((cntN t y.toNat : Int), 0)
def weightT (t : List Nd) (y b : Int) : Int × Int := if askT t y ≠ 0 then (0, askT t y) else if basI t b = false then (0, 4) else ((wtN t y.toNat b.toNat : Int), 0)

theorem oth_bit (t : List Nd) (b j : Nat) : (othN t b).testBit j = (isBas t j && !decide (b = j)) := by
  unfold othN
  rw [diffN_bit, bas_bit, withN_bit]
  simp
theorem oth_sub {t : List Nd} {b s : Nat} : SubN s (othN t b) ↔ Sub t s ∧ s.testBit b = false := by
  constructor
  · intro h
    refine ⟨fun j hj => ?_, ?_⟩
    · have := h j hj
      rw [oth_bit, Bool.and_eq_true] at this
      exact this.1
    · rw [← Bool.not_eq_true]
      intro c
      have := h b c
      rw [oth_bit] at this
      simp at this
  · rintro ⟨h1, h2⟩ j hj
    rw [oth_bit, h1 j hj]
    have : b ≠ j := fun e => by rw [← e, h2] at hj; exact Bool.false_ne_true hj
    simp [this]
theorem wt_pos {t : List Nd} {y b : Nat} : 0 < wtN t y b ↔ ∃ s, Sub t s ∧ s.testBit b = false ∧ wtB t y b s = true := by
  unfold wtN
  rw [List.length_pos_iff_exists_mem]
  constructor
  · rintro ⟨s, hs⟩
    obtain ⟨h1, h2⟩ := List.mem_filter.1 hs
    obtain ⟨h3, h4⟩ := oth_sub.1 (mem_subL.1 h1)
    exact ⟨s, h3, h4, h2⟩
  · rintro ⟨s, h1, h2, h3⟩
    exact ⟨s, List.mem_filter.2 ⟨mem_subL.2 (oth_sub.2 ⟨h1, h2⟩), h3⟩⟩
theorem with_sub1 {s b : Nat} (h : s.testBit b = true) : withN (sub1 s b) b = s := by
  refine Nat.eq_of_testBit_eq fun j => ?_
  rw [withN_bit, sub1_bit]
  by_cases e : b = j
  · subst e; simp [h]
  · simp [e]
/-- A node decides exactly if it is in a cause. -/
theorem wt_cause {t : List Nd} {y : Int} (h : askT t y = 0) {b : Nat} (hb : isBas t b = true) : 0 < wtN t y.toNat b ↔ ∃ c ∈ (causesT t y).1, (b : Int) ∈ c := by
  obtain ⟨hT, y0, y1, c4⟩ := causes_ok (t := t) (node := y) (by rw [causes_ask, h])
  rw [wt_pos, c4]
  have hb64 := bas_lt_64 hT
  constructor
  · rintro ⟨s, hs, hsb, hw⟩
    unfold wtB at hw
    rw [Bool.and_eq_true, Bool.not_eq_true'] at hw
    have hu := hs.with hb
    obtain ⟨m, hm, hmu⟩ := least_below (p := causeP t y) hb64 (withN s b) (sub_bas_iff.2 hu) hw.1
    obtain ⟨m1, m2⟩ := mem_leastN.1 hm
    have m1 := sub_bas_iff.1 m1
    have m64 := sub_lt_64 hT m1
    have hc := ((minB_iff m64).1 m2).1
    refine ⟨bitsL m, List.mem_map_of_mem hm, (mem_bitsL m64).2 ⟨by omega, ?_⟩⟩
    rw [Int.toNat_natCast, ← Bool.not_eq_false]
    intro c
    have : SubN m s := fun j hj => by
      have h1 := hmu j hj
      rw [withN_bit, Bool.or_eq_true, decide_eq_true_eq] at h1
      rcases h1 with h1 | rfl
      · exact h1
      · rw [c] at hj; exact absurd hj Bool.false_ne_true
    exact Bool.false_ne_true (hw.2.symm.trans (eff_mono hT m1 hs this _ hc))
  · rintro ⟨c, hc, hbc⟩
    obtain ⟨m, hm, rfl⟩ := List.mem_map.1 hc
    obtain ⟨m1, m2⟩ := mem_leastN.1 hm
    have m1 := sub_bas_iff.1 m1
    have m64 := sub_lt_64 hT m1
    obtain ⟨q1, q2⟩ := (minB_iff m64).1 m2
    have hbm := ((mem_bitsL m64).1 hbc).2
    rw [Int.toNat_natCast] at hbm
    refine ⟨sub1 m b, sub1_Sub m1 b, by rw [sub1_bit]; simp, ?_⟩
    unfold wtB
    rw [with_sub1 hbm, Bool.and_eq_true, Bool.not_eq_true']
    exact ⟨q1, q2 b hbm⟩
/-- The weight in the dual tree is above 0 exactly if it is in the tree. -/
theorem wt_dual1 {t : List Nd} (hT : TrOk t) {y b : Nat} (hy : y < t.length) (hb : isBas t b = true) (h : 0 < wtN t y b) : 0 < wtN (dualT t) y b := by
  obtain ⟨s, hs, hsb, hw⟩ := wt_pos.1 h
  unfold wtB at hw
  rw [Bool.and_eq_true, Bool.not_eq_true'] at hw
  have hu : Sub t (diffN (bas t) (withN s b)) := diff_sub t _
  refine wt_pos.2 ⟨diffN (bas t) (withN s b), (Sub_map dual_same).2 hu, by rw [diffN_bit, withN_bit]; simp, ?_⟩
  unfold wtB
  rw [dual_cause hT hu hy, dual_cause hT (hu.with hb) hy, Bool.and_eq_true, Bool.not_eq_true']
  unfold soundB
  have e1 : diffN (bas t) (withN (diffN (bas t) (withN s b)) b) = s := by
    refine Nat.eq_of_testBit_eq fun j => ?_
    rw [diffN_bit, withN_bit, diffN_bit, withN_bit, bas_bit]
    by_cases e : b = j
    · subst e; simp [hsb]
    · cases hj : s.testBit j
      · cases isBas t j <;> simp [e]
      · rw [hs j hj]; simp [e]
  have e2 : diffN (bas t) (diffN (bas t) (withN s b)) = withN s b := by
    refine Nat.eq_of_testBit_eq fun j => ?_
    rw [diffN_bit, diffN_bit, withN_bit, bas_bit]
    by_cases e : b = j
    · subst e; simp [hb]
    · cases hj : s.testBit j
      · cases isBas t j <;> simp [e]
      · rw [hs j hj]; simp
  rw [e1, e2, Bool.not_eq_true', Bool.not_eq_false']
  exact ⟨hw.2, hw.1⟩
theorem dual_dual {t : List Nd} (h : TrOk t) : dualT (dualT t) = t := by
  unfold dualT
  rw [List.map_map]
  refine (List.map_congr_left fun x hx => ?_).trans (List.map_id t)
  obtain ⟨i, hi⟩ := List.getElem?_of_mem hx
  have ok := h.nd i x hi
  show dualNd (dualNd x) = x
  obtain ⟨nm, k, ins, c, ho⟩ := x
  unfold dualNd
  dsimp only
  by_cases h2 : k = 2
  · subst h2; rfl
  rw [if_neg h2]
  by_cases h3 : k = 3
  · subst h3; rfl
  rw [if_neg h3]
  by_cases h4 : k = 4
  · subst h4
    rw [if_pos rfl, if_neg h2, if_neg h3, if_pos rfl]
    dsimp only
    congr 1
    omega
  · rw [if_neg h4, if_neg h2, if_neg h3, if_neg h4]
theorem wt_dual {t : List Nd} (hT : TrOk t) {y b : Nat} (hy : y < t.length) (hb : isBas t b = true) : 0 < wtN (dualT t) y b ↔ 0 < wtN t y b := by
  constructor
  · intro h
    have := wt_dual1 (t := dualT t) (dual_tr hT) (y := y) (b := b) (by unfold dualT; rw [List.length_map]; exact hy) (by unfold dualT; rw [isBas_map dual_same]; exact hb) h
    rwa [dual_dual hT] at this
  · exact wt_dual1 hT hy hb
theorem wt_guard {t : List Nd} {y : Int} (h : askT t y = 0) {b : Nat} (hb : isBas t b = true) : 0 < wtN t y.toNat b ↔ ∃ c ∈ (guardsT t y).1, (b : Int) ∈ c := by
  obtain ⟨hT, y0, y1⟩ := ask_ok h
  rw [← wt_dual hT (by omega) hb, wt_cause (dual_ask h) (by unfold dualT; rw [isBas_map dual_same]; exact hb), (dual_lists h).1]
theorem bits_bas {t : List Nd} (h : TrOk t) : (bitsL (bas t)).length = nBas t := by
  refine Nat.le_antisymm (bits_le_bas (sub_all t)) ?_
  rw [nBas_eq]
  unfold bitsL
  rw [List.length_map]
  have h40 := h.l40
  have e : (List.range t.length).filter (isBas t) = (List.range t.length).filter (bas t).testBit := List.filter_congr fun i _ => (bas_bit t i).symm
  rw [e]
  exact (List.Sublist.filter _ (List.range_sublist.2 (by omega))).length_le
theorem cnt_pos {t : List Nd} (h : TrOk t) {y : Nat} (hy : y < t.length) : 0 < cntN t y := by
  unfold cntN
  rw [List.length_pos_iff_exists_mem]
  exact ⟨bas t, List.mem_filter.2 ⟨mem_subL.2 fun _ h => h, eff_bas h hy⟩⟩
theorem eff_zero {t : List Nd} (h : TrOk t) (y : Nat) : (eff t 0).testBit y = false := by
  rw [eff_bit h (Sub.zero t)]
  have e : (0 : Nat).testBit = fun _ => false := by funext j; simp
  rw [e]
  exact ef_none h y
theorem filter_lt {α : Type} {p : α → Bool} {l : List α} {x : α} (hx : x ∈ l) (hp : p x = false) : (l.filter p).length < l.length := by
  induction l with
  | nil => cases hx
  | cons a l ih =>
    rw [List.filter_cons]
    rcases List.mem_cons.1 hx with rfl | hx
    · rw [hp]
      exact Nat.lt_succ_of_le (List.length_filter_le _ _)
    · have := ih hx
      split
      · rw [List.length_cons, List.length_cons]; omega
      · rw [List.length_cons]; omega
theorem cnt_lt {t : List Nd} (h : TrOk t) (y : Nat) : cntN t y < 2 ^ nBas t := by
  rw [← bits_bas h, ← subL_len (bas_lt_64 h)]
  exact filter_lt (mem_subL.2 fun j hj => by simp at hj) (eff_zero h y)
theorem bits_oth {t : List Nd} (h : TrOk t) {b : Nat} (hb : isBas t b = true) : (bitsL (othN t b)).length + 1 = nBas t := by
  have e : bitsL (othN t b) = (bitsL (bas t)).filter fun n => n != (b : Int) := by
    rw [bits_without (bas_lt_64 h)]
    rfl
  have hm : (b : Int) ∈ bitsL (bas t) := (mem_bitsL (bas_lt_64 h)).2 ⟨by omega, by rw [Int.toNat_natCast, bas_bit]; exact hb⟩
  rw [← bits_bas h, e]
  have hnd : (bitsL (bas t)).Nodup := (bitsL_sorted _).imp fun h => Int.ne_of_lt h
  generalize bitsL (bas t) = l at *
  clear e
  induction l with
  | nil => cases hm
  | cons a l ih =>
    rw [List.nodup_cons] at hnd
    rw [List.filter_cons]
    rcases List.mem_cons.1 hm with rfl | hm
    · rw [if_neg (by simp)]
      have : l.filter (fun n => n != (b : Int)) = l := List.filter_eq_self.2 fun n hn => by
        have : n ≠ (b : Int) := fun e => hnd.1 (e ▸ hn)
        simpa using this
      rw [this, List.length_cons]
    · have : a ≠ (b : Int) := fun e => hnd.1 (e ▸ hm)
      rw [if_pos (by simpa using this), List.length_cons, ih hm hnd.2, List.length_cons]
theorem wt_le {t : List Nd} (h : TrOk t) (y : Nat) {b : Nat} (hb : isBas t b = true) : 2 * wtN t y b ≤ 2 ^ nBas t := by
  have h64 : othN t b < 2 ^ 64 := sub_lt_64 h (diff_sub t _)
  have h1 : wtN t y b ≤ 2 ^ (bitsL (othN t b)).length := by
    rw [← subL_len h64]
    exact List.length_filter_le _ _
  rw [← bits_oth h hb, Nat.pow_succ]
  omega
end Go.Proofs.Ytadldndpphdmpaa
