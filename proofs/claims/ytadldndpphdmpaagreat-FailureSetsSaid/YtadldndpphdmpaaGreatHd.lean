/- The least sets for which something is so, in plain. -/
import Derived.Test.YtadldndpphdmpaaGreatQP
import Derived.Test.YtadldndpphdmpaaGreatQA
namespace Go.Proofs.YtadldndpphdmpaaGreat

abbrev SubN (x y : Nat) : Prop := ∀ j, x.testBit j = true → y.testBit j = true
theorem sub1_bit (s i j : Nat) : (sub1 s i).testBit j = (s.testBit j && !decide (i = j)) := by
  unfold sub1
  rw [diffN_bit, withN_bit]
  simp
theorem subN_le {x y : Nat} (h : SubN x y) : x ≤ y := by
  have e : x = y &&& x := Nat.eq_of_testBit_eq fun j => by
    rw [Nat.testBit_and]
    by_cases c : x.testBit j = true
    · rw [c, h j c]; rfl
    · rw [Bool.eq_false_iff.2 c, Bool.and_false]
  rw [e]
  exact Nat.and_le_left
theorem sub1_lt {s i : Nat} (h : s.testBit i = true) : sub1 s i < s := by
  have h1 : sub1 s i ≤ s := subN_le fun j hj => by rw [sub1_bit] at hj; simp at hj; exact hj.1
  have h2 : sub1 s i ≠ s := fun e => by
    have h3 := sub1_bit s i i
    rw [e, h] at h3
    simp at h3
  omega
theorem sub1_sub (s i : Nat) : SubN (sub1 s i) s := fun j hj => by rw [sub1_bit] at hj; simp at hj; exact hj.1
theorem subL_mem : ∀ k r : Nat, r < 2 ^ k → ∀ x : Nat, SubN x r → x ∈ subL r := by
  intro k
  induction k with
  | zero =>
    intro r hr x hx
    have h0 : r = 0 := by simpa using hr
    subst h0
    have : x = 0 := Nat.eq_of_testBit_eq fun j => by
      rw [Nat.zero_testBit, Bool.eq_false_iff]
      intro c
      have := hx j c
      simp at this
    rw [this]
    exact List.mem_singleton.2 rfl
  | succ k ih =>
    intro r hr x hx
    by_cases hlt : r < 2 ^ k
    · exact ih r hlt x hx
    · obtain ⟨q, rfl⟩ : ∃ q, r = 2 ^ k + q := ⟨r - 2 ^ k, by omega⟩
      have hq : q < 2 ^ k := by rw [Nat.pow_succ] at hr; omega
      unfold subL
      rw [sub_top hq q hq, List.mem_append]
      by_cases hb : x.testBit k = true
      · left
        rw [List.mem_map]
        have hx2 : x = 2 ^ k + x % 2 ^ k := by
          refine Nat.eq_of_testBit_eq fun j => ?_
          rw [top_bit (Nat.mod_lt _ (Nat.pow_pos (by decide))), Nat.testBit_mod_two_pow]
          by_cases e : k = j
          · subst e; simp [hb]
          · by_cases h2 : j < k
            · simp [e, h2]
            · have : x.testBit j = false := by
                rw [Bool.eq_false_iff]
                intro c
                have := hx j c
                rw [top_bit hq] at this
                simp [e] at this
                rw [bit_ge hq (by omega)] at this
                cases this
              simp [e, h2, this]
        refine ⟨x % 2 ^ k, ih q hq _ fun j hj => ?_, hx2.symm⟩
        rw [Nat.testBit_mod_two_pow] at hj
        simp at hj
        have := hx j hj.2
        rw [top_bit hq, decide_eq_false (by omega), Bool.false_or] at this
        exact this
      · right
        refine ih q hq x fun j hj => ?_
        have h1 := hx j hj
        have e : k ≠ j := fun e => by rw [e] at hb; exact hb hj
        rw [top_bit hq, decide_eq_false e, Bool.false_or] at h1
        exact h1
theorem mem_subL {all x : Nat} : x ∈ subL all ↔ SubN x all :=
  ⟨fun h => subL_sub x h, fun h => subL_mem _ all Nat.lt_two_pow_self x h⟩
theorem insN_perm (x : Nat) : ∀ l : List Nat, (insN x l).Perm (x :: l)
  | [] => List.Perm.refl _
  | y :: l => by
    rw [insN]
    split
    · exact List.Perm.refl _
    · exact ((insN_perm x l).cons y).trans (List.Perm.swap x y l)
theorem sortN_perm : ∀ l : List Nat, (sortN l).Perm l
  | [] => List.Perm.refl _
  | x :: l => (insN_perm x (sortN l)).trans ((sortN_perm l).cons x)
theorem mem_leastN {p : Nat → Bool} {all s : Nat} : s ∈ leastN p all ↔ SubN s all ∧ minB p s = true := by
  unfold leastN
  rw [(sortN_perm _).mem_iff, List.mem_filter, mem_subL]
theorem minB_iff {p : Nat → Bool} {s : Nat} (h : s < 2 ^ 64) : minB p s = true ↔ p s = true ∧ ∀ i, s.testBit i = true → p (sub1 s i) = false := by
  unfold minB
  rw [Bool.and_eq_true, Bool.not_eq_true', List.any_eq_false]
  constructor
  · rintro ⟨h1, h2⟩
    refine ⟨h1, fun i hi => ?_⟩
    have := h2 (i : Int) ((mem_bitsL h).2 ⟨by omega, by simpa using hi⟩)
    simpa using this
  · rintro ⟨h1, h2⟩
    refine ⟨h1, fun i hi => ?_⟩
    have := h2 i.toNat ((mem_bitsL h).1 hi).2
    simpa using this
/-- A set for which something is so has a least one. -/
theorem least_below {p : Nat → Bool} {all : Nat} (hall : all < 2 ^ 64) : ∀ s : Nat, SubN s all → p s = true → ∃ m ∈ leastN p all, SubN m s := by
  intro s
  induction s using Nat.strongRecOn with
  | _ s ih =>
    intro hs hp
    by_cases hm : ∃ i, s.testBit i = true ∧ p (sub1 s i) = true
    · obtain ⟨i, h1, h2⟩ := hm
      obtain ⟨m, h3, h4⟩ := ih _ (sub1_lt h1) (fun j hj => hs j (sub1_sub s i j hj)) h2
      exact ⟨m, h3, fun j hj => sub1_sub s i j (h4 j hj)⟩
    · refine ⟨s, mem_leastN.2 ⟨hs, (minB_iff ?_).2 ⟨hp, fun i hi => ?_⟩⟩, fun j hj => hj⟩
      · exact Nat.lt_of_le_of_lt (subN_le hs) hall
      · rw [Bool.eq_false_iff]
        intro c
        exact hm ⟨i, hi, c⟩
theorem bas_lt_64 {t : List Nd} (h : TrOk t) : bas t < 2 ^ 64 := bas_lt64 h
theorem sub_lt_64 {t : List Nd} (h : TrOk t) {s : Nat} (hs : Sub t s) : s < 2 ^ 64 := by have := pow_40 h hs.lt; omega
theorem sub_bas_iff {t : List Nd} {s : Nat} : SubN s (bas t) ↔ Sub t s := ⟨fun h j hj => by have := h j hj; rwa [bas_bit] at this, fun h j hj => by rw [bas_bit]; exact h j hj⟩

/-- A list of the indices of a set is this set. -/
theorem setT_bits {t : List Nd} (h : TrOk t) {s : Nat} (hs : Sub t s) : setT t (bitsL s) = 0 ∧ (lstGo t (bitsL s) 0).2 = s := by
  have h64 := sub_lt_64 h hs
  have h1 : (lstGo t (bitsL s) 0).1 = 0 := by
    rw [lstGo_ok]
    refine ⟨fun n hn => ?_, (bitsL_sorted s).imp fun h => Int.ne_of_lt h⟩
    have := (mem_bitsL h64).1 hn
    exact ⟨basI_iff.2 ⟨this.1, hs _ this.2⟩, by simp⟩
  refine ⟨h1, Nat.eq_of_testBit_eq fun j => ?_⟩
  rw [lst_bits h1, Bool.eq_iff_iff, decide_eq_true_eq, mem_bitsL h64]
  simp
theorem effects_bits {t : List Nd} (h : TrOk t) {s : Nat} (hs : Sub t s) : effectsT t (bitsL s) = (0, bitsL (eff t s)) := by
  obtain ⟨h1, h2⟩ := setT_bits h hs
  have h0 : (aboutT t 0 [bitsL s]).1 = 0 := by
    rw [ask_about1, ask_zero, chkT_ok.2 h, if_neg (by decide)]
    exact h1
  unfold effectsT
  rw [if_pos h0, (about_set1 h0).1, h2]
  rfl
/-- A set without a node. -/
theorem bits_without {s : Nat} (h : s < 2 ^ 64) (i : Nat) : (bitsL s).filter (fun n => n != (i : Int)) = bitsL (sub1 s i) := by
  refine sorted_uniq ((bitsL_sorted s).filter _) (bitsL_sorted _) fun x => ?_
  have h2 : sub1 s i < 2 ^ 64 := by
    by_cases c : s.testBit i = true
    · exact Nat.lt_trans (sub1_lt c) h
    · have : sub1 s i = s := Nat.eq_of_testBit_eq fun j => by
        rw [sub1_bit]
        by_cases e : i = j
        · subst e; simp [Bool.eq_false_iff.2 c]
        · simp [e]
      rw [this]; exact h
  rw [List.mem_filter, mem_bitsL h, mem_bitsL h2, sub1_bit]
  simp only [bne_iff_ne, ne_eq, Bool.and_eq_true, Bool.not_eq_true', decide_eq_false_iff_not]
  constructor
  · rintro ⟨⟨a, b⟩, c⟩
    exact ⟨a, b, by omega⟩
  · rintro ⟨a, b, c⟩
    exact ⟨⟨a, b⟩, by omega⟩
theorem ef_all {t : List Nd} (h : TrOk t) : ∀ i, i < t.length → ef t (fun _ => true) i = true := by
  intro i
  induction i using Nat.strongRecOn with
  | ind i ih =>
    intro hl
    have hx := List.getElem?_eq_getElem hl
    have ok := h.nd i _ hx
    rw [ef_eq h _ hx]
    by_cases h1 : t[i].kind = 1
    · rw [if_pos h1]
    · rw [if_neg h1, so_need ok h1, decide_eq_true_eq]
      have e : hitsF t[i] (ef t fun _ => true) = t[i].ins.length := by
        unfold hitsF
        rw [List.filter_eq_self.2 fun k hk => ih _ (ins_lt ok hk) (by have := ins_lt ok hk; omega)]
      rw [e]
      have := ok.l1 h1
      have := ok.k4
      have := ok.k1
      unfold need
      rw [if_neg h1]
      by_cases h2 : t[i].kind = 2
      · rw [if_pos h2]; omega
      · rw [if_neg h2]
        by_cases h4 : t[i].kind = 4
        · have := ok.c4 h4; omega
        · have := ok.c0 h4; omega
theorem eff_bas {t : List Nd} (h : TrOk t) {i : Nat} (hi : i < t.length) : (eff t (bas t)).testBit i = true := by
  rw [eff_bit h (bas_sub t), ef_congr h (c := fun _ => true) (fun j x hx hk => by rw [bas_bit, isBas_kind hx]; simp [hk])]
  exact ef_all h i hi
theorem eff_mono {t : List Nd} (h : TrOk t) {s u : Nat} (hs : Sub t s) (hu : Sub t u) (hsu : SubN s u) (i : Nat) (he : (eff t s).testBit i = true) : (eff t u).testBit i = true := by
  rw [eff_bit h hs] at he
  rw [eff_bit h hu]
  exact ef_mono h (fun j hj => hsu j hj) i he
theorem ef_none {t : List Nd} (h : TrOk t) : ∀ i, ef t (fun _ => false) i = false := by
  intro i
  induction i using Nat.strongRecOn with
  | ind i ih =>
    by_cases hl : i < t.length
    · have hx := List.getElem?_eq_getElem hl
      have ok := h.nd i _ hx
      rw [ef_eq h _ hx]
      by_cases h1 : t[i].kind = 1
      · rw [if_pos h1]
      · rw [if_neg h1, so_need ok h1, decide_eq_false_iff_not]
        have e : hitsF t[i] (ef t fun _ => false) = 0 := by
          unfold hitsF
          rw [List.filter_eq_nil_iff.2 fun k hk => by rw [ih _ (ins_lt ok hk)]; decide]
          rfl
        have := need_pos ok
        omega
    · exact ef_out (by omega)
end Go.Proofs.YtadldndpphdmpaaGreat
