/- Small walks of the failure layer and of the document's. -/
import Derived.Test.YtadldndpphdmpaaGreatQC
namespace Go.Proofs.YtadldndpphdmpaaGreat
open Go.RowKit

set_option maxHeartbeats 400000 in
theorem out_any (n lo hi : Int) (w : World) :
    Calls Tryz.prog 37 #[.int .i64 n, .int .i64 lo, .int .i64 hi] w fun e w' => e = .returned (.bool (outB n lo hi)) ∧ w = w' := by
  go_enter Tryz.func37, Tryz.ntmps37
  go_wp2
  all_goals go_ret
  all_goals exact ⟨by unfold outB; simp; try omega, rfl⟩
set_option maxHeartbeats 400000 in
theorem in_any (n lo hi : Int) (w : World) :
    Calls Tryz.prog 52 #[.int .i64 n, .int .i64 lo, .int .i64 hi] w fun e w' => e = .returned (.bool (!outB n lo hi)) ∧ w = w' := by
  go_enter Tryz.func52, Tryz.ntmps52
  go_wp2
  all_goals go_ret
  all_goals exact ⟨ret_bool (by unfold outB; rw [Bool.eq_iff_iff]; simp; try omega), rfl⟩
set_option maxHeartbeats 400000 in
theorem in1_any (n lo hi : Int) (w : World) :
    Calls Tryz.prog 102 #[.int .i64 n, .int .i64 lo, .int .i64 hi] w fun e w' => e = .returned (.bool (!outB n lo hi)) ∧ w = w' := by
  go_enter Tryz.func102, Tryz.ntmps102
  go_wp2
  all_goals go_ret
  all_goals exact ⟨ret_bool (by unfold outB; rw [Bool.eq_iff_iff]; simp; try omega), rfl⟩

theorem byte_at (s : ByteArray) (i : Nat) (h : i < s.size) : s.data.toList.getD i 0 = s[i] := by
  have h' : i < s.data.toList.length := by simpa using h
  rw [List.getD_eq_getElem?_getD, List.getElem?_eq_getElem h']
  rfl
theorem name_false {s : ByteArray} {i : Nat} (h : i < s.size) (hc : chB i s[i] = false) : nameB s = false := by
  unfold nameB
  have : ((List.range s.size).all fun i => chB i (s.data.toList.getD i 0)) = false := by
    rw [List.all_eq_false]
    exact ⟨i, by simpa using h, by rw [byte_at s i h, hc]; simp⟩
  rw [this]; simp
theorem name_all {s : ByteArray} (h : ∀ i, (hi : i < s.size) → chB i s[i] = true) : nameB s = (decide (0 < s.size) && decide (s.size ≤ 24)) := by
  unfold nameB
  have : ((List.range s.size).all fun i => chB i (s.data.toList.getD i 0)) = true := by
    rw [List.all_eq_true]
    intro i hi
    rw [List.mem_range] at hi
    rw [byte_at s i hi, h i hi]
  rw [this]; simp

theorem size_zero_iff (s : ByteArray) : s.toList = [] ↔ s.size = 0 := by
  have e : s.toList = s.data.toList := ByteArray.toList_eq s
  rw [e, ← List.length_eq_zero_iff]
  rfl

set_option maxHeartbeats 2000000 in
theorem name_any (s : ByteArray) (w : World) (hs : s.size ≤ 9223372036854775807) :
    Calls Tryz.prog 91 #[.string s] w fun e w' => e = .returned (.bool (nameB s)) ∧ w = w' := by
  generalize hN : nameB s = N
  have HN := Lib.hid hN; clear hN
  go_enter Tryz.func91, Tryz.ntmps91
  go_wp2
  go_loop [7] (fun i => ∃ k : Nat, k ≤ s.size ∧ i = .int .i64 k ∧ (∀ j, j < k → (hj : j < s.size) → chB j s[j] = true)) (fun i => s.size - (intOf i).toNat)
  case atStart => exact ⟨0, Nat.zero_le _, rfl, fun j h => by omega⟩
  case round =>
    obtain ⟨k, hk, rfl, hall⟩ := hrel
    have HA := Lib.hid hall; clear hall
    by_cases hlt : k < s.size
    · go_wp2
      all_goals
        have hx : (s[k].toNat : Int) = 45 ∨ ((s[k].toNat : Int) == 45) = false := by
          by_cases e : (s[k].toNat : Int) = 45
          · exact .inl e
          · exact .inr (by simpa using e)
        first
          | (have hc : chB k s[k] = true := by
               unfold chB
               simp only [Bool.or_eq_true, Bool.and_eq_true, decide_eq_true_eq]
               first | omega | (rename_i q; rw [beq_iff_eq] at q; omega)
             have HC := Lib.hid hc
             clear hc hx
             go_round
             case rel => exact ⟨k + 1, by omega, by go_num, all_succ (P := fun j => (hj : j < s.size) → chB j s[j] = true) HA.out (fun _ => HC.out)⟩
             case measure => simp [intOf]; omega)
          | (have hc : chB k s[k] = false := by
               unfold chB
               simp only [Bool.or_eq_false_iff, Bool.and_eq_false_iff, decide_eq_false_iff_not]
               omega
             have HC := Lib.hid (name_false hlt hc)
             clear hc hx
             go_ret
             exact ⟨ret_bool (by rw [← HN.out, HC.out]), rfl⟩)
    · have hall : ∀ i, (hi : i < s.size) → chB i s[i] = true := fun i hi => HA.out i (by omega) hi
      have HF := Lib.hid (name_all hall)
      clear hall
      go_wp2
      all_goals go_ret
      all_goals refine ⟨ret_bool ?_, rfl⟩
      all_goals rw [← HN.out, HF.out]
      · have h0 : s.toList = [] := by assumption
        have := (size_zero_iff s).1 h0
        simp [this]
      · have h0 : ¬ s.toList = [] := by assumption
        have h1 : 0 < s.size := Nat.pos_of_ne_zero (fun e => h0 ((size_zero_iff s).2 e))
        have h2 : s.toList.isEmpty = false := by simpa using h0
        have h3 : decide ((s.size : Int) ≤ 24) = decide (s.size ≤ 24) := by simp only [decide_eq_decide]; omega
        rw [h2, h3]
        simp [h1]
set_option maxHeartbeats 2000000 in
theorem refName_any (s : ByteArray) (w : World) (hs : s.size ≤ 9223372036854775807) :
    Calls Tryz.prog 85 #[.string s] w fun e w' => e = .returned (.bool (nameB s)) ∧ w = w' := by
  generalize hN : nameB s = N
  have HN := Lib.hid hN; clear hN
  cases hb : outB (s.size : Int) 1 24
  · obtain ⟨z0, z1⟩ := outB_false hb
    go_enter Tryz.func85, Tryz.ntmps85
    go_wp2_with (go_at_call 102; refine (in1_any _ _ _ _).mono ?_; rintro e w' ⟨rfl, rfl⟩)
    go_loop [3] (fun i => ∃ k : Nat, k ≤ s.size ∧ i = .int .i64 k ∧ (∀ j, j < k → (hj : j < s.size) → chB j s[j] = true)) (fun i => s.size - (intOf i).toNat)
    case atStart => exact ⟨0, Nat.zero_le _, rfl, fun j h => by omega⟩
    case round =>
      obtain ⟨k, hk, rfl, hall⟩ := hrel
      have HA := Lib.hid hall; clear hall
      by_cases hlt : k < s.size
      · cases hk0 : ((k : Int) == 0)
        all_goals
          have hk1 : k = 0 ∨ ¬ k = 0 := Classical.em _
          go_wp2
          all_goals
            have hx : (s[k].toNat : Int) = 45 ∨ ((s[k].toNat : Int) == 45) = false := by
              by_cases e : (s[k].toNat : Int) = 45
              · exact .inl e
              · exact .inr (by simpa using e)
            have hk2 := hk0
            first | rw [beq_iff_eq] at hk2 | rw [beq_eq_false_iff_ne] at hk2
            first
              | (have hc : chB k s[k] = true := by
                   unfold chB
                   simp only [Bool.or_eq_true, Bool.and_eq_true, decide_eq_true_eq]
                   first | omega | (rename_i q; rw [beq_iff_eq] at q; omega) | (rename_i q; rw [bne_iff_ne] at q; omega) | (rename_i q; simp at q; omega)
                 have HC := Lib.hid hc
                 clear hc hx hk2
                 go_round
                 case rel => exact ⟨k + 1, by omega, by go_num, all_succ (P := fun j => (hj : j < s.size) → chB j s[j] = true) HA.out (fun _ => HC.out)⟩
                 case measure => simp [intOf]; omega)
              | (have hc : chB k s[k] = false := by
                   unfold chB
                   simp only [Bool.or_eq_false_iff, Bool.and_eq_false_iff, decide_eq_false_iff_not]
                   first | omega | (rename_i q; simp at q; omega) | (rename_i q _; simp at q; omega)
                 have HC := Lib.hid (name_false hlt hc)
                 clear hc hx hk2
                 go_ret
                 exact ⟨ret_bool (by rw [← HN.out, HC.out]), rfl⟩)
      · have hall : ∀ i, (hi : i < s.size) → chB i s[i] = true := fun i hi => HA.out i (by omega) hi
        have HF := Lib.hid (name_all hall)
        clear hall
        go_wp2
        all_goals go_ret
        all_goals refine ⟨ret_bool ?_, rfl⟩
        all_goals rw [← HN.out, HF.out]
        all_goals simp
        all_goals omega
  · have hf : nameB s = false := by
      unfold nameB
      have := outB_true hb
      rcases this with h | h
      · have : s.size = 0 := by omega
        simp [this]
      · have h2 : ¬ s.size ≤ 24 := by omega
        simp [h2]
    have HF := Lib.hid (hf.symm.trans HN.out)
    clear hf
    go_enter Tryz.func85, Tryz.ntmps85
    go_wp2_with (go_at_call 102; refine (in1_any _ _ _ _).mono ?_; rintro e w' ⟨rfl, rfl⟩)
    go_ret
    exact ⟨ret_bool HF.out, rfl⟩
set_option maxHeartbeats 1000000 in
theorem rhas_any (xs : List Int) (y : Int) (A : Option Addr) (n c : Nat) (w : World) (hx : RdI w A n xs) (hn : n ≤ 1000000000000000) :
    Calls Tryz.prog 39 #[.slice A n c, .int .i64 y] w fun e w' => e = .returned (.bool (decide (y ∈ xs))) ∧ Below w.heap.size w w' := by
  have HX := Lib.hid hx; have hl := hx.1; clear hx
  go_enter Tryz.func39, Tryz.ntmps39
  go_wp2
  go_loopw [5] (fun i wr => ∃ k : Nat, k ≤ n ∧ i = .int .i64 k ∧ Below w.heap.size w wr ∧ decide (y ∈ xs.take k) = false) (fun i _ => n - (intOf i).toNat)
  case atStart => exact ⟨0, Nat.zero_le _, rfl, Below.refl _ _, by simp⟩
  case round =>
    obtain ⟨k, hk, rfl, hB, hE⟩ := hrel
    have HB := Lib.hid hB; clear hB
    have HE := Lib.hid hE; clear hE
    by_cases hlt : k < n
    · obtain ⟨v, ad, hv, rfl, cv⟩ := rdI_get (HX.out.below HB.out) hlt
      have hkl : (k : Int) < (n : Int) := by omega
      have HM : Hid (decide (y ∈ xs.take (k + 1)) = (v == y)) := by
        obtain ⟨hk', rfl⟩ := List.getElem?_eq_some_iff.1 hv
        have := HE.out
        rw [decide_eq_false_iff_not] at this
        rw [List.take_succ_eq_append_getElem hk']
        show decide _ = _
        rw [Bool.eq_iff_iff]
        simp only [List.mem_append, List.mem_singleton, decide_eq_true_eq, beq_iff_eq, this, false_or]
        exact eq_comm
      have HMem : Hid ((v == y) = true → decide (y ∈ xs) = true) := fun h => by
        simp at h
        subst h
        simp only [decide_eq_true_eq]
        exact List.mem_of_getElem? hv
      clear hv
      cases hq : (v == y)
      · rw [hq] at HM
        go_wp2
        go_roundw
        case rel => exact ⟨k + 1, by omega, by go_num, HB.out, HM.out⟩
        case measure => simp [intOf]; omega
      · have HM2 := Lib.hid (HMem.out hq)
        go_wp2
        go_ret
        exact ⟨ret_bool HM2.out.symm, HB.out⟩
    · obtain rfl : n = k := by omega
      go_wp2
      go_ret
      have := HE.out
      rw [List.take_of_length_le (by omega)] at this
      exact ⟨ret_bool this.symm, HB.out⟩
theorem eq_of_get {xs ys : List Int} (h : xs.length = ys.length) (hk : ∀ i : Nat, i < xs.length → xs[i]? = ys[i]?) : xs = ys := by
  apply List.ext_getElem?
  intro i
  by_cases hi : i < xs.length
  · exact hk i hi
  · rw [List.getElem?_eq_none (by omega), List.getElem?_eq_none (by omega)]

set_option maxHeartbeats 1000000 in
theorem ints_any (xs ys : List Int) (A : Option Addr) (n c : Nat) (B : Option Addr) (m d : Nat) (w : World) (hx : RdI w A n xs) (hy : RdI w B m ys) (hn : n ≤ 1000000000000000) :
    Calls Tryz.prog 20 #[.slice A n c, .slice B m d] w fun e w' => e = .returned (.bool (decide (xs = ys))) ∧ Below w.heap.size w w' := by
  have hlx := hx.1
  have hly := hy.1
  have HX := Lib.hid hx; have HY := Lib.hid hy
  clear hx hy
  by_cases hne : n = m
  · subst hne
    have hb : ((n : Int) != (n : Int)) = false := by simp
    go_enter Tryz.func20, Tryz.ntmps20
    go_wp2
    go_loopw [5] (fun i wr => ∃ k : Nat, k ≤ n ∧ i = .int .i64 k ∧ Below w.heap.size w wr ∧ ∀ i : Nat, i < k → xs[i]? = ys[i]?) (fun i _ => n - (intOf i).toNat)
    case atStart => exact ⟨0, Nat.zero_le _, rfl, Below.refl _ _, fun i hi => by omega⟩
    case round =>
      obtain ⟨k, hk, rfl, hB, hE⟩ := hrel
      have HB := Lib.hid hB; clear hB
      have HE := Lib.hid hE; clear hE
      by_cases hlt : k < n
      · obtain ⟨x, ad, hx, rfl, c0⟩ := rdI_get (HX.out.below HB.out) hlt
        obtain ⟨y, bd, hy, rfl, d0⟩ := rdI_get (HY.out.below HB.out) hlt
        have HXk := Lib.hid hx; have HYk := Lib.hid hy
        clear hx hy
        have hkl : (k : Int) < (n : Int) := by omega
        by_cases hxy : x = y
        · subst hxy
          have hb2 : (x != x) = false := by simp
          go_wp2_with fail
          go_region
          go_wp2_with fail
          go_roundw
          case rel => exact ⟨k + 1, by omega, by go_num, HB.out.drew, fun i hi => by
            by_cases hik : i < k
            · exact HE.out i hik
            · obtain rfl : i = k := by omega
              exact HXk.out.trans HYk.out.symm⟩
          case measure => simp [intOf]; omega
        · have hb2 : (x != y) = true := by simpa using hxy
          go_wp2_with fail
          go_region
          go_wp2_with fail
          go_ret
          refine ⟨?_, HB.out.drew⟩
          have h0 : xs ≠ ys := fun e => by
            subst e
            have := HXk.out.symm.trans HYk.out
            injection this with this
            exact hxy this
          simp [h0]
      · obtain rfl : k = n := by omega
        go_wp2_with fail
        go_ret
        refine ⟨?_, HB.out⟩
        have h0 : xs = ys := eq_of_get (by omega) (fun i hi => HE.out i (by omega))
        simp [h0]
  · have hb : ((n : Int) != (m : Int)) = true := by simp; omega
    go_enter Tryz.func20, Tryz.ntmps20
    go_wp2
    go_ret
    refine ⟨?_, Below.refl _ _⟩
    have h0 : xs ≠ ys := fun e => hne (by rw [← hlx, ← hly, e])
    simp [h0]
end Go.Proofs.YtadldndpphdmpaaGreat
