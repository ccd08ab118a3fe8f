import Derived.Test.YtjdaigffgfnhaaaGreatProg
import Derived.Test.YtjdaigffgfnhaaaGreatBase
import Derived.Test.YtjdaigffgfnhaaaGreatPlain3
namespace Go.Proofs.YtjdaigffgfnhaaaGreat
open Go.RowKit

theorem byte_at (s : ByteArray) (i : Nat) (h : i < s.size) : s.data.toList.getD i 0 = s[i] := by
  have h' : i < s.data.toList.length := by simpa using h
  rw [List.getD_eq_getElem?_getD, List.getElem?_eq_getElem h']
  rfl
theorem name_false {s : ByteArray} {i : Nat} (h : i < s.size) (hc : chB i s[i] = false) : nameB s = false := by
  unfold nameB
  have : ((List.range s.size).all fun i => chB i (s.data.toList.getD i 0)) = false := by
    rw [List.all_eq_false]
    exact ⟨i, by simpa using h, by rw [byte_at s i h, hc]; simp⟩
  rw [this]; simp
theorem name_all {s : ByteArray} (h : ∀ i, (hi : i < s.size) → chB i s[i] = true) : nameB s = (decide (0 < s.size) && decide (s.size ≤ 24)) := by
  unfold nameB
  have : ((List.range s.size).all fun i => chB i (s.data.toList.getD i 0)) = true := by
    rw [List.all_eq_true]
    intro i hi
    rw [List.mem_range] at hi
    rw [byte_at s i hi, h i hi]
  rw [this]; simp

theorem size_zero_iff (s : ByteArray) : s.toList = [] ↔ s.size = 0 := by
  have e : s.toList = s.data.toList := ByteArray.toList_eq s
  rw [e, ← List.length_eq_zero_iff]
  rfl

theorem ret_bool {a b : Bool} (h : a = b) : Ending.returned (.bool a) = .returned (.bool b) := by rw [h]

set_option maxHeartbeats 2000000 in
theorem name_any (s : ByteArray) (w : World) (hs : s.size ≤ 9223372036854775807) :
    Calls Tryz.prog 56 #[.string s] w fun e w' => e = .returned (.bool (nameB s)) ∧ w = w' := by
  generalize hN : nameB s = N
  have HN := Lib.hid hN; clear hN
  go_enter Tryz.func56, Tryz.ntmps56
  go_wp2
  go_loop [7] (fun i => ∃ k : Nat, k ≤ s.size ∧ i = .int .i64 k ∧ (∀ j, j < k → (hj : j < s.size) → chB j s[j] = true)) (fun i => s.size - (intOf i).toNat)
  case atStart => exact ⟨0, Nat.zero_le _, rfl, fun j h => by omega⟩
  case round =>
    obtain ⟨k, hk, rfl, hall⟩ := hrel
    have HA := Lib.hid hall; clear hall
    by_cases hlt : k < s.size
    · go_wp2
      all_goals
        have hx : (s[k].toNat : Int) = 45 ∨ ((s[k].toNat : Int) == 45) = false := by
          by_cases e : (s[k].toNat : Int) = 45
          · exact .inl e
          · exact .inr (by simpa using e)
        first
          | (have hc : chB k s[k] = true := by
               unfold chB
               simp only [Bool.or_eq_true, Bool.and_eq_true, decide_eq_true_eq]
               first | omega | (rename_i q; rw [beq_iff_eq] at q; omega)
             have HC := Lib.hid hc
             clear hc hx
             go_round
             case rel => exact ⟨k + 1, by omega, by go_num, all_succ (P := fun j => (hj : j < s.size) → chB j s[j] = true) HA.out (fun _ => HC.out)⟩
             case measure => simp [intOf]; omega)
          | (have hc : chB k s[k] = false := by
               unfold chB
               simp only [Bool.or_eq_false_iff, Bool.and_eq_false_iff, decide_eq_false_iff_not]
               omega
             have HC := Lib.hid (name_false hlt hc)
             clear hc hx
             go_ret
             exact ⟨ret_bool (by rw [← HN.out, HC.out]), rfl⟩)
    · have hall : ∀ i, (hi : i < s.size) → chB i s[i] = true := fun i hi => HA.out i (by omega) hi
      have HF := Lib.hid (name_all hall)
      clear hall
      go_wp2
      all_goals go_ret
      all_goals refine ⟨ret_bool ?_, rfl⟩
      all_goals rw [← HN.out, HF.out]
      · have h0 : s.toList = [] := by assumption
        have := (size_zero_iff s).1 h0
        simp [this]
      · have h0 : ¬ s.toList = [] := by assumption
        have h1 : 0 < s.size := Nat.pos_of_ne_zero (fun e => h0 ((size_zero_iff s).2 e))
        have h2 : s.toList.isEmpty = false := by simpa using h0
        have h3 : decide ((s.size : Int) ≤ 24) = decide (s.size ≤ 24) := by simp only [decide_eq_decide]; omega
        rw [h2, h3]
        simp [h1]
end Go.Proofs.YtjdaigffgfnhaaaGreat
