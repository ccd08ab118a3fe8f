/- failed, by the program: whether a span covers a tick. -/
import Derived.Test.YtadldndpphdmpaaP7
namespace Go.Proofs.Ytadldndpphdmpaa
open Go.RowKit Go.Shelf

theorem cov_take {l : List Sp} {k : Nat} {s : Sp} (h : l[k]? = some s) (t : Int) : cov (l.take (k + 1)) t = (cov (l.take k) t || covS t s) := by
  obtain ⟨hk, rfl⟩ := List.getElem?_eq_some_iff.1 h
  rw [List.take_succ_eq_append_getElem hk, cov_app]
  congr 1
  rw [cov_cons, cov_nil, Bool.or_false]
theorem cov_mem {l : List Sp} {k : Nat} {s : Sp} (h : l[k]? = some s) {t : Int} (hc : covS t s = true) : cov l t = true := by
  rw [cov_iff]
  unfold covS at hc
  simp only [Bool.and_eq_true, decide_eq_true_eq] at hc
  exact ⟨s, List.mem_of_getElem? h, hc⟩

set_option maxRecDepth 100000 in
set_option maxHeartbeats 4000000 in
theorem failed_any (l : List Sp) (t : Int) (L : Option Addr) (cl : Nat) (w : World) (hL : RdS w L l.length l) (hl : l.length ≤ 1000000) :
    Calls Try.prog 39 #[.slice L l.length cl, .int .i64 t] w fun e w' => e = .returned (.bool (cov l t)) ∧ Below w.heap.size w w' := by
  have HL := Lib.hid hL
  clear hL
  go_enter Try.func39, Try.ntmps39
  go_wp2_with fail
  go_loopw [5] (fun i wr => ∃ k : Nat, k ≤ l.length ∧ i = .int .i64 k ∧ Below w.heap.size w wr ∧ cov (l.take k) t = false) (fun i _ => l.length - (intOf i).toNat)
  case atStart => exact ⟨0, Nat.zero_le _, rfl, Below.refl _ _, rfl⟩
  case round =>
    obtain ⟨k, hk, rfl, hB, hE⟩ := hrel
    have HB := Lib.hid hB; clear hB
    have HE := Lib.hid hE; clear hE
    by_cases hlt : k < l.length
    · obtain ⟨s, sd, hs, rfl, hcs⟩ := (HL.out.below HB.out).get hlt
      have HM : Hid (cov (l.take (k + 1)) t = covS t s) := by have := cov_take hs t; rw [HE.out, Bool.false_or] at this; exact this
      have HMem : Hid (covS t s = true → cov l t = true) := fun h => cov_mem hs h
      obtain ⟨d0, d1, d2⟩ := hcs.three
      have hkl : (k : Int) < (l.length : Int) := by omega
      clear hs hcs
      obtain ⟨sn, sa, sb⟩ := s
      dsimp only at *
      have HC : Hid (covS t ⟨sn, sa, sb⟩ = (decide (sa ≤ t) && decide (t < sb))) := rfl
      cases h1 : decide (sa ≤ t)
      · have HM2 : Hid (cov (l.take (k + 1)) t = false) := by rw [HM.out, HC.out, h1]; rfl
        go_wp2_with fail
        go_roundw
        case rel => exact ⟨k + 1, by omega, by go_num, HB.out, HM2.out⟩
        case measure => simp [intOf]; omega
      · cases h2 : decide (t < sb)
        · have HM2 : Hid (cov (l.take (k + 1)) t = false) := by rw [HM.out, HC.out, h1, h2]; rfl
          go_wp2_with fail
          go_roundw
          case rel => exact ⟨k + 1, by omega, by go_num, HB.out, HM2.out⟩
          case measure => simp [intOf]; omega
        · have HM2 := Lib.hid (HMem.out (by rw [HC.out, h1, h2]; rfl))
          go_wp2_with fail
          go_ret
          exact ⟨ret_bool HM2.out.symm, HB.out⟩
    · obtain rfl : k = l.length := by omega
      go_wp2_with fail
      go_ret
      have := HE.out
      rw [List.take_length] at this
      exact ⟨ret_bool this.symm, HB.out⟩
end Go.Proofs.Ytadldndpphdmpaa
