import Derived.Test.YtkkajemahehoaaaAw
namespace Go.Proofs.Ytkkajemahehoaaa
open Go.RowKit

/-- Does a high water lie in the window of a year, as the law asks it? -/
def inB (d m : Int) (h : High) (y : Int) : Bool := (decide (h.year = y) && decide (d ≤ h.day) && decide (h.day < d + m)) || (decide (h.year = y + 1) && decide (h.day + 365 < d + m))
theorem inB_win {d m y : Int} {h : High} (d0 : 0 ≤ d) (d1 : d ≤ 364) (m0 : 1 ≤ m) (m1 : m ≤ 365) (h0 : 0 ≤ h.day) (h1 : h.day ≤ 364) : inB d m h y = winB d m h y := by
  unfold inB winB outB
  rw [Bool.eq_iff_iff]
  simp
  by_cases e1 : h.year = y
  · simp [e1]; omega
  · by_cases e2 : h.year = y + 1
    · simp [e2]; omega
    · omega
def lawHit (d m lvl y : Int) (h : High) : Bool := decide (lvl < h.level) && inB d m h y

set_option maxRecDepth 100000 in
set_option maxHeartbeats 2000000 in
theorem lawHarm_any (hs : List High) (fi ye d m lvl y : Int) (A : Option Addr) (n c : Nat) (w : World) (hr : RdH w A n hs) (hn : n ≤ 1000) (d0 : 0 ≤ d) (d1 : d ≤ 364) (m0 : 1 ≤ m) (m1 : m ≤ 365) (y0 : 0 ≤ y) (y1 : y ≤ 100000) (hd : ∀ h ∈ hs, 0 ≤ h.day ∧ h.day ≤ 364) :
    Calls Try.prog 28 #[.agg #[.int .i64 fi, .int .i64 ye, .slice A n c], .int .i64 d, .int .i64 m, .int .i64 lvl, .int .i64 y] w fun e w' => e = .returned (.bool (hs.any (lawHit d m lvl y))) ∧ Below w.heap.size w w' := by
  have HR := Lib.hid hr; have hlen := hr.1; clear hr
  have HD := Lib.hid hd; clear hd
  go_enter Try.func28, Try.ntmps28
  go_wp2
  obtain ⟨W1, hW1⟩ : ∃ W1, w.alloc (Obj.cells #[.int .i64 fi, .int .i64 ye, .slice A n c] 24) = W1 := ⟨_, rfl⟩
  have K1 : Hid (Blk W1 w.heap.size 24 #[.int .i64 fi, .int .i64 ye, .slice A n c]) := by rw [← hW1]; exact Blk.new _ _ _ rfl
  have HB1 : Hid (Below w.heap.size w W1) := by rw [← hW1]; exact (Below.refl _ _).alloc (Nat.le_refl _) _
  rw [hW1]
  clear hW1
  go_loopw [11] (fun i wr => ∃ k : Nat, k ≤ n ∧ i = .int .i64 k ∧ Below W1.heap.size W1 wr ∧ (hs.take k).any (lawHit d m lvl y) = false) (fun i _ => n - (intOf i).toNat)
  case atStart => exact ⟨0, Nat.zero_le _, rfl, Below.refl _ _, rfl⟩
  case round =>
    obtain ⟨k, hk, rfl, hB, hE⟩ := hrel
    have HB := Lib.hid hB; clear hB
    have HE := Lib.hid hE; clear hE
    have HBw : Hid (Below w.heap.size w wr) := HB1.out.trans (HB.out.mono HB1.out.size)
    have k2 := (K1.out.later HB.out).cell (i := 2) rfl
    have hsz : w.heap.size < wr.heap.size := (K1.out.later HB.out).lt
    by_cases hlt : k < n
    · obtain ⟨h, ad, hh, rfl, ha⟩ := (HR.out.below HBw.out).get hlt
      obtain ⟨c0, c1, c2⟩ := ha.three
      have hdd := HD.out h (List.mem_of_getElem? hh)
      have HNo : Hid (lawHit d m lvl y h = false → (hs.take (k + 1)).any (lawHit d m lvl y) = false) := fun hf => by
        have hl : k < hs.length := by omega
        rw [List.take_succ_eq_append_getElem hl, List.any_append, HE.out, (List.getElem?_eq_some_iff.1 hh).2]
        simp [hf]
      have HYes : Hid (lawHit d m lvl y h = true → hs.any (lawHit d m lvl y) = true) := fun hf => List.any_eq_true.2 ⟨h, List.mem_of_getElem? hh, hf⟩
      clear hh ha
      have hkl : (k : Int) < (n : Int) := by omega
      by_cases g1 : h.level ≤ lvl
      · have b1 : decide (h.level ≤ lvl) = true := by simpa using g1
        have HN2 : Hid ((hs.take (k + 1)).any (lawHit d m lvl y) = false) := HNo.out (by unfold lawHit inB; simp; omega)
        clear HNo HYes HE
        go_wp2
        go_roundw
        case rel => exact ⟨k + 1, by omega, by go_num, HB.out.alloc HB.out.size _, HN2.out⟩
        case measure => simp [intOf]; omega
      · have b1 : decide (h.level ≤ lvl) = false := by simpa using g1
        by_cases g2 : h.year = y
        · have b2 : (h.year == y) = true := by simpa using g2
          have b5 : (h.year == y + 1) = false := by simp; omega
          by_cases g3 : d ≤ h.day
          · have b3 : decide (d ≤ h.day) = true := by simpa using g3
            by_cases g4 : h.day < d + m
            · have b4 : decide (h.day < d + m) = true := by simpa using g4
              have HY2 : Hid (hs.any (lawHit d m lvl y) = true) := HYes.out (by unfold lawHit inB; simp; omega)
              clear HNo HYes HE
              go_wp2
              go_ret
              exact ⟨ret_bool HY2.out.symm, HBw.out.alloc HBw.out.size _⟩
            · have b4 : decide (h.day < d + m) = false := by simpa using g4
              have HN2 : Hid ((hs.take (k + 1)).any (lawHit d m lvl y) = false) := HNo.out (by unfold lawHit inB; simp; omega)
              clear HNo HYes HE
              go_wp2
              go_roundw
              case rel => exact ⟨k + 1, by omega, by go_num, HB.out.alloc HB.out.size _, HN2.out⟩
              case measure => simp [intOf]; omega
          · have b3 : decide (d ≤ h.day) = false := by simpa using g3
            have HN2 : Hid ((hs.take (k + 1)).any (lawHit d m lvl y) = false) := HNo.out (by unfold lawHit inB; simp; omega)
            clear HNo HYes HE
            go_wp2
            go_roundw
            case rel => exact ⟨k + 1, by omega, by go_num, HB.out.alloc HB.out.size _, HN2.out⟩
            case measure => simp [intOf]; omega
        · have b2 : (h.year == y) = false := by simpa using g2
          by_cases g5 : h.year = y + 1
          · have b5 : (h.year == y + 1) = true := by simpa using g5
            by_cases g6 : h.day + 365 < d + m
            · have b6 : decide (h.day + 365 < d + m) = true := by simpa using g6
              have HY2 : Hid (hs.any (lawHit d m lvl y) = true) := HYes.out (by unfold lawHit inB; simp; omega)
              clear HNo HYes HE
              go_wp2
              go_ret
              exact ⟨ret_bool HY2.out.symm, HBw.out.alloc HBw.out.size _⟩
            · have b6 : decide (h.day + 365 < d + m) = false := by simpa using g6
              have HN2 : Hid ((hs.take (k + 1)).any (lawHit d m lvl y) = false) := HNo.out (by unfold lawHit inB; simp; omega)
              clear HNo HYes HE
              go_wp2
              go_roundw
              case rel => exact ⟨k + 1, by omega, by go_num, HB.out.alloc HB.out.size _, HN2.out⟩
              case measure => simp [intOf]; omega
          · have b5 : (h.year == y + 1) = false := by simpa using g5
            have HN2 : Hid ((hs.take (k + 1)).any (lawHit d m lvl y) = false) := HNo.out (by unfold lawHit inB; simp; omega)
            clear HNo HYes HE
            go_wp2
            go_roundw
            case rel => exact ⟨k + 1, by omega, by go_num, HB.out.alloc HB.out.size _, HN2.out⟩
            case measure => simp [intOf]; omega
    · obtain rfl : k = n := by omega
      go_wp2
      go_ret
      have := HE.out
      rw [List.take_of_length_le (by omega)] at this
      exact ⟨ret_bool this.symm, HBw.out⟩
end Go.Proofs.Ytkkajemahehoaaa
