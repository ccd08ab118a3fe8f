/- The reference's small functions, and its CheckRecord. -/
import Derived.Test.YtkkajemahehoaaaUc
import Derived.Test.YtkkajemahehoaaaPlain4
namespace Go.Proofs.Ytkkajemahehoaaa
open Go.RowKit

set_option maxHeartbeats 400000 in
theorem in_any (n lo hi : Int) (w : World) :
    Calls Try.prog 53 #[.int .i64 n, .int .i64 lo, .int .i64 hi] w fun e w' => e = .returned (.bool (!outB n lo hi)) ∧ w = w' := by
  go_enter Try.func53, Try.ntmps53
  go_wp2
  all_goals go_ret
  all_goals exact ⟨ret_bool (by unfold outB; rw [Bool.eq_iff_iff]; simp; try omega), rfl⟩
set_option maxHeartbeats 400000 in
theorem level_any (n : Int) (w : World) :
    Calls Try.prog 75 #[.int .i64 n] w fun e w' => e = .returned (.bool (!highB n)) ∧ w = w' := by
  go_enter Try.func75, Try.ntmps75
  go_wp2_with (go_at_call 53; refine (in_any _ _ _ _).mono ?_; rintro e w' ⟨rfl, rfl⟩)
  go_ret
  exact ⟨rfl, rfl⟩
set_option maxHeartbeats 400000 in
theorem day_any (n : Int) (w : World) :
    Calls Try.prog 84 #[.int .i64 n] w fun e w' => e = .returned (.bool (!lateB n)) ∧ w = w' := by
  go_enter Try.func84, Try.ntmps84
  go_wp2_with (go_at_call 53; refine (in_any _ _ _ _).mono ?_; rintro e w' ⟨rfl, rfl⟩)
  go_ret
  exact ⟨rfl, rfl⟩
set_option maxHeartbeats 400000 in
theorem window_any (d n : Int) (w : World) :
    Calls Try.prog 85 #[.int .i64 d, .int .i64 n] w fun e w' => e = .returned (.bool (!(lateB d || outB n 1 365))) ∧ w = w' := by
  cases hl : lateB d
  all_goals
    go_enter Try.func85, Try.ntmps85
    go_wp2_with (first | (go_at_call 53; refine (in_any _ _ _ _).mono ?_; rintro e w' ⟨rfl, rfl⟩) | (go_at_call 84; refine (day_any _ _).mono ?_; rintro e w' ⟨rfl, rfl⟩))
    go_ret
    exact ⟨by simp, rfl⟩
set_option maxHeartbeats 400000 in
theorem refWraps_any (d n : Int) (w : World) (h0 : -1000000 ≤ d) (h1 : d ≤ 1000000) (h2 : -1000000 ≤ n) (h3 : n ≤ 1000000) :
    Calls Try.prog 103 #[.int .i64 d, .int .i64 n] w fun e w' => e = .returned (.bool (wrapsB d n)) ∧ w = w' := by
  go_enter Try.func103, Try.ntmps103
  go_wp2
  go_ret
  exact ⟨rfl, rfl⟩
set_option maxHeartbeats 400000 in
theorem allowed_any (a b : Int) (w : World) :
    Calls Try.prog 54 #[.agg #[.int .i64 a, .int .i64 b]] w fun e w' => e = .returned (.bool (!wildB (a, b))) ∧ Below w.heap.size w w' := by
  cases hl : outB b 1 200
  all_goals
    go_enter Try.func54, Try.ntmps54
    go_wp2_with (go_at_call 53; refine (in_any _ _ _ _).mono ?_; rintro e w' ⟨rfl, rfl⟩)
    go_ret
    exact ⟨by unfold wildB; simp [hl], (Below.refl _ _).alloc (Nat.le_refl _) _⟩
theorem mul_bd {a b : Int} (a0 : 0 ≤ a) (a1 : a ≤ 1000) (b0 : 0 ≤ b) (b1 : b ≤ 1000) : 0 ≤ a * b ∧ a * b ≤ 1000000 := by
  refine ⟨Int.mul_nonneg a0 b0, ?_⟩
  have := Int.mul_le_mul a1 b1 b0 (by omega)
  omega
set_option maxHeartbeats 400000 in
theorem refGreater_any (a b : Int × Int) (w : World) (a0 : 0 ≤ a.1) (a1 : a.1 ≤ 1000) (a2 : 0 ≤ a.2) (a3 : a.2 ≤ 1000) (b0 : 0 ≤ b.1) (b1 : b.1 ≤ 1000) (b2 : 0 ≤ b.2) (b3 : b.2 ≤ 1000) :
    Calls Try.prog 71 #[.agg #[.int .i64 a.1, .int .i64 a.2], .agg #[.int .i64 b.1, .int .i64 b.2]] w fun e w' => e = .returned (.bool (gtB a b)) ∧ Below w.heap.size w w' := by
  have m1 := mul_bd a0 a1 b2 b3
  have m2 := mul_bd b0 b1 a2 a3
  go_enter Try.func71, Try.ntmps71
  go_wp2
  go_ret
  exact ⟨rfl, ((Below.refl _ _).alloc (Nat.le_refl _) _).alloc (by simp) _⟩
set_option maxHeartbeats 400000 in
theorem lawGreater_any (a b : Int × Int) (w : World) (a0 : 0 ≤ a.1) (a1 : a.1 ≤ 1000) (a2 : 0 ≤ a.2) (a3 : a.2 ≤ 1000) (b0 : 0 ≤ b.1) (b1 : b.1 ≤ 1000) (b2 : 0 ≤ b.2) (b3 : b.2 ≤ 1000) :
    Calls Try.prog 37 #[.agg #[.int .i64 a.1, .int .i64 a.2], .agg #[.int .i64 b.1, .int .i64 b.2]] w fun e w' => e = .returned (.bool (gtB a b)) ∧ Below w.heap.size w w' := by
  have m1 := mul_bd a0 a1 b2 b3
  have m2 := mul_bd b0 b1 a2 a3
  go_enter Try.func37, Try.ntmps37
  go_wp2
  go_ret
  exact ⟨rfl, ((Below.refl _ _).alloc (Nat.le_refl _) _).alloc (by simp) _⟩
set_option maxHeartbeats 400000 in
theorem refLast_any (f y : Int) (S : Value) (b : Bool) (w : World) (f0 : 0 ≤ f) (f1 : f ≤ 9999) (y0 : 2 ≤ y) (y1 : y ≤ 200) :
    Calls Try.prog 104 #[.agg #[.int .i64 f, .int .i64 y, S], .bool b] w fun e w' => e = .returned (.int .i64 (f + ofF y b - 1)) ∧ Below w.heap.size w w' := by
  cases b
  all_goals
    go_enter Try.func104, Try.ntmps104
    go_wp2
    go_ret
    exact ⟨ret_int (by simp [ofF] <;> omega), (Below.refl _ _).alloc (Nat.le_refl _) _⟩

theorem num_le {f : Int} {h b : High} (h0 : 0 ≤ h.day) (h1 : h.day ≤ 364) (b0 : 0 ≤ b.day) (b1 : b.day ≤ 364) : numF f h ≤ numF f b ↔ h.year < b.year ∨ (h.year = b.year ∧ h.day ≤ b.day) := by
  unfold numF; omega

set_option maxRecDepth 100000 in
set_option maxHeartbeats 2000000 in
theorem refCheckRecord_loop (f y : Int) (A : Option Addr) (n c : Nat) (hs : List High) (w : World) (hr : RdH w A n hs) (hn : n ≤ 300) (h1 : outB f 0 9999 = false) (h2 : outB y 2 200 = false) :
    Calls Try.prog 39 #[.agg #[.int .i64 f, .int .i64 y, .slice A n c]] w fun e w' => e = .returned (.tuple #[.int .i64 (firstErr (hErr f y hs) 0 (n - 0)).1, .int .i64 (firstErr (hErr f y hs) 0 (n - 0)).2]) ∧ Below w.heap.size w w' := by
  obtain ⟨hb1, hb1'⟩ := outB_false h1
  obtain ⟨hb2, hb2'⟩ := outB_false h2
  have hn3 : decide ((300 : Int) < (n : Int)) = false := by simp; omega
  generalize hX : firstErr (hErr f y hs) 0 (n - 0) = X
  have HX := Lib.hid hX; clear hX
  go_enter Try.func39, Try.ntmps39
  go_wp2_with (first | (go_at_call 53; refine (in_any _ _ _ _).mono ?_; rintro e w' ⟨rfl, rfl⟩))
  have W0 : Hid (Rd High.enc 3 (w.alloc (.cells #[.int .i64 f, .int .i64 y, .slice A n c] 24)) A n hs) := hr.below ((Below.refl _ _).alloc (Nat.le_refl _) _)
  clear hr
  go_loopw [4] (fun i wr => ∃ k : Nat, k ≤ n ∧ i = .int .i64 k ∧ Below (w.heap.size + 1) (w.alloc (.cells #[.int .i64 f, .int .i64 y, .slice A n c] 24)) wr ∧ (∀ j, j < k → hErr f y hs j = 0) ∧ firstErr (hErr f y hs) k (n - k) = X) (fun i _ => n - (intOf i).toNat)
  case atStart => exact ⟨0, Nat.zero_le _, rfl, Below.refl _ _, fun _ h => by omega, HX.out⟩
  case round =>
    obtain ⟨k, hk, rfl, hB, hE, hR⟩ := hrel
    have HB := Lib.hid hB
    have HE := Lib.hid hE; clear hE
    have HR := Lib.hid hR; clear hR
    have b0 : wr.cell? ⟨w.heap.size, 0, none⟩ = some (.int .i64 f) := by rw [hB.cell (by simp)]; simp
    have b1 : wr.cell? ⟨w.heap.size, 1, none⟩ = some (.int .i64 y) := by rw [hB.cell (by simp)]; simp
    have b2 : wr.cell? ⟨w.heap.size, 2, none⟩ = some (.slice A n c) := by rw [hB.cell (by simp)]; simp
    have hr2 := W0.out.below (hB.mono (by simp))
    have hsz : w.heap.size < wr.heap.size := by have := hB.size; simp at this; omega
    have HF : Hid (Below w.heap.size w wr) := ((Below.refl _ w).alloc (Nat.le_refl _) _).trans (hB.mono (by omega))
    clear hB
    by_cases hlt : k < n
    · obtain ⟨h, ad, hh, rfl, ha⟩ := hr2.get hlt
      obtain ⟨c0, c1, c2⟩ := ha.three
      have HH := Lib.hid hh
      have hkl : (k : Int) < (n : Int) := by omega
      by_cases g1 : (outB h.year f (f + y - 1) || lateB h.day || highB h.level) = true
      · have hv := hErr_out hh g1
        have HV := Lib.hid hv
        clear hv hh hr2 ha
        have fin : Hid (((k : Int), (7 : Int)) = X) := by
          have := firstErr_not hlt (show hErr f y hs k ≠ 0 by rw [HV.out]; decide)
          rw [HV.out] at this
          exact this.symm.trans HR.out
        rcases or3_cases g1 with g2 | ⟨g2, g3⟩ | ⟨g2, g3, g4⟩
        all_goals
          clear g1
          go_wp2_with (first | (go_at_call 53; refine (in_any _ _ _ _).mono ?_; rintro e w' ⟨rfl, rfl⟩) | (go_at_call 84; refine (day_any _ _).mono ?_; rintro e w' ⟨rfl, rfl⟩) | (go_at_call 75; refine (level_any _ _).mono ?_; rintro e w' ⟨rfl, rfl⟩))
          go_ret2
          exact ⟨by rw [← fin.out]; rfl, HF.out.alloc HF.out.size _⟩
      · have g2 : (outB h.year f (f + y - 1) || lateB h.day || highB h.level) = false := by simpa using g1
        have g3 := g2
        simp only [Bool.or_eq_false_iff] at g3
        obtain ⟨⟨g4, g5⟩, g6⟩ := g3
        obtain ⟨y1, y2⟩ := outB_false g4
        obtain ⟨y3, y4⟩ := outB_false g5
        by_cases hk0 : 0 < k
        · have hd : decide ((0 : Int) < (k : Int)) = true := by simp; omega
          obtain ⟨b, ad', hb', e', hab⟩ := hr2.get (i := k - 1) (by omega)
          cases e'
          obtain ⟨p0, p1, p2⟩ := hab.three
          have p0a := cell_alloc p0 (.cells #[.int .i64 h.year, .int .i64 h.day, .int .i64 h.level] 108)
          have p1a := cell_alloc p1 (.cells #[.int .i64 h.year, .int .i64 h.day, .int .i64 h.level] 108)
          have p2a := cell_alloc p2 (.cells #[.int .i64 h.year, .int .i64 h.day, .int .i64 h.level] 108)
          have hvb := hErr_row hb' (HE.out (k - 1) (by omega))
          obtain ⟨z1, z2⟩ := outB_false hvb.1
          obtain ⟨z3, z4⟩ := outB_false hvb.2.1
          have hv : hErr f y hs k = if numF f h ≤ numF f b then 2 else 0 := by
            obtain ⟨j, rfl⟩ : ∃ j, k = j + 1 := ⟨k - 1, by omega⟩
            exact hErr_next hh hb' g2
          have HV := Lib.hid hv
          have HNl := Lib.hid (num_le (f := f) (h := h) (b := b) y3 y4 z3 z4)
          have HF2 : Hid (Below (w.heap.size + 1) (w.alloc (.cells #[.int .i64 f, .int .i64 y, .slice (some ad) n c] 24)) ((wr.alloc (.cells #[.int .i64 h.year, .int .i64 h.day, .int .i64 h.level] 108)).alloc (.cells #[.int .i64 b.year, .int .i64 b.day, .int .i64 b.level] 108))) := (HB.out.alloc (by omega) _).alloc (by simp; omega) _
          have HF3 : Hid (Below w.heap.size w ((wr.alloc (.cells #[.int .i64 h.year, .int .i64 h.day, .int .i64 h.level] 108)).alloc (.cells #[.int .i64 b.year, .int .i64 b.day, .int .i64 b.level] 108))) := (HF.out.alloc HF.out.size _).alloc (by have := HF.out.size; simp; omega) _
          clear hv hh hb' hr2 ha hab g2 g1 hvb
          by_cases q1 : h.year < b.year
          · have d1 : decide (h.year < b.year) = true := by simpa using q1
            have fin : Hid (((k : Int), (2 : Int)) = X) := by
              have h0 : hErr f y hs k = 2 := by rw [HV.out, if_pos (HNl.out.2 (.inl q1))]
              have := firstErr_not hlt (show hErr f y hs k ≠ 0 by rw [h0]; decide)
              rw [h0] at this
              exact this.symm.trans HR.out
            go_wp2_with (first | (go_at_call 53; refine (in_any _ _ _ _).mono ?_; rintro e w' ⟨rfl, rfl⟩) | (go_at_call 84; refine (day_any _ _).mono ?_; rintro e w' ⟨rfl, rfl⟩) | (go_at_call 75; refine (level_any _ _).mono ?_; rintro e w' ⟨rfl, rfl⟩))
            go_ret2
            exact ⟨by rw [← fin.out]; rfl, HF3.out⟩
          · have d1 : decide (h.year < b.year) = false := by simpa using q1
            by_cases q2 : h.year = b.year ∧ h.day ≤ b.day
            · have d2 : (h.year == b.year) = true := by simpa using q2.1
              have d3 : decide (h.day ≤ b.day) = true := by simpa using q2.2
              have fin : Hid (((k : Int), (2 : Int)) = X) := by
                have h0 : hErr f y hs k = 2 := by rw [HV.out, if_pos (HNl.out.2 (.inr q2))]
                have := firstErr_not hlt (show hErr f y hs k ≠ 0 by rw [h0]; decide)
                rw [h0] at this
                exact this.symm.trans HR.out
              clear q2
              go_wp2_with (first | (go_at_call 53; refine (in_any _ _ _ _).mono ?_; rintro e w' ⟨rfl, rfl⟩) | (go_at_call 84; refine (day_any _ _).mono ?_; rintro e w' ⟨rfl, rfl⟩) | (go_at_call 75; refine (level_any _ _).mono ?_; rintro e w' ⟨rfl, rfl⟩))
              go_ret2
              exact ⟨by rw [← fin.out]; rfl, HF3.out⟩
            · have h0 : hErr f y hs k = 0 := by rw [HV.out, if_neg (fun hc => by rcases HNl.out.1 hc with h | h; exact q1 h; exact q2 h)]
              have HV0 := Lib.hid h0
              have fin := Lib.hid ((firstErr_zero hlt h0).symm.trans HR.out)
              clear h0
              by_cases q3 : h.year = b.year
              · have d2 : (h.year == b.year) = true := by simpa using q3
                have d3 : decide (h.day ≤ b.day) = false := by simp; omega
                clear q2 q3
                go_wp2_with (first | (go_at_call 53; refine (in_any _ _ _ _).mono ?_; rintro e w' ⟨rfl, rfl⟩) | (go_at_call 84; refine (day_any _ _).mono ?_; rintro e w' ⟨rfl, rfl⟩) | (go_at_call 75; refine (level_any _ _).mono ?_; rintro e w' ⟨rfl, rfl⟩))
                go_roundw
                case rel => exact ⟨k + 1, by omega, by go_num, HF2.out, all_succ HE.out HV0.out, fin.out⟩
                case measure => simp [intOf]; omega
              · have d2 : (h.year == b.year) = false := by simpa using q3
                clear q2
                go_wp2_with (first | (go_at_call 53; refine (in_any _ _ _ _).mono ?_; rintro e w' ⟨rfl, rfl⟩) | (go_at_call 84; refine (day_any _ _).mono ?_; rintro e w' ⟨rfl, rfl⟩) | (go_at_call 75; refine (level_any _ _).mono ?_; rintro e w' ⟨rfl, rfl⟩))
                go_roundw
                case rel => exact ⟨k + 1, by omega, by go_num, HF2.out, all_succ HE.out HV0.out, fin.out⟩
                case measure => simp [intOf]; omega
        · have hd : decide ((0 : Int) < (k : Int)) = false := by simp; omega
          have h0 : hErr f y hs k = 0 := by
            have e : k = 0 := by omega
            rw [e] at hh ⊢
            exact hErr_first hh g2
          have HV0 := Lib.hid h0
          have fin := Lib.hid ((firstErr_zero hlt h0).symm.trans HR.out)
          clear h0 hh hr2 ha g1 g2
          go_wp2_with (first | (go_at_call 53; refine (in_any _ _ _ _).mono ?_; rintro e w' ⟨rfl, rfl⟩) | (go_at_call 84; refine (day_any _ _).mono ?_; rintro e w' ⟨rfl, rfl⟩) | (go_at_call 75; refine (level_any _ _).mono ?_; rintro e w' ⟨rfl, rfl⟩))
          go_roundw
          case rel => exact ⟨k + 1, by omega, by go_num, HB.out.alloc (by omega) _, all_succ HE.out HV0.out, fin.out⟩
          case measure => simp [intOf]; omega
    · have fin := Lib.hid ((firstErr_end (g := hErr f y hs) (Nat.le_of_not_lt hlt)).symm.trans HR.out)
      clear hr2
      go_wp2
      go_ret2
      exact ⟨by rw [← fin.out]; rfl, HF.out⟩

set_option maxHeartbeats 1000000 in
theorem refCheckRecord_any (r : Rec) (A : Option Addr) (n c : Nat) (w : World) (hr : RdH w A n r.highs) :
    Calls Try.prog 39 #[.agg #[.int .i64 r.first, .int .i64 r.years, .slice A n c]] w fun e w' => e = .returned (.tuple #[.int .i64 (chkRec r).1, .int .i64 (chkRec r).2]) ∧ Below w.heap.size w w' := by
  obtain ⟨f, y, hs⟩ := r
  dsimp only at *
  have hl := hr.1
  by_cases g1 : (outB f 0 9999 || outB y 2 200) = true
  · have hc : chkRec ⟨f, y, hs⟩ = (-1, 7) := by unfold chkRec; simp only [g1, if_true]
    rw [hc]
    clear hc hr
    by_cases g2 : outB f 0 9999 = true
    · clear g1
      go_enter Try.func39, Try.ntmps39
      go_wp2_with (first | (go_at_call 53; refine (in_any _ _ _ _).mono ?_; rintro e w' ⟨rfl, rfl⟩))
      go_ret2
      exact ⟨rfl, (Below.refl _ _).alloc (Nat.le_refl _) _⟩
    · have g3 : outB f 0 9999 = false := by simpa using g2
      have g4 : outB y 2 200 = true := by simpa [g3] using g1
      clear g1 g2
      go_enter Try.func39, Try.ntmps39
      go_wp2_with (first | (go_at_call 53; refine (in_any _ _ _ _).mono ?_; rintro e w' ⟨rfl, rfl⟩))
      go_ret2
      exact ⟨rfl, (Below.refl _ _).alloc (Nat.le_refl _) _⟩
  · have g2 : (outB f 0 9999 || outB y 2 200) = false := by simpa using g1
    simp only [Bool.or_eq_false_iff] at g2
    obtain ⟨g3, g4⟩ := g2
    by_cases hn : n ≤ 300
    · have hc : chkRec ⟨f, y, hs⟩ = firstErr (hErr f y hs) 0 (n - 0) := by unfold chkRec; simp [g3, g4, hl]; omega
      rw [hc]
      exact refCheckRecord_loop f y A n c hs w hr hn g3 g4
    · have hc : chkRec ⟨f, y, hs⟩ = (-1, 3) := by unfold chkRec; simp [g3, g4, hl]; omega
      rw [hc]
      clear hc hr hl g1
      have hn3 : decide ((300 : Int) < (n : Int)) = true := by simp; omega
      go_enter Try.func39, Try.ntmps39
      go_wp2_with (first | (go_at_call 53; refine (in_any _ _ _ _).mono ?_; rintro e w' ⟨rfl, rfl⟩))
      go_ret2
      exact ⟨rfl, (Below.refl _ _).alloc (Nat.le_refl _) _⟩
end Go.Proofs.Ytkkajemahehoaaa
