import Derived.Test.YtjdaigffgfnhaaaGreatW1
namespace Go.Proofs.YtjdaigffgfnhaaaGreat
open Go.RowKit

theorem or3_cases {a b c : Bool} (h : (a || b || c) = true) : a = true ∨ (a = false ∧ b = true) ∨ (a = false ∧ b = false ∧ c = true) := by
  cases a <;> cases b <;> cases c <;> simp_all

set_option maxHeartbeats 1000000 in
theorem checkRecord_loop (f y : Int) (A : Option Addr) (n c : Nat) (hs : List High) (w : World) (hr : RdH w A n hs) (hn : n ≤ 300) (h1 : outB f 0 9999 = false) (h2 : outB y 2 200 = false) :
    Calls Tryz.prog 9 #[.agg #[.int .i64 f, .int .i64 y, .slice A n c]] w fun e w' => e = .returned (.tuple #[.int .i64 (firstErr (hErr f y hs) 0 (n - 0)).1, .int .i64 (firstErr (hErr f y hs) 0 (n - 0)).2]) ∧ Below w.heap.size w w' := by
  obtain ⟨hb1, hb1'⟩ := outB_false h1
  obtain ⟨hb2, hb2'⟩ := outB_false h2
  have hn3 : decide ((300 : Int) < (n : Int)) = false := by simp; omega
  generalize hX : firstErr (hErr f y hs) 0 (n - 0) = X
  have HX := Lib.hid hX; clear hX
  go_enter Tryz.func9, Tryz.ntmps9
  go_wp2_with (first | (go_at_call 37; refine (out_any _ _ _ _).mono ?_; rintro e w' ⟨rfl, rfl⟩))
  have W0 : Hid (Rd High.enc 3 (w.alloc (.cells #[.int .i64 f, .int .i64 y, .slice A n c] 24)) A n hs) := hr.below ((Below.refl _ _).alloc (Nat.le_refl _) _)
  clear hr
  go_loopw [23] (fun i wr => ∃ k : Nat, k ≤ n ∧ i = .int .i64 k ∧ Below (w.heap.size + 1) (w.alloc (.cells #[.int .i64 f, .int .i64 y, .slice A n c] 24)) wr ∧ (∀ j, j < k → hErr f y hs j = 0) ∧ firstErr (hErr f y hs) k (n - k) = X) (fun i _ => n - (intOf i).toNat)
  case atStart => exact ⟨0, Nat.zero_le _, rfl, Below.refl _ _, fun _ h => by omega, HX.out⟩
  case round =>
    obtain ⟨k, hk, rfl, hB, hE, hR⟩ := hrel
    have HB := Lib.hid hB
    have HE := Lib.hid hE; clear hE
    have HR := Lib.hid hR; clear hR
    have b0 : wr.cell? ⟨w.heap.size, 0, none⟩ = some (.int .i64 f) := by rw [hB.cell (by simp)]; simp
    have b1 : wr.cell? ⟨w.heap.size, 1, none⟩ = some (.int .i64 y) := by rw [hB.cell (by simp)]; simp
    have b2 : wr.cell? ⟨w.heap.size, 2, none⟩ = some (.slice A n c) := by rw [hB.cell (by simp)]; simp
    have hr2 := W0.out.below (hB.mono (by simp))
    have hsz : w.heap.size < wr.heap.size := by have := hB.size; simp at this; omega
    have HF : Hid (Below w.heap.size w wr) := ((Below.refl _ w).alloc (Nat.le_refl _) _).trans (hB.mono (by omega))
    clear hB
    by_cases hlt : k < n
    · obtain ⟨h, ad, hh, rfl, ha⟩ := hr2.get hlt
      obtain ⟨c0, c1, c2⟩ := ha.three
      have HH := Lib.hid hh
      by_cases g1 : (outB h.year f (f + y - 1) || lateB h.day || highB h.level) = true
      · have hv := hErr_out hh g1
        have HV := Lib.hid hv
        clear hv hh hr2 ha
        have fin : Hid (((k : Int), (7 : Int)) = X) := by
          have := firstErr_not hlt (show hErr f y hs k ≠ 0 by rw [HV.out]; decide)
          rw [HV.out] at this
          exact this.symm.trans HR.out
        rcases or3_cases g1 with g2 | ⟨g2, g3⟩ | ⟨g2, g3, g4⟩
        all_goals
          clear g1
          go_wp2_with (first | (go_at_call 37; refine (out_any _ _ _ _).mono ?_; rintro e w' ⟨rfl, rfl⟩) | (go_at_call 38; refine (late_any _ _).mono ?_; rintro e w' ⟨rfl, rfl⟩) | (go_at_call 11; refine (high_any _ _).mono ?_; rintro e w' ⟨rfl, rfl⟩))
          go_ret2
          exact ⟨by rw [← fin.out]; rfl, HF.out.alloc HF.out.size _⟩
      · have g2 : (outB h.year f (f + y - 1) || lateB h.day || highB h.level) = false := by simpa using g1
        have g3 := g2
        simp only [Bool.or_eq_false_iff] at g3
        obtain ⟨⟨g4, g5⟩, g6⟩ := g3
        obtain ⟨y1, y2⟩ := outB_false g4
        obtain ⟨y3, y4⟩ := outB_false g5
        by_cases hk0 : 0 < k
        · have hd : decide ((0 : Int) < (k : Int)) = true := by simp; omega
          obtain ⟨b, ad', hb', e', hab⟩ := hr2.get (i := k - 1) (by omega)
          cases e'
          obtain ⟨p0, p1, p2⟩ := hab.three
          have hvb := hErr_row hb' (HE.out (k - 1) (by omega))
          obtain ⟨z1, z2⟩ := outB_false hvb.1
          obtain ⟨z3, z4⟩ := outB_false hvb.2.1
          have hv : hErr f y hs k = if numF f h ≤ numF f b then 2 else 0 := by
            obtain ⟨j, rfl⟩ : ∃ j, k = j + 1 := ⟨k - 1, by omega⟩
            exact hErr_next hh hb' g2
          have HV := Lib.hid hv
          clear hv hh hb' hr2 ha hab g2 g1 hvb
          go_wp2_with (first | (go_at_call 37; refine (out_any _ _ _ _).mono ?_; rintro e w' ⟨rfl, rfl⟩) | (go_at_call 38; refine (late_any _ _).mono ?_; rintro e w' ⟨rfl, rfl⟩) | (go_at_call 11; refine (high_any _ _).mono ?_; rintro e w' ⟨rfl, rfl⟩))
          obtain ⟨W, hW⟩ : ∃ W, wr.alloc (.cells #[.int .i64 h.year, .int .i64 h.day, .int .i64 h.level] 44) = W := ⟨_, rfl⟩
          have q0 : ∀ u : Later W, u.w.cell? ⟨w.heap.size, 0, none⟩ = some (.int .i64 f) := later_cell (by rw [← hW]; exact cell_alloc b0 _)
          have q1 : ∀ u : Later W, u.w.cell? ⟨w.heap.size, 1, none⟩ = some (.int .i64 y) := later_cell (by rw [← hW]; exact cell_alloc b1 _)
          have q2 : ∀ u : Later W, u.w.cell? ⟨w.heap.size, 2, none⟩ = some (.slice (some ad) n c) := later_cell (by rw [← hW]; exact cell_alloc b2 _)
          have q3 : ∀ u : Later W, u.w.cell? ⟨wr.heap.size, 0, none⟩ = some (.int .i64 h.year) := later_cell (by rw [← hW]; simp)
          have q4 : ∀ u : Later W, u.w.cell? ⟨wr.heap.size, 1, none⟩ = some (.int .i64 h.day) := later_cell (by rw [← hW]; simp)
          have q5 : ∀ u : Later W, u.w.cell? ⟨wr.heap.size, 2, none⟩ = some (.int .i64 h.level) := later_cell (by rw [← hW]; simp)
          have r0 := later_cell (by rw [← hW]; exact cell_alloc p0 _ : W.cell? _ = _)
          have r1 := later_cell (by rw [← hW]; exact cell_alloc p1 _ : W.cell? _ = _)
          have r2 := later_cell (by rw [← hW]; exact cell_alloc p2 _ : W.cell? _ = _)
          rw [hW]
          have HG : Hid (Below w.heap.size w W) := by rw [← hW]; exact HF.out.alloc HF.out.size _
          have HI : Hid (Below (w.heap.size + 1) (w.alloc (.cells #[.int .i64 f, .int .i64 y, .slice (some ad) n c] 24)) W) := by rw [← hW]; exact HB.out.alloc (by omega) _
          clear hW b0 b1 b2 p0 p1 p2 c0 c1 c2
          refine wp_region_later (by kernel_rfl) (by kernel_rfl) ?_
          repeat (first | go_big_quiet_skip | (go_big_quiet_want; go_big_quiet_op; first | go_big_quiet_on | (apply Exists.intro; refine ⟨fun _ => ?_, ?_⟩; (· (go_at_call 39; exact later_calls (number_any _ _ _ _ _ _ _ (by omega) (by omega) (by omega) (by omega) (by omega) (by omega)))); go_big_quiet_on)))
          refine wpQuiet_nil ?_
          intro _ hw'
          obtain ⟨u, hu⟩ := hw'
          subst hu
          clear q0 q1 q2 q3 q4 q5 r0 r1 r2
          have HU : Hid (Below w.heap.size w u.w) := HG.out.trans (u.h.mono HG.out.size)
          have HJ : Hid (Below (w.heap.size + 1) (w.alloc (.cells #[.int .i64 f, .int .i64 y, .slice (some ad) n c] 24)) u.w) := HI.out.trans (u.h.mono (by have := HI.out.size; simpa using this))
          go_wp2
          · have hc : numF f h ≤ numF f b := by assumption
            have hv2 : hErr f y hs k = 2 := by rw [HV.out, if_pos hc]
            have fin := firstErr_not hlt (show hErr f y hs k ≠ 0 by rw [hv2]; decide)
            rw [hv2] at fin
            go_ret2
            exact ⟨by rw [← HR.out, fin]; rfl, HU.out⟩
          · have hc : numF f b < numF f h := by assumption
            have hv2 : hErr f y hs k = 0 := by rw [HV.out, if_neg (by omega)]
            have HV2 := Lib.hid hv2
            clear hv2
            go_roundw
            case rel => exact ⟨k + 1, by omega, by go_num, HJ.out, all_succ HE.out HV2.out, (firstErr_zero hlt HV2.out).symm.trans HR.out⟩
            case measure => simp [intOf]; omega
        · have hd : decide ((0 : Int) < (k : Int)) = false := by simp; omega
          have hv : hErr f y hs k = 0 := by
            obtain rfl : k = 0 := by omega
            exact hErr_first hh g2
          have HV := Lib.hid hv
          clear hv hh hr2 ha g2 g1
          go_wp2_with (first | (go_at_call 37; refine (out_any _ _ _ _).mono ?_; rintro e w' ⟨rfl, rfl⟩) | (go_at_call 38; refine (late_any _ _).mono ?_; rintro e w' ⟨rfl, rfl⟩) | (go_at_call 11; refine (high_any _ _).mono ?_; rintro e w' ⟨rfl, rfl⟩))
          go_quiet (fail)
          go_wp2
          go_roundw
          case rel => exact ⟨k + 1, by omega, by go_num, below_drewN' (HB.out.alloc (by omega) _) _, all_succ HE.out HV.out, (firstErr_zero hlt HV.out).symm.trans HR.out⟩
          case measure => simp [intOf]; omega
    · clear hr2
      have fin := firstErr_end (g := hErr f y hs) (Nat.le_of_not_lt hlt)
      have FIN : Hid ((0, 0) = X) := fin.symm.trans HR.out
      clear fin
      go_wp2
      go_ret2
      exact ⟨by rw [← FIN.out]; rfl, HF.out⟩

set_option maxHeartbeats 1000000 in
theorem checkRecord_any (f y : Int) (A : Option Addr) (n c : Nat) (hs : List High) (w : World) (hr : RdH w A n hs) :
    Calls Tryz.prog 9 #[.agg #[.int .i64 f, .int .i64 y, .slice A n c]] w fun e w' => e = .returned (.tuple #[.int .i64 (chkRec ⟨f, y, hs⟩).1, .int .i64 (chkRec ⟨f, y, hs⟩).2]) ∧ Below w.heap.size w w' := by
  have hl := hr.1
  by_cases g1 : (outB f 0 9999 || outB y 2 200) = true
  · have hc : chkRec ⟨f, y, hs⟩ = (-1, 7) := by unfold chkRec; simp only [g1, if_true]
    have HC := Lib.hid hc
    rw [hc]
    clear hc hr
    by_cases g2 : outB f 0 9999 = true
    · clear g1
      go_enter Tryz.func9, Tryz.ntmps9
      go_wp2_with (first | (go_at_call 37; refine (out_any _ _ _ _).mono ?_; rintro e w' ⟨rfl, rfl⟩))
      go_ret2
      exact ⟨rfl, (Below.refl _ _).alloc (Nat.le_refl _) _⟩
    · have g3 : outB f 0 9999 = false := by simpa using g2
      have g4 : outB y 2 200 = true := by simpa [g3] using g1
      clear g1 g2
      go_enter Tryz.func9, Tryz.ntmps9
      go_wp2_with (first | (go_at_call 37; refine (out_any _ _ _ _).mono ?_; rintro e w' ⟨rfl, rfl⟩))
      go_ret2
      exact ⟨rfl, (Below.refl _ _).alloc (Nat.le_refl _) _⟩
  · have g2 : (outB f 0 9999 || outB y 2 200) = false := by simpa using g1
    simp only [Bool.or_eq_false_iff] at g2
    obtain ⟨g3, g4⟩ := g2
    by_cases hn : n ≤ 300
    · have hc : chkRec ⟨f, y, hs⟩ = firstErr (hErr f y hs) 0 (n - 0) := by unfold chkRec; simp [g3, g4, hl]; omega
      rw [hc]
      exact checkRecord_loop f y A n c hs w hr hn g3 g4
    · have hc : chkRec ⟨f, y, hs⟩ = (-1, 3) := by unfold chkRec; simp [g3, g4, hl]; omega
      rw [hc]
      clear hc hr hl g1
      have hn3 : decide ((300 : Int) < (n : Int)) = true := by simp; omega
      go_enter Tryz.func9, Tryz.ntmps9
      go_wp2_with (first | (go_at_call 37; refine (out_any _ _ _ _).mono ?_; rintro e w' ⟨rfl, rfl⟩))
      go_ret2
      exact ⟨rfl, (Below.refl _ _).alloc (Nat.le_refl _) _⟩
end Go.Proofs.YtjdaigffgfnhaaaGreat
