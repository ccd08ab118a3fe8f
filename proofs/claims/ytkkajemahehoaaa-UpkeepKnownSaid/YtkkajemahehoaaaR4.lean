/- The reference's Name, work, Check, good, tries, bad. -/
import Derived.Test.YtkkajemahehoaaaR3
import Derived.Test.YtkkajemahehoaaaYr
namespace Go.Proofs.Ytkkajemahehoaaa
open Go.RowKit

set_option maxHeartbeats 400000 in
theorem in1_any (n lo hi : Int) (w : World) :
    Calls Try.prog 111 #[.int .i64 n, .int .i64 lo, .int .i64 hi] w fun e w' => e = .returned (.bool (!outB n lo hi)) ∧ w = w' := by
  go_enter Try.func111, Try.ntmps111
  go_wp2
  all_goals go_ret
  all_goals exact ⟨ret_bool (by unfold outB; rw [Bool.eq_iff_iff]; simp; try omega), rfl⟩

set_option maxHeartbeats 2000000 in
theorem refName_any (s : ByteArray) (w : World) (hs : s.size ≤ 9223372036854775807) :
    Calls Try.prog 94 #[.string s] w fun e w' => e = .returned (.bool (nameB s)) ∧ w = w' := by
  generalize hN : nameB s = N
  have HN := Lib.hid hN; clear hN
  cases hb : outB (s.size : Int) 1 24
  · obtain ⟨z0, z1⟩ := outB_false hb
    go_enter Try.func94, Try.ntmps94
    go_wp2_with (go_at_call 111; refine (in1_any _ _ _ _).mono ?_; rintro e w' ⟨rfl, rfl⟩)
    go_loop [3] (fun i => ∃ k : Nat, k ≤ s.size ∧ i = .int .i64 k ∧ (∀ j, j < k → (hj : j < s.size) → chB j s[j] = true)) (fun i => s.size - (intOf i).toNat)
    case atStart => exact ⟨0, Nat.zero_le _, rfl, fun j h => by omega⟩
    case round =>
      obtain ⟨k, hk, rfl, hall⟩ := hrel
      have HA := Lib.hid hall; clear hall
      by_cases hlt : k < s.size
      · cases hk0 : ((k : Int) == 0)
        all_goals
          have hk1 : k = 0 ∨ ¬ k = 0 := Classical.em _
          go_wp2
          all_goals
            have hx : (s[k].toNat : Int) = 45 ∨ ((s[k].toNat : Int) == 45) = false := by
              by_cases e : (s[k].toNat : Int) = 45
              · exact .inl e
              · exact .inr (by simpa using e)
            have hk2 := hk0
            first | rw [beq_iff_eq] at hk2 | rw [beq_eq_false_iff_ne] at hk2
            first
              | (have hc : chB k s[k] = true := by
                   unfold chB
                   simp only [Bool.or_eq_true, Bool.and_eq_true, decide_eq_true_eq]
                   first | omega | (rename_i q; rw [beq_iff_eq] at q; omega) | (rename_i q; rw [bne_iff_ne] at q; omega) | (rename_i q; simp at q; omega)
                 have HC := Lib.hid hc
                 clear hc hx hk2
                 go_round
                 case rel => exact ⟨k + 1, by omega, by go_num, all_succ (P := fun j => (hj : j < s.size) → chB j s[j] = true) HA.out (fun _ => HC.out)⟩
                 case measure => simp [intOf]; omega)
              | (have hc : chB k s[k] = false := by
                   unfold chB
                   simp only [Bool.or_eq_false_iff, Bool.and_eq_false_iff, decide_eq_false_iff_not]
                   first | omega | (rename_i q; simp at q; omega) | (rename_i q _; simp at q; omega)
                 have HC := Lib.hid (name_false hlt hc)
                 clear hc hx hk2
                 go_ret
                 exact ⟨ret_bool (by rw [← HN.out, HC.out]), rfl⟩)
      · have hall : ∀ i, (hi : i < s.size) → chB i s[i] = true := fun i hi => HA.out i (by omega) hi
        have HF := Lib.hid (name_all hall)
        clear hall
        go_wp2
        all_goals go_ret
        all_goals refine ⟨ret_bool ?_, rfl⟩
        all_goals rw [← HN.out, HF.out]
        all_goals simp
        all_goals omega
  · have hf : nameB s = false := by
      unfold nameB
      have := outB_true hb
      rcases this with h | h
      · have : s.size = 0 := by omega
        simp [this]
      · have h2 : ¬ s.size ≤ 24 := by omega
        simp [h2]
    have HF := Lib.hid (hf.symm.trans HN.out)
    clear hf
    go_enter Try.func94, Try.ntmps94
    go_wp2_with (go_at_call 111; refine (in1_any _ _ _ _).mono ?_; rintro e w' ⟨rfl, rfl⟩)
    go_ret
    exact ⟨ret_bool HF.out, rfl⟩
theorem or7_cases {a b c d e f g : Bool} (h : (a || b || c || d || e || f || g) = true) : a = true ∨ (a = false ∧ b = true) ∨ (a = false ∧ b = false ∧ c = true) ∨ (a = false ∧ b = false ∧ c = false ∧ d = true) ∨ (a = false ∧ b = false ∧ c = false ∧ d = false ∧ e = true) ∨ (a = false ∧ b = false ∧ c = false ∧ d = false ∧ e = false ∧ f = true) ∨ (a = false ∧ b = false ∧ c = false ∧ d = false ∧ e = false ∧ f = false ∧ g = true) := by
  cases a <;> cases b <;> cases c <;> cases d <;> cases e <;> cases f <;> cases g <;> simp_all
theorem wOut_ref (v : Work) : wOut v = (outB v.gate 0 99 || outB v.days 1 200 || lateB v.frm || lateB v.til || decide (v.til < v.frm) || outB v.step 1 365 || highB v.level) := by
  unfold wOut lateB highB outB
  rw [Bool.eq_iff_iff]
  simp only [Bool.or_eq_true, decide_eq_true_eq]
  omega
theorem div_bd {a b : Int} (a0 : 0 ≤ a) (b0 : 1 ≤ b) : 0 ≤ a / b ∧ a / b ≤ a := ⟨Int.ediv_nonneg a0 (by omega), Int.ediv_le_self _ a0⟩

abbrev Work.val (v : Work) : Array Value := #[.string v.name, .int .i64 v.gate, .int .i64 v.days, .int .i64 v.frm, .int .i64 v.til, .int .i64 v.step, .int .i64 v.level]

set_option maxRecDepth 100000 in
set_option maxHeartbeats 4000000 in
theorem refWork_any (t : Task) (A : Option Addr) (n c : Nat) (A' : Option Addr) (n' c' : Nat) (i : Nat) (v : Work) (w : World) (hT : TkM w t A n c A' n' c') (hv : t.works[i]? = some v) (hn : n' ≤ 4) :
    Calls Try.prog 52 #[.agg (t.val A n c A' n' c'), .int .i64 (i : Int)] w fun e w' => e = .returned (.int .i64 (vErr t.works i v)) ∧ Below w.heap.size w w' := by
  have hin : i < n' := by have := (List.getElem?_eq_some_iff.1 hv).1; have := hT.hw.1; omega
  obtain ⟨ad, rfl, ha⟩ := hT.hw.2 i v hv
  have HWk := Lib.hid hT.hw
  have hnv := hT.nm i v hv
  generalize hX : vErr t.works i v = X
  have HX := Lib.hid hX; clear hX
  obtain ⟨b1, b2, b3⟩ := two w (t.val A n c (some ad) n' c') v.val 29 61
  obtain ⟨c0, c1, c2, c3, c4, c5, c6⟩ := (ha.below ((Below.refl _ _).alloc (Nat.le_refl _) (.cells (t.val A n c (some ad) n' c') 29))).seven
  have hii : (i : Int) < (n' : Int) := by omega
  have HB1 := Lib.hid b1; have K1 := Lib.hid b2; have K2 := Lib.hid b3
  clear b1 b2 b3 ha hT hv
  unfold Task.val Work.val at *
  go_enter Try.func52, Try.ntmps52
  go_wp2_with fail
  refine (refName_any _ _ hnv).mono ?_
  rintro e w' ⟨rfl, rfl⟩
  obtain ⟨W1, hW1⟩ : ∃ W1, (w.alloc (Obj.cells #[.int .i64 t.rd.first, .int .i64 t.rd.years, .slice A n c, .slice (some ad) n' c', .int .i64 t.gap, .int .i64 t.width, .int .i64 t.day.1, .int .i64 t.day.2, .int .i64 t.plan.1, .int .i64 t.plan.2] 29)).alloc (Obj.cells #[.string v.name, .int .i64 v.gate, .int .i64 v.days, .int .i64 v.frm, .int .i64 v.til, .int .i64 v.step, .int .i64 v.level] 61) = W1 := ⟨_, rfl⟩
  rw [hW1] at HB1 K1 K2 ⊢
  clear hW1 c0 c1 c2 c3 c4 c5 c6
  by_cases g1 : nameB v.name = false
  · have F : Hid (6 = X) := by have := HX.out; unfold vErr at this; rw [if_pos g1] at this; exact this
    go_wp2
    go_ret
    exact ⟨ret_int F.out, HB1.out⟩
  · have g1' : nameB v.name = true := by simpa using g1
    have HX2 : Hid ((if anyB t.works v.name i = true then (5 : Int) else if wOut v = true then 7 else if 40 ≤ (v.til - v.frm) / v.step then 3 else 0) = X) := by have := HX.out; unfold vErr at this; rw [if_neg g1] at this; exact this
    clear HX g1
    generalize hI : idxF (sameB t.works v.name) 0 (i - 0) = I0
    have HI := Lib.hid hI; clear hI
    have HAny : Hid (anyB t.works v.name i = decide (0 ≤ I0)) := by unfold anyB; rw [HI.out]; rfl
    go_wp2
    go_loopw [6] (fun q wr => ∃ k : Nat, k ≤ i ∧ q = .int .i64 k ∧ Below W1.heap.size W1 wr ∧ idxF (sameB t.works v.name) k (i - k) = I0) (fun q _ => i - (intOf q).toNat)
    case atStart => exact ⟨0, Nat.zero_le _, rfl, Below.refl _ _, HI.out⟩
    case round =>
      obtain ⟨k, hk, rfl, hB, hE⟩ := hrel
      have HB := Lib.hid hB; clear hB
      have HE := Lib.hid hE; clear hE
      have HBw : Hid (Below w.heap.size w wr) := HB1.out.trans (HB.out.mono HB1.out.size)
      have L2 := Lib.hid (K2.out.later HB.out)
      by_cases hlt : k < i
      · obtain ⟨x, ad', hx, e', ha⟩ := (HWk.out.below HBw.out).get (i := k) (by omega)
        cases e'
        obtain ⟨c0, c1, c2, c3, c4, c5, c6⟩ := ha.seven
        have hsm : sameB t.works v.name k = (x.name.toList == v.name.toList) := by unfold sameB; rw [hx]
        have HSm := Lib.hid hsm
        have q0 := later_cell c0
        have q1 := later_cell ((K1.out.later HB.out).cell (i := 3) rfl)
        have q2 := later_cell (L2.out.cell (i := 0) rfl)
        have hki : (k : Int) < (i : Int) := by omega
        have hkn : (k : Int) < (n' : Int) := by omega
        clear hsm ha hx c0 c1 c2 c3 c4 c5 c6
        cases hq : (x.name.toList == v.name.toList)
        · have F := Lib.hid ((idxF_no hlt (HSm.out.trans hq)).symm.trans HE.out)
          go_wp2
          refine wp_region_later (by kernel_rfl) (by kernel_rfl) ?_
          repeat (first | go_big_quiet_skip | (go_big_quiet_want; go_big_quiet_op; go_big_quiet_on))
          refine wpQuiet_nil ?_
          intro _ hw'
          obtain ⟨u, hu⟩ := hw'
          subst hu
          go_wp2
          go_roundw
          case rel => exact ⟨k + 1, by omega, by go_num, HB.out.trans (u.h.mono HB.out.size), F.out⟩
          case measure => simp [intOf]; omega
        · have F : Hid (5 = X) := by
            have h1 := (idxF_yes hlt (HSm.out.trans hq)).symm.trans HE.out
            have h2 := HX2.out
            rw [if_pos (by rw [HAny.out, ← h1]; simp)] at h2
            exact h2
          go_wp2
          refine wp_region_later (by kernel_rfl) (by kernel_rfl) ?_
          repeat (first | go_big_quiet_skip | (go_big_quiet_want; go_big_quiet_op; go_big_quiet_on))
          refine wpQuiet_nil ?_
          intro _ hw'
          obtain ⟨u, hu⟩ := hw'
          subst hu
          go_wp2
          go_ret
          exact ⟨ret_int F.out, HBw.out.trans (u.h.mono HBw.out.size)⟩
      · obtain rfl : i = k := by omega
        have HX3 : Hid ((if wOut v = true then (7 : Int) else if 40 ≤ (v.til - v.frm) / v.step then 3 else 0) = X) := by
          have h1 : (-1 : Int) = I0 := (idxF_end (p := sameB t.works v.name) (Nat.le_of_not_lt hlt)).symm.trans HE.out
          have h2 := HX2.out
          rw [if_neg (by rw [HAny.out, ← h1]; simp)] at h2
          exact h2
        clear HX2 HE HAny HI
        have d1 := L2.out.cell (i := 1) rfl
        have d2 := L2.out.cell (i := 2) rfl
        have d3 := L2.out.cell (i := 3) rfl
        have d4 := L2.out.cell (i := 4) rfl
        have d5 := L2.out.cell (i := 5) rfl
        have d6 := L2.out.cell (i := 6) rfl
        by_cases g3 : wOut v = true
        · have F : Hid (7 = X) := by have := HX3.out; rw [if_pos g3] at this; exact this
          rw [wOut_ref] at g3
          rcases or7_cases g3 with h1 | ⟨h1, h2⟩ | ⟨h1, h2, h3⟩ | ⟨h1, h2, h3, h4⟩ | ⟨h1, h2, h3, h4, h5⟩ | ⟨h1, h2, h3, h4, h5, h6⟩ | ⟨h1, h2, h3, h4, h5, h6, h7⟩
          all_goals
            clear g3
            go_wp2_with (first | (go_at_call 53; refine (in_any _ _ _ _).mono ?_; rintro e w' ⟨rfl, rfl⟩) | (go_at_call 84; refine (day_any _ _).mono ?_; rintro e w' ⟨rfl, rfl⟩) | (go_at_call 75; refine (level_any _ _).mono ?_; rintro e w' ⟨rfl, rfl⟩))
            go_ret
            exact ⟨ret_int F.out, HBw.out⟩
        · have g3' : wOut v = false := by simpa using g3
          have HX4 : Hid ((if 40 ≤ (v.til - v.frm) / v.step then (3 : Int) else 0) = X) := by have := HX3.out; rw [if_neg g3] at this; exact this
          clear HX3 g3
          rw [wOut_ref] at g3'
          simp only [Bool.or_eq_false_iff] at g3'
          obtain ⟨⟨⟨⟨⟨⟨h1, h2⟩, h3⟩, h4⟩, h5⟩, h6⟩, h7⟩ := g3'
          obtain ⟨x1, x2⟩ := outB_false h3
          obtain ⟨x3, x4⟩ := outB_false h4
          obtain ⟨x5, x6⟩ := outB_false h6
          have x7 : ¬ v.til < v.frm := by simpa using h5
          have hdb := div_bd (a := v.til - v.frm) (b := v.step) (by omega) x5
          by_cases g5 : 40 ≤ (v.til - v.frm) / v.step
          · have F : Hid (3 = X) := by have := HX4.out; rw [if_pos g5] at this; exact this
            have g5' : decide (40 < (v.til - v.frm) / v.step + 1) = true := by simp; omega
            clear HX4
            go_wp2_with (first | (go_at_call 53; refine (in_any _ _ _ _).mono ?_; rintro e w' ⟨rfl, rfl⟩) | (go_at_call 84; refine (day_any _ _).mono ?_; rintro e w' ⟨rfl, rfl⟩) | (go_at_call 75; refine (level_any _ _).mono ?_; rintro e w' ⟨rfl, rfl⟩))
            go_ret
            exact ⟨ret_int F.out, HBw.out⟩
          · have F : Hid (0 = X) := by have := HX4.out; rw [if_neg g5] at this; exact this
            have g5' : decide (40 < (v.til - v.frm) / v.step + 1) = false := by simp; omega
            clear HX4
            go_wp2_with (first | (go_at_call 53; refine (in_any _ _ _ _).mono ?_; rintro e w' ⟨rfl, rfl⟩) | (go_at_call 84; refine (day_any _ _).mono ?_; rintro e w' ⟨rfl, rfl⟩) | (go_at_call 75; refine (level_any _ _).mono ?_; rintro e w' ⟨rfl, rfl⟩))
            go_ret
            exact ⟨ret_int F.out, HBw.out⟩
end Go.Proofs.Ytkkajemahehoaaa
