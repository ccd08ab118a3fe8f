/- The reference's may, meet, judge, Judge; SameReasons. -/
import Derived.Test.YtkkajemahehoaaaR6
import Derived.Test.YtkkajemahehoaaaJ2
namespace Go.Proofs.Ytkkajemahehoaaa
open Go.RowKit

set_option maxHeartbeats 1000000 in
theorem may_any (x : Work) (s : Int) (w : World) (hw : WorkOK x) :
    Calls Try.prog 101 #[.agg x.val, .int .i64 s] w fun e w' => e = .returned (.bool (!wrongB s x)) ∧ Below w.heap.size w w' := by
  obtain ⟨d0, d1, u0, u1, f0, f1, t0, t1, _, _⟩ := hw
  unfold wrongB Work.val
  cases ho : outB s x.frm x.til
  · obtain ⟨w3, w4⟩ := outB_false ho
    have w5 : 0 ≤ s - x.frm := by omega
    go_enter Try.func101, Try.ntmps101
    go_wp2_with (go_at_call 53; refine (in_any _ _ _ _).mono ?_; rintro e w' ⟨rfl, rfl⟩)
    go_ret
    exact ⟨ret_bool (by simp [bne]), (Below.refl _ _).alloc (Nat.le_refl _) _⟩
  · go_enter Try.func101, Try.ntmps101
    go_wp2_with (go_at_call 53; refine (in_any _ _ _ _).mono ?_; rintro e w' ⟨rfl, rfl⟩)
    go_ret
    exact ⟨ret_bool (by simp), (Below.refl _ _).alloc (Nat.le_refl _) _⟩

theorem mB_ref (gap a d1 b d2 : Int) : mB gap a d1 b d2 = if b < a then (decide (a ≤ b + d2 - 1 + gap) || decide (b + 365 ≤ a + d1 - 1 + gap)) else (decide (b ≤ a + d1 - 1 + gap) || decide (a + 365 ≤ b + d2 - 1 + gap)) := by
  unfold mB
  split <;> (rw [Bool.eq_iff_iff]; simp; omega)

set_option maxRecDepth 100000 in
set_option maxHeartbeats 4000000 in
theorem refMeet_any (t : Task) (A : Option Addr) (n c : Nat) (A' : Option Addr) (n' c' : Nat) (As : Option Addr) (m cs : Nat) (ss : List Int) (i j : Nat) (w : World) (hT : TkM w t A n c A' n' c') (hs : RdI w As m ss) (hok : TaskOK t) (hm : m = n') (hss : ∀ s ∈ ss, 0 ≤ s ∧ s ≤ 364) (hi : i < m) (hj : j < m) :
    Calls Try.prog 102 #[.agg (t.val A n c A' n' c'), .slice As m cs, .int .i64 (i : Int), .int .i64 (j : Int)] w fun e w' => e = .returned (.bool (meetP t ss j i)) ∧ Below w.heap.size w w' := by
  have HB1 : Hid (Below w.heap.size w (w.alloc (.cells (t.val A n c A' n' c') 29))) := (Below.refl _ _).alloc (Nat.le_refl _) _
  have KK : Hid (Blk (w.alloc (.cells (t.val A n c A' n' c') 29)) w.heap.size 29 (t.val A n c A' n' c')) := Blk.new _ _ _ rfl
  obtain ⟨xi, ad, hxi, rfl, hai⟩ := (hT.hw.below HB1.out).get (i := i) (by omega)
  obtain ⟨xj, ad', hxj, e', haj⟩ := (hT.hw.below HB1.out).get (i := j) (by omega)
  cases e'
  obtain ⟨si, sd, hsi, rfl, ci⟩ := rdI_get (hs.below HB1.out) hi
  obtain ⟨sj, sd', hsj, e', cj⟩ := rdI_get (hs.below HB1.out) hj
  cases e'
  obtain ⟨_, _, i2, _, _, _, _⟩ := hai.seven
  obtain ⟨_, _, j2, _, _, _, _⟩ := haj.seven
  have e : meetP t ss j i = mB t.gap si xi.days sj xj.days := by unfold meetP; rw [hsi, hxi, hsj, hxj]
  rw [e, mB_ref]
  have wi := workOK_of (hok.rows i xi hxi).2.2.1
  have wj := workOK_of (hok.rows j xj hxj).2.2.1
  obtain ⟨a0, a1, _, _, _, _, _, _, _, _⟩ := wi
  obtain ⟨b0, b1, _, _, _, _, _, _, _, _⟩ := wj
  obtain ⟨c0, c1⟩ := hss si (List.mem_of_getElem? hsi)
  obtain ⟨d0, d1⟩ := hss sj (List.mem_of_getElem? hsj)
  obtain ⟨g0, g1⟩ := hok.gap
  have hii : (i : Int) < (m : Int) := by omega
  have hjj : (j : Int) < (m : Int) := by omega
  have hii' : (i : Int) < (n' : Int) := by omega
  have hjj' : (j : Int) < (n' : Int) := by omega
  clear hT hs hok hm hss hi hj hxi hxj hsi hsj hai haj e
  unfold Task.val at *
  go_enter Try.func102, Try.ntmps102
  go_wp2
  obtain ⟨W1, hW1⟩ : ∃ W1, w.alloc (Obj.cells #[.int .i64 t.rd.first, .int .i64 t.rd.years, .slice A n c, .slice (some ad) n' c', .int .i64 t.gap, .int .i64 t.width, .int .i64 t.day.1, .int .i64 t.day.2, .int .i64 t.plan.1, .int .i64 t.plan.2] 29) = W1 := ⟨_, rfl⟩
  rw [hW1] at HB1 KK ci cj i2 j2 ⊢
  clear hW1
  have q0 := later_cell ci
  have q1 := later_cell cj
  by_cases hlt : sj < si
  · have hd : decide (sj < si) = true := by simpa using hlt
    refine wp_region_later (by kernel_rfl) (by kernel_rfl) ?_
    repeat (first | go_big_quiet_skip | (go_big_quiet_want; go_big_quiet_op; go_big_quiet_on))
    refine wpQuiet_nil ?_
    intro _ hw'
    obtain ⟨u, hu⟩ := hw'
    subst hu
    clear q0 q1
    have HBu : Hid (Below w.heap.size w u.w) := HB1.out.trans (u.h.mono HB1.out.size)
    have KU := KK.out.later u.h
    have r0 := later_cell (cell_below u.h ci)
    have r1 := later_cell (cell_below u.h cj)
    have r2 := later_cell (cell_below u.h i2)
    have r3 := later_cell (cell_below u.h j2)
    have r4 := later_cell (KU.cell (i := 3) rfl)
    have r5 := later_cell (KU.cell (i := 4) rfl)
    clear KU
    cases h1 : decide (si ≤ sj + xj.days - 1 + t.gap)
    all_goals
      go_wp2
      refine wp_region_later (by kernel_rfl) (by kernel_rfl) ?_
      repeat (first | go_big_quiet_skip | (go_big_quiet_want; go_big_quiet_op; go_big_quiet_on))
      refine wpQuiet_nil ?_
      intro _ hw'
      obtain ⟨u2, hu⟩ := hw'
      subst hu
      clear r0 r1 r2 r3 r4 r5
      go_wp2
      go_ret
      exact ⟨ret_bool rfl, HBu.out.trans (u2.h.mono HBu.out.size)⟩
  · have hd : decide (sj < si) = false := by simpa using hlt
    refine wp_region_later (by kernel_rfl) (by kernel_rfl) ?_
    repeat (first | go_big_quiet_skip | (go_big_quiet_want; go_big_quiet_op; go_big_quiet_on))
    refine wpQuiet_nil ?_
    intro _ hw'
    obtain ⟨u, hu⟩ := hw'
    subst hu
    clear q0 q1
    have HBu : Hid (Below w.heap.size w u.w) := HB1.out.trans (u.h.mono HB1.out.size)
    have KU := KK.out.later u.h
    have r0 := later_cell (cell_below u.h ci)
    have r1 := later_cell (cell_below u.h cj)
    have r2 := later_cell (cell_below u.h i2)
    have r3 := later_cell (cell_below u.h j2)
    have r4 := later_cell (KU.cell (i := 3) rfl)
    have r5 := later_cell (KU.cell (i := 4) rfl)
    clear KU
    cases h1 : decide (sj ≤ si + xi.days - 1 + t.gap)
    all_goals
      go_wp2
      refine wp_region_later (by kernel_rfl) (by kernel_rfl) ?_
      repeat (first | go_big_quiet_skip | (go_big_quiet_want; go_big_quiet_op; go_big_quiet_on))
      refine wpQuiet_nil ?_
      intro _ hw'
      obtain ⟨u2, hu⟩ := hw'
      subst hu
      clear r0 r1 r2 r3 r4 r5
      go_wp2
      go_ret
      exact ⟨ret_bool rfl, HBu.out.trans (u2.h.mono HBu.out.size)⟩
set_option maxRecDepth 100000 in
set_option maxHeartbeats 4000000 in
theorem refJudge0_any (t : Task) (A : Option Addr) (n c : Nat) (A' : Option Addr) (n' c' : Nat) (As : Option Addr) (m cs : Nat) (ss : List Int) (w : World) (hT : TkM w t A n c A' n' c') (hs : RdI w As m ss) (hok : TaskOK t) (hm : m = n') (hss : ∀ s ∈ ss, 0 ≤ s ∧ s ≤ 364) :
    Calls Try.prog 69 #[.agg (t.val A n c A' n' c'), .slice As m cs] w (ListPostR (judgeL t ss) w) := by
  obtain ⟨i0, hi, hz0, hz1, hz2⟩ := info_parts info77
  have hsl := hs.1
  have hml : m ≤ 4 := by have := hT.hw.1; have := hok.len; omega
  have HWs : Hid (∀ (i : Nat) (v : Work), t.works[i]? = some v → WorkOK v) := fun i v hv => workOK_of (hok.rows i v hv).2.2.1
  have HSr := Lib.hid hss; have HSs := Lib.hid hs; have HWk := Lib.hid hT.hw
  have HMt : Hid (∀ (i j : Nat) (W : World), i < m → j < m → Below w.heap.size w W → Calls Try.prog 102 #[.agg (t.val A n c A' n' c'), .slice As m cs, .int .i64 (i : Int), .int .i64 (j : Int)] W fun e w' => e = .returned (.bool (meetP t ss j i)) ∧ Below W.heap.size W w') := fun i j W h1 h2 hW => refMeet_any t A n c A' n' c' As m cs ss i j W (hT.below hW) (hs.below hW) hok hm hss h1 h2
  have HBd : Hid (∀ (W : World) (i : Nat) (x : Work) (s : Int), Below w.heap.size w W → t.works[i]? = some x → 0 ≤ s → s ≤ 364 → Calls Try.prog 59 #[.agg (t.val A n c A' n' c'), .int .i64 (i : Int), .int .i64 s] W fun e w' => e = .returned (.int .i64 (badF t x s)) ∧ Below W.heap.size W w') := fun W i x s hW hx a b => refBad_any t A n c A' n' c' i x s W (hT.below hW) hx hok a (by omega)
  have HYr : Hid (∀ W : World, Below w.heap.size w W → Calls Try.prog 70 #[.agg (t.val A n c A' n' c'), .slice As m cs] W (HarmPost t ss W)) := fun W hW => refYears0_any t ss A n c A' n' c' As m cs W (hT.below hW) (hs.below hW) hok hm hss
  obtain ⟨r1, r2, r3, r4⟩ := harmR_bounds hok ss
  obtain ⟨⟨p0, p1⟩, p2, p3⟩ := hok.plan
  have HJ : Hid (judgeL t ss = upTo (wrongAt t ss) m ++ upTo (fun i => fromTo (meetAt t ss i) i m) m ++ upTo (insideAt t ss) m ++ riskyL t ss) := by unfold judgeL wrongL meetsL insideL; rw [hsl]; rfl
  have HRl : Hid (riskyL t ss = if gtB (harmR t ss) t.plan then [⟨4, -1, -1, -1⟩] else []) := rfl
  rw [HJ.out, HRl.out]
  clear HJ HRl hT hs hok hss
  subst hm
  generalize hF : (fun i => fromTo (meetAt t ss i) i m) = F
  have HF : Hid (∀ i, F i = fromTo (meetAt t ss i) i m) := fun i => by rw [← hF]
  have HFl : Hid (∀ i, (F i).length ≤ m) := fun i => by rw [HF.out i]; have := fromTo_len (meetAt_len t ss i) i m; omega
  clear hF
  have HB1 : Hid (Below w.heap.size w (w.alloc (.cells (t.val A n c A' m c') 29))) := (Below.refl _ _).alloc (Nat.le_refl _) _
  have KK : Hid (Blk (w.alloc (.cells (t.val A n c A' m c') 29)) w.heap.size 29 (t.val A n c A' m c')) := Blk.new _ _ _ rfl
  have HG : Hid (∀ W : World, Calls Try.prog 71 #[.agg #[.int .i64 (harmR t ss).1, .int .i64 (harmR t ss).2], .agg #[.int .i64 t.plan.1, .int .i64 t.plan.2]] W fun e w' => e = .returned (.bool (gtB (harmR t ss) t.plan)) ∧ Below W.heap.size W w') := fun W => refGreater_any (harmR t ss) t.plan W (by omega) (by omega) (by omega) (by omega) (by omega) (by omega) (by omega) (by omega)
  unfold Task.val at *
  generalize hgb : gtB (harmR t ss) t.plan = gb at *
  clear hgb
  generalize hRL : (if gb = true then [(⟨4, -1, -1, -1⟩ : Reason)] else []) = RL
  have HRL := Lib.hid hRL; clear hRL
  have hU1 := upTo_len (wrongAt_len t ss) m
  have hU2 := upTo_len HFl.out m
  have hU2' : (upTo F m).length ≤ 16 := Nat.le_trans hU2 (Nat.mul_le_mul hml hml)
  have hU3 := upTo_len (insideAt_len t ss) m
  clear hU2
  go_enter Try.func69, Try.ntmps69
  go_wp2
  obtain ⟨W1, hW1⟩ : ∃ W1, w.alloc (Obj.cells #[.int .i64 t.rd.first, .int .i64 t.rd.years, .slice A n c, .slice A' m c', .int .i64 t.gap, .int .i64 t.width, .int .i64 t.day.1, .int .i64 t.day.2, .int .i64 t.plan.1, .int .i64 t.plan.2] 29) = W1 := ⟨_, rfl⟩
  rw [hW1] at HB1 KK ⊢
  clear hW1
  go_loopw [5, 6] (fun v q wr => ∃ k : Nat, k ≤ m ∧ q = .int .i64 k ∧ wr.ownsRow W1.heap.size 77 4 v (upTo (wrongAt t ss) k).length ((upTo (wrongAt t ss) k).flatMap Reason.enc) ∧ Below W1.heap.size W1 wr) (fun _ q _ => m - (intOf q).toNat)
  case atStart => exact ⟨0, Nat.zero_le _, rfl, World.ownsRow_nil _ _ _ _, Below.refl _ _⟩
  case round =>
    obtain ⟨k, hk, rfl, hown, hB⟩ := hrel
    have HB := Lib.hid hB; clear hB
    have hul := upTo_len (wrongAt_len t ss) k
    have HBw : Hid (Below w.heap.size w wr) := HB1.out.trans (HB.out.mono HB1.out.size)
    by_cases hlt : k < m
    · obtain ⟨x, ad, hx, rfl, ha⟩ := (HWk.out.below HBw.out).get hlt
      obtain ⟨s, sd, hs, rfl, cs0⟩ := rdI_get (HSs.out.below HBw.out) hlt
      obtain ⟨c0, c1, c2, c3, c4, c5, c6⟩ := ha.seven
      have hwk := HWs.out k x hx
      have HAt : Hid (wrongAt t ss k = if wrongB s x then [⟨1, k, -1, -1⟩] else []) := by unfold wrongAt; rw [hs, hx]; rfl
      have HMy : Hid (∀ u : Later wr, Calls Try.prog 101 #[.agg #[.string x.name, .int .i64 x.gate, .int .i64 x.days, .int .i64 x.frm, .int .i64 x.til, .int .i64 x.step, .int .i64 x.level], .int .i64 s] u.w fun e w' => e = .returned (.bool (!wrongB s x)) ∧ Below u.w.heap.size u.w w') := fun u => may_any x s u.w hwk
      have hki : (k : Int) < (m : Int) := by omega
      have HSu := Lib.hid (upTo_succ (wrongAt t ss) k)
      have qt := later_cell ((KK.out.later HB.out).cell (i := 3) rfl)
      have q0 := later_cell c0
      have q1 := later_cell c1
      have q2 := later_cell c2
      have q3 := later_cell c3
      have q4 := later_cell c4
      have q5 := later_cell c5
      have q6 := later_cell c6
      have qs := later_cell cs0
      clear ha hx hs c0 c1 c2 c3 c4 c5 c6 cs0 hwk
      cases hw : wrongB s x
      · have HS2 : Hid (upTo (wrongAt t ss) (k + 1) = upTo (wrongAt t ss) k) := by rw [HSu.out, HAt.out, hw]; simp [Hid]
        rw [hw] at HMy
        go_wp2
        refine wp_region_later (by kernel_rfl) (by kernel_rfl) ?_
        repeat (first | go_big_quiet_skip | (go_big_quiet_want; go_big_quiet_op; first | go_big_quiet_on | (apply Exists.intro; refine ⟨fun _ => ?_, ?_⟩; (· (with_reducible exact later_calls (HMy.out _))); go_big_quiet_on)))
        refine wpQuiet_nil ?_
        intro _ hw'
        obtain ⟨u, hu⟩ := hw'
        subst hu
        clear qt q0 q1 q2 q3 q4 q5 q6 qs
        go_wp2
        go_roundw
        case rel => exact ⟨k + 1, by omega, by go_num, by rw [HS2.out]; exact hown.kept (grown_of_below u.h none) (Classical.em _), HB.out.trans (u.h.mono HB.out.size)⟩
        case measure => simp [intOf]; omega
      · have HS2 : Hid (upTo (wrongAt t ss) (k + 1) = upTo (wrongAt t ss) k ++ [⟨1, k, -1, -1⟩]) := by rw [HSu.out, HAt.out, hw]; simp [Hid]
        rw [hw] at HMy
        go_wp2
        refine wp_region_later (by kernel_rfl) (by kernel_rfl) ?_
        repeat (first | go_big_quiet_skip | (go_big_quiet_want; go_big_quiet_op; first | go_big_quiet_on | (apply Exists.intro; refine ⟨fun _ => ?_, ?_⟩; (· (with_reducible exact later_calls (HMy.out _))); go_big_quiet_on)))
        refine wpQuiet_nil ?_
        intro _ hw'
        obtain ⟨u, hu⟩ := hw'
        subst hu
        clear qt q0 q1 q2 q3 q4 q5 q6 qs
        have HB3 : Hid (Below W1.heap.size W1 u.w) := HB.out.trans (u.h.mono HB.out.size)
        have hown3 := hown.kept (grown_of_below u.h none) (Classical.em _)
        generalize upTo (wrongAt t ss) k = L at *
        clear hown
        go_wp2_with (first | (refine wpList_buildSlice_one rfl 64 77 _ rfl 4 _ #[.int .i64 1, .int .i64 (k : Int), .int .i64 (-1), .int .i64 (-1)] rfl Try.underlying64 (size77 _) (zero77 _) rfl (by omega) (by omega) ?_) | (at_builtin; refine wpList_append_own _ rfl _ _ 64 rfl W1.heap.size 77 i0 (.agg #[.int .i64 0, .int .i64 0, .int .i64 0, .int .i64 0]) 4 32 Try.underlying64 hi hz0 hz1 hz2 rfl (by decide) _ _ _ rfl (hown3.alloc _) ⟨u.w.heap.size, 0, none⟩ 1 1 [.int .i64 1, .int .i64 (k : Int), .int .i64 (-1), .int .i64 (-1)] rfl rfl (cells_new4 _ _ _ _ _ _) (one4 _ _ _ _) (by unfold maxLen; omega) (by omega) (by have := HB3.out.size; simp; omega) ?_; intro v' w2 hown' hgrow _; have HB4 : Hid (Below W1.heap.size W1 w2) := ((HB3.out.alloc HB3.out.size _).grown hgrow (by have := HB3.out.size; simp; omega) (fun j e => (hown3.lt j e).1)); clear hgrow))
        go_roundw
        case rel => exact ⟨k + 1, by omega, by go_num, by rw [HS2.out, List.length_append, List.flatMap_append]; exact hown', HB4.out⟩
        case measure => simp [intOf]; omega
    · obtain rfl : m = k := by omega
      have HO2 := Lib.hid hown
      have HBB2 := Lib.hid HB.out
      clear hown HB HBw
      generalize upTo (wrongAt t ss) m = L1 at *
      go_wp2
      go_loopw [5, 7] (fun v q wr => ∃ k : Nat, k ≤ m ∧ q = .int .i64 k ∧ wr.ownsRow W1.heap.size 77 4 v (L1 ++ upTo F k).length ((L1 ++ upTo F k).flatMap Reason.enc) ∧ Below W1.heap.size W1 wr) (fun _ q _ => m - (intOf q).toNat)
      case atStart => exact ⟨0, Nat.zero_le _, rfl, by unfold upTo; simp; exact HO2.out, HBB2.out⟩
      case round =>
        obtain ⟨k, hk, rfl, hown, hB⟩ := hrel
        have HB := Lib.hid hB; clear hB
        have HOw := Lib.hid hown; clear hown
        have hul := upTo_len HFl.out k
        have hul2 : (upTo F k).length ≤ 16 := Nat.le_trans hul (Nat.mul_le_mul hml (by omega : k ≤ 4))
        clear hul
        have HSu := Lib.hid (upTo_succ F k)
        by_cases hlt2 : k < m
        · have hki : (k : Int) < (m : Int) := by omega
          have hLl : (L1 ++ upTo F k).length ≤ 40 := by rw [List.length_append]; omega
          have HSu2 : Hid (L1 ++ upTo F (k + 1) = (L1 ++ upTo F k) ++ F k) := by rw [HSu.out, List.append_assoc]; rfl
          generalize L1 ++ upTo F k = L at *
          go_wp2
          go_loopw [5, 8] (fun v q wi => ∃ j : Nat, k + 1 ≤ j ∧ j ≤ m ∧ q = .int .i64 j ∧ wi.ownsRow W1.heap.size 77 4 v (L ++ fromTo (meetAt t ss k) k j).length ((L ++ fromTo (meetAt t ss k) k j).flatMap Reason.enc) ∧ Below W1.heap.size W1 wi) (fun _ q _ => m - (intOf q).toNat)
          case atStart => exact ⟨k + 1, Nat.le_refl _, by omega, by go_num, by unfold fromTo; simp; exact HOw.out, HB.out⟩
          case round =>
            obtain ⟨j, hj0, hj, rfl, hown, hB⟩ := hrel
            have HBj := Lib.hid hB; clear hB
            have HBjw : Hid (Below w.heap.size w wr) := HB1.out.trans (HBj.out.mono HB1.out.size)
            have hfl := fromTo_len (meetAt_len t ss k) k j
            have hfs := Lib.hid (fromTo_succ (meetAt t ss k) k j hj0)
            have KJ := KK.out.later HBj.out
            have b0 := KJ.cell (i := 0) rfl
            have b1 := KJ.cell (i := 1) rfl
            have b2 := KJ.cell (i := 2) rfl
            have b3 := KJ.cell (i := 3) rfl
            have b4 := KJ.cell (i := 4) rfl
            have b5 := KJ.cell (i := 5) rfl
            have b6 := KJ.cell (i := 6) rfl
            have b7 := KJ.cell (i := 7) rfl
            have b8 := KJ.cell (i := 8) rfl
            have b9 := KJ.cell (i := 9) rfl
            have hzj := KJ.lt
            clear KJ
            by_cases hjt : j < m
            · have hji : (j : Int) < (m : Int) := by omega
              have HAt : Hid (meetAt t ss k j = if meetP t ss j k then [⟨2, k, j, -1⟩] else []) := rfl
              have HC := Lib.hid (HMt.out k j wr hlt2 hjt HBjw.out)
              cases hmt : meetP t ss j k
              · have HS2 : Hid (L ++ fromTo (meetAt t ss k) k (j + 1) = L ++ fromTo (meetAt t ss k) k j) := by rw [hfs.out, HAt.out, hmt]; simp [Hid]
                rw [hmt] at HC
                go_wp2_with fail
                refine HC.out.mono ?_
                rintro e W3 ⟨rfl, hb3⟩
                have HB3 : Hid (Below W1.heap.size W1 W3) := HBj.out.trans (hb3.mono HBj.out.size)
                have hown3 := hown.kept (grown_of_below hb3 none) (Classical.em _)
                clear hb3 hown b0 b1 b2 b3 b4 b5 b6 b7 b8 b9 hzj
                go_wp2_with fail
                go_roundw
                case rel => exact ⟨j + 1, by omega, by omega, by go_num, by rw [HS2.out]; exact hown3, HB3.out⟩
                case measure => simp [intOf]; omega
              · have HS2 : Hid (L ++ fromTo (meetAt t ss k) k (j + 1) = (L ++ fromTo (meetAt t ss k) k j) ++ [⟨2, k, j, -1⟩]) := by rw [hfs.out, HAt.out, hmt]; simp [Hid]
                rw [hmt] at HC
                have hMl : (L ++ fromTo (meetAt t ss k) k j).length ≤ 60 := by rw [List.length_append]; omega
                generalize L ++ fromTo (meetAt t ss k) k j = M at *
                go_wp2_with fail
                refine HC.out.mono ?_
                rintro e W3 ⟨rfl, hb3⟩
                have HB3 : Hid (Below W1.heap.size W1 W3) := HBj.out.trans (hb3.mono HBj.out.size)
                have hown3 := hown.kept (grown_of_below hb3 none) (Classical.em _)
                clear hb3 hown b0 b1 b2 b3 b4 b5 b6 b7 b8 b9 hzj
                go_wp2_with (first | (refine wpList_buildSlice_one rfl 64 77 _ rfl 4 _ #[.int .i64 2, .int .i64 (k : Int), .int .i64 (j : Int), .int .i64 (-1)] rfl Try.underlying64 (size77 _) (zero77 _) rfl (by omega) (by omega) ?_) | (at_builtin; refine wpList_append_own _ rfl _ _ 64 rfl W1.heap.size 77 i0 (.agg #[.int .i64 0, .int .i64 0, .int .i64 0, .int .i64 0]) 4 32 Try.underlying64 hi hz0 hz1 hz2 rfl (by decide) _ _ _ rfl (hown3.alloc _) ⟨W3.heap.size, 0, none⟩ 1 1 [.int .i64 2, .int .i64 (k : Int), .int .i64 (j : Int), .int .i64 (-1)] rfl rfl (cells_new4 _ _ _ _ _ _) (one4 _ _ _ _) (by unfold maxLen; omega) (by omega) (by have := HB3.out.size; simp; omega) ?_; intro v' w2 hown' hgrow _; have HB4 : Hid (Below W1.heap.size W1 w2) := ((HB3.out.alloc HB3.out.size _).grown hgrow (by have := HB3.out.size; simp; omega) (fun j e => (hown3.lt j e).1)); clear hgrow))
                go_roundw
                case rel => exact ⟨j + 1, by omega, by omega, by go_num, by rw [HS2.out, List.length_append, List.flatMap_append]; exact hown', HB4.out⟩
                case measure => simp [intOf]; omega
            · obtain rfl : m = j := by omega
              clear b0 b1 b2 b3 b4 b5 b6 b7 b8 b9 hzj
              go_wp2
              go_roundw
              case rel => exact ⟨k + 1, by omega, by go_num, by rw [HSu2.out, HF.out]; exact hown, HBj.out⟩
              case measure => simp [intOf]; omega
        · obtain rfl : m = k := by omega
          have hLl : (L1 ++ upTo F m).length ≤ 40 := by rw [List.length_append]; omega
          generalize L1 ++ upTo F m = L2 at *
          clear HSu hul2
          go_wp2
          go_loopw [5, 9] (fun v q wr => ∃ k : Nat, k ≤ m ∧ q = .int .i64 k ∧ wr.ownsRow W1.heap.size 77 4 v (L2 ++ upTo (insideAt t ss) k).length ((L2 ++ upTo (insideAt t ss) k).flatMap Reason.enc) ∧ Below W1.heap.size W1 wr) (fun _ q _ => m - (intOf q).toNat)
          case atStart => exact ⟨0, Nat.zero_le _, rfl, by unfold upTo; simp; exact HOw.out, HB.out⟩
          case round =>
            obtain ⟨k, hk, rfl, hown, hB⟩ := hrel
            have HBk := Lib.hid hB; clear hB
            have HBkw : Hid (Below w.heap.size w wr) := HB1.out.trans (HBk.out.mono HB1.out.size)
            have hul := upTo_len (insideAt_len t ss) k
            have HSu := Lib.hid (upTo_succ (insideAt t ss) k)
            have KJ := KK.out.later HBk.out
            by_cases hlt3 : k < m
            · obtain ⟨x, ad, hx, hAd, _⟩ := (HWk.out.below HBkw.out).get hlt3
              clear hAd
              obtain ⟨s, sd, hs, rfl, cs0⟩ := rdI_get (HSs.out.below HBkw.out) hlt3
              obtain ⟨s0, s1⟩ := HSr.out s (List.mem_of_getElem? hs)
              have HBq : Hid (∀ u : Later wr, Calls Try.prog 59 #[.agg #[.int .i64 t.rd.first, .int .i64 t.rd.years, .slice A n c, .slice A' m c', .int .i64 t.gap, .int .i64 t.width, .int .i64 t.day.1, .int .i64 t.day.2, .int .i64 t.plan.1, .int .i64 t.plan.2], .int .i64 (k : Int), .int .i64 s] u.w fun e w' => e = .returned (.int .i64 (badF t x s)) ∧ Below u.w.heap.size u.w w') := fun u => HBd.out u.w k x s (HBkw.out.trans (u.h.mono HBkw.out.size)) hx s0 s1
              have HAt : Hid (insideAt t ss k = if 0 ≤ badF t x s then [⟨3, k, -1, badF t x s⟩] else []) := by unfold insideAt; rw [hs, hx]; rfl
              have hki : (k : Int) < (m : Int) := by omega
              have hMl : (L2 ++ upTo (insideAt t ss) k).length ≤ 60 := by rw [List.length_append]; omega
              have HSu2 : Hid (L2 ++ upTo (insideAt t ss) (k + 1) = (L2 ++ upTo (insideAt t ss) k) ++ insideAt t ss k) := by rw [HSu.out, List.append_assoc]; rfl
              have q0 := later_cell (KJ.cell (i := 0) rfl)
              have q1 := later_cell (KJ.cell (i := 1) rfl)
              have q2 := later_cell (KJ.cell (i := 2) rfl)
              have q3 := later_cell (KJ.cell (i := 3) rfl)
              have q4 := later_cell (KJ.cell (i := 4) rfl)
              have q5 := later_cell (KJ.cell (i := 5) rfl)
              have q6 := later_cell (KJ.cell (i := 6) rfl)
              have q7 := later_cell (KJ.cell (i := 7) rfl)
              have q8 := later_cell (KJ.cell (i := 8) rfl)
              have q9 := later_cell (KJ.cell (i := 9) rfl)
              have qs := later_cell cs0
              clear hx hs KJ cs0 HSu
              generalize badF t x s = bd at *
              generalize L2 ++ upTo (insideAt t ss) k = M at *
              by_cases hb : 0 ≤ bd
              · have hb' : decide (0 ≤ bd) = true := by simpa using hb
                have HS2 : Hid (L2 ++ upTo (insideAt t ss) (k + 1) = M ++ [⟨3, k, -1, bd⟩]) := by rw [HSu2.out, HAt.out, if_pos hb]; rfl
                go_wp2
                refine wp_region_later (by kernel_rfl) (by kernel_rfl) ?_
                repeat (first | go_big_quiet_skip | (go_big_quiet_want; go_big_quiet_op; first | go_big_quiet_on | (apply Exists.intro; refine ⟨fun _ => ?_, ?_⟩; (· (with_reducible exact later_calls (HBq.out _))); go_big_quiet_on)))
                refine wpQuiet_nil ?_
                intro _ hw'
                obtain ⟨u, hu⟩ := hw'
                subst hu
                clear q0 q1 q2 q3 q4 q5 q6 q7 q8 q9 qs
                have HB3 : Hid (Below W1.heap.size W1 u.w) := HBk.out.trans (u.h.mono HBk.out.size)
                have hown3 := hown.kept (grown_of_below u.h none) (Classical.em _)
                clear hown
                go_wp2_with (first | (refine wpList_buildSlice_one rfl 64 77 _ rfl 4 _ #[.int .i64 3, .int .i64 (k : Int), .int .i64 (-1), .int .i64 bd] rfl Try.underlying64 (size77 _) (zero77 _) rfl (by omega) (by omega) ?_) | (at_builtin; refine wpList_append_own _ rfl _ _ 64 rfl W1.heap.size 77 i0 (.agg #[.int .i64 0, .int .i64 0, .int .i64 0, .int .i64 0]) 4 32 Try.underlying64 hi hz0 hz1 hz2 rfl (by decide) _ _ _ rfl (hown3.alloc _) ⟨u.w.heap.size, 0, none⟩ 1 1 [.int .i64 3, .int .i64 (k : Int), .int .i64 (-1), .int .i64 bd] rfl rfl (cells_new4 _ _ _ _ _ _) (one4 _ _ _ _) (by unfold maxLen; omega) (by omega) (by have := HB3.out.size; simp; omega) ?_; intro v' w2 hown' hgrow _; have HB4 : Hid (Below W1.heap.size W1 w2) := ((HB3.out.alloc HB3.out.size _).grown hgrow (by have := HB3.out.size; simp; omega) (fun j e => (hown3.lt j e).1)); clear hgrow))
                go_roundw
                case rel => exact ⟨k + 1, by omega, by go_num, by rw [HS2.out, List.length_append, List.flatMap_append]; exact hown', HB4.out⟩
                case measure => simp [intOf]; omega
              · have hb' : decide (0 ≤ bd) = false := by simpa using hb
                have HS2 : Hid (L2 ++ upTo (insideAt t ss) (k + 1) = M) := by rw [HSu2.out, HAt.out, if_neg hb]; simp [Hid]
                go_wp2
                refine wp_region_later (by kernel_rfl) (by kernel_rfl) ?_
                repeat (first | go_big_quiet_skip | (go_big_quiet_want; go_big_quiet_op; first | go_big_quiet_on | (apply Exists.intro; refine ⟨fun _ => ?_, ?_⟩; (· (with_reducible exact later_calls (HBq.out _))); go_big_quiet_on)))
                refine wpQuiet_nil ?_
                intro _ hw'
                obtain ⟨u, hu⟩ := hw'
                subst hu
                clear q0 q1 q2 q3 q4 q5 q6 q7 q8 q9 qs
                go_wp2
                go_roundw
                case rel => exact ⟨k + 1, by omega, by go_num, by rw [HS2.out]; exact hown.kept (grown_of_below u.h none) (Classical.em _), HBk.out.trans (u.h.mono HBk.out.size)⟩
                case measure => simp [intOf]; omega
            · obtain rfl : m = k := by omega
              have hMl : (L2 ++ upTo (insideAt t ss) m).length ≤ 60 := by rw [List.length_append]; omega
              generalize L2 ++ upTo (insideAt t ss) m = L3 at *
              have b0 := KJ.cell (i := 0) rfl
              have b1 := KJ.cell (i := 1) rfl
              have b2 := KJ.cell (i := 2) rfl
              have b3 := KJ.cell (i := 3) rfl
              have b4 := KJ.cell (i := 4) rfl
              have b5 := KJ.cell (i := 5) rfl
              have b6 := KJ.cell (i := 6) rfl
              have b7 := KJ.cell (i := 7) rfl
              have b8 := KJ.cell (i := 8) rfl
              have b9 := KJ.cell (i := 9) rfl
              have hzj := KJ.lt
              have HKJ := Lib.hid KJ
              clear KJ HSu
              unfold HarmPost at HYr
              generalize (harmR t ss).1 = h1 at *
              generalize (harmR t ss).2 = h2 at *
              go_wp2_with fail
              refine (HYr.out wr HBkw.out).mono ?_
              rintro e W4 ⟨v, rfl, _, hb4⟩
              have HB4 : Hid (Below W1.heap.size W1 W4) := HBk.out.trans (hb4.mono HBk.out.size)
              have KT4 := HKJ.out.later hb4
              have hown4 := hown.kept (grown_of_below hb4 none) (Classical.em _)
              clear hb4 hown b0 b1 b2 b3 b4 b5 b6 b7 b8 b9 hzj
              have b8 := KT4.cell (i := 8) rfl
              have b9 := KT4.cell (i := 9) rfl
              have hz4 := KT4.lt
              clear KT4
              go_wp2_with fail
              refine (HG.out _).mono ?_
              rintro e W5 ⟨rfl, hb5⟩
              have h5 : Below W1.heap.size W1 (W4.alloc (Obj.cells #[.int .i64 h1, .int .i64 h2] 27)) := HB4.out.alloc HB4.out.size _
              have HB5 : Hid (Below W1.heap.size W1 W5) := h5.trans (hb5.mono h5.size)
              have hown5 := (hown4.alloc (Obj.cells #[.int .i64 h1, .int .i64 h2] 27)).kept (grown_of_below hb5 none) (Classical.em _)
              clear hb5 h5 hown4 b8 b9 hz4
              cases gb
              · have HR2 : Hid (RL = []) := HRL.out.symm
                go_wp2_with fail
                go_ret
                refine ⟨_, rfl, ?_, HB1.out.trans (HB5.out.mono HB1.out.size)⟩
                rw [HR2.out, List.append_nil]
                exact own_lower hown5 HB1.out.size
              · have HR2 : Hid (RL = [⟨4, -1, -1, -1⟩]) := HRL.out.symm
                go_wp2_with (first | (refine wpList_buildSlice_one rfl 64 77 _ rfl 4 _ #[.int .i64 4, .int .i64 (-1), .int .i64 (-1), .int .i64 (-1)] rfl Try.underlying64 (size77 _) (zero77 _) rfl (by omega) (by omega) ?_) | (at_builtin; refine wpList_append_own _ rfl _ _ 64 rfl W1.heap.size 77 i0 (.agg #[.int .i64 0, .int .i64 0, .int .i64 0, .int .i64 0]) 4 32 Try.underlying64 hi hz0 hz1 hz2 rfl (by decide) _ _ _ rfl (hown5.alloc _) ⟨W5.heap.size, 0, none⟩ 1 1 [.int .i64 4, .int .i64 (-1), .int .i64 (-1), .int .i64 (-1)] rfl rfl (cells_new4 _ _ _ _ _ _) (one4 _ _ _ _) (by unfold maxLen; omega) (by omega) (by have := HB5.out.size; simp; omega) ?_; intro v' w2 hown' hgrow _; have HB6 : Hid (Below W1.heap.size W1 w2) := ((HB5.out.alloc HB5.out.size _).grown hgrow (by have := HB5.out.size; simp; omega) (fun j e => (hown5.lt j e).1)); clear hgrow))
                go_ret
                refine ⟨_, rfl, ?_, HB1.out.trans (HB6.out.mono HB1.out.size)⟩
                rw [HR2.out, List.length_append, List.flatMap_append]
                exact own_lower hown' HB1.out.size
set_option maxRecDepth 100000 in
set_option maxHeartbeats 2000000 in
theorem refJudge_any (t : Task) (ss : List Int) (A : Option Addr) (n c : Nat) (A' : Option Addr) (n' c' : Nat) (As : Option Addr) (m cs : Nat) (w : World) (hT : TkM w t A n c A' n' c') (hs : RdI w As m ss) :
    Calls Try.prog 35 #[.agg (t.val A n c A' n' c'), .slice As m cs] w (JudgePost t ss w) := by
  have HB1 : Hid (Below w.heap.size w (w.alloc (.cells (t.val A n c A' n' c') 29))) := (Below.refl _ _).alloc (Nat.le_refl _) _
  have KK : Hid (Blk (w.alloc (.cells (t.val A n c A' n' c') 29)) w.heap.size 29 (t.val A n c A' n' c')) := Blk.new _ _ _ rfl
  have HC := Lib.hid (shaped_any t ss A n c A' n' c' As m cs _ (hT.below HB1.out) (hs.below HB1.out))
  have HH : Hid (∀ W, shErr t ss = 0 → Below w.heap.size w W → Calls Try.prog 69 #[.agg (t.val A n c A' n' c'), .slice As m cs] W (ListPostR (judgeL t ss) W)) := fun W h hW =>
    refJudge0_any t A n c A' n' c' As m cs ss W (hT.below hW) (hs.below hW) (taskOK_of (planOK_of h).chk) (by have := hT.hw.1; have := hs.1; have := (planOK_of h).len; omega) (planOK_of h).days
  clear hT hs
  unfold Task.val at *
  by_cases hX : shErr t ss = 0
  · have HX := Lib.hid hX
    rw [hX] at HC
    clear hX
    go_enter Try.func35, Try.ntmps35
    go_wp2_with fail
    refine HC.out.mono ?_
    rintro e W2 ⟨rfl, hb2⟩
    have HB2 : Hid (Below w.heap.size w W2) := HB1.out.trans (hb2.mono HB1.out.size)
    have L1 := KK.out.later hb2
    clear hb2
    have q0 := L1.cell (i := 0) rfl
    have q1 := L1.cell (i := 1) rfl
    have q2 := L1.cell (i := 2) rfl
    have q3 := L1.cell (i := 3) rfl
    have q4 := L1.cell (i := 4) rfl
    have q5 := L1.cell (i := 5) rfl
    have q6 := L1.cell (i := 6) rfl
    have q7 := L1.cell (i := 7) rfl
    have q8 := L1.cell (i := 8) rfl
    have q9 := L1.cell (i := 9) rfl
    have hz := L1.lt
    clear L1
    go_wp2_with fail
    refine (HH.out W2 HX.out HB2.out).mono ?_
    rintro e W3 ⟨v, rfl, hown, hb3⟩
    have HOw := Lib.hid hown
    have HB3 : Hid (Below w.heap.size w W3) := HB2.out.trans (hb3.mono HB2.out.size)
    clear hown hb3 q0 q1 q2 q3 q4 q5 q6 q7 q8 q9 hz
    go_wp2_with fail
    go_ret2
    exact ⟨HB3.out, .inr ⟨HX.out, v, rfl, own_lower HOw.out HB2.out.size⟩⟩
  · have hXb : (shErr t ss != 0) = true := by simpa using hX
    have HPost : Hid (∀ w', Below w.heap.size w w' → JudgePost t ss w (.returned (.tuple #[.slice none 0 0, .int .i64 (shErr t ss)])) w') := fun w' h => ⟨h, .inl ⟨hX, rfl⟩⟩
    clear hX HH
    generalize shErr t ss = X at *
    go_enter Try.func35, Try.ntmps35
    go_wp2_with fail
    refine HC.out.mono ?_
    rintro e W2 ⟨rfl, hb2⟩
    have HB2 : Hid (Below w.heap.size w W2) := HB1.out.trans (hb2.mono HB1.out.size)
    clear hb2
    go_wp2_with fail
    go_ret2
    exact HPost.out _ HB2.out

theorem At.four {w : World} {p : Addr} {a b c d : Value} (h : At w p [a, b, c, d]) :
    w.cell? p = some a ∧ w.cell? ⟨p.block, p.off + 1, none⟩ = some b ∧ w.cell? ⟨p.block, p.off + 2, none⟩ = some c ∧ w.cell? ⟨p.block, p.off + 3, none⟩ = some d :=
  ⟨h 0 a rfl, h 1 b rfl, h 2 c rfl, h 3 d rfl⟩

set_option maxRecDepth 100000 in
set_option maxHeartbeats 2000000 in
/-- Two lists that are the same. -/
theorem sameReasons_any (xs : List Reason) (A : Option Addr) (n c : Nat) (B : Option Addr) (d : Nat) (w : World) (hx : RdR w A n xs) (hy : RdR w B n xs) (hn : n ≤ 1000000) :
    Calls Try.prog 36 #[.slice A n c, .slice B n d] w fun e w' => e = .returned (.bool true) ∧ Below w.heap.size w w' := by
  have HX := Lib.hid hx; have HY := Lib.hid hy
  have hne : ((n : Int) != (n : Int)) = false := by simp
  clear hx hy
  go_enter Try.func36, Try.ntmps36
  go_wp2
  go_loopw [5] (fun i wr => ∃ k : Nat, k ≤ n ∧ i = .int .i64 k ∧ Below w.heap.size w wr) (fun i _ => n - (intOf i).toNat)
  case atStart => exact ⟨0, Nat.zero_le _, rfl, Below.refl _ _⟩
  case round =>
    obtain ⟨k, hk, rfl, hB⟩ := hrel
    have HB := Lib.hid hB; clear hB
    by_cases hlt : k < n
    · obtain ⟨x, ad, h1, rfl, ha⟩ := (HX.out.below HB.out).get hlt
      obtain ⟨y, bd, h2, rfl, hb⟩ := (HY.out.below HB.out).get hlt
      rw [h1] at h2
      injection h2 with h2
      subst h2
      obtain ⟨a0, a1, a2, a3⟩ := ha.four
      obtain ⟨b0, b1, b2, b3⟩ := hb.four
      have hki : (k : Int) < (n : Int) := by omega
      have q0 := later_cell a0
      have q1 := later_cell a1
      have q2 := later_cell a2
      have q3 := later_cell a3
      have q4 := later_cell b0
      have q5 := later_cell b1
      have q6 := later_cell b2
      have q7 := later_cell b3
      clear a0 a1 a2 a3 b0 b1 b2 b3 ha hb h1
      go_wp2
      refine wp_region_later (by kernel_rfl) (by kernel_rfl) ?_
      repeat (first | go_big_quiet_skip | (go_big_quiet_want; go_big_quiet_op; go_big_quiet_on))
      refine wpQuiet_nil ?_
      intro _ hw'
      obtain ⟨u, hu⟩ := hw'
      subst hu
      clear q0 q1 q2 q3 q4 q5 q6 q7
      go_wp2
      go_roundw
      case rel => exact ⟨k + 1, by omega, by go_num, HB.out.trans (u.h.mono HB.out.size)⟩
      case measure => simp [intOf]; omega
    · go_wp2
      go_ret
      exact ⟨rfl, HB.out⟩
end Go.Proofs.Ytkkajemahehoaaa
