/-
  UpkeepFinds, for every task that can be read: the law returns true, and its arguments read as they did. No condition.
-/
import Derived.Test.YtkkajemahehoaaaR6
import Derived.Test.YtkkajemahehoaaaJ2
import Derived.Test.YtkkajemahehoaaaPr
import Derived.Test.YtkkajemahehoaaaBf
import Derived.Test.YtkkajemahehoaaaYr
import Derived.Test.YtkkajemahehoaaaRows
import Derived.Test.YtkkajemahehoaaaCk
import Derived.ProofKit
import Derived.Deep.Slices
import Derived.OpenShut
namespace Go.Proofs.Ytkkajemahehoaaa
open Go.RowKit

set_option maxHeartbeats 1000000 in
theorem may_any (x : Work) (s : Int) (w : World) (hw : WorkOK x) :
    Calls Try.prog 101 #[.agg x.val, .int .i64 s] w fun e w' => e = .returned (.bool (!wrongB s x)) ∧ Below w.heap.size w w' := by
  obtain ⟨d0, d1, u0, u1, f0, f1, t0, t1, _, _⟩ := hw
  unfold wrongB Work.val
  cases ho : outB s x.frm x.til
  · obtain ⟨w3, w4⟩ := outB_false ho
    have w5 : 0 ≤ s - x.frm := by omega
    go_enter Try.func101, Try.ntmps101
    go_wp2_with (go_at_call 53; refine (in_any _ _ _ _).mono ?_; rintro e w' ⟨rfl, rfl⟩)
    go_ret
    exact ⟨ret_bool (by simp [bne]), (Below.refl _ _).alloc (Nat.le_refl _) _⟩
  · go_enter Try.func101, Try.ntmps101
    go_wp2_with (go_at_call 53; refine (in_any _ _ _ _).mono ?_; rintro e w' ⟨rfl, rfl⟩)
    go_ret
    exact ⟨ret_bool (by simp), (Below.refl _ _).alloc (Nat.le_refl _) _⟩

theorem mB_ref (gap a d1 b d2 : Int) : mB gap a d1 b d2 = if b < a then (decide (a ≤ b + d2 - 1 + gap) || decide (b + 365 ≤ a + d1 - 1 + gap)) else (decide (b ≤ a + d1 - 1 + gap) || decide (a + 365 ≤ b + d2 - 1 + gap)) := by
  unfold mB
  split <;> (rw [Bool.eq_iff_iff]; simp; omega)

set_option maxRecDepth 100000 in
set_option maxHeartbeats 4000000 in
theorem refMeet_any (t : Task) (A : Option Addr) (n c : Nat) (A' : Option Addr) (n' c' : Nat) (As : Option Addr) (m cs : Nat) (ss : List Int) (i j : Nat) (w : World) (hT : TkM w t A n c A' n' c') (hs : RdI w As m ss) (hok : TaskOK t) (hm : m = n') (hss : ∀ s ∈ ss, 0 ≤ s ∧ s ≤ 364) (hi : i < m) (hj : j < m) :
    Calls Try.prog 102 #[.agg (t.val A n c A' n' c'), .slice As m cs, .int .i64 (i : Int), .int .i64 (j : Int)] w fun e w' => e = .returned (.bool (meetP t ss j i)) ∧ Below w.heap.size w w' := by
  have HB1 : Hid (Below w.heap.size w (w.alloc (.cells (t.val A n c A' n' c') 29))) := (Below.refl _ _).alloc (Nat.le_refl _) _
  have KK : Hid (Blk (w.alloc (.cells (t.val A n c A' n' c') 29)) w.heap.size 29 (t.val A n c A' n' c')) := Blk.new _ _ _ rfl
  obtain ⟨xi, ad, hxi, rfl, hai⟩ := (hT.hw.below HB1.out).get (i := i) (by omega)
  obtain ⟨xj, ad', hxj, e', haj⟩ := (hT.hw.below HB1.out).get (i := j) (by omega)
  cases e'
  obtain ⟨si, sd, hsi, rfl, ci⟩ := rdI_get (hs.below HB1.out) hi
  obtain ⟨sj, sd', hsj, e', cj⟩ := rdI_get (hs.below HB1.out) hj
  cases e'
  obtain ⟨_, _, i2, _, _, _, _⟩ := hai.seven
  obtain ⟨_, _, j2, _, _, _, _⟩ := haj.seven
  have e : meetP t ss j i = mB t.gap si xi.days sj xj.days := by unfold meetP; rw [hsi, hxi, hsj, hxj]
  rw [e, mB_ref]
  have wi := workOK_of (hok.rows i xi hxi).2.2.1
  have wj := workOK_of (hok.rows j xj hxj).2.2.1
  obtain ⟨a0, a1, _, _, _, _, _, _, _, _⟩ := wi
  obtain ⟨b0, b1, _, _, _, _, _, _, _, _⟩ := wj
  obtain ⟨c0, c1⟩ := hss si (List.mem_of_getElem? hsi)
  obtain ⟨d0, d1⟩ := hss sj (List.mem_of_getElem? hsj)
  obtain ⟨g0, g1⟩ := hok.gap
  have hii : (i : Int) < (m : Int) := by omega
  have hjj : (j : Int) < (m : Int) := by omega
  have hii' : (i : Int) < (n' : Int) := by omega
  have hjj' : (j : Int) < (n' : Int) := by omega
  clear hT hs hok hm hss hi hj hxi hxj hsi hsj hai haj e
  unfold Task.val at *
  go_enter Try.func102, Try.ntmps102
  go_wp2
  obtain ⟨W1, hW1⟩ : ∃ W1, w.alloc (Obj.cells #[.int .i64 t.rd.first, .int .i64 t.rd.years, .slice A n c, .slice (some ad) n' c', .int .i64 t.gap, .int .i64 t.width, .int .i64 t.day.1, .int .i64 t.day.2, .int .i64 t.plan.1, .int .i64 t.plan.2] 29) = W1 := ⟨_, rfl⟩
  rw [hW1] at HB1 KK ci cj i2 j2 ⊢
  clear hW1
  have q0 := later_cell ci
  have q1 := later_cell cj
  by_cases hlt : sj < si
  · have hd : decide (sj < si) = true := by simpa using hlt
    refine wp_region_later (by kernel_rfl) (by kernel_rfl) ?_
    repeat (first | go_big_quiet_skip | (go_big_quiet_want; go_big_quiet_op; go_big_quiet_on))
    refine wpQuiet_nil ?_
    intro _ hw'
    obtain ⟨u, hu⟩ := hw'
    subst hu
    clear q0 q1
    have HBu : Hid (Below w.heap.size w u.w) := HB1.out.trans (u.h.mono HB1.out.size)
    have KU := KK.out.later u.h
    have r0 := later_cell (cell_below u.h ci)
    have r1 := later_cell (cell_below u.h cj)
    have r2 := later_cell (cell_below u.h i2)
    have r3 := later_cell (cell_below u.h j2)
    have r4 := later_cell (KU.cell (i := 3) rfl)
    have r5 := later_cell (KU.cell (i := 4) rfl)
    clear KU
    cases h1 : decide (si ≤ sj + xj.days - 1 + t.gap)
    all_goals
      go_wp2
      refine wp_region_later (by kernel_rfl) (by kernel_rfl) ?_
      repeat (first | go_big_quiet_skip | (go_big_quiet_want; go_big_quiet_op; go_big_quiet_on))
      refine wpQuiet_nil ?_
      intro _ hw'
      obtain ⟨u2, hu⟩ := hw'
      subst hu
      clear r0 r1 r2 r3 r4 r5
      go_wp2
      go_ret
      exact ⟨ret_bool rfl, HBu.out.trans (u2.h.mono HBu.out.size)⟩
  · have hd : decide (sj < si) = false := by simpa using hlt
    refine wp_region_later (by kernel_rfl) (by kernel_rfl) ?_
    repeat (first | go_big_quiet_skip | (go_big_quiet_want; go_big_quiet_op; go_big_quiet_on))
    refine wpQuiet_nil ?_
    intro _ hw'
    obtain ⟨u, hu⟩ := hw'
    subst hu
    clear q0 q1
    have HBu : Hid (Below w.heap.size w u.w) := HB1.out.trans (u.h.mono HB1.out.size)
    have KU := KK.out.later u.h
    have r0 := later_cell (cell_below u.h ci)
    have r1 := later_cell (cell_below u.h cj)
    have r2 := later_cell (cell_below u.h i2)
    have r3 := later_cell (cell_below u.h j2)
    have r4 := later_cell (KU.cell (i := 3) rfl)
    have r5 := later_cell (KU.cell (i := 4) rfl)
    clear KU
    cases h1 : decide (sj ≤ si + xi.days - 1 + t.gap)
    all_goals
      go_wp2
      refine wp_region_later (by kernel_rfl) (by kernel_rfl) ?_
      repeat (first | go_big_quiet_skip | (go_big_quiet_want; go_big_quiet_op; go_big_quiet_on))
      refine wpQuiet_nil ?_
      intro _ hw'
      obtain ⟨u2, hu⟩ := hw'
      subst hu
      clear r0 r1 r2 r3 r4 r5
      go_wp2
      go_ret
      exact ⟨ret_bool rfl, HBu.out.trans (u2.h.mono HBu.out.size)⟩
set_option maxRecDepth 100000 in
set_option maxHeartbeats 4000000 in
theorem refJudge0_any (t : Task) (A : Option Addr) (n c : Nat) (A' : Option Addr) (n' c' : Nat) (As : Option Addr) (m cs : Nat) (ss : List Int) (w : World) (hT : TkM w t A n c A' n' c') (hs : RdI w As m ss) (hok : TaskOK t) (hm : m = n') (hss : ∀ s ∈ ss, 0 ≤ s ∧ s ≤ 364) :
    Calls Try.prog 69 #[.agg (t.val A n c A' n' c'), .slice As m cs] w (ListPostR (judgeL t ss) w) := by
  obtain ⟨i0, hi, hz0, hz1, hz2⟩ := info_parts info77
  have hsl := hs.1
  have hml : m ≤ 4 := by have := hT.hw.1; have := hok.len; omega
  have HWs : Hid (∀ (i : Nat) (v : Work), t.works[i]? = some v → WorkOK v) := fun i v hv => workOK_of (hok.rows i v hv).2.2.1
  have HSr := Lib.hid hss; have HSs := Lib.hid hs; have HWk := Lib.hid hT.hw
  have HMt : Hid (∀ (i j : Nat) (W : World), i < m → j < m → Below w.heap.size w W → Calls Try.prog 102 #[.agg (t.val A n c A' n' c'), .slice As m cs, .int .i64 (i : Int), .int .i64 (j : Int)] W fun e w' => e = .returned (.bool (meetP t ss j i)) ∧ Below W.heap.size W w') := fun i j W h1 h2 hW => refMeet_any t A n c A' n' c' As m cs ss i j W (hT.below hW) (hs.below hW) hok hm hss h1 h2
  have HBd : Hid (∀ (W : World) (i : Nat) (x : Work) (s : Int), Below w.heap.size w W → t.works[i]? = some x → 0 ≤ s → s ≤ 364 → Calls Try.prog 59 #[.agg (t.val A n c A' n' c'), .int .i64 (i : Int), .int .i64 s] W fun e w' => e = .returned (.int .i64 (badF t x s)) ∧ Below W.heap.size W w') := fun W i x s hW hx a b => refBad_any t A n c A' n' c' i x s W (hT.below hW) hx hok a (by omega)
  have HYr : Hid (∀ W : World, Below w.heap.size w W → Calls Try.prog 70 #[.agg (t.val A n c A' n' c'), .slice As m cs] W (HarmPost t ss W)) := fun W hW => refYears0_any t ss A n c A' n' c' As m cs W (hT.below hW) (hs.below hW) hok hm hss
  obtain ⟨r1, r2, r3, r4⟩ := harmR_bounds hok ss
  obtain ⟨⟨p0, p1⟩, p2, p3⟩ := hok.plan
  have HJ : Hid (judgeL t ss = upTo (wrongAt t ss) m ++ upTo (fun i => fromTo (meetAt t ss i) i m) m ++ upTo (insideAt t ss) m ++ riskyL t ss) := by unfold judgeL wrongL meetsL insideL; rw [hsl]; rfl
  have HRl : Hid (riskyL t ss = if gtB (harmR t ss) t.plan then [⟨4, -1, -1, -1⟩] else []) := rfl
  rw [HJ.out, HRl.out]
  clear HJ HRl hT hs hok hss
  subst hm
  generalize hF : (fun i => fromTo (meetAt t ss i) i m) = F
  have HF : Hid (∀ i, F i = fromTo (meetAt t ss i) i m) := fun i => by rw [← hF]
  have HFl : Hid (∀ i, (F i).length ≤ m) := fun i => by rw [HF.out i]; have := fromTo_len (meetAt_len t ss i) i m; omega
  clear hF
  have HB1 : Hid (Below w.heap.size w (w.alloc (.cells (t.val A n c A' m c') 29))) := (Below.refl _ _).alloc (Nat.le_refl _) _
  have KK : Hid (Blk (w.alloc (.cells (t.val A n c A' m c') 29)) w.heap.size 29 (t.val A n c A' m c')) := Blk.new _ _ _ rfl
  have HG : Hid (∀ W : World, Calls Try.prog 71 #[.agg #[.int .i64 (harmR t ss).1, .int .i64 (harmR t ss).2], .agg #[.int .i64 t.plan.1, .int .i64 t.plan.2]] W fun e w' => e = .returned (.bool (gtB (harmR t ss) t.plan)) ∧ Below W.heap.size W w') := fun W => refGreater_any (harmR t ss) t.plan W (by omega) (by omega) (by omega) (by omega) (by omega) (by omega) (by omega) (by omega)
  unfold Task.val at *
  generalize hgb : gtB (harmR t ss) t.plan = gb at *
  clear hgb
  generalize hRL : (if gb = true then [(⟨4, -1, -1, -1⟩ : Reason)] else []) = RL
  have HRL := Lib.hid hRL; clear hRL
  have hU1 := upTo_len (wrongAt_len t ss) m
  have hU2 := upTo_len HFl.out m
  have hU2' : (upTo F m).length ≤ 16 := Nat.le_trans hU2 (Nat.mul_le_mul hml hml)
  have hU3 := upTo_len (insideAt_len t ss) m
  clear hU2
  go_enter Try.func69, Try.ntmps69
  go_wp2
  obtain ⟨W1, hW1⟩ : ∃ W1, w.alloc (Obj.cells #[.int .i64 t.rd.first, .int .i64 t.rd.years, .slice A n c, .slice A' m c', .int .i64 t.gap, .int .i64 t.width, .int .i64 t.day.1, .int .i64 t.day.2, .int .i64 t.plan.1, .int .i64 t.plan.2] 29) = W1 := ⟨_, rfl⟩
  rw [hW1] at HB1 KK ⊢
  clear hW1
  go_loopw [5, 6] (fun v q wr => ∃ k : Nat, k ≤ m ∧ q = .int .i64 k ∧ wr.ownsRow W1.heap.size 77 4 v (upTo (wrongAt t ss) k).length ((upTo (wrongAt t ss) k).flatMap Reason.enc) ∧ Below W1.heap.size W1 wr) (fun _ q _ => m - (intOf q).toNat)
  case atStart => exact ⟨0, Nat.zero_le _, rfl, World.ownsRow_nil _ _ _ _, Below.refl _ _⟩
  case round =>
    obtain ⟨k, hk, rfl, hown, hB⟩ := hrel
    have HB := Lib.hid hB; clear hB
    have hul := upTo_len (wrongAt_len t ss) k
    have HBw : Hid (Below w.heap.size w wr) := HB1.out.trans (HB.out.mono HB1.out.size)
    by_cases hlt : k < m
    · obtain ⟨x, ad, hx, rfl, ha⟩ := (HWk.out.below HBw.out).get hlt
      obtain ⟨s, sd, hs, rfl, cs0⟩ := rdI_get (HSs.out.below HBw.out) hlt
      obtain ⟨c0, c1, c2, c3, c4, c5, c6⟩ := ha.seven
      have hwk := HWs.out k x hx
      have HAt : Hid (wrongAt t ss k = if wrongB s x then [⟨1, k, -1, -1⟩] else []) := by unfold wrongAt; rw [hs, hx]; rfl
      have HMy : Hid (∀ u : Later wr, Calls Try.prog 101 #[.agg #[.string x.name, .int .i64 x.gate, .int .i64 x.days, .int .i64 x.frm, .int .i64 x.til, .int .i64 x.step, .int .i64 x.level], .int .i64 s] u.w fun e w' => e = .returned (.bool (!wrongB s x)) ∧ Below u.w.heap.size u.w w') := fun u => may_any x s u.w hwk
      have hki : (k : Int) < (m : Int) := by omega
      have HSu := Lib.hid (upTo_succ (wrongAt t ss) k)
      have qt := later_cell ((KK.out.later HB.out).cell (i := 3) rfl)
      have q0 := later_cell c0
      have q1 := later_cell c1
      have q2 := later_cell c2
      have q3 := later_cell c3
      have q4 := later_cell c4
      have q5 := later_cell c5
      have q6 := later_cell c6
      have qs := later_cell cs0
      clear ha hx hs c0 c1 c2 c3 c4 c5 c6 cs0 hwk
      cases hw : wrongB s x
      · have HS2 : Hid (upTo (wrongAt t ss) (k + 1) = upTo (wrongAt t ss) k) := by rw [HSu.out, HAt.out, hw]; simp [Hid]
        rw [hw] at HMy
        go_wp2
        refine wp_region_later (by kernel_rfl) (by kernel_rfl) ?_
        repeat (first | go_big_quiet_skip | (go_big_quiet_want; go_big_quiet_op; first | go_big_quiet_on | (apply Exists.intro; refine ⟨fun _ => ?_, ?_⟩; (· (with_reducible exact later_calls (HMy.out _))); go_big_quiet_on)))
        refine wpQuiet_nil ?_
        intro _ hw'
        obtain ⟨u, hu⟩ := hw'
        subst hu
        clear qt q0 q1 q2 q3 q4 q5 q6 qs
        go_wp2
        go_roundw
        case rel => exact ⟨k + 1, by omega, by go_num, by rw [HS2.out]; exact hown.kept (grown_of_below u.h none) (Classical.em _), HB.out.trans (u.h.mono HB.out.size)⟩
        case measure => simp [intOf]; omega
      · have HS2 : Hid (upTo (wrongAt t ss) (k + 1) = upTo (wrongAt t ss) k ++ [⟨1, k, -1, -1⟩]) := by rw [HSu.out, HAt.out, hw]; simp [Hid]
        rw [hw] at HMy
        go_wp2
        refine wp_region_later (by kernel_rfl) (by kernel_rfl) ?_
        repeat (first | go_big_quiet_skip | (go_big_quiet_want; go_big_quiet_op; first | go_big_quiet_on | (apply Exists.intro; refine ⟨fun _ => ?_, ?_⟩; (· (with_reducible exact later_calls (HMy.out _))); go_big_quiet_on)))
        refine wpQuiet_nil ?_
        intro _ hw'
        obtain ⟨u, hu⟩ := hw'
        subst hu
        clear qt q0 q1 q2 q3 q4 q5 q6 qs
        have HB3 : Hid (Below W1.heap.size W1 u.w) := HB.out.trans (u.h.mono HB.out.size)
        have hown3 := hown.kept (grown_of_below u.h none) (Classical.em _)
        generalize upTo (wrongAt t ss) k = L at *
        clear hown
        go_wp2_with (first | (refine wpList_buildSlice_one rfl 64 77 _ rfl 4 _ #[.int .i64 1, .int .i64 (k : Int), .int .i64 (-1), .int .i64 (-1)] rfl Try.underlying64 (size77 _) (zero77 _) rfl (by omega) (by omega) ?_) | (at_builtin; refine wpList_append_own _ rfl _ _ 64 rfl W1.heap.size 77 i0 (.agg #[.int .i64 0, .int .i64 0, .int .i64 0, .int .i64 0]) 4 32 Try.underlying64 hi hz0 hz1 hz2 rfl (by decide) _ _ _ rfl (hown3.alloc _) ⟨u.w.heap.size, 0, none⟩ 1 1 [.int .i64 1, .int .i64 (k : Int), .int .i64 (-1), .int .i64 (-1)] rfl rfl (cells_new4 _ _ _ _ _ _) (one4 _ _ _ _) (by unfold maxLen; omega) (by omega) (by have := HB3.out.size; simp; omega) ?_; intro v' w2 hown' hgrow _; have HB4 : Hid (Below W1.heap.size W1 w2) := ((HB3.out.alloc HB3.out.size _).grown hgrow (by have := HB3.out.size; simp; omega) (fun j e => (hown3.lt j e).1)); clear hgrow))
        go_roundw
        case rel => exact ⟨k + 1, by omega, by go_num, by rw [HS2.out, List.length_append, List.flatMap_append]; exact hown', HB4.out⟩
        case measure => simp [intOf]; omega
    · obtain rfl : m = k := by omega
      have HO2 := Lib.hid hown
      have HBB2 := Lib.hid HB.out
      clear hown HB HBw
      generalize upTo (wrongAt t ss) m = L1 at *
      go_wp2
      go_loopw [5, 7] (fun v q wr => ∃ k : Nat, k ≤ m ∧ q = .int .i64 k ∧ wr.ownsRow W1.heap.size 77 4 v (L1 ++ upTo F k).length ((L1 ++ upTo F k).flatMap Reason.enc) ∧ Below W1.heap.size W1 wr) (fun _ q _ => m - (intOf q).toNat)
      case atStart => exact ⟨0, Nat.zero_le _, rfl, by unfold upTo; simp; exact HO2.out, HBB2.out⟩
      case round =>
        obtain ⟨k, hk, rfl, hown, hB⟩ := hrel
        have HB := Lib.hid hB; clear hB
        have HOw := Lib.hid hown; clear hown
        have hul := upTo_len HFl.out k
        have hul2 : (upTo F k).length ≤ 16 := Nat.le_trans hul (Nat.mul_le_mul hml (by omega : k ≤ 4))
        clear hul
        have HSu := Lib.hid (upTo_succ F k)
        by_cases hlt2 : k < m
        · have hki : (k : Int) < (m : Int) := by omega
          have hLl : (L1 ++ upTo F k).length ≤ 40 := by rw [List.length_append]; omega
          have HSu2 : Hid (L1 ++ upTo F (k + 1) = (L1 ++ upTo F k) ++ F k) := by rw [HSu.out, List.append_assoc]; rfl
          generalize L1 ++ upTo F k = L at *
          go_wp2
          go_loopw [5, 8] (fun v q wi => ∃ j : Nat, k + 1 ≤ j ∧ j ≤ m ∧ q = .int .i64 j ∧ wi.ownsRow W1.heap.size 77 4 v (L ++ fromTo (meetAt t ss k) k j).length ((L ++ fromTo (meetAt t ss k) k j).flatMap Reason.enc) ∧ Below W1.heap.size W1 wi) (fun _ q _ => m - (intOf q).toNat)
          case atStart => exact ⟨k + 1, Nat.le_refl _, by omega, by go_num, by unfold fromTo; simp; exact HOw.out, HB.out⟩
          case round =>
            obtain ⟨j, hj0, hj, rfl, hown, hB⟩ := hrel
            have HBj := Lib.hid hB; clear hB
            have HBjw : Hid (Below w.heap.size w wr) := HB1.out.trans (HBj.out.mono HB1.out.size)
            have hfl := fromTo_len (meetAt_len t ss k) k j
            have hfs := Lib.hid (fromTo_succ (meetAt t ss k) k j hj0)
            have KJ := KK.out.later HBj.out
            have b0 := KJ.cell (i := 0) rfl
            have b1 := KJ.cell (i := 1) rfl
            have b2 := KJ.cell (i := 2) rfl
            have b3 := KJ.cell (i := 3) rfl
            have b4 := KJ.cell (i := 4) rfl
            have b5 := KJ.cell (i := 5) rfl
            have b6 := KJ.cell (i := 6) rfl
            have b7 := KJ.cell (i := 7) rfl
            have b8 := KJ.cell (i := 8) rfl
            have b9 := KJ.cell (i := 9) rfl
            have hzj := KJ.lt
            clear KJ
            by_cases hjt : j < m
            · have hji : (j : Int) < (m : Int) := by omega
              have HAt : Hid (meetAt t ss k j = if meetP t ss j k then [⟨2, k, j, -1⟩] else []) := rfl
              have HC := Lib.hid (HMt.out k j wr hlt2 hjt HBjw.out)
              cases hmt : meetP t ss j k
              · have HS2 : Hid (L ++ fromTo (meetAt t ss k) k (j + 1) = L ++ fromTo (meetAt t ss k) k j) := by rw [hfs.out, HAt.out, hmt]; simp [Hid]
                rw [hmt] at HC
                go_wp2_with fail
                refine HC.out.mono ?_
                rintro e W3 ⟨rfl, hb3⟩
                have HB3 : Hid (Below W1.heap.size W1 W3) := HBj.out.trans (hb3.mono HBj.out.size)
                have hown3 := hown.kept (grown_of_below hb3 none) (Classical.em _)
                clear hb3 hown b0 b1 b2 b3 b4 b5 b6 b7 b8 b9 hzj
                go_wp2_with fail
                go_roundw
                case rel => exact ⟨j + 1, by omega, by omega, by go_num, by rw [HS2.out]; exact hown3, HB3.out⟩
                case measure => simp [intOf]; omega
              · have HS2 : Hid (L ++ fromTo (meetAt t ss k) k (j + 1) = (L ++ fromTo (meetAt t ss k) k j) ++ [⟨2, k, j, -1⟩]) := by rw [hfs.out, HAt.out, hmt]; simp [Hid]
                rw [hmt] at HC
                have hMl : (L ++ fromTo (meetAt t ss k) k j).length ≤ 60 := by rw [List.length_append]; omega
                generalize L ++ fromTo (meetAt t ss k) k j = M at *
                go_wp2_with fail
                refine HC.out.mono ?_
                rintro e W3 ⟨rfl, hb3⟩
                have HB3 : Hid (Below W1.heap.size W1 W3) := HBj.out.trans (hb3.mono HBj.out.size)
                have hown3 := hown.kept (grown_of_below hb3 none) (Classical.em _)
                clear hb3 hown b0 b1 b2 b3 b4 b5 b6 b7 b8 b9 hzj
                go_wp2_with (first | (refine wpList_buildSlice_one rfl 64 77 _ rfl 4 _ #[.int .i64 2, .int .i64 (k : Int), .int .i64 (j : Int), .int .i64 (-1)] rfl Try.underlying64 (size77 _) (zero77 _) rfl (by omega) (by omega) ?_) | (at_builtin; refine wpList_append_own _ rfl _ _ 64 rfl W1.heap.size 77 i0 (.agg #[.int .i64 0, .int .i64 0, .int .i64 0, .int .i64 0]) 4 32 Try.underlying64 hi hz0 hz1 hz2 rfl (by decide) _ _ _ rfl (hown3.alloc _) ⟨W3.heap.size, 0, none⟩ 1 1 [.int .i64 2, .int .i64 (k : Int), .int .i64 (j : Int), .int .i64 (-1)] rfl rfl (cells_new4 _ _ _ _ _ _) (one4 _ _ _ _) (by unfold maxLen; omega) (by omega) (by have := HB3.out.size; simp; omega) ?_; intro v' w2 hown' hgrow _; have HB4 : Hid (Below W1.heap.size W1 w2) := ((HB3.out.alloc HB3.out.size _).grown hgrow (by have := HB3.out.size; simp; omega) (fun j e => (hown3.lt j e).1)); clear hgrow))
                go_roundw
                case rel => exact ⟨j + 1, by omega, by omega, by go_num, by rw [HS2.out, List.length_append, List.flatMap_append]; exact hown', HB4.out⟩
                case measure => simp [intOf]; omega
            · obtain rfl : m = j := by omega
              clear b0 b1 b2 b3 b4 b5 b6 b7 b8 b9 hzj
              go_wp2
              go_roundw
              case rel => exact ⟨k + 1, by omega, by go_num, by rw [HSu2.out, HF.out]; exact hown, HBj.out⟩
              case measure => simp [intOf]; omega
        · obtain rfl : m = k := by omega
          have hLl : (L1 ++ upTo F m).length ≤ 40 := by rw [List.length_append]; omega
          generalize L1 ++ upTo F m = L2 at *
          clear HSu hul2
          go_wp2
          go_loopw [5, 9] (fun v q wr => ∃ k : Nat, k ≤ m ∧ q = .int .i64 k ∧ wr.ownsRow W1.heap.size 77 4 v (L2 ++ upTo (insideAt t ss) k).length ((L2 ++ upTo (insideAt t ss) k).flatMap Reason.enc) ∧ Below W1.heap.size W1 wr) (fun _ q _ => m - (intOf q).toNat)
          case atStart => exact ⟨0, Nat.zero_le _, rfl, by unfold upTo; simp; exact HOw.out, HB.out⟩
          case round =>
            obtain ⟨k, hk, rfl, hown, hB⟩ := hrel
            have HBk := Lib.hid hB; clear hB
            have HBkw : Hid (Below w.heap.size w wr) := HB1.out.trans (HBk.out.mono HB1.out.size)
            have hul := upTo_len (insideAt_len t ss) k
            have HSu := Lib.hid (upTo_succ (insideAt t ss) k)
            have KJ := KK.out.later HBk.out
            by_cases hlt3 : k < m
            · obtain ⟨x, ad, hx, hAd, _⟩ := (HWk.out.below HBkw.out).get hlt3
              clear hAd
              obtain ⟨s, sd, hs, rfl, cs0⟩ := rdI_get (HSs.out.below HBkw.out) hlt3
              obtain ⟨s0, s1⟩ := HSr.out s (List.mem_of_getElem? hs)
              have HBq : Hid (∀ u : Later wr, Calls Try.prog 59 #[.agg #[.int .i64 t.rd.first, .int .i64 t.rd.years, .slice A n c, .slice A' m c', .int .i64 t.gap, .int .i64 t.width, .int .i64 t.day.1, .int .i64 t.day.2, .int .i64 t.plan.1, .int .i64 t.plan.2], .int .i64 (k : Int), .int .i64 s] u.w fun e w' => e = .returned (.int .i64 (badF t x s)) ∧ Below u.w.heap.size u.w w') := fun u => HBd.out u.w k x s (HBkw.out.trans (u.h.mono HBkw.out.size)) hx s0 s1
              have HAt : Hid (insideAt t ss k = if 0 ≤ badF t x s then [⟨3, k, -1, badF t x s⟩] else []) := by unfold insideAt; rw [hs, hx]; rfl
              have hki : (k : Int) < (m : Int) := by omega
              have hMl : (L2 ++ upTo (insideAt t ss) k).length ≤ 60 := by rw [List.length_append]; omega
              have HSu2 : Hid (L2 ++ upTo (insideAt t ss) (k + 1) = (L2 ++ upTo (insideAt t ss) k) ++ insideAt t ss k) := by rw [HSu.out, List.append_assoc]; rfl
              have q0 := later_cell (KJ.cell (i := 0) rfl)
              have q1 := later_cell (KJ.cell (i := 1) rfl)
              have q2 := later_cell (KJ.cell (i := 2) rfl)
              have q3 := later_cell (KJ.cell (i := 3) rfl)
              have q4 := later_cell (KJ.cell (i := 4) rfl)
              have q5 := later_cell (KJ.cell (i := 5) rfl)
              have q6 := later_cell (KJ.cell (i := 6) rfl)
              have q7 := later_cell (KJ.cell (i := 7) rfl)
              have q8 := later_cell (KJ.cell (i := 8) rfl)
              have q9 := later_cell (KJ.cell (i := 9) rfl)
              have qs := later_cell cs0
              clear hx hs KJ cs0 HSu
              generalize badF t x s = bd at *
              generalize L2 ++ upTo (insideAt t ss) k = M at *
              by_cases hb : 0 ≤ bd
              · have hb' : decide (0 ≤ bd) = true := by simpa using hb
                have HS2 : Hid (L2 ++ upTo (insideAt t ss) (k + 1) = M ++ [⟨3, k, -1, bd⟩]) := by rw [HSu2.out, HAt.out, if_pos hb]; rfl
                go_wp2
                refine wp_region_later (by kernel_rfl) (by kernel_rfl) ?_
                repeat (first | go_big_quiet_skip | (go_big_quiet_want; go_big_quiet_op; first | go_big_quiet_on | (apply Exists.intro; refine ⟨fun _ => ?_, ?_⟩; (· (with_reducible exact later_calls (HBq.out _))); go_big_quiet_on)))
                refine wpQuiet_nil ?_
                intro _ hw'
                obtain ⟨u, hu⟩ := hw'
                subst hu
                clear q0 q1 q2 q3 q4 q5 q6 q7 q8 q9 qs
                have HB3 : Hid (Below W1.heap.size W1 u.w) := HBk.out.trans (u.h.mono HBk.out.size)
                have hown3 := hown.kept (grown_of_below u.h none) (Classical.em _)
                clear hown
                go_wp2_with (first | (refine wpList_buildSlice_one rfl 64 77 _ rfl 4 _ #[.int .i64 3, .int .i64 (k : Int), .int .i64 (-1), .int .i64 bd] rfl Try.underlying64 (size77 _) (zero77 _) rfl (by omega) (by omega) ?_) | (at_builtin; refine wpList_append_own _ rfl _ _ 64 rfl W1.heap.size 77 i0 (.agg #[.int .i64 0, .int .i64 0, .int .i64 0, .int .i64 0]) 4 32 Try.underlying64 hi hz0 hz1 hz2 rfl (by decide) _ _ _ rfl (hown3.alloc _) ⟨u.w.heap.size, 0, none⟩ 1 1 [.int .i64 3, .int .i64 (k : Int), .int .i64 (-1), .int .i64 bd] rfl rfl (cells_new4 _ _ _ _ _ _) (one4 _ _ _ _) (by unfold maxLen; omega) (by omega) (by have := HB3.out.size; simp; omega) ?_; intro v' w2 hown' hgrow _; have HB4 : Hid (Below W1.heap.size W1 w2) := ((HB3.out.alloc HB3.out.size _).grown hgrow (by have := HB3.out.size; simp; omega) (fun j e => (hown3.lt j e).1)); clear hgrow))
                go_roundw
                case rel => exact ⟨k + 1, by omega, by go_num, by rw [HS2.out, List.length_append, List.flatMap_append]; exact hown', HB4.out⟩
                case measure => simp [intOf]; omega
              · have hb' : decide (0 ≤ bd) = false := by simpa using hb
                have HS2 : Hid (L2 ++ upTo (insideAt t ss) (k + 1) = M) := by rw [HSu2.out, HAt.out, if_neg hb]; simp [Hid]
                go_wp2
                refine wp_region_later (by kernel_rfl) (by kernel_rfl) ?_
                repeat (first | go_big_quiet_skip | (go_big_quiet_want; go_big_quiet_op; first | go_big_quiet_on | (apply Exists.intro; refine ⟨fun _ => ?_, ?_⟩; (· (with_reducible exact later_calls (HBq.out _))); go_big_quiet_on)))
                refine wpQuiet_nil ?_
                intro _ hw'
                obtain ⟨u, hu⟩ := hw'
                subst hu
                clear q0 q1 q2 q3 q4 q5 q6 q7 q8 q9 qs
                go_wp2
                go_roundw
                case rel => exact ⟨k + 1, by omega, by go_num, by rw [HS2.out]; exact hown.kept (grown_of_below u.h none) (Classical.em _), HBk.out.trans (u.h.mono HBk.out.size)⟩
                case measure => simp [intOf]; omega
            · obtain rfl : m = k := by omega
              have hMl : (L2 ++ upTo (insideAt t ss) m).length ≤ 60 := by rw [List.length_append]; omega
              generalize L2 ++ upTo (insideAt t ss) m = L3 at *
              have b0 := KJ.cell (i := 0) rfl
              have b1 := KJ.cell (i := 1) rfl
              have b2 := KJ.cell (i := 2) rfl
              have b3 := KJ.cell (i := 3) rfl
              have b4 := KJ.cell (i := 4) rfl
              have b5 := KJ.cell (i := 5) rfl
              have b6 := KJ.cell (i := 6) rfl
              have b7 := KJ.cell (i := 7) rfl
              have b8 := KJ.cell (i := 8) rfl
              have b9 := KJ.cell (i := 9) rfl
              have hzj := KJ.lt
              have HKJ := Lib.hid KJ
              clear KJ HSu
              unfold HarmPost at HYr
              generalize (harmR t ss).1 = h1 at *
              generalize (harmR t ss).2 = h2 at *
              go_wp2_with fail
              refine (HYr.out wr HBkw.out).mono ?_
              rintro e W4 ⟨v, rfl, _, hb4⟩
              have HB4 : Hid (Below W1.heap.size W1 W4) := HBk.out.trans (hb4.mono HBk.out.size)
              have KT4 := HKJ.out.later hb4
              have hown4 := hown.kept (grown_of_below hb4 none) (Classical.em _)
              clear hb4 hown b0 b1 b2 b3 b4 b5 b6 b7 b8 b9 hzj
              have b8 := KT4.cell (i := 8) rfl
              have b9 := KT4.cell (i := 9) rfl
              have hz4 := KT4.lt
              clear KT4
              go_wp2_with fail
              refine (HG.out _).mono ?_
              rintro e W5 ⟨rfl, hb5⟩
              have h5 : Below W1.heap.size W1 (W4.alloc (Obj.cells #[.int .i64 h1, .int .i64 h2] 27)) := HB4.out.alloc HB4.out.size _
              have HB5 : Hid (Below W1.heap.size W1 W5) := h5.trans (hb5.mono h5.size)
              have hown5 := (hown4.alloc (Obj.cells #[.int .i64 h1, .int .i64 h2] 27)).kept (grown_of_below hb5 none) (Classical.em _)
              clear hb5 h5 hown4 b8 b9 hz4
              cases gb
              · have HR2 : Hid (RL = []) := HRL.out.symm
                go_wp2_with fail
                go_ret
                refine ⟨_, rfl, ?_, HB1.out.trans (HB5.out.mono HB1.out.size)⟩
                rw [HR2.out, List.append_nil]
                exact own_lower hown5 HB1.out.size
              · have HR2 : Hid (RL = [⟨4, -1, -1, -1⟩]) := HRL.out.symm
                go_wp2_with (first | (refine wpList_buildSlice_one rfl 64 77 _ rfl 4 _ #[.int .i64 4, .int .i64 (-1), .int .i64 (-1), .int .i64 (-1)] rfl Try.underlying64 (size77 _) (zero77 _) rfl (by omega) (by omega) ?_) | (at_builtin; refine wpList_append_own _ rfl _ _ 64 rfl W1.heap.size 77 i0 (.agg #[.int .i64 0, .int .i64 0, .int .i64 0, .int .i64 0]) 4 32 Try.underlying64 hi hz0 hz1 hz2 rfl (by decide) _ _ _ rfl (hown5.alloc _) ⟨W5.heap.size, 0, none⟩ 1 1 [.int .i64 4, .int .i64 (-1), .int .i64 (-1), .int .i64 (-1)] rfl rfl (cells_new4 _ _ _ _ _ _) (one4 _ _ _ _) (by unfold maxLen; omega) (by omega) (by have := HB5.out.size; simp; omega) ?_; intro v' w2 hown' hgrow _; have HB6 : Hid (Below W1.heap.size W1 w2) := ((HB5.out.alloc HB5.out.size _).grown hgrow (by have := HB5.out.size; simp; omega) (fun j e => (hown5.lt j e).1)); clear hgrow))
                go_ret
                refine ⟨_, rfl, ?_, HB1.out.trans (HB6.out.mono HB1.out.size)⟩
                rw [HR2.out, List.length_append, List.flatMap_append]
                exact own_lower hown' HB1.out.size
set_option maxRecDepth 100000 in
set_option maxHeartbeats 2000000 in
theorem refJudge_any (t : Task) (ss : List Int) (A : Option Addr) (n c : Nat) (A' : Option Addr) (n' c' : Nat) (As : Option Addr) (m cs : Nat) (w : World) (hT : TkM w t A n c A' n' c') (hs : RdI w As m ss) :
    Calls Try.prog 35 #[.agg (t.val A n c A' n' c'), .slice As m cs] w (JudgePost t ss w) := by
  have HB1 : Hid (Below w.heap.size w (w.alloc (.cells (t.val A n c A' n' c') 29))) := (Below.refl _ _).alloc (Nat.le_refl _) _
  have KK : Hid (Blk (w.alloc (.cells (t.val A n c A' n' c') 29)) w.heap.size 29 (t.val A n c A' n' c')) := Blk.new _ _ _ rfl
  have HC := Lib.hid (shaped_any t ss A n c A' n' c' As m cs _ (hT.below HB1.out) (hs.below HB1.out))
  have HH : Hid (∀ W, shErr t ss = 0 → Below w.heap.size w W → Calls Try.prog 69 #[.agg (t.val A n c A' n' c'), .slice As m cs] W (ListPostR (judgeL t ss) W)) := fun W h hW =>
    refJudge0_any t A n c A' n' c' As m cs ss W (hT.below hW) (hs.below hW) (taskOK_of (planOK_of h).chk) (by have := hT.hw.1; have := hs.1; have := (planOK_of h).len; omega) (planOK_of h).days
  clear hT hs
  unfold Task.val at *
  by_cases hX : shErr t ss = 0
  · have HX := Lib.hid hX
    rw [hX] at HC
    clear hX
    go_enter Try.func35, Try.ntmps35
    go_wp2_with fail
    refine HC.out.mono ?_
    rintro e W2 ⟨rfl, hb2⟩
    have HB2 : Hid (Below w.heap.size w W2) := HB1.out.trans (hb2.mono HB1.out.size)
    have L1 := KK.out.later hb2
    clear hb2
    have q0 := L1.cell (i := 0) rfl
    have q1 := L1.cell (i := 1) rfl
    have q2 := L1.cell (i := 2) rfl
    have q3 := L1.cell (i := 3) rfl
    have q4 := L1.cell (i := 4) rfl
    have q5 := L1.cell (i := 5) rfl
    have q6 := L1.cell (i := 6) rfl
    have q7 := L1.cell (i := 7) rfl
    have q8 := L1.cell (i := 8) rfl
    have q9 := L1.cell (i := 9) rfl
    have hz := L1.lt
    clear L1
    go_wp2_with fail
    refine (HH.out W2 HX.out HB2.out).mono ?_
    rintro e W3 ⟨v, rfl, hown, hb3⟩
    have HOw := Lib.hid hown
    have HB3 : Hid (Below w.heap.size w W3) := HB2.out.trans (hb3.mono HB2.out.size)
    clear hown hb3 q0 q1 q2 q3 q4 q5 q6 q7 q8 q9 hz
    go_wp2_with fail
    go_ret2
    exact ⟨HB3.out, .inr ⟨HX.out, v, rfl, own_lower HOw.out HB2.out.size⟩⟩
  · have hXb : (shErr t ss != 0) = true := by simpa using hX
    have HPost : Hid (∀ w', Below w.heap.size w w' → JudgePost t ss w (.returned (.tuple #[.slice none 0 0, .int .i64 (shErr t ss)])) w') := fun w' h => ⟨h, .inl ⟨hX, rfl⟩⟩
    clear hX HH
    generalize shErr t ss = X at *
    go_enter Try.func35, Try.ntmps35
    go_wp2_with fail
    refine HC.out.mono ?_
    rintro e W2 ⟨rfl, hb2⟩
    have HB2 : Hid (Below w.heap.size w W2) := HB1.out.trans (hb2.mono HB1.out.size)
    clear hb2
    go_wp2_with fail
    go_ret2
    exact HPost.out _ HB2.out

theorem At.four {w : World} {p : Addr} {a b c d : Value} (h : At w p [a, b, c, d]) :
    w.cell? p = some a ∧ w.cell? ⟨p.block, p.off + 1, none⟩ = some b ∧ w.cell? ⟨p.block, p.off + 2, none⟩ = some c ∧ w.cell? ⟨p.block, p.off + 3, none⟩ = some d :=
  ⟨h 0 a rfl, h 1 b rfl, h 2 c rfl, h 3 d rfl⟩

set_option maxRecDepth 100000 in
set_option maxHeartbeats 2000000 in
/-- Two lists that are the same. -/
theorem sameReasons_any (xs : List Reason) (A : Option Addr) (n c : Nat) (B : Option Addr) (d : Nat) (w : World) (hx : RdR w A n xs) (hy : RdR w B n xs) (hn : n ≤ 1000000) :
    Calls Try.prog 36 #[.slice A n c, .slice B n d] w fun e w' => e = .returned (.bool true) ∧ Below w.heap.size w w' := by
  have HX := Lib.hid hx; have HY := Lib.hid hy
  have hne : ((n : Int) != (n : Int)) = false := by simp
  clear hx hy
  go_enter Try.func36, Try.ntmps36
  go_wp2
  go_loopw [5] (fun i wr => ∃ k : Nat, k ≤ n ∧ i = .int .i64 k ∧ Below w.heap.size w wr) (fun i _ => n - (intOf i).toNat)
  case atStart => exact ⟨0, Nat.zero_le _, rfl, Below.refl _ _⟩
  case round =>
    obtain ⟨k, hk, rfl, hB⟩ := hrel
    have HB := Lib.hid hB; clear hB
    by_cases hlt : k < n
    · obtain ⟨x, ad, h1, rfl, ha⟩ := (HX.out.below HB.out).get hlt
      obtain ⟨y, bd, h2, rfl, hb⟩ := (HY.out.below HB.out).get hlt
      rw [h1] at h2
      injection h2 with h2
      subst h2
      obtain ⟨a0, a1, a2, a3⟩ := ha.four
      obtain ⟨b0, b1, b2, b3⟩ := hb.four
      have hki : (k : Int) < (n : Int) := by omega
      have q0 := later_cell a0
      have q1 := later_cell a1
      have q2 := later_cell a2
      have q3 := later_cell a3
      have q4 := later_cell b0
      have q5 := later_cell b1
      have q6 := later_cell b2
      have q7 := later_cell b3
      clear a0 a1 a2 a3 b0 b1 b2 b3 ha hb h1
      go_wp2
      refine wp_region_later (by kernel_rfl) (by kernel_rfl) ?_
      repeat (first | go_big_quiet_skip | (go_big_quiet_want; go_big_quiet_op; go_big_quiet_on))
      refine wpQuiet_nil ?_
      intro _ hw'
      obtain ⟨u, hu⟩ := hw'
      subst hu
      clear q0 q1 q2 q3 q4 q5 q6 q7
      go_wp2
      go_roundw
      case rel => exact ⟨k + 1, by omega, by go_num, HB.out.trans (u.h.mono HB.out.size)⟩
      case measure => simp [intOf]; omega
    · go_wp2
      go_ret
      exact ⟨rfl, HB.out⟩
end Go.Proofs.Ytkkajemahehoaaa

namespace Go.Proofs.Ytkkajemahehoaaa
open Go.RowKit

theorem plans_any (t : Task) (hok : TaskOK t) (A : Option Addr) (n c : Nat) (A' : Option Addr) (n' c' : Nat) : ∀ (k : Nat) (ss : List Int) (As : Option Addr) (cs : Nat) (w : World), TkM w t A n c A' n' c' → w.ownsRow 0 3 1 (.slice As ss.length cs) ss.length (ss.map (Value.int .i64)) → ss.length + k = t.works.length → Calls Try.prog 68 #[.agg (t.val A n c A' n' c'), .slice As ss.length cs] w (PlansPost (plansL t k ss) w)
  | 0, ss, As, cs, w, hT, hs, hl => plans_zero t A n c A' n' c' ss As cs w hs (by have := hT.hw.1; omega)
  | k + 1, ss, As, cs, w, hT, hs, hl => plans_succ t hok A n c A' n' c' k ss As cs w hT hs hl (plans_any t hok A n c A' n' c' k)
theorem PlanV.but {w w' : World} {u : Value} {p : List Int} {b : Nat} {xs : Array Value} (h : PlanV w u p) (hb : Blk w b 27 xs) (hg : w.grownBy w' (some b)) : PlanV w' u p :=
  h.same fun i cs fz hi => hg.block i (Array.getElem?_eq_some_iff.1 hi).1 (fun e => by
    injection e with e
    subst e
    have h2 : w.heap[i]? = some (.cells xs 27) := hb
    rw [h2] at hi
    injection hi with hi
    injection hi with _ h3 _
    exact absurd h3 (by decide))
theorem PlansV.but {w w' : World} {vals : List Value} {ps : List (List Int)} {b : Nat} {xs : Array Value} (h : PlansV w vals ps) (hb : Blk w b 27 xs) (hg : w.grownBy w' (some b)) : PlansV w' vals ps :=
  ⟨h.1, fun i p hp => by obtain ⟨u, h1, h2⟩ := h.2 i p hp; exact ⟨u, h1, h2.but hb hg⟩⟩
theorem flat_id : ∀ xs : List Value, xs.flatMap (fun x => [x]) = xs
  | [] => rfl
  | x :: xs => by rw [List.flatMap_cons, flat_id xs]; rfl
theorem rdV_of_own {w : World} {base : Nat} {e : TypeId} {v : Value} {n : Nat} {xs : List Value} (h : w.ownsRow base e 1 v n xs) (hn : xs.length = n) : ∃ A c, v = .slice A n c ∧ Rd (fun x : Value => [x]) 1 w A n xs := by
  rw [← flat_id xs] at h
  obtain ⟨A, c, h1, h2, _⟩ := rd_of_own (enc := fun x : Value => [x]) (k := 1) (fun _ => rfl) h hn
  exact ⟨A, c, h1, h2⟩
theorem rdV_get {w : World} {A : Option Addr} {n : Nat} {xs : List Value} (h : Rd (fun x : Value => [x]) 1 w A n xs) {k : Nat} (hk : k < n) : ∃ (x : Value) (ad : Addr), xs[k]? = some x ∧ A = some ad ∧ w.cell? (ad.add k) = some x := by
  obtain ⟨x, ad, h1, h2, h3⟩ := h.get hk
  have h4 := h3 0 _ rfl
  rw [Nat.mul_one] at h4
  exact ⟨x, ad, h1, h2, h4⟩
theorem stepG_none {t : Task} {p : List Int} (h : judgeL t p = []) : stepG t none p = some (p, harmR t p) := by
  unfold stepG
  rw [if_pos h]
theorem stepG_some {t : Task} {p : List Int} (h : judgeL t p = []) (q : List Int × (Int × Int)) : stepG t (some q) p = if gtB q.2 (harmR t p) then some (p, harmR t p) else some q := by
  unfold stepG
  rw [if_pos h]
theorem stepG_else {t : Task} {p : List Int} (h : judgeL t p ≠ []) (acc : Acc) : stepG t acc p = acc := by
  unfold stepG
  rw [if_neg h]
theorem take_fold {t : Task} {ps : List (List Int)} {j : Nat} {p : List Int} (h : ps[j]? = some p) (acc : Acc) : (ps.take (j + 1)).foldl (stepG t) acc = stepG t ((ps.take j).foldl (stepG t) acc) p := by
  rw [List.take_add_one, h]
  simp [List.foldl_append]
/-- What the search holds in memory: whether it has found one, the plan, its risk. -/
def AccV (w : World) (b : Nat) (acc : Acc) (f o : Value) : Prop := match acc with
  | none => f = .bool false ∧ o = .slice none 0 0 ∧ Blk w b 27 #[.int .i64 0, .int .i64 0]
  | some q => f = .bool true ∧ PlanV w o q.1 ∧ Blk w b 27 #[.int .i64 q.2.1, .int .i64 q.2.2]
theorem AccV.later {w w' : World} {b : Nat} {acc : Acc} {f o : Value} (h : AccV w b acc f o) (hb : Below w.heap.size w w') : AccV w' b acc f o := by
  cases acc with
  | none => exact ⟨h.1, h.2.1, h.2.2.later hb⟩
  | some q => exact ⟨h.1, h.2.1.below hb, h.2.2.later hb⟩
theorem AccV.blk {w : World} {b : Nat} {acc : Acc} {f o : Value} (h : AccV w b acc f o) : ∃ xs, Blk w b 27 xs := by
  cases acc with
  | none => exact ⟨_, h.2.2⟩
  | some q => exact ⟨_, h.2.2⟩
theorem grown_set {a b : World} {g : Nat} (h : a.grownBy b (some g)) (i : Nat) (v : Value) : a.grownBy (b.setCell ⟨g, i, none⟩ v) (some g) :=
  grown_row h ⟨((Below.refl g b).setCell (p := ⟨g, i, none⟩) (Nat.le_refl _) v).os, ((Below.refl g b).setCell (p := ⟨g, i, none⟩) (Nat.le_refl _) v).tape, ((Below.refl g b).setCell (p := ⟨g, i, none⟩) (Nat.le_refl _) v).output, ((Below.refl g b).setCell (p := ⟨g, i, none⟩) (Nat.le_refl _) v).size, fun k _ hk => Below.heap_setCell b ⟨g, i, none⟩ v k (fun e => hk (by rw [e]))⟩
theorem grown_drew {a b : World} {row : Option Nat} (h : a.grownBy b row) : a.grownBy b.drew row := ⟨h.os, h.tape, h.output, h.size, h.block⟩

set_option maxRecDepth 100000 in
set_option maxHeartbeats 2000000 in
theorem refBest_err (t : Task) (A : Option Addr) (n c : Nat) (A' : Option Addr) (n' c' : Nat) (w : World) (hT : TkM w t A n c A' n' c') (he : (chkTask t).2.2 ≠ 0) :
    Calls Try.prog 26 #[.agg (t.val A n c A' n' c')] w fun e w' => e = .returned (.tuple #[.slice none 0 0, .agg #[.int .i64 0, .int .i64 0], .int .i64 (chkTask t).2.2]) ∧ Below w.heap.size w w' := by
  obtain ⟨hb1, hk1, hk2⟩ := two w (t.val A n c A' n' c') #[.int .i64 0, .int .i64 0] 29 27
  have HB1 := Lib.hid hb1; have KK := Lib.hid hk2
  have HC := Lib.hid (good_any t A n c A' n' c' _ (hT.below hb1))
  have hXb : ((chkTask t).2.2 != 0) = true := by simpa using he
  clear hT hb1 hk1 hk2 he
  generalize (chkTask t).2.2 = X at *
  unfold Task.val at *
  go_enter Try.func26, Try.ntmps26
  go_wp2_with fail
  refine HC.out.mono ?_
  rintro e W2 ⟨rfl, hb2⟩
  have HB2 : Hid (Below w.heap.size w W2) := HB1.out.trans (hb2.mono HB1.out.size)
  have k2 := KK.out.later hb2
  clear hb2
  have p0 := k2.cell (i := 0) rfl
  have p1 := k2.cell (i := 1) rfl
  have z0 := k2.frozen 0
  have z1 := k2.frozen 1
  have hz := k2.lt
  have K2 := Lib.hid k2; clear k2
  go_wp2_with fail
  have JK := (K2.out.set 0 (.int .i64 0)).set 1 (.int .i64 0)
  have c0 := JK.cell (i := 0) rfl
  have c1 := JK.cell (i := 1) rfl
  refine bodyPost_ret (v := .tuple #[.slice none 0 0, .agg #[.int .i64 0, .int .i64 0], .int .i64 X]) (by simp [results, Try.results26, go_sem, c0, c1]) rfl ⟨rfl, ?_⟩
  exact (HB2.out.setCell (p := ⟨w.heap.size + 1, 0, none⟩) (by simp) _).setCell (p := ⟨w.heap.size + 1, 1, none⟩) (by simp) _

set_option maxRecDepth 100000 in
set_option maxHeartbeats 4000000 in
theorem refBest_ok (t : Task) (A : Option Addr) (n c : Nat) (A' : Option Addr) (n' c' : Nat) (w : World) (hT : TkM w t A n c A' n' c') (he : (chkTask t).2.2 = 0) :
    Calls Try.prog 26 #[.agg (t.val A n c A' n' c')] w (BestPost t w) := by
  have hok := taskOK_of he
  obtain ⟨hb1, hk1, hk2⟩ := two w (t.val A n c A' n' c') #[.int .i64 0, .int .i64 0] 29 27
  have HB1 := Lib.hid hb1; have KT := Lib.hid hk1; have KK := Lib.hid hk2
  have HC := Lib.hid (good_any t A n c A' n' c' _ (hT.below hb1))
  rw [he] at HC
  have hwl := hT.hw.1
  have HPl : Hid (∀ W, Below w.heap.size w W → Calls Try.prog 68 #[.agg (t.val A n c A' n' c'), .slice none 0 0] W (PlansPost (plansL t n' []) W)) := fun W hW => plans_any t hok A n c A' n' c' n' [] none 0 W (hT.below hW) (World.ownsRow_nil _ _ _ _) (by simp; omega)
  have HPS : Hid (bestF t = (plansL t n' []).foldl (stepG t) none) := by have := best_plans hok; rw [hwl] at this; exact this
  have HMem : Hid (∀ p ∈ plansL t n' [], p.length = n' ∧ ∀ s ∈ p, 0 ≤ s ∧ s ≤ 364) := fun p hp => by have := plan_days hok (p := p) (by rw [hwl]; exact hp); exact ⟨by omega, this.2⟩
  have HJd : Hid (∀ (W : World) (Ap : Option Addr) (cp : Nat) (p : List Int), Below w.heap.size w W → RdI W Ap p.length p → p ∈ plansL t n' [] → Calls Try.prog 69 #[.agg (t.val A n c A' n' c'), .slice Ap p.length cp] W (ListPostR (judgeL t p) W)) := fun W Ap cp p hW hp hm => refJudge0_any t A n c A' n' c' Ap p.length cp p W (hT.below hW) hp hok (HMem.out p hm).1 (HMem.out p hm).2
  have HYr : Hid (∀ (W : World) (Ap : Option Addr) (cp : Nat) (p : List Int), Below w.heap.size w W → RdI W Ap p.length p → p ∈ plansL t n' [] → Calls Try.prog 70 #[.agg (t.val A n c A' n' c'), .slice Ap p.length cp] W (HarmPost t p W)) := fun W Ap cp p hW hp hm => refYears0_any t p A n c A' n' c' Ap p.length cp W (hT.below hW) hp hok (HMem.out p hm).1 (HMem.out p hm).2
  have HFnd : Hid (∀ (j : Nat) q, ((plansL t n' []).take j).foldl (stepG t) none = some q → q.2 = harmR t q.1) := fun j q hq => by
    have := found_fold hok ((plansL t n' []).take j) [] none ⟨(fun _ p h => by simp at h), (fun q h => by cases h)⟩
    exact (this.some q hq).2.2.1
  have HHb := Lib.hid (harmR_bounds hok)
  have hPSl : (plansL t n' []).length ≤ 25600000000 := by
    have h1 := plansL_len t n' []
    have h2 : n' ≤ 4 := by have := hok.len; omega
    have h3 : 400 ^ n' ≤ 400 ^ 4 := Nat.pow_le_pow_right (by omega) h2
    omega
  clear hT hb1 hk1 hk2 he hok
  generalize plansL t n' [] = PS at *
  unfold Task.val at *
  go_enter Try.func26, Try.ntmps26
  go_wp2_with fail
  refine HC.out.mono ?_
  rintro e W2 ⟨rfl, hb2⟩
  have HB2 : Hid (Below w.heap.size w W2) := HB1.out.trans (hb2.mono HB1.out.size)
  have L1 := KT.out.later hb2
  have LT := Lib.hid L1
  have LR := Lib.hid (KK.out.later hb2)
  clear hb2
  have q0 := L1.cell (i := 0) rfl
  have q1 := L1.cell (i := 1) rfl
  have q2 := L1.cell (i := 2) rfl
  have q3 := L1.cell (i := 3) rfl
  have q4 := L1.cell (i := 4) rfl
  have q5 := L1.cell (i := 5) rfl
  have q6 := L1.cell (i := 6) rfl
  have q7 := L1.cell (i := 7) rfl
  have q8 := L1.cell (i := 8) rfl
  have q9 := L1.cell (i := 9) rfl
  have hz := L1.lt
  clear L1
  go_wp2_with fail
  obtain ⟨W3, hW3⟩ : ∃ W3, W2.alloc (Obj.cells #[.int .i64 0, .int .i64 0] 27) = W3 := ⟨_, rfl⟩
  have hb3 : Below W2.heap.size W2 W3 := by rw [← hW3]; exact (Below.refl _ _).alloc (Nat.le_refl _) _
  have KB3 : Hid (Blk W3 W2.heap.size 27 #[.int .i64 0, .int .i64 0]) := by rw [← hW3]; exact Blk.new _ _ _ rfl
  rw [hW3]
  have HB3 : Hid (Below w.heap.size w W3) := HB2.out.trans (hb3.mono HB2.out.size)
  have KT3 := Lib.hid (LT.out.later hb3); have KR3 := Lib.hid (LR.out.later hb3)
  have HN0 : Hid (w.heap.size + 1 < W2.heap.size) := LR.out.lt
  clear hW3 hb3 LT LR q0 q1 q2 q3 q4 q5 q6 q7 q8 q9 hz HC HB1 KT KK
  refine (HPl.out W3 HB3.out).mono ?_
  rintro e W4 ⟨v4, vals, rfl, hown4, hpv4, hb4⟩
  obtain ⟨Al, cl, rfl, _⟩ := rdV_of_own hown4 hpv4.1
  have HB4 : Hid (Below w.heap.size w W4) := HB3.out.trans (hb4.mono HB3.out.size)
  have KT4 := Lib.hid (KT3.out.later hb4); have KR4 := Lib.hid (KR3.out.later hb4); have KB4 := Lib.hid (KB3.out.later hb4)
  have HO4 := Lib.hid hown4; have HP4 := Lib.hid hpv4
  have HN3 : Hid (W2.heap.size < W3.heap.size) := KB3.out.lt
  have hvl := hpv4.1
  clear hown4 hpv4 hb4 KT3 KR3 KB3 HPl
  go_wp2_with fail
  go_loopw [6, 7, 10] (fun f o q wr => ∃ j : Nat, j ≤ PS.length ∧ q = .int .i64 j ∧ W4.grownBy wr (some W2.heap.size) ∧ AccV wr W2.heap.size ((PS.take j).foldl (stepG t) none) f o) (fun _ _ q _ => PS.length - (intOf q).toNat)
  case atStart => exact ⟨0, Nat.zero_le _, rfl, ⟨rfl, rfl, rfl, Nat.le_refl _, fun _ _ _ => rfl⟩, ⟨rfl, rfl, KB4.out⟩⟩
  case round =>
    obtain ⟨j, hj, rfl, hG, hA⟩ := hrel
    have HG := Lib.hid hG; have HA := Lib.hid hA
    have HBw : Hid (Below w.heap.size w wr) := HB4.out.grown HG.out HB4.out.size (fun i e => by cases e; exact HB2.out.size)
    have KTr := Lib.hid (KT4.out.grown HG.out (fun e => by injection e with e; have := HN0.out; omega))
    have KRr := Lib.hid (KR4.out.grown HG.out (fun e => by injection e with e; have := HN0.out; omega))
    have HOr := Lib.hid (HO4.out.kept HG.out (.inr fun e => by have := (HO4.out.lt _ e).1; have := HN3.out; omega))
    have HPr := Lib.hid (HP4.out.but KB4.out HG.out)
    clear hG hA
    by_cases hjt : j < PS.length
    · obtain ⟨Ax, cx, ex, hrd⟩ := rdV_of_own HOr.out hvl
      obtain ⟨u, ad, hu, hAx, cu⟩ := rdV_get hrd hjt
      injection ex with e1 _ e3
      subst e1 e3
      subst hAx
      obtain ⟨p, hp⟩ : ∃ p, PS[j]? = some p := ⟨_, List.getElem?_eq_getElem hjt⟩
      obtain ⟨u', hu', hpl⟩ := HPr.out.2 j p hp
      rw [hu] at hu'
      injection hu' with hu'
      subst hu'
      have HPu := Lib.hid hpl
      obtain ⟨Ap, cp, rfl, hrp, _⟩ := hpl
      have HRp := Lib.hid hrp
      have HPm : Hid (p ∈ PS) := List.mem_of_getElem? hp
      have HSt := Lib.hid (take_fold (t := t) hp none)
      have HFj := Lib.hid (HFnd.out j)
      have hji : (j : Int) < (PS.length : Int) := by omega
      have HJn := Lib.hid hjt
      have HCu := Lib.hid cu
      obtain ⟨N, hN⟩ : ∃ N, (judgeL t p).length = N := ⟨_, rfl⟩
      have HJw : Hid (Calls Try.prog 69 #[.agg #[.int .i64 t.rd.first, .int .i64 t.rd.years, .slice A n c, .slice A' n' c', .int .i64 t.gap, .int .i64 t.width, .int .i64 t.day.1, .int .i64 t.day.2, .int .i64 t.plan.1, .int .i64 t.plan.2], .slice Ap p.length cp] wr.drew fun e w' => ∃ A5 c5, e = .returned (.slice A5 N c5) ∧ Below wr.heap.size wr w') := (HJd.out wr.drew Ap cp p HBw.out.drew (HRp.out.below (Below.refl _ _).drew) HPm.out).mono fun e w' ⟨v5, h1, h2, h3⟩ => by
        obtain ⟨A5, c5, rfl, _, _, _⟩ := rd_of_own reason_len h2 rfl
        rw [hN] at h1
        exact ⟨A5, c5, h1, below_of_drew h3⟩
      have HN := Lib.hid hN
      clear hrd hu hp hrp hjt hN
      generalize (PS.take j).foldl (stepG t) none = acc at *
      have q0 := later_cell (KTr.out.cell (i := 0) rfl)
      have q1 := later_cell (KTr.out.cell (i := 1) rfl)
      have q2 := later_cell (KTr.out.cell (i := 2) rfl)
      have q3 := later_cell (KTr.out.cell (i := 3) rfl)
      have q4 := later_cell (KTr.out.cell (i := 4) rfl)
      have q5 := later_cell (KTr.out.cell (i := 5) rfl)
      have q6 := later_cell (KTr.out.cell (i := 6) rfl)
      have q7 := later_cell (KTr.out.cell (i := 7) rfl)
      have q8 := later_cell (KTr.out.cell (i := 8) rfl)
      have q9 := later_cell (KTr.out.cell (i := 9) rfl)
      have qs := later_cell cu
      clear cu
      go_wp2_with fail
      have HS0 : Hid ((fun w' => ∃ u : Later wr, w' = u.w) wr.drew) := ⟨⟨wr.drew, (Below.refl _ _).drew⟩, rfl⟩
      refine wp_region_noPanic ?_
      refine wp_region_mix (fun w' => ∃ u : Later wr, w' = u.w) 5 (fun k => decide (k < 5)) (by kernel_rfl) (by kernel_rfl) (fun _ _ _ _ _ h => h) ?_
      iterate 5 (refine mix_quiet rfl rfl rfl HS0.out ?_; intro K hK; go_big_quiet_op; go_big_quiet_on)
      clear q0 q1 q2 q3 q4 q5 q6 q7 q8 q9 qs HS0
      refine mix_op rfl ?_
      go_wp2_with fail
      refine HJw.out.mono ?_
      rintro e W5 ⟨A5, c5, rfl, hb5⟩
      have HB5 := Lib.hid hb5
      clear hb5
      rcases Nat.eq_zero_or_pos N with hn0 | hn0
      · subst hn0
        have HL : Hid (judgeL t p = []) := List.eq_nil_of_length_eq_zero HN.out
        go_wp2
        refine mix_post (fun h => absurd h (by decide)) ?_
        refine mix_op rfl ?_
        go_wp2
        refine mix_post (fun h => absurd h (by decide)) ?_
        refine mix_op rfl ?_
        go_wp2
        refine mix_post (fun h => absurd h (by decide)) ?_
        refine mix_nil (NoPanic.normal ?_)
        have hhb := HHb.out p
        have HHR : Hid (harmR t p = ((harmR t p).1, (harmR t p).2)) := rfl
        have HYw := Lib.hid (fun (W : World) (h : Below wr.heap.size wr W) => HYr.out W Ap cp p (HBw.out.trans (h.mono HBw.out.size)) (HRp.out.below h) HPm.out)
        unfold HarmPost at HYw
        generalize (harmR t p).1 = h1 at *
        generalize (harmR t p).2 = h2 at *
        have K5 := KTr.out.later HB5.out
        have q0 := later_cell (K5.cell (i := 0) rfl)
        have q1 := later_cell (K5.cell (i := 1) rfl)
        have q2 := later_cell (K5.cell (i := 2) rfl)
        have q3 := later_cell (K5.cell (i := 3) rfl)
        have q4 := later_cell (K5.cell (i := 4) rfl)
        have q5 := later_cell (K5.cell (i := 5) rfl)
        have q6 := later_cell (K5.cell (i := 6) rfl)
        have q7 := later_cell (K5.cell (i := 7) rfl)
        have q8 := later_cell (K5.cell (i := 8) rfl)
        have q9 := later_cell (K5.cell (i := 9) rfl)
        have qs := later_cell (cell_below HB5.out HCu.out)
        clear K5
        go_wp2_with fail
        refine wp_region_noPanic ?_
        refine wp_region_fork (fun w' => ∃ u : Later W5, w' = u.w) 11 (fun k => decide (k < 5) || k == 6 || k == 7 || k == 8) (fkOf _ (.op 0 (.op 1 (.op 2 (.op 3 (.op 4 (.two 5 (.op 6 (.op 7 (.op 8 (.op 9 (.op 10 (.op 11 .nil)))))) 9 (.op 5 (.op 6 (.op 7 (.op 8 (.op 10 (.op 11 .nil)))))))))))))  (by kernel_rfl) (by kernel_rfl) (fkOf_mem _ _) (fun _ _ _ _ _ h => h) ?_
        have HS0 : Hid ((fun w' => ∃ u : Later W5, w' = u.w) W5.drew) := ⟨⟨W5.drew, (Below.refl _ _).drew⟩, rfl⟩
        simp only [fkOf, List.getElem?_cons_zero, List.getElem?_cons_succ]
        iterate 5 (refine fk_quiet rfl rfl rfl HS0.out ?_; intro K hK; go_big_quiet_op; go_big_quiet_on)
        clear q0 q1 q2 q3 q4 q5 q6 q7 q8 q9 qs HS0
        refine fk_two ?_ ?_
        · go_wp2_with fail
          refine (HYw.out W5.drew HB5.out.drew).mono ?_
          rintro e W6 ⟨v6, rfl, _, hb6⟩
          have HB6 : Hid (Below W5.heap.size W5 W6) := below_of_drew hb6
          clear hb6
          have HS6 : Hid ((fun w' => ∃ u : Later W5, w' = u.w) W6) := ⟨⟨W6, HB6.out⟩, rfl⟩
          go_wp2
          refine mix_post (fun _ => HS6.out) ?_
          iterate 3 (refine fk_quiet rfl rfl rfl HS6.out ?_; intro K hK; go_big_quiet_op; go_big_quiet_on)
          clear HS6
          refine fk_one rfl ?_
          go_wp2
          refine mix_post (fun _ => ⟨⟨_, HB6.out.alloc HB6.out.size _⟩, rfl⟩) ?_
          refine fk_one rfl ?_
          go_wp2
          refine mix_post (fun _ => ⟨⟨_, HB6.out.alloc HB6.out.size _⟩, rfl⟩) ?_
          refine fk_one rfl ?_
          go_wp2
          refine mix_post (fun h => absurd h (by decide)) ?_
          refine fk_nil (NoPanic.normal ?_)
          have hX7 : Blk (W6.alloc (Obj.cells #[.int .i64 h1, .int .i64 h2] 27)) W6.heap.size 27 #[.int .i64 h1, .int .i64 h2] := Blk.new _ _ _ rfl
          have hB7 : Below wr.heap.size wr (W6.alloc (Obj.cells #[.int .i64 h1, .int .i64 h2] 27)) := (HB5.out.trans (HB6.out.mono HB5.out.size)).alloc (HB5.out.trans (HB6.out.mono HB5.out.size)).size _
          have hXn : wr.heap.size ≤ W6.heap.size := (HB5.out.trans (HB6.out.mono HB5.out.size)).size
          have HX7 := Lib.hid hX7; have HB7 := Lib.hid hB7
          clear hX7 hB7
          generalize W6.alloc (Obj.cells #[.int .i64 h1, .int .i64 h2] 27) = W7 at *
          generalize W6.heap.size = X at *
          have HA7 := Lib.hid (HA.out.later HB7.out)
          cases acc with
          | none =>
            have HStep2 : Hid (stepG t none p = some (p, (h1, h2))) := by rw [← HHR.out]; exact stepG_none HL.out
            obtain ⟨rfl, rfl, hBk⟩ := HA7.out
            have HBB := Lib.hid hBk
            have HXX := HX7
            have HBX := HB7
            clear hBk HA HA7
            have hbl := HBB.out.lt
            have y0 := HBB.out.cell (i := 0) rfl
            have y1 := HBB.out.cell (i := 1) rfl
            have y2 := HBB.out.frozen 0
            have y3 := HBB.out.frozen 1
            have hne : W2.heap.size ≠ X := by have := KB4.out.lt; have := HG.out.size; omega
            have x0 := HXX.out.cell (i := 0) rfl
            have x1 := HXX.out.cell (i := 1) rfl
            have hxl := HXX.out.lt
            have cu := cell_below HBX.out HCu.out
            go_wp2_with fail
            go_region
            have KN := (HBB.out.set 0 (.int .i64 h1)).set 1 (.int .i64 h2)
            have HKN : Hid (Blk ((W7.setCell ⟨W2.heap.size, 0, none⟩ (.int .i64 h1)).setCell ⟨W2.heap.size, 1, none⟩ (.int .i64 h2)).drew W2.heap.size 27 #[.int .i64 h1, .int .i64 h2]) := KN
            have HGN : Hid (W4.grownBy ((W7.setCell ⟨W2.heap.size, 0, none⟩ (.int .i64 h1)).setCell ⟨W2.heap.size, 1, none⟩ (.int .i64 h2)).drew (some W2.heap.size)) := grown_drew (grown_set (grown_set (grown_row HG.out (grown_of_below HBX.out _)) 0 _) 1 _)
            have HPN : Hid (PlanV ((W7.setCell ⟨W2.heap.size, 0, none⟩ (.int .i64 h1)).setCell ⟨W2.heap.size, 1, none⟩ (.int .i64 h2)).drew (.slice Ap p.length cp) p) := (HPu.out.below HBX.out).but HBB.out (grown_drew (grown_set (grown_set ⟨rfl, rfl, rfl, Nat.le_refl _, fun _ _ _ => rfl⟩ 0 _) 1 _))
            clear KN x0 x1 hxl y0 y1 y2 y3 hbl hne cu
            generalize ((W7.setCell ⟨W2.heap.size, 0, none⟩ (.int .i64 h1)).setCell ⟨W2.heap.size, 1, none⟩ (.int .i64 h2)).drew = W9 at *
            go_wp2
            go_roundw
            case rel => exact ⟨j + 1, HJn.out, by go_num, HGN.out, by rw [HSt.out, HStep2.out];  exact ⟨rfl, HPN.out, HKN.out⟩⟩
            case measure => have := HJn.out; simp only [intOf]; omega
          | some q =>
            have hq2 := HFj.out q rfl
            have HStep2 : Hid (stepG t (some q) p = if gtB q.2 (h1, h2) then some (p, (h1, h2)) else some q) := by rw [← HHR.out]; exact stepG_some HL.out q
            obtain ⟨rfl, hPq, hBk⟩ := HA7.out
            have HBq := Lib.hid hBk
            have hqb := HHb.out q.1
            rw [← hq2] at hqb
            have HGt : Hid (Calls Try.prog 71 #[.agg #[.int .i64 q.2.1, .int .i64 q.2.2], .agg #[.int .i64 h1, .int .i64 h2]] W7 fun e w' => e = .returned (.bool (gtB q.2 (h1, h2))) ∧ Below W7.heap.size W7 w') := refGreater_any q.2 (h1, h2) W7 (by omega) (by omega) (by omega) (by omega) (by dsimp only; omega) (by dsimp only; omega) (by dsimp only; omega) (by dsimp only; omega)
            have b0 := hBk.cell (i := 0) rfl
            have b1 := hBk.cell (i := 1) rfl
            have b2 := hBk.lt
            have g0 := HX7.out.cell (i := 0) rfl
            have g1 := HX7.out.cell (i := 1) rfl
            have g2 := HX7.out.lt
            have hq := q.2.1
            clear hq hq2 hBk hPq HFj
            cases hgb : gtB q.2 (h1, h2)
            · rw [hgb] at HGt
              go_wp2_with fail
              refine HGt.out.mono ?_
              rintro e W8 ⟨rfl, hb8⟩
              have HBX : Hid (Below wr.heap.size wr W8) := HB7.out.trans (hb8.mono HB7.out.size)
              clear hb8 b0 b1 b2 g0 g1 g2
              go_wp2
              go_roundw
              case rel => exact ⟨j + 1, HJn.out, by go_num, grown_row HG.out (grown_of_below HBX.out _), by rw [HSt.out, HStep2.out, hgb, if_neg (by simp)]; exact HA.out.later HBX.out⟩
              case measure => have := HJn.out; simp only [intOf]; omega
            · rw [hgb] at HGt
              go_wp2_with fail
              refine HGt.out.mono ?_
              rintro e W8 ⟨rfl, hb8⟩
              have HBX : Hid (Below wr.heap.size wr W8) := HB7.out.trans (hb8.mono HB7.out.size)
              have HBB := Lib.hid (HBq.out.later hb8)
              have HXX := Lib.hid (HX7.out.later hb8)
              clear hb8 b0 b1 b2 g0 g1 g2 HA HA7
              have hbl := HBB.out.lt
              have y0 := HBB.out.cell (i := 0) rfl
              have y1 := HBB.out.cell (i := 1) rfl
              have y2 := HBB.out.frozen 0
              have y3 := HBB.out.frozen 1
              have hne : W2.heap.size ≠ X := by have := KB4.out.lt; have := HG.out.size; omega
              have x0 := HXX.out.cell (i := 0) rfl
              have x1 := HXX.out.cell (i := 1) rfl
              have hxl := HXX.out.lt
              have cu := cell_below HBX.out HCu.out
              go_wp2_with fail
              go_region
              have KN := (HBB.out.set 0 (.int .i64 h1)).set 1 (.int .i64 h2)
              have HKN : Hid (Blk ((W8.setCell ⟨W2.heap.size, 0, none⟩ (.int .i64 h1)).setCell ⟨W2.heap.size, 1, none⟩ (.int .i64 h2)).drew W2.heap.size 27 #[.int .i64 h1, .int .i64 h2]) := KN
              have HGN : Hid (W4.grownBy ((W8.setCell ⟨W2.heap.size, 0, none⟩ (.int .i64 h1)).setCell ⟨W2.heap.size, 1, none⟩ (.int .i64 h2)).drew (some W2.heap.size)) := grown_drew (grown_set (grown_set (grown_row HG.out (grown_of_below HBX.out _)) 0 _) 1 _)
              have HPN : Hid (PlanV ((W8.setCell ⟨W2.heap.size, 0, none⟩ (.int .i64 h1)).setCell ⟨W2.heap.size, 1, none⟩ (.int .i64 h2)).drew (.slice Ap p.length cp) p) := (HPu.out.below HBX.out).but HBB.out (grown_drew (grown_set (grown_set ⟨rfl, rfl, rfl, Nat.le_refl _, fun _ _ _ => rfl⟩ 0 _) 1 _))
              clear KN x0 x1 hxl y0 y1 y2 y3 hbl hne cu
              generalize ((W8.setCell ⟨W2.heap.size, 0, none⟩ (.int .i64 h1)).setCell ⟨W2.heap.size, 1, none⟩ (.int .i64 h2)).drew = W9 at *
              go_wp2
              go_roundw
              case rel => exact ⟨j + 1, HJn.out, by go_num, HGN.out, by rw [HSt.out, HStep2.out]; rw [hgb, if_pos rfl]; exact ⟨rfl, HPN.out, HKN.out⟩⟩
              case measure => have := HJn.out; simp only [intOf]; omega
        · go_wp2
          have HBa : Hid (Below W5.heap.size W5 (W5.alloc (Obj.cells #[.int .i64 0, .int .i64 0] 27)).drew) := ((Below.refl _ W5).alloc (Nat.le_refl _) _).drew
          refine mix_post (fun _ => ⟨⟨_, HBa.out⟩, rfl⟩) ?_
          have KXa : Hid (Blk (W5.alloc (Obj.cells #[.int .i64 0, .int .i64 0] 27)).drew W5.heap.size 27 #[.int .i64 0, .int .i64 0]) := Blk.new W5 27 #[.int .i64 0, .int .i64 0] rfl
          refine fk_one rfl ?_
          go_wp2_with fail
          refine (HYw.out _ (HB5.out.trans (HBa.out.mono HB5.out.size))).mono ?_
          rintro e W6 ⟨v6, rfl, _, hb6⟩
          have HB6 : Hid (Below W5.heap.size W5 W6) := HBa.out.trans (hb6.mono HBa.out.size)
          have KX6 := KXa.out.later hb6
          clear hb6
          have HS6 : Hid ((fun w' => ∃ u : Later W5, w' = u.w) W6) := ⟨⟨W6, HB6.out⟩, rfl⟩
          go_wp2
          refine mix_post (fun _ => HS6.out) ?_
          iterate 3 (refine fk_quiet rfl rfl rfl HS6.out ?_; intro K hK; go_big_quiet_op; go_big_quiet_on)
          clear HS6
          refine fk_one rfl ?_
          go_wp2
          refine mix_post (fun _ => ⟨⟨_, HB6.out⟩, rfl⟩) ?_
          have x0 := KX6.cell (i := 0) rfl
          have x1 := KX6.cell (i := 1) rfl
          have x2 := KX6.frozen 0
          have x3 := KX6.frozen 1
          have x4 := KX6.lt
          have HK6 := Lib.hid KX6
          clear KX6
          refine fk_one rfl ?_
          go_wp2
          refine mix_post (fun h => absurd h (by decide)) ?_
          refine fk_nil (NoPanic.normal ?_)
          have hX7 : Blk ((W6.setCell ⟨W5.heap.size, 0, none⟩ (.int .i64 h1)).setCell ⟨W5.heap.size, 1, none⟩ (.int .i64 h2)) W5.heap.size 27 #[.int .i64 h1, .int .i64 h2] := (HK6.out.set 0 (.int .i64 h1)).set 1 (.int .i64 h2)
          have hB7 : Below wr.heap.size wr ((W6.setCell ⟨W5.heap.size, 0, none⟩ (.int .i64 h1)).setCell ⟨W5.heap.size, 1, none⟩ (.int .i64 h2)) := ((HB5.out.trans (HB6.out.mono HB5.out.size)).setCell (p := ⟨W5.heap.size, 0, none⟩) HB5.out.size _).setCell (p := ⟨W5.heap.size, 1, none⟩) HB5.out.size _
          have hXn : wr.heap.size ≤ W5.heap.size := HB5.out.size
          have HX7 := Lib.hid hX7; have HB7 := Lib.hid hB7
          clear hX7 hB7 x0 x1 x2 x3 x4 HK6 KXa
          generalize (W6.setCell ⟨W5.heap.size, 0, none⟩ (.int .i64 h1)).setCell ⟨W5.heap.size, 1, none⟩ (.int .i64 h2) = W7 at *
          generalize W5.heap.size = X at *
          have HA7 := Lib.hid (HA.out.later HB7.out)
          cases acc with
          | none =>
            have HStep2 : Hid (stepG t none p = some (p, (h1, h2))) := by rw [← HHR.out]; exact stepG_none HL.out
            obtain ⟨rfl, rfl, hBk⟩ := HA7.out
            have HBB := Lib.hid hBk
            have HXX := HX7
            have HBX := HB7
            clear hBk HA HA7
            have hbl := HBB.out.lt
            have y0 := HBB.out.cell (i := 0) rfl
            have y1 := HBB.out.cell (i := 1) rfl
            have y2 := HBB.out.frozen 0
            have y3 := HBB.out.frozen 1
            have hne : W2.heap.size ≠ X := by have := KB4.out.lt; have := HG.out.size; omega
            have x0 := HXX.out.cell (i := 0) rfl
            have x1 := HXX.out.cell (i := 1) rfl
            have hxl := HXX.out.lt
            have cu := cell_below HBX.out HCu.out
            go_wp2_with fail
            go_region
            have KN := (HBB.out.set 0 (.int .i64 h1)).set 1 (.int .i64 h2)
            have HKN : Hid (Blk ((W7.setCell ⟨W2.heap.size, 0, none⟩ (.int .i64 h1)).setCell ⟨W2.heap.size, 1, none⟩ (.int .i64 h2)).drew W2.heap.size 27 #[.int .i64 h1, .int .i64 h2]) := KN
            have HGN : Hid (W4.grownBy ((W7.setCell ⟨W2.heap.size, 0, none⟩ (.int .i64 h1)).setCell ⟨W2.heap.size, 1, none⟩ (.int .i64 h2)).drew (some W2.heap.size)) := grown_drew (grown_set (grown_set (grown_row HG.out (grown_of_below HBX.out _)) 0 _) 1 _)
            have HPN : Hid (PlanV ((W7.setCell ⟨W2.heap.size, 0, none⟩ (.int .i64 h1)).setCell ⟨W2.heap.size, 1, none⟩ (.int .i64 h2)).drew (.slice Ap p.length cp) p) := (HPu.out.below HBX.out).but HBB.out (grown_drew (grown_set (grown_set ⟨rfl, rfl, rfl, Nat.le_refl _, fun _ _ _ => rfl⟩ 0 _) 1 _))
            clear KN x0 x1 hxl y0 y1 y2 y3 hbl hne cu
            generalize ((W7.setCell ⟨W2.heap.size, 0, none⟩ (.int .i64 h1)).setCell ⟨W2.heap.size, 1, none⟩ (.int .i64 h2)).drew = W9 at *
            go_wp2
            go_roundw
            case rel => exact ⟨j + 1, HJn.out, by go_num, HGN.out, by rw [HSt.out, HStep2.out];  exact ⟨rfl, HPN.out, HKN.out⟩⟩
            case measure => have := HJn.out; simp only [intOf]; omega
          | some q =>
            have hq2 := HFj.out q rfl
            have HStep2 : Hid (stepG t (some q) p = if gtB q.2 (h1, h2) then some (p, (h1, h2)) else some q) := by rw [← HHR.out]; exact stepG_some HL.out q
            obtain ⟨rfl, hPq, hBk⟩ := HA7.out
            have HBq := Lib.hid hBk
            have hqb := HHb.out q.1
            rw [← hq2] at hqb
            have HGt : Hid (Calls Try.prog 71 #[.agg #[.int .i64 q.2.1, .int .i64 q.2.2], .agg #[.int .i64 h1, .int .i64 h2]] W7 fun e w' => e = .returned (.bool (gtB q.2 (h1, h2))) ∧ Below W7.heap.size W7 w') := refGreater_any q.2 (h1, h2) W7 (by omega) (by omega) (by omega) (by omega) (by dsimp only; omega) (by dsimp only; omega) (by dsimp only; omega) (by dsimp only; omega)
            have b0 := hBk.cell (i := 0) rfl
            have b1 := hBk.cell (i := 1) rfl
            have b2 := hBk.lt
            have g0 := HX7.out.cell (i := 0) rfl
            have g1 := HX7.out.cell (i := 1) rfl
            have g2 := HX7.out.lt
            have hq := q.2.1
            clear hq hq2 hBk hPq HFj
            cases hgb : gtB q.2 (h1, h2)
            · rw [hgb] at HGt
              go_wp2_with fail
              refine HGt.out.mono ?_
              rintro e W8 ⟨rfl, hb8⟩
              have HBX : Hid (Below wr.heap.size wr W8) := HB7.out.trans (hb8.mono HB7.out.size)
              clear hb8 b0 b1 b2 g0 g1 g2
              go_wp2
              go_roundw
              case rel => exact ⟨j + 1, HJn.out, by go_num, grown_row HG.out (grown_of_below HBX.out _), by rw [HSt.out, HStep2.out, hgb, if_neg (by simp)]; exact HA.out.later HBX.out⟩
              case measure => have := HJn.out; simp only [intOf]; omega
            · rw [hgb] at HGt
              go_wp2_with fail
              refine HGt.out.mono ?_
              rintro e W8 ⟨rfl, hb8⟩
              have HBX : Hid (Below wr.heap.size wr W8) := HB7.out.trans (hb8.mono HB7.out.size)
              have HBB := Lib.hid (HBq.out.later hb8)
              have HXX := Lib.hid (HX7.out.later hb8)
              clear hb8 b0 b1 b2 g0 g1 g2 HA HA7
              have hbl := HBB.out.lt
              have y0 := HBB.out.cell (i := 0) rfl
              have y1 := HBB.out.cell (i := 1) rfl
              have y2 := HBB.out.frozen 0
              have y3 := HBB.out.frozen 1
              have hne : W2.heap.size ≠ X := by have := KB4.out.lt; have := HG.out.size; omega
              have x0 := HXX.out.cell (i := 0) rfl
              have x1 := HXX.out.cell (i := 1) rfl
              have hxl := HXX.out.lt
              have cu := cell_below HBX.out HCu.out
              go_wp2_with fail
              go_region
              have KN := (HBB.out.set 0 (.int .i64 h1)).set 1 (.int .i64 h2)
              have HKN : Hid (Blk ((W8.setCell ⟨W2.heap.size, 0, none⟩ (.int .i64 h1)).setCell ⟨W2.heap.size, 1, none⟩ (.int .i64 h2)).drew W2.heap.size 27 #[.int .i64 h1, .int .i64 h2]) := KN
              have HGN : Hid (W4.grownBy ((W8.setCell ⟨W2.heap.size, 0, none⟩ (.int .i64 h1)).setCell ⟨W2.heap.size, 1, none⟩ (.int .i64 h2)).drew (some W2.heap.size)) := grown_drew (grown_set (grown_set (grown_row HG.out (grown_of_below HBX.out _)) 0 _) 1 _)
              have HPN : Hid (PlanV ((W8.setCell ⟨W2.heap.size, 0, none⟩ (.int .i64 h1)).setCell ⟨W2.heap.size, 1, none⟩ (.int .i64 h2)).drew (.slice Ap p.length cp) p) := (HPu.out.below HBX.out).but HBB.out (grown_drew (grown_set (grown_set ⟨rfl, rfl, rfl, Nat.le_refl _, fun _ _ _ => rfl⟩ 0 _) 1 _))
              clear KN x0 x1 hxl y0 y1 y2 y3 hbl hne cu
              generalize ((W8.setCell ⟨W2.heap.size, 0, none⟩ (.int .i64 h1)).setCell ⟨W2.heap.size, 1, none⟩ (.int .i64 h2)).drew = W9 at *
              go_wp2
              go_roundw
              case rel => exact ⟨j + 1, HJn.out, by go_num, HGN.out, by rw [HSt.out, HStep2.out]; rw [hgb, if_pos rfl]; exact ⟨rfl, HPN.out, HKN.out⟩⟩
              case measure => have := HJn.out; simp only [intOf]; omega
      · have HStep : Hid (stepG t acc p = acc) := stepG_else (fun h => by have := HN.out; rw [h] at this; simp at this; omega) acc
        go_wp2
        refine mix_post (fun h => absurd h (by decide)) ?_
        refine mix_op rfl ?_
        go_wp2
        refine mix_post (fun h => absurd h (by decide)) ?_
        refine mix_op rfl ?_
        go_wp2
        refine mix_post (fun h => absurd h (by decide)) ?_
        refine mix_nil (NoPanic.normal ?_)
        go_wp2
        go_roundw
        case rel => exact ⟨j + 1, HJn.out, by go_num, grown_row HG.out (grown_of_below HB5.out _), by rw [HSt.out, HStep.out]; exact HA.out.later HB5.out⟩
        case measure => have := HJn.out; simp only [intOf]; omega
    · obtain rfl : j = PS.length := by omega
      rw [List.take_length, ← HPS.out] at HA
      have p0 := KRr.out.cell (i := 0) rfl
      have p1 := KRr.out.cell (i := 1) rfl
      have z0 := KRr.out.frozen 0
      have z1 := KRr.out.frozen 1
      have hz := KRr.out.lt
      cases hX : bestF t with
      | none =>
        rw [hX] at HA
        have HX := Lib.hid hX; clear hX
        obtain ⟨rfl, rfl, _⟩ := HA.out
        go_wp2_with fail
        have JK := (KRr.out.set 0 (.int .i64 0)).set 1 (.int .i64 0)
        have c0 := JK.cell (i := 0) rfl
        have c1 := JK.cell (i := 1) rfl
        refine bodyPost_ret (v := .tuple #[.slice none 0 0, .agg #[.int .i64 0, .int .i64 0], .int .i64 9]) (by simp [results, Try.results26, go_sem, c0, c1]) rfl ⟨?_, ?_⟩
        · exact (HBw.out.setCell (p := ⟨w.heap.size + 1, 0, none⟩) (by simp) _).setCell (p := ⟨w.heap.size + 1, 1, none⟩) (by simp) _
        · rw [HX.out]
      | some q =>
        rw [hX] at HA
        have HX := Lib.hid hX; clear hX
        obtain ⟨rfl, hPq, hBk⟩ := HA.out
        have HPq := Lib.hid hPq
        obtain ⟨Aq, cq, rfl, _, _⟩ := hPq
        have b0 := hBk.cell (i := 0) rfl
        have b1 := hBk.cell (i := 1) rfl
        have b2 := hBk.lt
        have b3 : w.heap.size + 1 ≠ W2.heap.size := by have := HN0.out; omega
        clear hBk
        go_wp2_with fail
        go_region
        go_wp2_with fail
        have JK := (KRr.out.set 0 (.int .i64 q.2.1)).set 1 (.int .i64 q.2.2)
        have c0 := JK.cell (i := 0) rfl
        have c1 := JK.cell (i := 1) rfl
        have HPf : PlanV ((wr.setCell ⟨w.heap.size + 1, 0, none⟩ (.int .i64 q.2.1)).setCell ⟨w.heap.size + 1, 1, none⟩ (.int .i64 q.2.2)).drew (.slice Aq q.1.length cq) q.1 := HPq.out.but KRr.out (grown_drew (grown_set (grown_set ⟨rfl, rfl, rfl, Nat.le_refl _, fun _ _ _ => rfl⟩ 0 _) 1 _))
        refine bodyPost_ret (v := .tuple #[.slice Aq q.1.length cq, .agg #[.int .i64 q.2.1, .int .i64 q.2.2], .int .i64 0]) (by simp [results, Try.results26, go_sem, c0, c1]) rfl ⟨?_, ?_⟩
        · exact ((HBw.out.setCell (p := ⟨w.heap.size + 1, 0, none⟩) (by simp) _).setCell (p := ⟨w.heap.size + 1, 1, none⟩) (by simp) _).drew
        · rw [HX.out]
          obtain ⟨A9, c9, e9, h9, _⟩ := HPf
          injection e9 with e1 _ e3
          subst e1 e3
          exact ⟨_, _, rfl, h9⟩
end Go.Proofs.Ytkkajemahehoaaa

namespace Go.Proofs.Ytkkajemahehoaaa
open Go.RowKit

def BoolPost (w : World) (e : Ending) (w' : World) : Prop := ∃ b : Bool, e = .returned (.bool b) ∧ Below w.heap.size w w'

set_option maxRecDepth 100000 in
set_option maxHeartbeats 2000000 in
theorem Many_any (t : Task) (A : Option Addr) (n c : Nat) (A' : Option Addr) (n' c' : Nat) (w : World) (hT : TkM w t A n c A' n' c') :
    Calls Try.prog 24 #[.agg (t.val A n c A' n' c')] w (BoolPost w) := by
  have HB1 : Hid (Below w.heap.size w (w.alloc (.cells (t.val A n c A' n' c') 29))) := (Below.refl _ _).alloc (Nat.le_refl _) _
  have KK : Hid (Blk (w.alloc (.cells (t.val A n c A' n' c') 29)) w.heap.size 29 (t.val A n c A' n' c')) := Blk.new _ _ _ rfl
  have HWk := Lib.hid hT.hw
  clear hT
  unfold Task.val at *
  go_enter Try.func24, Try.ntmps24
  go_wp2
  obtain ⟨W1, hW1⟩ : ∃ W1, w.alloc (Obj.cells #[.int .i64 t.rd.first, .int .i64 t.rd.years, .slice A n c, .slice A' n' c', .int .i64 t.gap, .int .i64 t.width, .int .i64 t.day.1, .int .i64 t.day.2, .int .i64 t.plan.1, .int .i64 t.plan.2] 29) = W1 := ⟨_, rfl⟩
  rw [hW1] at HB1 KK ⊢
  clear hW1
  go_loopw [3, 4] (fun q i wr => ∃ (k : Nat) (z : Int), k ≤ n' ∧ q = .int .i64 z ∧ i = .int .i64 k ∧ Below W1.heap.size W1 wr) (fun _ i _ => n' - (intOf i).toNat)
  case atStart => exact ⟨0, 1, Nat.zero_le _, rfl, rfl, Below.refl _ _⟩
  case round =>
    obtain ⟨k, z, hk, rfl, rfl, hB⟩ := hrel
    have HB := Lib.hid hB; clear hB
    have HBw : Hid (Below w.heap.size w wr) := HB1.out.trans (HB.out.mono HB1.out.size)
    have k3 := (KK.out.later HB.out).cell (i := 3) rfl
    have hz := (KK.out.later HB.out).lt
    by_cases h4 : n' ≤ 4
    · have h4' : decide ((n' : Int) ≤ 4) = true := by simp; omega
      by_cases hlt : k < n'
      · obtain ⟨x, ad, hx, rfl, ha⟩ := (HWk.out.below HBw.out).get hlt
        obtain ⟨c0, c1, c2, c3, c4, c5, c6⟩ := ha.seven
        have hki : (k : Int) < (n' : Int) := by omega
        have HBa : Hid (Below W1.heap.size W1 (wr.alloc (Obj.cells #[.string x.name, .int .i64 x.gate, .int .i64 x.days, .int .i64 x.frm, .int .i64 x.til, .int .i64 x.step, .int .i64 x.level] 61))) := HB.out.alloc HB.out.size _
        have HBb : Hid (Below w.heap.size w (wr.alloc (Obj.cells #[.string x.name, .int .i64 x.gate, .int .i64 x.days, .int .i64 x.frm, .int .i64 x.til, .int .i64 x.step, .int .i64 x.level] 61))) := HBw.out.alloc HBw.out.size _
        clear ha hx
        by_cases hst : 0 < x.step
        · have d1 : decide (0 < x.step) = true := by simpa using hst
          have d1' : ¬ x.step = 0 := by omega
          by_cases htf : x.frm ≤ x.til
          · have d2 : decide (x.frm ≤ x.til) = true := by simpa using htf
            go_wp2
            all_goals first
              | (go_ret; exact ⟨_, rfl, HBb.out⟩)
              | (go_roundw
                 case rel => exact ⟨k + 1, _, by omega, rfl, by go_num, HBa.out⟩
                 case measure => simp [intOf]; omega)
          · have d2 : decide (x.frm ≤ x.til) = false := by simpa using htf
            go_wp2
            all_goals first
              | (go_ret; exact ⟨_, rfl, HBb.out⟩)
              | (go_roundw
                 case rel => exact ⟨k + 1, _, by omega, rfl, by go_num, HBa.out⟩
                 case measure => simp [intOf]; omega)
        · have d1 : decide (0 < x.step) = false := by simpa using hst
          go_wp2
          all_goals first
            | (go_ret; exact ⟨_, rfl, HBb.out⟩)
            | (go_roundw
               case rel => exact ⟨k + 1, _, by omega, rfl, by go_num, HBa.out⟩
               case measure => simp [intOf]; omega)
      · obtain rfl : n' = k := by omega
        have hki : ¬ (n' : Int) < (n' : Int) := by omega
        go_wp2
        go_ret
        exact ⟨_, rfl, HBw.out⟩
    · have h4' : decide ((n' : Int) ≤ 4) = false := by simp; omega
      go_wp2
      all_goals go_ret
      all_goals exact ⟨_, rfl, HBw.out⟩
end Go.Proofs.Ytkkajemahehoaaa

namespace Go.Proofs.Ytkkajemahehoaaa
open Go.RowKit

/-- What Best returns. -/
def bOf (t : Task) : List Int × (Int × Int) × Int :=
  if (chkTask t).2.2 = 0 then (match bestF t with | none => ([], (0, 0), 9) | some q => (q.1, q.2, 0)) else ([], (0, 0), (chkTask t).2.2)
def TopPost (t : Task) (w : World) (e : Ending) (w' : World) : Prop :=
  ∃ A c, e = .returned (.tuple #[.slice A (bOf t).1.length c, .agg #[.int .i64 (bOf t).2.1.1, .int .i64 (bOf t).2.1.2], .int .i64 (bOf t).2.2]) ∧ RdI w' A (bOf t).1.length (bOf t).1 ∧ Below w.heap.size w w'
theorem top_of {t : Task} {w : World} {e : Ending} {w' : World} (he : (chkTask t).2.2 = 0) (h : BestPost t w e w') : TopPost t w e w' := by
  obtain ⟨hb, h⟩ := h
  unfold TopPost bOf
  rw [if_pos he]
  cases hB : bestF t with
  | none =>
    rw [hB] at h
    exact ⟨none, 0, h, Rd.nil, hb⟩
  | some q =>
    rw [hB] at h
    obtain ⟨A, c, h1, h2⟩ := h
    exact ⟨A, c, h1, h2, hb⟩
theorem top_err {t : Task} {w : World} {e : Ending} {w' : World} (he : (chkTask t).2.2 ≠ 0) (h : e = .returned (.tuple #[.slice none 0 0, .agg #[.int .i64 0, .int .i64 0], .int .i64 (chkTask t).2.2]) ∧ Below w.heap.size w w') : TopPost t w e w' := by
  unfold TopPost bOf
  rw [if_neg he]
  exact ⟨none, 0, h.1, Rd.nil, h.2⟩
theorem Best_any (t : Task) (A : Option Addr) (n c : Nat) (A' : Option Addr) (n' c' : Nat) (w : World) (hT : TkM w t A n c A' n' c') : Calls Try.prog 25 #[.agg (t.val A n c A' n' c')] w (TopPost t w) := by
  by_cases he : (chkTask t).2.2 = 0
  · exact (best_ok t A n c A' n' c' w hT.hr hT.hw hT.hc hT.nm he).mono fun e w' h => top_of he h
  · exact (best_err t A n c A' n' c' w hT.hr hT.hw hT.hc hT.nm (by simpa using he)).mono fun e w' h => top_err he h
theorem refBest_any (t : Task) (A : Option Addr) (n c : Nat) (A' : Option Addr) (n' c' : Nat) (w : World) (hT : TkM w t A n c A' n' c') : Calls Try.prog 26 #[.agg (t.val A n c A' n' c')] w (TopPost t w) := by
  by_cases he : (chkTask t).2.2 = 0
  · exact (refBest_ok t A n c A' n' c' w hT he).mono fun e w' h => top_of he h
  · exact (refBest_err t A n c A' n' c' w hT he).mono fun e w' h => top_err he h
theorem bOf_len (t : Task) : (bOf t).1.length ≤ 4 := by
  unfold bOf
  by_cases he : (chkTask t).2.2 = 0
  · rw [if_pos he]
    have hok := taskOK_of he
    cases hB : bestF t with
    | none => simp
    | some q =>
      have h := ((best_found hok).some q hB).1
      have := (plan_days hok h).1
      have := hok.len
      dsimp only
      omega
  · rw [if_neg he]; simp

set_option maxRecDepth 100000 in
set_option maxHeartbeats 2000000 in
/-- UpkeepFinds returns true. -/
theorem UpkeepFinds_any (t : Task) (A : Option Addr) (n c : Nat) (A' : Option Addr) (n' c' : Nat) (w : World) (hT : TkM w t A n c A' n' c') :
    Calls Try.prog 4 #[.agg (t.val A n c A' n' c')] w fun e w' => e = .returned (.bool true) ∧ Below w.heap.size w w' := by
  have HB1 : Hid (Below w.heap.size w (w.alloc (.cells (t.val A n c A' n' c') 29))) := (Below.refl _ _).alloc (Nat.le_refl _) _
  have K1 : Hid (Blk (w.alloc (.cells (t.val A n c A' n' c') 29)) w.heap.size 29 (t.val A n c A' n' c')) := Blk.new _ _ _ rfl
  have C2 := Lib.hid (Many_any t A n c A' n' c' _ (hT.below HB1.out))
  have C3 := Lib.hid (fun (W : World) (h : Below w.heap.size w W) => Best_any t A n c A' n' c' W (hT.below h))
  have C4 := Lib.hid (fun (W : World) (h : Below w.heap.size w W) => refBest_any t A n c A' n' c' W (hT.below h))
  have hl := bOf_len t
  clear hT
  unfold TopPost at C3 C4
  generalize bOf t = X at *
  obtain ⟨L, ⟨x1, x2⟩, x3⟩ := X
  unfold Task.val at *
  dsimp only at *
  go_enter Try.func4, Try.ntmps4
  go_wp2_with fail
  refine C2.out.mono ?_
  rintro e W3 ⟨b, rfl, hb3⟩
  have HB3 : Hid (Below w.heap.size w W3) := HB1.out.trans (hb3.mono HB1.out.size)
  have K3 := Lib.hid (K1.out.later hb3)
  clear hb3
  cases b
  case true =>
    go_wp2_with fail
    refine (Awake_any _).mono ?_
    rintro e WA ⟨rfl, hbA⟩
    have HBA := Lib.hid (HB3.out.trans (hbA.mono HB3.out.size))
    clear hbA
    go_wp2_with fail
    go_ret
    exact ⟨rfl, HBA.out⟩
  have q0 := K3.out.cell (i := 0) rfl
  have q1 := K3.out.cell (i := 1) rfl
  have q2 := K3.out.cell (i := 2) rfl
  have q3 := K3.out.cell (i := 3) rfl
  have q4 := K3.out.cell (i := 4) rfl
  have q5 := K3.out.cell (i := 5) rfl
  have q6 := K3.out.cell (i := 6) rfl
  have q7 := K3.out.cell (i := 7) rfl
  have q8 := K3.out.cell (i := 8) rfl
  have q9 := K3.out.cell (i := 9) rfl
  go_wp2_with fail
  refine (C3.out _ HB3.out).mono ?_
  rintro e W4 ⟨A4, c4, rfl, hr4, hb4⟩
  have HR4 := Lib.hid hr4
  have HB4 : Hid (Below w.heap.size w W4) := HB3.out.trans (hb4.mono HB3.out.size)
  have K4 := Lib.hid (K3.out.later hb4)
  clear hr4 hb4 q0 q1 q2 q3 q4 q5 q6 q7 q8 q9
  have q0 := K4.out.cell (i := 0) rfl
  have q1 := K4.out.cell (i := 1) rfl
  have q2 := K4.out.cell (i := 2) rfl
  have q3 := K4.out.cell (i := 3) rfl
  have q4 := K4.out.cell (i := 4) rfl
  have q5 := K4.out.cell (i := 5) rfl
  have q6 := K4.out.cell (i := 6) rfl
  have q7 := K4.out.cell (i := 7) rfl
  have q8 := K4.out.cell (i := 8) rfl
  have q9 := K4.out.cell (i := 9) rfl
  have hz := K4.out.lt
  go_wp2_with fail
  obtain ⟨W5, hW5⟩ : ∃ W5, W4.alloc (Obj.cells #[.int .i64 x1, .int .i64 x2] 27) = W5 := ⟨_, rfl⟩
  have hb5 : Below W4.heap.size W4 W5 := by rw [← hW5]; exact (Below.refl _ _).alloc (Nat.le_refl _) _
  have KX5 : Hid (Blk W5 W4.heap.size 27 #[.int .i64 x1, .int .i64 x2]) := by rw [← hW5]; exact Blk.new _ _ _ rfl
  rw [hW5]
  have HB5 : Hid (Below w.heap.size w W5) := HB4.out.trans (hb5.mono HB4.out.size)
  have HR5 := Lib.hid (HR4.out.below hb5)
  clear hW5 hb5 q0 q1 q2 q3 q4 q5 q6 q7 q8 q9 hz HR4
  refine (C4.out _ HB5.out).mono ?_
  rintro e W6 ⟨A6, c6, rfl, hr6, hb6⟩
  have HB6 : Hid (Below w.heap.size w W6) := HB5.out.trans (hb6.mono HB5.out.size)
  have KX6 := Lib.hid (KX5.out.later hb6)
  have HR6 := Lib.hid hr6
  have HR6' := Lib.hid (HR5.out.below hb6)
  clear hr6 hb6 HR5
  have h7 : Below W6.heap.size W6 (W6.alloc (Obj.cells #[.int .i64 x1, .int .i64 x2] 27)) := (Below.refl _ _).alloc (Nat.le_refl _) _
  have HI := Lib.hid (ints_any L L A4 L.length c4 A6 L.length c6 (W6.alloc (Obj.cells #[.int .i64 x1, .int .i64 x2] 27)) (HR6'.out.below h7) (HR6.out.below h7) (by omega))
  have HB7 : Hid (Below w.heap.size w (W6.alloc (Obj.cells #[.int .i64 x1, .int .i64 x2] 27))) := HB6.out.trans (h7.mono HB6.out.size)
  have KY7 : Hid (Blk (W6.alloc (Obj.cells #[.int .i64 x1, .int .i64 x2] 27)) W6.heap.size 27 #[.int .i64 x1, .int .i64 x2]) := Blk.new _ _ _ rfl
  have KX7 := Lib.hid (KX6.out.later h7)
  have e1 : decide (L = L) = true := by simp
  rw [e1] at HI
  clear h7 e1
  go_wp2_with fail
  refine HI.out.mono ?_
  rintro e W8 ⟨rfl, hb8⟩
  have HB8 : Hid (Below w.heap.size w W8) := HB7.out.trans (hb8.mono HB7.out.size)
  have KX8 := KX7.out.later hb8
  have KY8 := KY7.out.later hb8
  clear hb8
  have u0 := KX8.cell (i := 0) rfl
  have u1 := KX8.cell (i := 1) rfl
  have v0 := KY8.cell (i := 0) rfl
  have v1 := KY8.cell (i := 1) rfl
  have hz1 := KX8.lt
  have hz2 := KY8.lt
  clear KX8 KY8
  go_wp2_with fail
  refine (Awake_any _).mono ?_
  rintro e W9 ⟨rfl, hb9⟩
  have HB9 := Lib.hid (HB8.out.trans (hb9.mono HB8.out.size))
  clear hb9
  go_wp2_with fail
  go_ret
  exact ⟨rfl, HB9.out⟩
end Go.Proofs.Ytkkajemahehoaaa

namespace Go.Proofs.Ytkkajemahehoaaa
open Go.ChangeShapes Go.WideShapes Go.RowKit Go.Deep

/-- Some cells can be read as data of a type. -/
def Reads (w : World) (t : TypeId) (cs : List Value) : Prop :=
  ∃ (H : Type) (enc : TypeId × Value → H) (fuel : Nat) (x : DataW H × List MemPlace), DataW.trod enc Try.prog w 0 (fun _ => true) true fuel t cs = some x

theorem reads_of {H : Type} {enc : TypeId × Value → H} {w : World} {t : TypeId} {v : Value} {d : DataW H} {p : List MemPlace} (h : DataW.Trod enc Try.prog w 0 (fun _ => true) true t v d p) : Reads w t v.cells.toList := by
  obtain ⟨fuel, hf⟩ := h
  exact ⟨H, enc, fuel, _, hf⟩

theorem Reads.int {w : World} {t : TypeId} {cs : List Value} {k : IntKind} (ht : Try.prog.underlying t = some (.int k)) (h : Reads w t cs) : ∃ n, cs = [.int k n] ∧ (Lit.int k n).wf = true := by
  obtain ⟨H, enc, fuel, x, hx⟩ := h
  obtain ⟨n, h1, _, h3⟩ := DataW.trod_int ht hx
  exact ⟨n, h1, h3⟩
theorem Reads.string {w : World} {t : TypeId} {cs : List Value} (ht : Try.prog.underlying t = some .string) (h : Reads w t cs) : ∃ s : ByteArray, cs = [.string s] ∧ s.size ≤ maxLen := by
  obtain ⟨H, enc, fuel, x, hx⟩ := h
  obtain ⟨n, h1, _, h3⟩ := DataW.trod_string ht hx
  exact ⟨n, h1, h3⟩
theorem Reads.struct {w : World} {t : TypeId} {cs : List Value} {fs : Array Field} (ht : Try.prog.underlying t = some (.struct fs)) (h : Reads w t cs) :
    cs.length = Try.prog.cellsOf t ∧ ∀ (i : Nat) (f : Field), fs[i]? = some f → Reads w f.type ((cs.drop f.offset).take (Try.prog.cellsOf f.type)) := by
  obtain ⟨H, enc, fuel, x, hx⟩ := h
  obtain ⟨xs, n, _, _, hl, hxl, hf⟩ := DataW.trod_struct ht hx
  refine ⟨hl, fun i f hi => ?_⟩
  have hil : i < fs.size := (Array.getElem?_eq_some_iff.1 hi).1
  exact ⟨H, enc, n, xs[i]'(by omega), (hf i f hi).trans (List.getElem?_eq_getElem (by omega))⟩
theorem Reads.array {w : World} {t e : TypeId} {cs : List Value} {n : Nat} (ht : Try.prog.underlying t = some (.array n e)) (h : Reads w t cs) :
    cs.length = Try.prog.cellsOf t ∧ ∀ (i : Nat), i < n → Reads w e ((cs.drop (i * Try.prog.cellsOf e)).take (Try.prog.cellsOf e)) := by
  obtain ⟨H, enc, fuel, x, hx⟩ := h
  obtain ⟨xs, m, _, _, hl, hxl, hf⟩ := DataW.trod_array ht hx
  refine ⟨hl, fun i hi => ?_⟩
  exact ⟨H, enc, m, xs[i]'(by omega), (hf i hi).trans (List.getElem?_eq_getElem (by omega))⟩
theorem Reads.slice {w : World} {t e : TypeId} {cs : List Value} (ht : Try.prog.underlying t = some (.slice e)) (h : Reads w t cs) :
    ∃ (A : Option Addr) (n c : Nat), cs = [.slice A n c] ∧ n ≤ c ∧ c ≤ maxLen ∧ ∀ i, i < n → ∃ ad cs', A = some ad ∧ cs'.length = Try.prog.cellsOf e ∧ At w (ad.add (i * Try.prog.cellsOf e)) cs' ∧ Reads w e cs' := by
  obtain ⟨H, enc, fuel, x, hx⟩ := h
  rcases open_slice ht hx with ⟨rfl, _⟩ | ⟨a, len, cap, m, n, D, Pl, rfl, _, hl, hm, hmm, _, hi⟩
  · exact ⟨none, 0, 0, rfl, Nat.le_refl _, Nat.zero_le _, fun i h => by omega⟩
  · refine ⟨some a, len, cap, rfl, hl, hm, fun i hil => ?_⟩
    simp only [if_true] at hmm
    obtain ⟨cs', hc, ht'⟩ := hi i (by omega)
    obtain ⟨_, hcl, hat⟩ := World.cells?_some hc
    refine ⟨a, cs', rfl, hcl, fun j v hj => ?_, H, enc, n, _, ht'⟩
    have hjl := (List.getElem?_eq_some_iff.1 hj).1
    rw [hat j (by omega)]
    exact hj

theorem rd_of_reads {α : Type} {enc : α → List Value} {k : Nat} {w : World} {A : Option Addr} : ∀ {n : Nat}, (∀ i, i < n → ∃ ad x, A = some ad ∧ At w (ad.add (i * k)) (enc x)) → ∃ xs, Rd enc k w A n xs
  | 0, _ => ⟨[], Rd.nil⟩
  | n + 1, h => by
    obtain ⟨xs, hxl, hx⟩ := rd_of_reads (n := n) (fun i hi => h i (by omega))
    obtain ⟨ad, x, h1, h2⟩ := h n (by omega)
    refine ⟨xs ++ [x], by simp [hxl], fun i y hy => ?_⟩
    by_cases hi : i < n
    · rw [List.getElem?_append_left (by omega)] at hy
      exact hx i y hy
    · have hil := (List.getElem?_eq_some_iff.1 hy).1
      simp at hil
      obtain rfl : i = n := by omega
      rw [List.getElem?_append_right (by omega), hxl] at hy
      simp at hy
      subst hy
      exact ⟨ad, h1, h2⟩

theorem cells3 : Try.prog.cellsOf 3 = 1 := by kernel_rfl

theorem len1 {α : Type} {l : List α} (h : l.length = 1) : ∃ a, l = [a] := by
  match l, h with
  | [a], _ => exact ⟨a, rfl⟩
theorem len2 {α : Type} {l : List α} (h : l.length = 2) : ∃ a b, l = [a, b] := by
  match l, h with
  | [a, b], _ => exact ⟨a, b, rfl⟩
theorem len3 {α : Type} {l : List α} (h : l.length = 3) : ∃ a b c, l = [a, b, c] := by
  match l, h with
  | [a, b, c], _ => exact ⟨a, b, c, rfl⟩
theorem len4 {α : Type} {l : List α} (h : l.length = 4) : ∃ a b c d, l = [a, b, c, d] := by
  match l, h with
  | [a, b, c, d], _ => exact ⟨a, b, c, d, rfl⟩
theorem len7 {α : Type} {l : List α} (h : l.length = 7) : ∃ a b c d e f g, l = [a, b, c, d, e, f, g] := by
  match l, h with
  | [a, b, c, d, e, f, g], _ => exact ⟨a, b, c, d, e, f, g, rfl⟩
theorem len10 {α : Type} {l : List α} (h : l.length = 10) : ∃ a b c d e f g i j k, l = [a, b, c, d, e, f, g, i, j, k] := by
  match l, h with
  | [a, b, c, d, e, f, g, i, j, k], _ => exact ⟨a, b, c, d, e, f, g, i, j, k, rfl⟩

/-- An integer within its 64 bits. -/
def I64 (n : Int) : Prop := -9223372036854775808 ≤ n ∧ n ≤ 9223372036854775807
theorem Reads.i64 {w : World} {v : Value} (h : Reads w 3 [v]) : ∃ n, v = .int .i64 n ∧ I64 n := by
  obtain ⟨n, hn, hw⟩ := h.int Try.underlying3
  simp at hn
  simp [Lit.wf, IntKind.min, IntKind.max, IntKind.signed, IntKind.bits] at hw
  exact ⟨n, hn, hw⟩

theorem Reads.field {w : World} {t : TypeId} {cs : List Value} {fs : Array Field} (ht : Try.prog.underlying t = some (.struct fs)) (h : Reads w t cs) (i : Nat) {u : TypeId} {off k : Nat}
    (hi : (fs[i]?).map (fun f => (f.type, f.offset)) = some (u, off)) (hk : Try.prog.cellsOf u = k) : Reads w u ((cs.drop off).take k) := by
  cases hf : fs[i]? with
  | none => rw [hf] at hi; cases hi
  | some f =>
    rw [hf] at hi
    simp at hi
    obtain ⟨rfl, rfl⟩ := hi
    have := (h.struct ht).2 i f hf
    rw [hk] at this
    exact this
theorem Reads.len {w : World} {t : TypeId} {cs : List Value} {fs : Array Field} (ht : Try.prog.underlying t = some (.struct fs)) (h : Reads w t cs) {k : Nat} (hk : Try.prog.cellsOf t = k) : cs.length = k := (h.struct ht).1.trans hk

theorem cells108 : Try.prog.cellsOf 108 = 3 := by kernel_rfl
theorem cells24 : Try.prog.cellsOf 24 = 3 := by kernel_rfl
theorem cells43 : Try.prog.cellsOf 43 = 4 := by kernel_rfl
theorem cells22 : Try.prog.cellsOf 22 = 1 := by kernel_rfl
theorem cells25 : Try.prog.cellsOf 25 = 1 := by kernel_rfl
theorem cells27 : Try.prog.cellsOf 27 = 2 := by kernel_rfl
theorem cells29 : Try.prog.cellsOf 29 = 10 := by kernel_rfl
theorem cells61 : Try.prog.cellsOf 61 = 7 := by kernel_rfl
theorem cells9 : Try.prog.cellsOf 9 = 1 := by kernel_rfl

theorem Reads.high {w : World} {cs : List Value} (h : Reads w 108 cs) : ∃ x : High, cs = High.enc x := by
  obtain ⟨a, b, c, rfl⟩ := len3 (h.len Try.underlying108 cells108)
  have h0 : Reads w 3 [a] := h.field Try.underlying108 0 rfl cells3
  have h1 : Reads w 3 [b] := h.field Try.underlying108 1 rfl cells3
  have h2 : Reads w 3 [c] := h.field Try.underlying108 2 rfl cells3
  obtain ⟨x, rfl, _⟩ := h0.i64
  obtain ⟨y, rfl, _⟩ := h1.i64
  obtain ⟨z, rfl, _⟩ := h2.i64
  exact ⟨⟨x, y, z⟩, rfl⟩
theorem Reads.highs {w : World} {v : Value} (h : Reads w 22 [v]) : ∃ (A : Option Addr) (n c : Nat) (xs : List High), v = .slice A n c ∧ n ≤ c ∧ c ≤ maxLen ∧ RdH w A n xs := by
  obtain ⟨A, n, c, e, h1, h2, hi⟩ := h.slice Try.underlying22
  simp at e
  obtain ⟨xs, hx⟩ := rd_of_reads (enc := High.enc) (k := 3) (w := w) (A := A) (n := n) (fun i hin => by
    obtain ⟨ad, cs', e, _, ha, hr⟩ := hi i hin
    obtain ⟨x, rfl⟩ := hr.high
    rw [cells108] at ha
    exact ⟨ad, x, e, ha⟩)
  exact ⟨A, n, c, xs, e, h1, h2, hx⟩
theorem Reads.record {w : World} {cs : List Value} (h : Reads w 24 cs) : ∃ (r : Rec) (A : Option Addr) (n c : Nat), cs = [.int .i64 r.first, .int .i64 r.years, .slice A n c] ∧ n ≤ c ∧ c ≤ maxLen ∧ RdH w A n r.highs ∧ I64 r.first ∧ I64 r.years := by
  obtain ⟨a, b, c, rfl⟩ := len3 (h.len Try.underlying24 cells24)
  have h0 : Reads w 3 [a] := h.field Try.underlying24 0 rfl cells3
  have h1 : Reads w 3 [b] := h.field Try.underlying24 1 rfl cells3
  have h2 : Reads w 22 [c] := h.field Try.underlying24 2 rfl cells22
  obtain ⟨x, rfl, bx⟩ := h0.i64
  obtain ⟨y, rfl, bz⟩ := h1.i64
  obtain ⟨A, n, c', xs, rfl, hnc, hcm, hr⟩ := h2.highs
  exact ⟨⟨x, y, xs⟩, A, n, c', rfl, hnc, hcm, hr, bx, bz⟩
theorem Reads.window {w : World} {cs : List Value} (h : Reads w 43 cs) : ∃ d m l y : Int, cs = [.int .i64 d, .int .i64 m, .int .i64 l, .int .i64 y] ∧ I64 d ∧ I64 m ∧ I64 l ∧ I64 y := by
  obtain ⟨a, b, c, d, rfl⟩ := len4 (h.len Try.underlying43 cells43)
  have h0 : Reads w 3 [a] := h.field Try.underlying43 0 rfl cells3
  have h1 : Reads w 3 [b] := h.field Try.underlying43 1 rfl cells3
  have h2 : Reads w 3 [c] := h.field Try.underlying43 2 rfl cells3
  have h3 : Reads w 3 [d] := h.field Try.underlying43 3 rfl cells3
  obtain ⟨x0, rfl, b0⟩ := h0.i64
  obtain ⟨x1, rfl, b1⟩ := h1.i64
  obtain ⟨x2, rfl, b2⟩ := h2.i64
  obtain ⟨x3, rfl, b3⟩ := h3.i64
  exact ⟨x0, x1, x2, x3, rfl, b0, b1, b2, b3⟩
/-- Two integers. -/
theorem Reads.risk {w : World} {cs : List Value} (h : Reads w 27 cs) : ∃ a b : Int, cs = [.int .i64 a, .int .i64 b] ∧ I64 a ∧ I64 b := by
  obtain ⟨a, b, rfl⟩ := len2 (h.len Try.underlying27 cells27)
  have h0 : Reads w 3 [a] := h.field Try.underlying27 0 rfl cells3
  have h1 : Reads w 3 [b] := h.field Try.underlying27 1 rfl cells3
  obtain ⟨x0, rfl, b0⟩ := h0.i64
  obtain ⟨x1, rfl, b1⟩ := h1.i64
  exact ⟨x0, x1, rfl, b0, b1⟩
theorem Reads.work {w : World} {cs : List Value} (h : Reads w 61 cs) : ∃ x : Work, cs = Work.enc x ∧ x.name.size ≤ maxLen ∧ I64 x.days ∧ I64 x.frm ∧ I64 x.til ∧ I64 x.step := by
  obtain ⟨a, b, c, d, e, f, g, rfl⟩ := len7 (h.len Try.underlying61 cells61)
  have h0 : Reads w 9 [a] := h.field Try.underlying61 0 rfl cells9
  have h1 : Reads w 3 [b] := h.field Try.underlying61 1 rfl cells3
  have h2 : Reads w 3 [c] := h.field Try.underlying61 2 rfl cells3
  have h3 : Reads w 3 [d] := h.field Try.underlying61 3 rfl cells3
  have h4 : Reads w 3 [e] := h.field Try.underlying61 4 rfl cells3
  have h5 : Reads w 3 [f] := h.field Try.underlying61 5 rfl cells3
  have h6 : Reads w 3 [g] := h.field Try.underlying61 6 rfl cells3
  obtain ⟨s, hs, hsz⟩ := h0.string Try.underlying9
  simp at hs
  subst hs
  obtain ⟨x1, rfl, b1⟩ := h1.i64
  obtain ⟨x2, rfl, b2⟩ := h2.i64
  obtain ⟨x3, rfl, b3⟩ := h3.i64
  obtain ⟨x4, rfl, b4⟩ := h4.i64
  obtain ⟨x5, rfl, b5⟩ := h5.i64
  obtain ⟨x6, rfl, b6⟩ := h6.i64
  exact ⟨⟨s, x1, x2, x3, x4, x5, x6⟩, rfl, hsz, b2, b3, b4, b5⟩
/-- What is known of every work that was read. -/
def WkOK (x : Work) : Prop := x.name.size ≤ maxLen ∧ I64 x.days ∧ I64 x.frm ∧ I64 x.til ∧ I64 x.step
theorem Reads.works {w : World} {v : Value} (h : Reads w 25 [v]) : ∃ (A : Option Addr) (n c : Nat) (xs : List Work), v = .slice A n c ∧ n ≤ c ∧ c ≤ maxLen ∧ RdW w A n xs ∧ ∀ (i : Nat) (x : Work), xs[i]? = some x → WkOK x := by
  obtain ⟨A, n, c, e, h1, h2, hi⟩ := h.slice Try.underlying25
  simp at e
  obtain ⟨ys, hy⟩ := rd_of_reads (enc := fun x : { x : Work // WkOK x } => Work.enc x.1) (k := 7) (w := w) (A := A) (n := n) (fun i hin => by
    obtain ⟨ad, cs', e, _, ha, hr⟩ := hi i hin
    obtain ⟨x, rfl, hx⟩ := hr.work
    rw [cells61] at ha
    exact ⟨ad, ⟨x, hx⟩, e, ha⟩)
  refine ⟨A, n, c, ys.map (·.1), e, h1, h2, ⟨by simp [hy.1], fun i x hx => ?_⟩, fun i x hx => ?_⟩
  · rw [List.getElem?_map, Option.map_eq_some_iff] at hx
    obtain ⟨z, hz, rfl⟩ := hx
    exact hy.2 i z hz
  · rw [List.getElem?_map, Option.map_eq_some_iff] at hx
    obtain ⟨z, hz, rfl⟩ := hx
    exact z.2

/-- The cells of an aggregate that is well formed for a struct type. -/
theorem agg_of {P : Program} {w : World} {t : TypeId} {fs : Array Field} {b : Nat} {v : Value} (ht : P.underlying t = some (.struct fs)) (h : Value.okWide P w .any b t v) : v = .agg v.cells := by
  obtain ⟨cs, rfl, _⟩ := okWide_struct ht h
  rfl
theorem agg_list {v : Value} {l : List Value} (h : v = .agg v.cells) (hl : v.cells.toList = l) : v = .agg l.toArray := by
  subst hl; exact h

/-! The row. -/
theorem Try.own : ownKnob Try.prog.godebug = none := by kernel_rfl
theorem Try.laidOut : laidOutB Try.prog = true := by kernel_rfl

section
variable {H : Type} {enc : TypeId × Value → H}
theorem trodAll_below {W W' : World} (hb : Below W.heap.size W W') : ∀ {ts : List TypeId} {vs : List Value} {ds : List (DataW H)} {ps : List MemPlace}, (∀ t ∈ ts, Try.prog.readableRec t = true ∧ t < Try.prog.types.size) →
    DataW.TrodAll enc Try.prog W 0 (fun _ => true) true ts vs ds ps → (∀ x ∈ ps, x.block < W.heap.size) → DataW.TrodAll enc Try.prog W' 0 (fun b => decide (b < W.heap.size)) true ts vs ds ps
  | [], vs, ds, ps, _, h, _ => by
    obtain ⟨rfl, rfl, rfl⟩ := trodAll_nil h
    exact trodAll_mk0
  | t :: ts, vs, ds, ps, hr, h, hlt => by
    obtain ⟨v, vs', d, ds', p, q, rfl, rfl, rfl, h1, h2⟩ := trodAll_cons h
    exact trodAll_cons_mk (Below.trod Try.laidOut (hr t (by simp)).1 (hr t (by simp)).2 h1 hb (fun x hx => hlt x (by simp [hx]))) (trodAll_below hb (fun u hu => hr u (by simp [hu])) h2 (fun x hx => hlt x (by simp [hx])))

/-- What a law owes behind its walk. -/
theorem law_post {f : Func} {s : ChangeSpec} {W W' : World} {args : Array Value} {ds gs : List (DataW H)} {before : List MemPlace} (hv : s.vars = []) (hrt : f.resultTypes = #[4])
    (hr : ∀ t ∈ f.params.toList, Try.prog.readableRec t = true ∧ t < Try.prog.types.size) (hW : DataW.Whole enc Try.prog f.params.toList s.vars false W args.toList ds gs before)
    (hfn : s.fn H (ds ++ gs) = { results := [.lit (.bool true)], args := ds }) (hb : Below W.heap.size W W') : s.post enc Try.prog f false true false false W args (.bool true) W' := by
  have hlt : ∀ x ∈ before, x.block < W.heap.size := fun x hx => hW.lt x hx
  have hW2 := hW
  obtain ⟨p, q, hA, hV, rfl, _, _⟩ := hW
  rw [hv] at hV
  obtain ⟨rfl, rfl⟩ := trodVars_none hV
  rw [List.append_nil] at hW2 hlt
  refine ⟨ds, [], p, [], p, [], hW2, ?_, ?_, ?_, hb.frame _, fun h => by cases h⟩
  · rw [hfn, hrt]; exact trodAll_mk1 (shut_bool Try.underlying4 true)
  · rw [hfn]; exact trodAll_below hb hr hA hlt
  · rw [hfn, hv]; rfl
end
end Go.Proofs.Ytkkajemahehoaaa

namespace Go.Proofs.Ytkkajemahehoaaa
open Go.ChangeShapes Go.WideShapes Go.RowKit Go.Deep

theorem cells33 : Try.prog.cellsOf 33 = 1 := by kernel_rfl

theorem Reads.task {w : World} {cs : List Value} (h : Reads w 29 cs) : ∃ (t : Task) (A : Option Addr) (n c : Nat) (A' : Option Addr) (n' c' : Nat), cs = (t.val A n c A' n' c').toList ∧ TkM w t A n c A' n' c' ∧ (I64 t.rd.first ∧ I64 t.rd.years) ∧ (∀ (i : Nat) (x : Work), t.works[i]? = some x → WkOK x) ∧ n ≤ c ∧ c ≤ maxLen ∧ c' ≤ maxLen ∧ I64 t.gap ∧ I64 t.width := by
  obtain ⟨a0, a1, a2, a3, a4, a5, a6, a7, a8, a9, rfl⟩ := len10 (h.len Try.underlying29 cells29)
  have h0 : Reads w 24 [a0, a1, a2] := h.field Try.underlying29 0 rfl cells24
  have h1 : Reads w 25 [a3] := h.field Try.underlying29 1 rfl cells25
  have h2 : Reads w 3 [a4] := h.field Try.underlying29 2 rfl cells3
  have h3 : Reads w 3 [a5] := h.field Try.underlying29 3 rfl cells3
  have h4 : Reads w 27 [a6, a7] := h.field Try.underlying29 4 rfl cells27
  have h5 : Reads w 27 [a8, a9] := h.field Try.underlying29 5 rfl cells27
  obtain ⟨r, A, n, c, e0, e1, e2, hr, b0, b1⟩ := h0.record
  obtain ⟨A', n', c', ws, rfl, k1, k2, hw, hk⟩ := h1.works
  obtain ⟨g, rfl, bg⟩ := h2.i64
  obtain ⟨wd, rfl, bw⟩ := h3.i64
  obtain ⟨d1, d2, ed, _, _⟩ := h4.risk
  obtain ⟨p1, p2, ep, _, _⟩ := h5.risk
  simp only [List.cons.injEq, and_true] at e0 ed ep
  obtain ⟨rfl, rfl, rfl⟩ := e0
  obtain ⟨rfl, rfl⟩ := ed
  obtain ⟨rfl, rfl⟩ := ep
  exact ⟨⟨r, ws, g, wd, (d1, d2), (p1, p2)⟩, A, n, c, A', n', c', rfl, ⟨hr, hw, k1, fun i v hv => by have := (hk i v hv).1; unfold maxLen at this; omega⟩, ⟨b0, b1⟩, hk, e1, e2, k2, bg, bw⟩

theorem Reads.ints {w : World} {v : Value} (h : Reads w 33 [v]) : ∃ (A : Option Addr) (n c : Nat) (xs : List Int), v = .slice A n c ∧ n ≤ c ∧ c ≤ maxLen ∧ RdI w A n xs ∧ ∀ x ∈ xs, I64 x := by
  obtain ⟨A, n, c, e, h1, h2, hi⟩ := h.slice Try.underlying33
  simp at e
  obtain ⟨ys, hy⟩ := rd_of_reads (enc := fun x : { x : Int // I64 x } => [Value.int .i64 x.1]) (k := 1) (w := w) (A := A) (n := n) (fun i hin => by
    obtain ⟨ad, cs', e, hl, ha, hr⟩ := hi i hin
    rw [cells3] at ha hl
    obtain ⟨a, rfl⟩ := len1 hl
    obtain ⟨x, rfl, hx⟩ := hr.i64
    exact ⟨ad, ⟨x, hx⟩, e, ha⟩)
  refine ⟨A, n, c, ys.map (·.1), e, h1, h2, ⟨by simp [hy.1], fun i x hx => ?_⟩, fun x hx => ?_⟩
  · rw [List.getElem?_map, Option.map_eq_some_iff] at hx
    obtain ⟨z, hz, rfl⟩ := hx
    exact hy.2 i z hz
  · rw [List.mem_map] at hx
    obtain ⟨z, _, rfl⟩ := hx
    exact z.2

/-- A value of one cell is that cell. -/
theorem one_int {P : Program} {w : World} {t : TypeId} {k : IntKind} {v : Value} {b : Nat} (ht : P.underlying t = some (.int k)) (h : Value.okWide P w .any b t v) : v.cells.toList = [v] := by
  obtain ⟨n, rfl⟩ := okWide_int ht h
  rfl
theorem one_slice {P : Program} {w : World} {t e : TypeId} {v : Value} {b : Nat} (ht : P.underlying t = some (.slice e)) (h : Value.okWide P w .any b t v) : v.cells.toList = [v] := by
  obtain ⟨a, l, c, rfl⟩ := okWide_slice ht h
  rfl
end Go.Proofs.Ytkkajemahehoaaa

namespace Go.Proofs.Ytkkajemahehoaaa
open Go.ChangeShapes Go.WideShapes Go.RowKit Go.Deep

theorem okWide_array {P : Program} {w : World} {r : Reach} {base : Nat} {t e : TypeId} {n : Nat} {v : Value} (ht : P.underlying t = some (.array n e)) (h : Value.okWide P w r base t v) : ∃ cs, v = .agg cs := by
  simp only [Value.okWide, ht] at h
  obtain ⟨cs, h1, _⟩ := h
  exact ⟨cs, h1⟩
theorem arr_of {P : Program} {w : World} {t e : TypeId} {n : Nat} {b : Nat} {v : Value} (ht : P.underlying t = some (.array n e)) (h : Value.okWide P w .any b t v) : v = .agg v.cells := by
  obtain ⟨cs, rfl⟩ := okWide_array ht h
  rfl
theorem cells51 : Try.prog.cellsOf 51 = 2 := by kernel_rfl
theorem cells49 : Try.prog.cellsOf 49 = 4 := by kernel_rfl
theorem cells56 : Try.prog.cellsOf 56 = 3 := by kernel_rfl
theorem cells55 : Try.prog.cellsOf 55 = 5 := by kernel_rfl
theorem cells48 : Try.prog.cellsOf 48 = 1 := by kernel_rfl
theorem cells5 : Try.prog.cellsOf 5 = 1 := by kernel_rfl

theorem Reads.two {w : World} {cs : List Value} (h : Reads w 51 cs) : ∃ a b : Int, cs = [.int .i64 a, .int .i64 b] ∧ I64 a ∧ I64 b := by
  obtain ⟨hl, hi⟩ := h.array Try.underlying51
  rw [cells51] at hl
  obtain ⟨a, b, rfl⟩ := len2 hl
  rw [cells3] at hi
  have h0 : Reads w 3 [a] := hi 0 (by omega)
  have h1 : Reads w 3 [b] := hi 1 (by omega)
  obtain ⟨x0, rfl, b0⟩ := h0.i64
  obtain ⟨x1, rfl, b1⟩ := h1.i64
  exact ⟨x0, x1, rfl, b0, b1⟩
/-- An integer of 16 bits without a sign. -/
def U16 (n : Int) : Prop := 0 ≤ n ∧ n ≤ 65535
theorem Reads.u16 {w : World} {v : Value} (h : Reads w 48 [v]) : ∃ n, v = .int .u16 n ∧ U16 n := by
  obtain ⟨n, hn, hw⟩ := h.int Try.underlying48
  simp at hn
  simp [Lit.wf, IntKind.min, IntKind.max, IntKind.signed, IntKind.bits] at hw
  exact ⟨n, hn, hw⟩
theorem Reads.u8 {w : World} {v : Value} (h : Reads w 5 [v]) : ∃ n, v = .int .u8 n ∧ 0 ≤ n ∧ n ≤ 255 := by
  obtain ⟨n, hn, hw⟩ := h.int Try.underlying5
  simp at hn
  simp [Lit.wf, IntKind.min, IntKind.max, IntKind.signed, IntKind.bits] at hw
  exact ⟨n, hn, hw⟩
theorem Reads.four16 {w : World} {cs : List Value} (h : Reads w 49 cs) : ∃ a b c d : Int, cs = [.int .u16 a, .int .u16 b, .int .u16 c, .int .u16 d] ∧ U16 a ∧ U16 b ∧ U16 c ∧ U16 d := by
  obtain ⟨hl, hi⟩ := h.array Try.underlying49
  rw [cells49] at hl
  obtain ⟨a, b, c, d, rfl⟩ := len4 hl
  rw [cells48] at hi
  have h0 : Reads w 48 [a] := hi 0 (by omega)
  have h1 : Reads w 48 [b] := hi 1 (by omega)
  have h2 : Reads w 48 [c] := hi 2 (by omega)
  have h3 : Reads w 48 [d] := hi 3 (by omega)
  obtain ⟨x0, rfl, b0⟩ := h0.u16
  obtain ⟨x1, rfl, b1⟩ := h1.u16
  obtain ⟨x2, rfl, b2⟩ := h2.u16
  obtain ⟨x3, rfl, b3⟩ := h3.u16
  exact ⟨x0, x1, x2, x3, rfl, b0, b1, b2, b3⟩
theorem Reads.three16 {w : World} {cs : List Value} (h : Reads w 56 cs) : ∃ a b c : Int, cs = [.int .u16 a, .int .u16 b, .int .u16 c] ∧ U16 a ∧ U16 b ∧ U16 c := by
  obtain ⟨hl, hi⟩ := h.array Try.underlying56
  rw [cells56] at hl
  obtain ⟨a, b, c, rfl⟩ := len3 hl
  rw [cells48] at hi
  have h0 : Reads w 48 [a] := hi 0 (by omega)
  have h1 : Reads w 48 [b] := hi 1 (by omega)
  have h2 : Reads w 48 [c] := hi 2 (by omega)
  obtain ⟨x0, rfl, b0⟩ := h0.u16
  obtain ⟨x1, rfl, b1⟩ := h1.u16
  obtain ⟨x2, rfl, b2⟩ := h2.u16
  exact ⟨x0, x1, x2, rfl, b0, b1, b2⟩
theorem len5 {α : Type} {l : List α} (h : l.length = 5) : ∃ a b c d e, l = [a, b, c, d, e] := by
  match l, h with
  | [a, b, c, d, e], _ => exact ⟨a, b, c, d, e, rfl⟩
theorem Reads.season {w : World} {cs : List Value} (h : Reads w 55 cs) : ∃ wd l a b d : Int, cs = [.int .i64 wd, .int .i64 l, .int .i64 a, .int .i64 b, .int .i64 d] ∧ I64 wd ∧ I64 l ∧ I64 a ∧ I64 b ∧ I64 d := by
  obtain ⟨a, b, c, d, e, rfl⟩ := len5 (h.len Try.underlying55 cells55)
  have h0 : Reads w 3 [a] := h.field Try.underlying55 0 rfl cells3
  have h1 : Reads w 3 [b] := h.field Try.underlying55 1 rfl cells3
  have h2 : Reads w 27 [c, d] := h.field Try.underlying55 2 rfl cells27
  have h3 : Reads w 3 [e] := h.field Try.underlying55 3 rfl cells3
  obtain ⟨x0, rfl, b0⟩ := h0.i64
  obtain ⟨x1, rfl, b1⟩ := h1.i64
  obtain ⟨x2, x3, e2, b2, b3⟩ := h2.risk
  obtain ⟨x4, rfl, b4⟩ := h3.i64
  simp only [List.cons.injEq, and_true] at e2
  obtain ⟨rfl, rfl⟩ := e2
  exact ⟨x0, x1, x2, x3, x4, rfl, b0, b1, b2, b3, b4⟩
end Go.Proofs.Ytkkajemahehoaaa

namespace Go.Proofs.Ytkkajemahehoaaa
open Go.ChangeShapes Go.WideShapes Go.RowKit

set_option maxRecDepth 100000 in
theorem upkeepFinds_lifted (os : Os) (started : os.Started) (H : Type) (enc : TypeId × Value → H) :
    ReturnsInHanded {} Try.checked os 4 .any (Rows.upkeepFindsSpec.pre6 enc Try.prog Try.f4 Rows.upkeepFindsRow.domain false) (Rows.upkeepFindsSpec.post enc Try.prog Try.f4 false true false false) := by
  refine returnsInHanded_of_change (C := Try.checked) Try.own started (by kernel_rfl) Try.func4
    (ChangeSpec.witness6 (enc := enc) (C := Try.checked) false ⟨#[], #[.agg #[.int .i64 0, .int .i64 0, .slice none 0 0, .slice none 0 0, .int .i64 0, .int .i64 0, .int .i64 0, .int .i64 0, .int .i64 0, .int .i64 0]], []⟩ 8 (by kernel_rfl) (by kernel_rfl) (by kernel_rfl) (by kernel_rfl)) ?_
  intro W base args ds gs before hval0 hW _ _
  have hval : ∀ (j : Nat) t v, Try.f4.params[j]? = some t → args[j]? = some v → Value.okWide Try.prog W .any base t v := hval0
  have hW' := hW
  obtain ⟨p, q, hA0, hV, rfl, hfz, hnd⟩ := hW
  have hA : DataW.TrodAll enc Try.prog W 0 (fun _ => true) true Try.f4.params.toList args.toList ds p := hA0
  rw [Try.params4] at hA hval
  obtain ⟨v0, d0, rfl, rfl, h0⟩ := trodAll_one hA
  obtain ⟨rfl, rfl⟩ := trodVars_none hV
  obtain ⟨t, A, n, c, A', n', c', e0, hT, b0⟩ := (reads_of h0).task
  have e0' := agg_list (agg_of Try.underlying29 (hval 0 29 v0 rfl rfl)) e0
  subst e0'
  refine (UpkeepFinds_any t A n c A' n' c' W hT).mono fun e W' ⟨he, hb⟩ => ?_
  subst he
  exact ⟨_, rfl, law_post rfl (by kernel_rfl) (by rw [Try.params4]; exact fun t ht => by simp at ht; rcases ht with rfl <;> exact ⟨by kernel_rfl, of_decide_eq_true (by kernel_rfl)⟩) hW' rfl hb⟩

theorem upkeepFinds_holds : Rows.UpkeepFindsSaid :=
  OpenClaim.holds_of_wide 4 Try.f4 rfl rfl rfl rfl rfl rfl rfl ⟨rfl, rfl, rfl, rfl, rfl⟩ rfl rfl rfl rfl rfl (by kernel_rfl) Try.func4 (by kernel_rfl)
    (of_decide_eq_true (by kernel_rfl)) (by unfold Func.isWrapper; first | (rw [if_pos (by decide +kernel)]; kernel_rfl) | (rw [if_neg (by decide +kernel)]; exact ⟨rfl, rfl⟩))
    (fun os started H enc _ => upkeepFinds_lifted os started H enc)

#print axioms upkeepFinds_holds

end Go.Proofs.Ytkkajemahehoaaa
