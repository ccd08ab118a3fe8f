/- All plans (the document's), one work more. UNDER WAY. -/
import Derived.Test.YtkkajemahehoaaaPq
namespace Go.Proofs.Ytkkajemahehoaaa
open Go.RowKit

def preL (t : Task) (x : Work) (k : Nat) (ss : List Int) (j : Nat) : List (List Int) := (((triesF x).take j).filter fun d => decide (badF t x d < 0)).flatMap fun s => plansL t k (ss ++ [s])

theorem preL_len (t : Task) (x : Work) (k : Nat) (ss : List Int) (j : Nat) : (preL t x k ss j).length ≤ 400 * 400 ^ k :=
  Nat.le_trans (flat_bound (b := 400 ^ k) _ (fun s _ => plansL_len t k _)) (Nat.mul_le_mul_right _ (Nat.le_trans (List.length_filter_le _ _) (Nat.le_trans (by rw [List.length_take]; exact Nat.min_le_right _ _) (triesG_len 400 x.frm))))

theorem build33 (w : World) : (Instr.buildSlice 33 0 #[]).run Try.prog w = .ok (.slice (some ⟨w.heap.size, 0, none⟩) 0 0) (w.alloc (.cells #[] 3)) := by kernel_rfl

set_option maxRecDepth 100000 in
set_option maxHeartbeats 2000000 in
theorem plans_succ (t : Task) (hok : TaskOK t) (A : Option Addr) (n c : Nat) (A' : Option Addr) (n' c' : Nat) (k : Nat) (ss : List Int) (As : Option Addr) (cs : Nat) (w : World) (hT : TkM w t A n c A' n' c') (hs : w.ownsRow 0 3 1 (.slice As ss.length cs) ss.length (ss.map (Value.int .i64))) (hl : ss.length + (k + 1) = t.works.length)
    (ih : ∀ (ss : List Int) (As : Option Addr) (cs : Nat) (w : World), TkM w t A n c A' n' c' → w.ownsRow 0 3 1 (.slice As ss.length cs) ss.length (ss.map (Value.int .i64)) → ss.length + k = t.works.length → Calls Try.prog 68 #[.agg (t.val A n c A' n' c'), .slice As ss.length cs] w (PlansPost (plansL t k ss) w)) :
    Calls Try.prog 68 #[.agg (t.val A n c A' n' c'), .slice As ss.length cs] w (PlansPost (plansL t (k + 1) ss) w) := by
  obtain ⟨i0, hi, hz0, hz1, hz2⟩ := info_parts info3
  obtain ⟨i1, hi1, hy0, hy1, hy2⟩ := info_parts info33
  have hk3 : k ≤ 3 := by have := hok.len; omega
  have hs4 : ss.length ≤ 3 := by have := hok.len; omega
  have hn := hT.hw.1
  have hlt : ss.length < n' := by omega
  obtain ⟨x, ad, hx, rfl, ha⟩ := hT.hw.get hlt
  have hwk := workOK_of (hok.rows _ x hx).2.2.1
  have HB1 : Hid (Below w.heap.size w (w.alloc (.cells (t.val A n c (some ad) n' c') 29))) := (Below.refl _ _).alloc (Nat.le_refl _) _
  have KK : Hid (Blk (w.alloc (.cells (t.val A n c (some ad) n' c') 29)) w.heap.size 29 (t.val A n c (some ad) n' c')) := Blk.new _ _ _ rfl
  obtain ⟨c0, c1, c2, c3, c4, c5, c6⟩ := (ha.below HB1.out).seven
  have HWk := Lib.hid hwk
  have hTl : (triesF x).length ≤ 400 := triesG_len 400 x.frm
  have HOK := Lib.hid hok
  have HTr := Lib.hid (fun W => tries_any x W hwk)
  have HT := Lib.hid hT
  have HS := Lib.hid hs
  have HIH := Lib.hid ih
  have HX := Lib.hid hx
  have HL := Lib.hid hl
  have hz : ((ss.length : Int) == (n' : Int)) = false := by simp; omega
  have hki : (ss.length : Int) < (n' : Int) := by omega
  clear hT hs ih hx ha hl hok hwk
  unfold Task.val Work.val at *
  go_enter Try.func68, Try.ntmps68
  go_wp2_with fail
  refine (HTr.out _).mono ?_
  rintro e W2 ⟨v, rfl, hown, hb2⟩
  obtain ⟨Al, cl, rfl, hlr, _, _⟩ := rdI_of_own hown rfl
  have HB2 : Hid (Below w.heap.size w W2) := HB1.out.trans (hb2.mono HB1.out.size)
  have K2 := Lib.hid (KK.out.later hb2)
  have HTL := Lib.hid hlr
  have hsz2 : w.heap.size + 1 ≤ W2.heap.size := K2.out.lt
  have HSZ2 := Lib.hid hsz2
  clear hb2 hown hlr hsz2 c0 c1 c2 c3 c4 c5 c6 HB1 KK HTr
  go_wp2_with fail
  go_loopw [5, 7] (fun v q wr => ∃ (j : Nat) (vals : List Value), j ≤ (triesF x).length ∧ q = .int .i64 j ∧ wr.ownsRow W2.heap.size 33 1 v (preL t x k ss j).length vals ∧ PlansV wr vals (preL t x k ss j) ∧ Below W2.heap.size W2 wr) (fun _ q _ => (triesF x).length - (intOf q).toNat)
  case atStart => exact ⟨0, [], Nat.zero_le _, rfl, World.ownsRow_nil _ _ _ _, ⟨rfl, fun i p h => by simp [preL] at h⟩, Below.refl _ _⟩
  case round =>
    obtain ⟨j, vals, hj, rfl, hown, hpv, hB⟩ := hrel
    have HBj := Lib.hid hB; have HOj := Lib.hid hown; have HPj := Lib.hid hpv
    have HBw : Hid (Below w.heap.size w wr) := HB2.out.trans (HBj.out.mono HB2.out.size)
    clear hB hown hpv
    by_cases hjt : j < (triesF x).length
    · obtain ⟨d, ad2, hd, rfl, cs0⟩ := rdI_get (HTL.out.below HBj.out) hjt
      have hdm := triesG_mem (by have := HWk.out.s0; omega) _ _ _ (List.mem_of_getElem? hd)
      have hjl : (j : Int) < ((triesF x).length : Int) := by omega
      have HJ := Lib.hid hjt
      have HF := Lib.hid (filter_take_succ (P := fun d => decide (badF t x d < 0)) hd)
      have KR := K2.out.later HBj.out
      have q0 := later_cell (KR.cell (i := 0) rfl)
      have q1 := later_cell (KR.cell (i := 1) rfl)
      have q2 := later_cell (KR.cell (i := 2) rfl)
      have q3 := later_cell (KR.cell (i := 3) rfl)
      have q4 := later_cell (KR.cell (i := 4) rfl)
      have q5 := later_cell (KR.cell (i := 5) rfl)
      have q6 := later_cell (KR.cell (i := 6) rfl)
      have q7 := later_cell (KR.cell (i := 7) rfl)
      have q8 := later_cell (KR.cell (i := 8) rfl)
      have q9 := later_cell (KR.cell (i := 9) rfl)
      have qs := later_cell cs0
      have HBq : Hid (∀ u : Later wr, Calls Try.prog 59 #[.agg #[.int .i64 t.rd.first, .int .i64 t.rd.years, .slice A n c, .slice (some ad) n' c', .int .i64 t.gap, .int .i64 t.width, .int .i64 t.day.1, .int .i64 t.day.2, .int .i64 t.plan.1, .int .i64 t.plan.2], .int .i64 (ss.length : Int), .int .i64 d] u.w fun e w' => e = .returned (.int .i64 (badF t x d)) ∧ Below u.w.heap.size u.w w') := fun u => refBad_any t A n c (some ad) n' c' ss.length x d u.w (HT.out.below (HBw.out.trans (u.h.mono HBw.out.size))) HX.out HOK.out (by have := HWk.out.f0; omega) (by have := HWk.out.u1; omega)
      clear hd KR hdm
      go_wp2
      cases hbd : decide (badF t x d < 0)
      · have HS2 := Lib.hid (show preL t x k ss (j + 1) = preL t x k ss j from by unfold preL; rw [HF.out, hbd]; simp)
        clear HF
        refine wp_region_later (by kernel_rfl) (by kernel_rfl) ?_
        repeat (first | go_big_quiet_skip | (go_big_quiet_want; go_big_quiet_op; first | go_big_quiet_on | (apply Exists.intro; refine ⟨fun _ => ?_, ?_⟩; (· (with_reducible exact later_calls (HBq.out _))); go_big_quiet_on)))
        refine wpQuiet_nil ?_
        intro _ hw'
        obtain ⟨u, hu⟩ := hw'
        subst hu
        clear q0 q1 q2 q3 q4 q5 q6 q7 q8 q9 qs
        go_wp2
        go_roundw
        case rel => exact ⟨j + 1, vals, HJ.out, by go_num, by rw [HS2.out]; exact HOj.out.kept (grown_of_below u.h none) (Classical.em _), by rw [HS2.out]; exact HPj.out.below u.h, HBj.out.trans (u.h.mono HBj.out.size)⟩
        case measure => have := HJ.out; simp only [intOf]; omega
      · have HS2 := Lib.hid (show preL t x k ss (j + 1) = preL t x k ss j ++ plansL t k (ss ++ [d]) from by unfold preL; rw [HF.out, hbd]; simp)
        clear HF
        refine wp_region_later (by kernel_rfl) (by kernel_rfl) ?_
        repeat (first | go_big_quiet_skip | (go_big_quiet_want; go_big_quiet_op; first | go_big_quiet_on | (apply Exists.intro; refine ⟨fun _ => ?_, ?_⟩; (· (with_reducible exact later_calls (HBq.out _))); go_big_quiet_on)))
        refine wpQuiet_nil ?_
        intro _ hw'
        obtain ⟨u, hu⟩ := hw'
        subst hu
        have csu := qs u
        clear q0 q1 q2 q3 q4 q5 q6 q7 q8 q9 qs
        have HBu : Hid (Below W2.heap.size W2 u.w) := HBj.out.trans (u.h.mono HBj.out.size)
        have HOu := Lib.hid (HOj.out.kept (grown_of_below u.h none) (Classical.em _))
        have HPu := Lib.hid (HPj.out.below u.h)
        generalize u.w = W3 at *
        have HBw3 : Hid (Below w.heap.size w W3) := HB2.out.trans (HBu.out.mono HB2.out.size)
        have HSr := Lib.hid (HS.out.kept (grown_of_below HBw3.out none) (Classical.em _))
        have HLen : Hid ((preL t x k ss j).length + (plansL t k (ss ++ [d])).length ≤ 60000000000) := by
          have h1 := preL_len t x k ss j
          have h2 := plansL_len t k (ss ++ [d])
          have h3 : 400 ^ k ≤ 400 ^ 3 := Nat.pow_le_pow_right (by omega) hk3
          show (preL t x k ss j).length + (plansL t k (ss ++ [d])).length ≤ 60000000000
          omega
        go_wp2_with fail
        refine wp_region_noPanic ?_
        refine wp_region_fork (fun w' => ∃ u : Later W3, w' = u.w) 12 (fun k => k == 0 || k == 1 || k == 3 || k == 5 || k == 6 || k == 7 || k == 8) (fkOf _ (.op 1 (.op 3 (.op 5 (.op 6 (.op 7 (.op 8 (.op 0 (.two 2 (.two 4 (.op 9 (.op 10 (.op 11 (.op 12 (.op 13 .nil))))) 9 (.op 4 (.op 10 (.op 11 (.op 12 (.op 13 .nil)))))) 9 (.op 2 (.op 4 (.op 10 (.op 11 (.op 12 (.op 13 .nil))))))))))))))) (by kernel_rfl) (by kernel_rfl) (fkOf_mem _ _) (fun _ _ _ _ _ h => h) ?_
        have KR := K2.out.later HBu.out
        have q0 := later_cell (KR.cell (i := 0) rfl)
        have q1 := later_cell (KR.cell (i := 1) rfl)
        have q2 := later_cell (KR.cell (i := 2) rfl)
        have q3 := later_cell (KR.cell (i := 3) rfl)
        have q4 := later_cell (KR.cell (i := 4) rfl)
        have q5 := later_cell (KR.cell (i := 5) rfl)
        have q6 := later_cell (KR.cell (i := 6) rfl)
        have q7 := later_cell (KR.cell (i := 7) rfl)
        have q8 := later_cell (KR.cell (i := 8) rfl)
        have q9 := later_cell (KR.cell (i := 9) rfl)
        have qs := later_cell csu
        have HS0 : Hid ((fun w' => ∃ u : Later W3, w' = u.w) W3.drew) := ⟨⟨W3.drew, (Below.refl _ _).drew⟩, rfl⟩
        simp only [fkOf, List.getElem?_cons_zero, List.getElem?_cons_succ]
        iterate 7 (refine fk_quiet rfl rfl rfl HS0.out ?_; intro K hK; go_big_quiet_op; go_big_quiet_on)
        clear q0 q1 q2 q3 q4 q5 q6 q7 q8 q9 qs
        refine fk_two ?_ ?_
        · have hbs := build33
          go_wp2_with fail
          clear hbs
          have hBa1 : Below W3.heap.size W3 (W3.alloc (.cells #[] 3)).drew := ((Below.refl _ W3).alloc (Nat.le_refl _) _).drew
          refine mix_post (fun _ => ⟨⟨_, hBa1⟩, rfl⟩) ?_
          refine fk_two ?_ ?_
          · have HBa := Lib.hid hBa1
            have HO0 : Hid ((W3.alloc (.cells #[] 3)).drew.ownsRow W3.heap.size 3 1 (.slice (some ⟨W3.heap.size, 0, none⟩) 0 0) 0 []) := own_drew (own_empty W3 W3.heap.size (Nat.le_refl _) 3 1)
            have HSa := Lib.hid (HSr.out.kept (grown_of_below HBa.out none) (Classical.em _))
            refine wpList_append_row rfl _ _ 33 rfl W3.heap.size 3 i0 (.int .i64 0) 1 8 Try.underlying33 hi hz0 hz1 hz2 rfl (by decide) _ 0 [] rfl HO0.out _ 0 _ _ rfl HSa.out (ints_one _) (by unfold maxLen; omega) (by omega) HBa.out.size ?_
            intro v1 W4 hown1 hgrow1
            have HB4 : Hid (Below W3.heap.size W3 W4) := HBa.out.grown hgrow1 HBa.out.size (fun q e => (HO0.out.lt q e).1)
            have HO1 := Lib.hid hown1
            clear hown1 hgrow1
            go_wp2
            refine mix_post (fun _ => ⟨⟨_, HB4.out⟩, rfl⟩) ?_
            refine fk_one rfl ?_
            go_wp2
            refine mix_post (fun _ => ⟨⟨_, HB4.out.alloc HB4.out.size _⟩, rfl⟩) ?_
            refine fk_one rfl ?_
            refine wpList_append_own _ rfl _ _ 33 rfl W3.heap.size 3 i0 (.int .i64 0) 1 8 Try.underlying33 hi hz0 hz1 hz2 rfl (by decide) _ _ _ rfl (HO1.out.alloc _) ⟨W4.heap.size, 0, none⟩ 1 1 [.int .i64 d] rfl rfl (cell_one_new _ _ _) (by simp [Value.oneCell']) (by unfold maxLen; omega) (by omega) (by have := HB4.out.size; simp; omega) ?_
            intro v2 W6 hown2 hgrow2 _
            have HB6 : Hid (Below W3.heap.size W3 W6) := (HB4.out.alloc HB4.out.size _).grown hgrow2 (HB4.out.alloc HB4.out.size _).size (fun q e => (HO1.out.lt q e).1)
            have HO6' : Hid (W6.ownsRow W3.heap.size 3 1 v2 (ss.length + 1) (ss.map (Value.int .i64) ++ [.int .i64 d])) := by
              rw [Nat.zero_add, List.nil_append] at hown2
              exact hown2
            clear hown2 hgrow2
            obtain ⟨A2, c2, hv2, _, _, _⟩ := rdI_of_own (xs := ss ++ [d]) (n := ss.length + 1) (by rw [List.map_append]; exact HO6'.out) (by simp)
            subst hv2
            have HO6 := HO6'
            clear HO6'
            go_wp2
            refine mix_post (fun _ => ⟨⟨_, HB6.out⟩, rfl⟩) ?_
            refine fk_one rfl ?_
            have HC : Hid (Calls Try.prog 68 #[.agg #[.int .i64 t.rd.first, .int .i64 t.rd.years, .slice A n c, .slice (some ad) n' c', .int .i64 t.gap, .int .i64 t.width, .int .i64 t.day.1, .int .i64 t.day.2, .int .i64 t.plan.1, .int .i64 t.plan.2], .slice A2 (ss.length + 1) c2] W6 (PlansPost (plansL t k (ss ++ [d])) W6)) := by
              have h := HIH.out (ss ++ [d]) A2 c2 W6 (HT.out.below (HBw3.out.trans (HB6.out.mono HBw3.out.size))) (by rw [List.length_append, List.map_append]; exact own_lower HO6.out (Nat.zero_le _)) (by have := HL.out; rw [List.length_append]; simp; omega)
              rw [List.length_append] at h
              exact h
            go_wp2_with fail
            refine HC.out.mono ?_
            rintro e W7 ⟨v7, vals7, rfl, hown7, hpv7, hb7⟩
            have HB7 : Hid (Below W3.heap.size W3 W7) := HB6.out.trans (hb7.mono HB6.out.size)
            have HO7 := Lib.hid hown7
            have HP7 := Lib.hid hpv7
            clear hown7 hpv7 hb7
            go_wp2
            refine mix_post (fun _ => ⟨⟨_, HB7.out⟩, rfl⟩) ?_
            refine fk_one rfl ?_
            have HO8 := Lib.hid (HOu.out.kept (grown_of_below HB7.out none) (Classical.em _))
            refine wpList_append_row rfl _ _ 93 rfl W2.heap.size 33 i1 (.slice none 0 0) 1 24 Try.underlying93 hi1 hy0 hy1 hy2 rfl (by decide) _ _ _ rfl HO8.out v7 _ _ _ rfl HO7.out (PlansV.one HP7.out) (by have := HLen.out; unfold maxLen; omega) (by have := HLen.out; omega) (HBu.out.trans (HB7.out.mono HBu.out.size)).size ?_
            intro v8 W8 hown8 hgrow8
            have HB8 : Hid (Below W2.heap.size W2 W8) := (HBu.out.trans (HB7.out.mono HBu.out.size)).grown hgrow8 (HBu.out.trans (HB7.out.mono HBu.out.size)).size (fun q e => (HO8.out.lt q e).1)
            have HP8 := Lib.hid (((HPu.out.below HB7.out).app HP7.out).grown HO8.out hgrow8)
            have HO9 := Lib.hid hown8
            clear hown8 hgrow8
            go_wp2
            refine mix_post (fun h => absurd h (by decide)) ?_
            refine fk_one rfl ?_
            go_wp2
            refine mix_post (fun h => absurd h (by decide)) ?_
            refine fk_nil (NoPanic.normal ?_)
            go_wp2
            go_roundw
            case rel => exact ⟨j + 1, _, HJ.out, by go_num, by rw [HS2.out, List.length_append]; exact HO9.out, by rw [HS2.out]; exact HP8.out, HB8.out⟩
            case measure => have := HJ.out; simp only [intOf]; omega
          · go_wp2
            have HBa : Hid (Below W3.heap.size W3 (((W3.alloc (.cells #[] 3)).drew).alloc (.cells #[.int .i64 d] 3))) := hBa1.alloc hBa1.size _
            refine mix_post (fun _ => ⟨⟨_, HBa.out⟩, rfl⟩) ?_
            refine fk_one rfl ?_
            have HO0 : Hid ((((W3.alloc (.cells #[] 3)).drew).alloc (.cells #[.int .i64 d] 3)).ownsRow W3.heap.size 3 1 (.slice (some ⟨W3.heap.size, 0, none⟩) 0 0) 0 []) := (own_drew (own_empty W3 W3.heap.size (Nat.le_refl _) 3 1)).alloc _
            have HSa := Lib.hid (HSr.out.kept (grown_of_below HBa.out none) (Classical.em _))
            refine wpList_append_row rfl _ _ 33 rfl W3.heap.size 3 i0 (.int .i64 0) 1 8 Try.underlying33 hi hz0 hz1 hz2 rfl (by decide) _ 0 [] rfl HO0.out _ 0 _ _ rfl HSa.out (ints_one _) (by unfold maxLen; omega) (by omega) HBa.out.size ?_
            intro v1 W4 hown1 hgrow1
            have HO1 := Lib.hid hown1
            have HB4 : Hid (Below W3.heap.size W3 W4) := HBa.out.grown hgrow1 HBa.out.size (fun q e => (HO0.out.lt q e).1)
            have HCd : Hid (W4.cell? ⟨(W3.heap.size + 1), 0, none⟩ = some (.int .i64 d)) := hgrow1.cell (cell_b W3 d) (fun e => by have e' : some ((W3.heap.size + 1)) = some (W3.heap.size) := e; injection e' with e'; omega)
            clear hown1 hgrow1
            go_wp2
            refine mix_post (fun _ => ⟨⟨_, HB4.out⟩, rfl⟩) ?_
            refine fk_one rfl ?_
            refine wpList_append_own _ rfl _ _ 33 rfl W3.heap.size 3 i0 (.int .i64 0) 1 8 Try.underlying33 hi hz0 hz1 hz2 rfl (by decide) _ _ _ rfl HO1.out ⟨(W3.heap.size + 1), 0, none⟩ 1 1 [.int .i64 d] rfl rfl (news_cell HCd.out) (by simp [Value.oneCell']) (by unfold maxLen; omega) (by omega) HB4.out.size ?_
            intro v2 W6 hown2 hgrow2 _
            have HB6 : Hid (Below W3.heap.size W3 W6) := HB4.out.grown hgrow2 HB4.out.size (fun q e => (HO1.out.lt q e).1)
            have HO6' : Hid (W6.ownsRow W3.heap.size 3 1 v2 (ss.length + 1) (ss.map (Value.int .i64) ++ [.int .i64 d])) := by
              rw [Nat.zero_add, List.nil_append] at hown2
              exact hown2
            clear hown2 hgrow2
            obtain ⟨A2, c2, hv2, _, _, _⟩ := rdI_of_own (xs := ss ++ [d]) (n := ss.length + 1) (by rw [List.map_append]; exact HO6'.out) (by simp)
            subst hv2
            have HO6 := HO6'
            clear HO6'
            go_wp2
            refine mix_post (fun _ => ⟨⟨_, HB6.out⟩, rfl⟩) ?_
            refine fk_one rfl ?_
            have HC : Hid (Calls Try.prog 68 #[.agg #[.int .i64 t.rd.first, .int .i64 t.rd.years, .slice A n c, .slice (some ad) n' c', .int .i64 t.gap, .int .i64 t.width, .int .i64 t.day.1, .int .i64 t.day.2, .int .i64 t.plan.1, .int .i64 t.plan.2], .slice A2 (ss.length + 1) c2] W6 (PlansPost (plansL t k (ss ++ [d])) W6)) := by
              have h := HIH.out (ss ++ [d]) A2 c2 W6 (HT.out.below (HBw3.out.trans (HB6.out.mono HBw3.out.size))) (by rw [List.length_append, List.map_append]; exact own_lower HO6.out (Nat.zero_le _)) (by have := HL.out; rw [List.length_append]; simp; omega)
              rw [List.length_append] at h
              exact h
            go_wp2_with fail
            refine HC.out.mono ?_
            rintro e W7 ⟨v7, vals7, rfl, hown7, hpv7, hb7⟩
            have HB7 : Hid (Below W3.heap.size W3 W7) := HB6.out.trans (hb7.mono HB6.out.size)
            have HO7 := Lib.hid hown7
            have HP7 := Lib.hid hpv7
            clear hown7 hpv7 hb7
            go_wp2
            refine mix_post (fun _ => ⟨⟨_, HB7.out⟩, rfl⟩) ?_
            refine fk_one rfl ?_
            have HO8 := Lib.hid (HOu.out.kept (grown_of_below HB7.out none) (Classical.em _))
            refine wpList_append_row rfl _ _ 93 rfl W2.heap.size 33 i1 (.slice none 0 0) 1 24 Try.underlying93 hi1 hy0 hy1 hy2 rfl (by decide) _ _ _ rfl HO8.out v7 _ _ _ rfl HO7.out (PlansV.one HP7.out) (by have := HLen.out; unfold maxLen; omega) (by have := HLen.out; omega) (HBu.out.trans (HB7.out.mono HBu.out.size)).size ?_
            intro v8 W8 hown8 hgrow8
            have HB8 : Hid (Below W2.heap.size W2 W8) := (HBu.out.trans (HB7.out.mono HBu.out.size)).grown hgrow8 (HBu.out.trans (HB7.out.mono HBu.out.size)).size (fun q e => (HO8.out.lt q e).1)
            have HP8 := Lib.hid (((HPu.out.below HB7.out).app HP7.out).grown HO8.out hgrow8)
            have HO9 := Lib.hid hown8
            clear hown8 hgrow8
            go_wp2
            refine mix_post (fun h => absurd h (by decide)) ?_
            refine fk_one rfl ?_
            go_wp2
            refine mix_post (fun h => absurd h (by decide)) ?_
            refine fk_nil (NoPanic.normal ?_)
            go_wp2
            go_roundw
            case rel => exact ⟨j + 1, _, HJ.out, by go_num, by rw [HS2.out, List.length_append]; exact HO9.out, by rw [HS2.out]; exact HP8.out, HB8.out⟩
            case measure => have := HJ.out; simp only [intOf]; omega
        · go_wp2
          have hBa1 : Below W3.heap.size W3 (W3.alloc (.cells #[.int .i64 d] 3)).drew := ((Below.refl _ W3).alloc (Nat.le_refl _) _).drew
          refine mix_post (fun _ => ⟨⟨_, hBa1⟩, rfl⟩) ?_
          refine fk_one rfl ?_
          have hbs := build33
          go_wp2_with fail
          clear hbs
          have HBa : Hid (Below W3.heap.size W3 (((W3.alloc (.cells #[.int .i64 d] 3)).drew).alloc (.cells #[] 3))) := hBa1.alloc hBa1.size _
          refine mix_post (fun _ => ⟨⟨_, HBa.out⟩, rfl⟩) ?_
          refine fk_one rfl ?_
          have HO0 : Hid ((((W3.alloc (.cells #[.int .i64 d] 3)).drew).alloc (.cells #[] 3)).ownsRow W3.heap.size 3 1 (.slice (some ⟨W3.heap.size + 1, 0, none⟩) 0 0) 0 []) := own_emptyC W3 d
          have HSa := Lib.hid (HSr.out.kept (grown_of_below HBa.out none) (Classical.em _))
          refine wpList_append_row rfl _ _ 33 rfl W3.heap.size 3 i0 (.int .i64 0) 1 8 Try.underlying33 hi hz0 hz1 hz2 rfl (by decide) _ 0 [] rfl HO0.out _ 0 _ _ rfl HSa.out (ints_one _) (by unfold maxLen; omega) (by omega) HBa.out.size ?_
          intro v1 W4 hown1 hgrow1
          have HO1 := Lib.hid hown1
          have HB4 : Hid (Below W3.heap.size W3 W4) := HBa.out.grown hgrow1 HBa.out.size (fun q e => (HO0.out.lt q e).1)
          have HCd : Hid (W4.cell? ⟨W3.heap.size, 0, none⟩ = some (.int .i64 d)) := hgrow1.cell (cell_c W3 d) (fun e => by have e' : some (W3.heap.size) = some (W3.heap.size + 1) := e; injection e' with e'; omega)
          clear hown1 hgrow1
          go_wp2
          refine mix_post (fun _ => ⟨⟨_, HB4.out⟩, rfl⟩) ?_
          refine fk_one rfl ?_
          refine wpList_append_own _ rfl _ _ 33 rfl W3.heap.size 3 i0 (.int .i64 0) 1 8 Try.underlying33 hi hz0 hz1 hz2 rfl (by decide) _ _ _ rfl HO1.out ⟨W3.heap.size, 0, none⟩ 1 1 [.int .i64 d] rfl rfl (news_cell HCd.out) (by simp [Value.oneCell']) (by unfold maxLen; omega) (by omega) HB4.out.size ?_
          intro v2 W6 hown2 hgrow2 _
          have HB6 : Hid (Below W3.heap.size W3 W6) := HB4.out.grown hgrow2 HB4.out.size (fun q e => (HO1.out.lt q e).1)
          have HO6' : Hid (W6.ownsRow W3.heap.size 3 1 v2 (ss.length + 1) (ss.map (Value.int .i64) ++ [.int .i64 d])) := by
            rw [Nat.zero_add, List.nil_append] at hown2
            exact hown2
          clear hown2 hgrow2
          obtain ⟨A2, c2, hv2, _, _, _⟩ := rdI_of_own (xs := ss ++ [d]) (n := ss.length + 1) (by rw [List.map_append]; exact HO6'.out) (by simp)
          subst hv2
          have HO6 := HO6'
          clear HO6'
          go_wp2
          refine mix_post (fun _ => ⟨⟨_, HB6.out⟩, rfl⟩) ?_
          refine fk_one rfl ?_
          have HC : Hid (Calls Try.prog 68 #[.agg #[.int .i64 t.rd.first, .int .i64 t.rd.years, .slice A n c, .slice (some ad) n' c', .int .i64 t.gap, .int .i64 t.width, .int .i64 t.day.1, .int .i64 t.day.2, .int .i64 t.plan.1, .int .i64 t.plan.2], .slice A2 (ss.length + 1) c2] W6 (PlansPost (plansL t k (ss ++ [d])) W6)) := by
            have h := HIH.out (ss ++ [d]) A2 c2 W6 (HT.out.below (HBw3.out.trans (HB6.out.mono HBw3.out.size))) (by rw [List.length_append, List.map_append]; exact own_lower HO6.out (Nat.zero_le _)) (by have := HL.out; rw [List.length_append]; simp; omega)
            rw [List.length_append] at h
            exact h
          go_wp2_with fail
          refine HC.out.mono ?_
          rintro e W7 ⟨v7, vals7, rfl, hown7, hpv7, hb7⟩
          have HB7 : Hid (Below W3.heap.size W3 W7) := HB6.out.trans (hb7.mono HB6.out.size)
          have HO7 := Lib.hid hown7
          have HP7 := Lib.hid hpv7
          clear hown7 hpv7 hb7
          go_wp2
          refine mix_post (fun _ => ⟨⟨_, HB7.out⟩, rfl⟩) ?_
          refine fk_one rfl ?_
          have HO8 := Lib.hid (HOu.out.kept (grown_of_below HB7.out none) (Classical.em _))
          refine wpList_append_row rfl _ _ 93 rfl W2.heap.size 33 i1 (.slice none 0 0) 1 24 Try.underlying93 hi1 hy0 hy1 hy2 rfl (by decide) _ _ _ rfl HO8.out v7 _ _ _ rfl HO7.out (PlansV.one HP7.out) (by have := HLen.out; unfold maxLen; omega) (by have := HLen.out; omega) (HBu.out.trans (HB7.out.mono HBu.out.size)).size ?_
          intro v8 W8 hown8 hgrow8
          have HB8 : Hid (Below W2.heap.size W2 W8) := (HBu.out.trans (HB7.out.mono HBu.out.size)).grown hgrow8 (HBu.out.trans (HB7.out.mono HBu.out.size)).size (fun q e => (HO8.out.lt q e).1)
          have HP8 := Lib.hid (((HPu.out.below HB7.out).app HP7.out).grown HO8.out hgrow8)
          have HO9 := Lib.hid hown8
          clear hown8 hgrow8
          go_wp2
          refine mix_post (fun h => absurd h (by decide)) ?_
          refine fk_one rfl ?_
          go_wp2
          refine mix_post (fun h => absurd h (by decide)) ?_
          refine fk_nil (NoPanic.normal ?_)
          go_wp2
          go_roundw
          case rel => exact ⟨j + 1, _, HJ.out, by go_num, by rw [HS2.out, List.length_append]; exact HO9.out, by rw [HS2.out]; exact HP8.out, HB8.out⟩
          case measure => have := HJ.out; simp only [intOf]; omega
    · obtain rfl : j = (triesF x).length := by omega
      go_wp2_with fail
      go_ret
      have e : preL t x k ss (triesF x).length = plansL t (k + 1) ss := by
        unfold preL
        rw [List.take_length, plansL, HX.out]
        rfl
      rw [← e]
      exact ⟨_, vals, rfl, own_lower HOj.out HB2.out.size, HPj.out, HBw.out⟩
end Go.Proofs.Ytkkajemahehoaaa
