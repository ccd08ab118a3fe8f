/- The reference's Check, good, tries, bad, Starts; Starts. -/
import Derived.Test.YtkkajemahehoaaaR4
namespace Go.Proofs.Ytkkajemahehoaaa
open Go.RowKit

set_option maxRecDepth 100000 in
set_option maxHeartbeats 4000000 in
theorem refCheck_any (t : Task) (A : Option Addr) (n c : Nat) (A' : Option Addr) (n' c' : Nat) (w : World) (hT : TkM w t A n c A' n' c') :
    Calls Try.prog 19 #[.agg (t.val A n c A' n' c')] w fun e w' => e = .returned (.tuple #[.int .i64 (chkTask t).1, .int .i64 (chkTask t).2.1, .int .i64 (chkTask t).2.2]) ∧ Below w.heap.size w w' := by
  generalize hX : chkTask t = X
  have HX := Lib.hid hX; clear hX
  have HB1 : Hid (Below w.heap.size w (w.alloc (.cells (t.val A n c A' n' c') 29))) := (Below.refl _ _).alloc (Nat.le_refl _) _
  have K1 : Hid (Blk (w.alloc (.cells (t.val A n c A' n' c') 29)) w.heap.size 29 (t.val A n c A' n' c')) := Blk.new _ _ _ rfl
  have HC := Lib.hid (refCheckRecord_any t.rd A n c _ (hT.hr.below HB1.out))
  have HTk := Lib.hid hT
  have hlen := hT.hw.1
  clear hT
  unfold Task.val at *
  go_enter Try.func19, Try.ntmps19
  go_wp2_with fail
  refine HC.out.mono ?_
  rintro e W2 ⟨rfl, hb2⟩
  have K2 := Lib.hid (K1.out.later hb2)
  have HB2 : Hid (Below w.heap.size w W2) := HB1.out.trans (hb2.mono HB1.out.size)
  clear hb2
  have q3 := K2.out.cell (i := 3) rfl
  by_cases he : ((chkRec t.rd).2 != 0) = true
  · have HT : Hid (((1 : Int), (chkRec t.rd).1, (chkRec t.rd).2) = X) := by have := HX.out; unfold chkTask at this; rw [if_pos he] at this; exact this
    generalize (chkRec t.rd).1 = a at *
    generalize (chkRec t.rd).2 = b at *
    go_wp2
    go_ret3
    exact ⟨by rw [← HT.out]; rfl, HB2.out⟩
  · have he' : ((chkRec t.rd).2 != 0) = false := by simpa using he
    by_cases h4 : 4 < n'
    · have HT : Hid (((2 : Int), (0 : Int), (3 : Int)) = X) := by have := HX.out; unfold chkTask at this; rw [if_neg he, hlen, if_pos h4] at this; exact this
      generalize (chkRec t.rd).1 = a at *
      generalize (chkRec t.rd).2 = b at *
      clear hlen he
      have h4' : decide ((4 : Int) < (n' : Int)) = true := by simp; omega
      go_wp2
      go_ret3
      exact ⟨by rw [← HT.out]; rfl, HB2.out⟩
    · have HT : Hid ((if (firstErr (wErr t.works) 0 (n' - 0)).2 = 0 then chkTail t else (2, (firstErr (wErr t.works) 0 (n' - 0)).1, (firstErr (wErr t.works) 0 (n' - 0)).2)) = X) := by have := HX.out; unfold chkTask at this; rw [if_neg he, hlen, if_neg h4] at this; exact this
      generalize (chkRec t.rd).1 = a at *
      generalize (chkRec t.rd).2 = b at *
      clear hlen he
      have h4' : decide ((4 : Int) < (n' : Int)) = false := by simp; omega
      generalize hY : firstErr (wErr t.works) 0 (n' - 0) = Y at *
      have HY := Lib.hid hY; clear hY
      go_wp2
      clear q3
      go_loopw [7] (fun i wr => ∃ k : Nat, k ≤ n' ∧ i = .int .i64 k ∧ Below W2.heap.size W2 wr ∧ firstErr (wErr t.works) k (n' - k) = Y) (fun i _ => n' - (intOf i).toNat)
      case atStart => exact ⟨0, Nat.zero_le _, rfl, Below.refl _ _, HY.out⟩
      case round =>
        obtain ⟨k, hk, rfl, hB, hE⟩ := hrel
        have HE := Lib.hid hE; clear hE
        have HB := Lib.hid hB; clear hB
        have KR := K2.out.later HB.out
        have HBW : Hid (Below w.heap.size w wr) := HB2.out.trans (HB.out.mono HB2.out.size)
        have q0 := KR.cell (i := 0) rfl
        have q1 := KR.cell (i := 1) rfl
        have q2 := KR.cell (i := 2) rfl
        have q3 := KR.cell (i := 3) rfl
        have q4 := KR.cell (i := 4) rfl
        have q5 := KR.cell (i := 5) rfl
        have q6 := KR.cell (i := 6) rfl
        have q7 := KR.cell (i := 7) rfl
        have q8 := KR.cell (i := 8) rfl
        have q9 := KR.cell (i := 9) rfl
        have hszw : w.heap.size < wr.heap.size := KR.lt
        have HKR := Lib.hid KR
        clear KR
        by_cases hlt : k < n'
        · have hkl : (k : Int) < (n' : Int) := by omega
          obtain ⟨v, ad, hv, hAd, ha⟩ := (HTk.out.hw.below HBW.out).get hlt
          have HW := Lib.hid (refWork_any t A n c A' n' c' k v wr (HTk.out.below HBW.out) hv (by omega))
          have hs : wErr t.works k = vErr t.works k v := by unfold wErr; rw [hv]
          have HS := Lib.hid hs
          clear hs hv ha hAd
          unfold Task.val at *
          generalize vErr t.works k v = E at *
          cases hE : (E != 0)
          · have F := Lib.hid ((firstErr_zero hlt (HS.out.trans (by simpa using hE))).symm.trans HE.out)
            go_wp2_with fail
            refine HW.out.mono ?_
            rintro e W3 ⟨rfl, hb3⟩
            have HB3 := Lib.hid (HB.out.trans (hb3.mono HB.out.size))
            clear hb3 q0 q1 q2 q3 q4 q5 q6 q7 q8 q9
            go_wp2_with fail
            go_roundw
            case rel => exact ⟨k + 1, by omega, by go_num, HB3.out, F.out⟩
            case measure => simp [intOf]; omega
          · have F : Hid (((2 : Int), (k : Int), E) = X) := by
              have hne : E ≠ 0 := by simpa using hE
              have h1 := firstErr_not hlt (show wErr t.works k ≠ 0 by rw [HS.out]; exact hne)
              rw [HS.out] at h1
              have h2 := h1.symm.trans HE.out
              have h3 := HT.out
              rw [← h2] at h3
              dsimp only at h3
              rw [if_neg hne] at h3
              exact h3
            go_wp2_with fail
            refine HW.out.mono ?_
            rintro e W3 ⟨rfl, hb3⟩
            have HB3 := Lib.hid (HBW.out.trans (hb3.mono HBW.out.size))
            clear hb3 q0 q1 q2 q3 q4 q5 q6 q7 q8 q9
            go_wp2_with fail
            go_ret3
            exact ⟨by rw [← F.out]; rfl, HB3.out⟩
        · have hy0 : ((0 : Int), (0 : Int)) = Y := (firstErr_end (Nat.le_of_not_lt hlt)).symm.trans HE.out
          have HT2 : Hid (chkTail t = X) := by have := HT.out; rw [← hy0] at this; exact this
          clear hy0
          have ed : wildB t.day = wildB (t.day.1, t.day.2) := rfl
          have ep : wildB t.plan = wildB (t.plan.1, t.plan.2) := rfl
          by_cases g1 : (outB t.gap 0 365 || outB t.width 1 365 || wildB t.day || wildB t.plan) = true
          · have F : Hid (((3 : Int), (0 : Int), (7 : Int)) = X) := by have := HT2.out; unfold chkTail at this; rw [if_pos g1] at this; exact this
            clear HT2
            rw [ed, ep] at g1
            clear ed ep
            rcases or4_cases g1 with h1 | ⟨h1, h2⟩ | ⟨h1, h2, h3⟩ | ⟨h1, h2, h3, h4⟩
            · clear g1
              go_wp2_with (go_at_call 53; refine (in_any _ _ _ _).mono ?_; rintro e w' ⟨rfl, rfl⟩)
              go_ret3
              exact ⟨by rw [← F.out]; rfl, HBW.out⟩
            · clear g1
              go_wp2_with (go_at_call 53; refine (in_any _ _ _ _).mono ?_; rintro e w' ⟨rfl, rfl⟩)
              go_ret3
              exact ⟨by rw [← F.out]; rfl, HBW.out⟩
            · clear g1
              go_wp2_with (go_at_call 53; refine (in_any _ _ _ _).mono ?_; rintro e w' ⟨rfl, rfl⟩)
              refine (allowed_any _ _ _).mono ?_
              rintro e W5 ⟨rfl, hb5⟩
              have HB5 : Hid (Below w.heap.size w W5) := HBW.out.trans (hb5.mono HBW.out.size)
              clear hb5 q0 q1 q2 q3 q4 q5 q6 q7 q8 q9
              go_wp2_with fail
              go_ret3
              exact ⟨by rw [← F.out]; rfl, HB5.out⟩
            · clear g1
              go_wp2_with (go_at_call 53; refine (in_any _ _ _ _).mono ?_; rintro e w' ⟨rfl, rfl⟩)
              refine (allowed_any _ _ _).mono ?_
              rintro e W5 ⟨rfl, hb5⟩
              have HB5 : Hid (Below w.heap.size w W5) := HBW.out.trans (hb5.mono HBW.out.size)
              have r8 := cell_below hb5 q8
              have r9 := cell_below hb5 q9
              clear hb5 q0 q1 q2 q3 q4 q5 q6 q7 q8 q9
              go_wp2_with fail
              refine (allowed_any _ _ _).mono ?_
              rintro e W6 ⟨rfl, hb6⟩
              have HB6 : Hid (Below w.heap.size w W6) := HB5.out.trans (hb6.mono HB5.out.size)
              clear hb6 r8 r9
              go_wp2_with fail
              go_ret3
              exact ⟨by rw [← F.out]; rfl, HB6.out⟩
          · have g2 : (outB t.gap 0 365 || outB t.width 1 365 || wildB t.day || wildB t.plan) = false := by simpa using g1
            have F : Hid (((0 : Int), (0 : Int), (0 : Int)) = X) := by have := HT2.out; unfold chkTail at this; rw [if_neg g1] at this; exact this
            rw [ed, ep] at g2
            clear ed ep
            simp only [Bool.or_eq_false_iff] at g2
            obtain ⟨⟨⟨h1, h2⟩, h3⟩, h4⟩ := g2
            clear HT2 g1
            go_wp2_with (go_at_call 53; refine (in_any _ _ _ _).mono ?_; rintro e w' ⟨rfl, rfl⟩)
            refine (allowed_any _ _ _).mono ?_
            rintro e W5 ⟨rfl, hb5⟩
            have HB5 : Hid (Below w.heap.size w W5) := HBW.out.trans (hb5.mono HBW.out.size)
            have r8 := cell_below hb5 q8
            have r9 := cell_below hb5 q9
            clear hb5 q0 q1 q2 q3 q4 q5 q6 q7 q8 q9
            go_wp2_with fail
            refine (allowed_any _ _ _).mono ?_
            rintro e W6 ⟨rfl, hb6⟩
            have HB6 : Hid (Below w.heap.size w W6) := HB5.out.trans (hb6.mono HB5.out.size)
            clear hb6 r8 r9
            go_wp2_with fail
            go_ret3
            exact ⟨by rw [← F.out]; rfl, HB6.out⟩

set_option maxHeartbeats 1000000 in
theorem good_any (t : Task) (A : Option Addr) (n c : Nat) (A' : Option Addr) (n' c' : Nat) (w : World) (hT : TkM w t A n c A' n' c') :
    Calls Try.prog 57 #[.agg (t.val A n c A' n' c')] w fun e w' => e = .returned (.int .i64 (chkTask t).2.2) ∧ Below w.heap.size w w' := by
  have HB1 : Hid (Below w.heap.size w (w.alloc (.cells (t.val A n c A' n' c') 29))) := (Below.refl _ _).alloc (Nat.le_refl _) _
  have HC := Lib.hid (refCheck_any t A n c A' n' c' _ (hT.below HB1.out))
  clear hT
  generalize chkTask t = X at *
  obtain ⟨x1, x2, x3⟩ := X
  dsimp only at *
  unfold Task.val at *
  go_enter Try.func57, Try.ntmps57
  go_wp2_with fail
  refine HC.out.mono ?_
  rintro e W2 ⟨rfl, hb2⟩
  have HB2 : Hid (Below w.heap.size w W2) := HB1.out.trans (hb2.mono HB1.out.size)
  clear hb2
  go_wp2_with fail
  go_ret
  exact ⟨rfl, HB2.out⟩

set_option maxRecDepth 100000 in
set_option maxHeartbeats 1000000 in
theorem tries_any (x : Work) (w : World) (hw : WorkOK x) :
    Calls Try.prog 58 #[.agg x.val] w fun e w' => ∃ v, e = .returned v ∧ w'.ownsRow w.heap.size 3 1 v (triesF x).length ((triesF x).map (Value.int .i64)) ∧ Below w.heap.size w w' := by
  obtain ⟨d0, d1, u0, u1, f0, f1, s0, s1, l0, l1⟩ := hw
  obtain ⟨i0, hi, hz0, hz1, hz2⟩ := info_parts info3
  unfold Work.val at *
  go_enter Try.func58, Try.ntmps58
  go_wp2
  obtain ⟨W1, hW1⟩ : ∃ W1, w.alloc (Obj.cells #[.string x.name, .int .i64 x.gate, .int .i64 x.days, .int .i64 x.frm, .int .i64 x.til, .int .i64 x.step, .int .i64 x.level] 61) = W1 := ⟨_, rfl⟩
  have K1 : Hid (Blk W1 w.heap.size 61 #[.string x.name, .int .i64 x.gate, .int .i64 x.days, .int .i64 x.frm, .int .i64 x.til, .int .i64 x.step, .int .i64 x.level]) := by rw [← hW1]; exact Blk.new _ _ _ rfl
  have HB1 : Hid (Below w.heap.size w W1) := by rw [← hW1]; exact (Below.refl _ _).alloc (Nat.le_refl _) _
  rw [hW1]
  have hsz1 : W1.heap.size = w.heap.size + 1 := by rw [← hW1]; simp
  have HSZ1 := Lib.hid hsz1; clear hsz1
  clear hW1
  go_loopw [3, 4] (fun v q wr => ∃ (d : Int) (f : Nat) (ls : List Int), q = .int .i64 d ∧ 0 ≤ d ∧ d ≤ 1000 ∧ (x.til + 1 - d).toNat ≤ f ∧ ls.length + f ≤ 400 ∧ ls ++ triesG x.til x.step f d = triesF x ∧ wr.ownsRow (w.heap.size + 1) 3 1 v ls.length (ls.map (Value.int .i64)) ∧ Below W1.heap.size W1 wr) (fun _ q _ => (x.til + 1 - intOf q).toNat)
  case atStart => exact ⟨x.frm, 400, [], rfl, f0, by omega, by omega, by simp, rfl, World.ownsRow_nil _ _ _ _, Below.refl _ _⟩
  case round =>
    obtain ⟨d, f, ls, rfl, g0, g1, g2, g3, g4, hown, hB⟩ := hrel
    have HB := Lib.hid hB; clear hB
    have G4 := Lib.hid g4; clear g4
    have kk := K1.out.later HB.out
    have e4 := kk.cell (i := 4) rfl
    have e5 := kk.cell (i := 5) rfl
    have hsz := kk.lt
    clear kk
    have HBw : Hid (Below w.heap.size w wr) := HB1.out.trans (HB.out.mono HB1.out.size)
    by_cases hlt : d ≤ x.til
    · obtain ⟨f', rfl⟩ : ∃ f', f = f' + 1 := ⟨f - 1, by omega⟩
      have hdl : decide (d ≤ x.til) = true := by simpa using hlt
      have G5 : Hid ((ls ++ [d]) ++ triesG x.til x.step f' (d + x.step) = triesF x) := by
        have := G4.out
        rw [triesG, if_pos hlt] at this
        rw [List.append_assoc]
        exact this
      go_wp2_with (at_builtin; refine wpList_append_own _ rfl _ _ 33 rfl (w.heap.size + 1) 3 i0 (.int .i64 0) 1 8 Try.underlying33 hi hz0 hz1 hz2 rfl (by decide) _ _ _ rfl (hown.alloc _) ⟨wr.heap.size, 0, none⟩ 1 1 [.int .i64 d] rfl rfl (cell_one_new _ _ _) (by simp [Value.oneCell']) (by unfold maxLen; omega) (by omega) (by simp; omega) ?_; intro v' w2 hown' hgrow _; have HB2 : Hid (Below W1.heap.size W1 w2) := ((HB.out.alloc HB.out.size _).grown hgrow (by have := HB.out.size; simp; omega) (fun j e => by have := (hown.lt j e).1; have := HSZ1.out; omega)); clear hgrow; have e5' := (K1.out.later HB2.out).cell (i := 5) rfl)
      go_roundw
      case rel => exact ⟨d + x.step, f', ls ++ [d], rfl, by omega, by omega, by omega, by simp; omega, G5.out, by rw [List.length_append, List.map_append]; exact hown', HB2.out⟩
      case measure => simp [intOf]; omega
    · have hdl : decide (d ≤ x.til) = false := by simpa using hlt
      have G5 : Hid (ls = triesF x) := by
        have := G4.out
        have h0 : triesG x.til x.step f d = [] := by cases f with | zero => rfl | succ f => rw [triesG, if_neg hlt]
        rw [h0, List.append_nil] at this
        exact this
      go_wp2
      go_ret
      refine ⟨_, rfl, ?_, HBw.out⟩
      rw [← G5.out]
      exact own_lower hown (by omega)

set_option maxRecDepth 100000 in
set_option maxHeartbeats 2000000 in
theorem refBad_any (t : Task) (A : Option Addr) (n c : Nat) (A' : Option Addr) (n' c' : Nat) (i : Nat) (x : Work) (s : Int) (w : World) (hT : TkM w t A n c A' n' c') (hx : t.works[i]? = some x) (hok : TaskOK t) (s0 : 0 ≤ s) (s1 : s ≤ 100000) :
    Calls Try.prog 59 #[.agg (t.val A n c A' n' c'), .int .i64 (i : Int), .int .i64 s] w fun e w' => e = .returned (.int .i64 (badF t x s)) ∧ Below w.heap.size w w' := by
  have hin : i < n' := by have := (List.getElem?_eq_some_iff.1 hx).1; have := hT.hw.1; omega
  obtain ⟨ad, rfl, ha⟩ := hT.hw.2 i x hx
  have hwk := workOK_of (hok.rows i x hx).2.2.1
  obtain ⟨d0, d1, _, _, _, _, _, _, _, _⟩ := hwk
  have hdy := hok.day
  have HIn : Hid (∀ (W : World) (d : Int), Below w.heap.size w W → 0 ≤ d → d ≤ 364 → Calls Try.prog 76 #[.agg #[.int .i64 t.rd.first, .int .i64 t.rd.years, .slice A n c], .int .i64 t.width, .int .i64 x.level, .agg #[.int .i64 t.day.1, .int .i64 t.day.2], .int .i64 d] W fun e w' => e = .returned (.bool (sB t x d)) ∧ Below W.heap.size W w') := fun W d hW a b =>
    inSeason_any t.rd t.width x.level t.day d A n c W hok.rd (hT.hr.below hW) hok.width.1 hok.width.2 a b hdy.2.1 (by omega) (by omega) (by omega)
  obtain ⟨b1, b2, b3⟩ := two w (t.val A n c (some ad) n' c') x.val 29 61
  obtain ⟨c0, c1, c2, c3, c4, c5, c6⟩ := (ha.below ((Below.refl _ _).alloc (Nat.le_refl _) (.cells (t.val A n c (some ad) n' c') 29))).seven
  have hii : (i : Int) < (n' : Int) := by omega
  have HB1 := Lib.hid b1; have K1 := Lib.hid b2; have K2 := Lib.hid b3
  generalize hX : badF t x s = X
  have HX : Hid (dayF (sB t x) s 0 (x.days.toNat - 0) = X) := hX
  have hD : x.days = ((x.days.toNat : Nat) : Int) := by omega
  clear b1 b2 b3 ha hT hx hok hX hdy
  unfold Task.val Work.val at *
  rw [hD] at d0 d1 HB1 K1 K2 c2
  generalize x.days.toNat = D at *
  have HD := Lib.hid hD; clear hD
  generalize sB t x = g at *
  go_enter Try.func59, Try.ntmps59
  go_wp2
  obtain ⟨W1, hW1⟩ : ∃ W1, (w.alloc (Obj.cells #[.int .i64 t.rd.first, .int .i64 t.rd.years, .slice A n c, .slice (some ad) n' c', .int .i64 t.gap, .int .i64 t.width, .int .i64 t.day.1, .int .i64 t.day.2, .int .i64 t.plan.1, .int .i64 t.plan.2] 29)).alloc (Obj.cells #[.string x.name, .int .i64 x.gate, .int .i64 (D : Int), .int .i64 x.frm, .int .i64 x.til, .int .i64 x.step, .int .i64 x.level] 61) = W1 := ⟨_, rfl⟩
  rw [hW1] at HB1 K1 K2 ⊢
  clear hW1 c0 c1 c2 c3 c4 c5 c6
  go_loopw [8] (fun q wr => ∃ k : Nat, k ≤ D ∧ q = .int .i64 k ∧ Below W1.heap.size W1 wr ∧ dayF g s k (D - k) = X) (fun q _ => D - (intOf q).toNat)
  case atStart => exact ⟨0, Nat.zero_le _, rfl, Below.refl _ _, HX.out⟩
  case round =>
    obtain ⟨k, hk, rfl, hB, hE⟩ := hrel
    have HB := Lib.hid hB; clear hB
    have HE := Lib.hid hE; clear hE
    have HBw : Hid (Below w.heap.size w wr) := HB1.out.trans (HB.out.mono HB1.out.size)
    have L1 := K1.out.later HB.out
    have L2 := K2.out.later HB.out
    have q0 := L1.cell (i := 0) rfl
    have q1 := L1.cell (i := 1) rfl
    have q2 := L1.cell (i := 2) rfl
    have q5 := L1.cell (i := 5) rfl
    have q6 := L1.cell (i := 6) rfl
    have q7 := L1.cell (i := 7) rfl
    have r2 := L2.cell (i := 2) rfl
    have r6 := L2.cell (i := 6) rfl
    have hz1 := L1.lt
    have hz2 := L2.lt
    clear L1 L2
    by_cases hlt : k < D
    · have hkl : (k : Int) < (D : Int) := by omega
      have hm0 : 0 ≤ (s + (k : Int)) % 365 := by omega
      have hm1 : (s + (k : Int)) % 365 ≤ 364 := by omega
      cases hg : g ((s + (k : Int)) % 365)
      · have F := Lib.hid ((dayF_no hlt hg).symm.trans HE.out)
        go_wp2_with fail
        refine (HIn.out _ _ HBw.out (by omega) (by omega)).mono ?_
        rintro e W3 ⟨rfl, hb3⟩
        have HB3 := Lib.hid (HB.out.trans (hb3.mono HB.out.size))
        clear hb3 q0 q1 q2 q5 q6 q7 r2 r6
        go_wp2_with fail
        go_roundw
        case rel => exact ⟨k + 1, by omega, by go_num, HB3.out, F.out⟩
        case measure => simp [intOf]; omega
      · have F := Lib.hid ((dayF_yes hlt hg).symm.trans HE.out)
        go_wp2_with fail
        refine (HIn.out _ _ HBw.out (by omega) (by omega)).mono ?_
        rintro e W3 ⟨rfl, hb3⟩
        have HB3 := Lib.hid (HBw.out.trans (hb3.mono HBw.out.size))
        clear hb3 q0 q1 q2 q5 q6 q7 r2 r6
        go_wp2_with fail
        go_ret
        exact ⟨ret_int F.out, HB3.out⟩
    · have F := Lib.hid ((dayF_end (g := g) (s := s) (Nat.le_of_not_lt hlt)).symm.trans HE.out)
      have hkl : ¬ (k : Int) < (D : Int) := by omega
      go_wp2
      go_ret
      exact ⟨ret_int F.out, HBw.out⟩
/-- What Starts returns. -/
def startsTop (t : Task) (i : Int) : List Int × Int :=
  if (chkTask t).2.2 != 0 then ([], (chkTask t).2.2)
  else if outB i 0 ((t.works.length : Int) - 1) then ([], 4)
  else match t.works[i.toNat]? with
    | none => ([], 4)
    | some x => (startsF t x, 0)

set_option maxRecDepth 100000 in
set_option maxHeartbeats 2000000 in
theorem Starts_ok (t : Task) (A : Option Addr) (n c : Nat) (A' : Option Addr) (n' c' : Nat) (i : Nat) (x : Work) (w : World) (hT : TkM w t A n c A' n' c') (hx : t.works[i]? = some x) (he : (chkTask t).2.2 = 0) :
    Calls Try.prog 20 #[.agg (t.val A n c A' n' c'), .int .i64 (i : Int)] w (ListErrPost (startsF t x, 0) w) := by
  have hin : i < n' := by have := (List.getElem?_eq_some_iff.1 hx).1; have := hT.hw.1; omega
  have hn4 : n' ≤ 4 := by have := hT.hw.1; have := (taskOK_of he).len; omega
  have hwk := workOK_of ((taskOK_of he).rows i x hx).2.2.1
  have HB1 : Hid (Below w.heap.size w (w.alloc (.cells (t.val A n c A' n' c') 29))) := (Below.refl _ _).alloc (Nat.le_refl _) _
  have K1 : Hid (Blk (w.alloc (.cells (t.val A n c A' n' c') 29)) w.heap.size 29 (t.val A n c A' n' c')) := Blk.new _ _ _ rfl
  have HC := Lib.hid (begin_ok t A n c A' n' c' _ (hT.hr.below HB1.out) (hT.hw.below HB1.out) hT.hc hT.nm he)
  have HSt := Lib.hid (fun (p : Nat) (W : World) (hP : Pl W p t A n c A' n' c') => starts_any t p A n c A' n' c' i x W hP hx hwk)
  have ho : outB (i : Int) 0 ((n' : Int) - 1) = false := outB_eq_false.2 ⟨by omega, by omega⟩
  clear hT hx hwk he
  unfold Task.val at *
  go_enter Try.func20, Try.ntmps20
  go_wp2_with fail
  refine HC.out.mono ?_
  rintro e W2 ⟨p, rfl, hP, hb2⟩
  have k3 := (K1.out.later hb2).cell (i := 3) rfl
  have hz := (K1.out.later hb2).lt
  have HB2 : Hid (Below w.heap.size w W2) := HB1.out.trans (hb2.mono HB1.out.size)
  have HP := Lib.hid hP
  clear hb2 hP
  go_wp2_with (go_at_call 48; refine (out_any _ _ _ _).mono ?_; rintro e w' ⟨rfl, rfl⟩)
  refine (HSt.out p W2 HP.out).mono ?_
  rintro e W3 ⟨v, rfl, hown, hb3⟩
  have HO := Lib.hid hown
  have HB3 : Hid (Below w.heap.size w W3) := HB2.out.trans (hb3.mono HB2.out.size)
  clear hown hb3 k3
  go_wp2_with fail
  go_ret2
  exact ⟨v, rfl, own_lower HO.out HB2.out.size, HB3.out⟩

theorem Starts_any (t : Task) (A : Option Addr) (n c : Nat) (A' : Option Addr) (n' c' : Nat) (i : Int) (w : World) (hT : TkM w t A n c A' n' c') :
    Calls Try.prog 20 #[.agg (t.val A n c A' n' c'), .int .i64 i] w (ListErrPost (startsTop t i) w) := by
  unfold startsTop
  have hl := hT.hw.1
  by_cases h1 : ((chkTask t).2.2 != 0) = true
  · rw [if_pos h1]
    exact (Starts_err t A n c A' n' c' i w hT.hr hT.hw hT.hc hT.nm h1).mono fun e w' ⟨he, hb⟩ => by subst he; exact listErr_nil _ _ _ hb
  · rw [if_neg h1]
    have hc : (chkTask t).2.2 = 0 := by simpa using h1
    rw [hl]
    by_cases h2 : outB i 0 ((n' : Int) - 1) = true
    · rw [if_pos h2]
      exact (Starts_out t A n c A' n' c' i w hT.hr hT.hw hT.hc hT.nm hc h2).mono fun e w' ⟨he, hb⟩ => by subst he; exact listErr_nil _ _ _ hb
    · rw [if_neg h2]
      have h3 := outB_false (by simpa using h2 : outB i 0 ((n' : Int) - 1) = false)
      have h4 : i.toNat < t.works.length := by omega
      rw [List.getElem?_eq_getElem h4]
      have := Starts_ok t A n c A' n' c' i.toNat _ w hT (List.getElem?_eq_getElem h4) hc
      rw [show ((i.toNat : Nat) : Int) = i by omega] at this
      exact this

set_option maxRecDepth 100000 in
set_option maxHeartbeats 2000000 in
theorem refStarts_err (t : Task) (A : Option Addr) (n c : Nat) (A' : Option Addr) (n' c' : Nat) (i : Int) (w : World) (hT : TkM w t A n c A' n' c') (he : ((chkTask t).2.2 != 0) = true) :
    Calls Try.prog 21 #[.agg (t.val A n c A' n' c'), .int .i64 i] w fun e w' => e = .returned (.tuple #[.slice none 0 0, .int .i64 (chkTask t).2.2]) ∧ Below w.heap.size w w' := by
  have HB1 : Hid (Below w.heap.size w (w.alloc (.cells (t.val A n c A' n' c') 29))) := (Below.refl _ _).alloc (Nat.le_refl _) _
  have HC := Lib.hid (good_any t A n c A' n' c' _ (hT.below HB1.out))
  clear hT
  generalize (chkTask t).2.2 = X at *
  have he' : (X == 0) = false := by simpa using he
  unfold Task.val at *
  go_enter Try.func21, Try.ntmps21
  go_wp2_with fail
  refine HC.out.mono ?_
  rintro e W2 ⟨rfl, hb2⟩
  have HB2 : Hid (Below w.heap.size w W2) := HB1.out.trans (hb2.mono HB1.out.size)
  clear hb2
  go_wp2_with fail
  go_ret2
  exact ⟨rfl, HB2.out⟩

set_option maxRecDepth 100000 in
set_option maxHeartbeats 2000000 in
theorem refStarts_out (t : Task) (A : Option Addr) (n c : Nat) (A' : Option Addr) (n' c' : Nat) (i : Int) (w : World) (hT : TkM w t A n c A' n' c') (he : (chkTask t).2.2 = 0) (ho : outB i 0 ((n' : Int) - 1) = true) :
    Calls Try.prog 21 #[.agg (t.val A n c A' n' c'), .int .i64 i] w fun e w' => e = .returned (.tuple #[.slice none 0 0, .int .i64 4]) ∧ Below w.heap.size w w' := by
  have hn4 : n' ≤ 4 := by have := hT.hw.1; have := (taskOK_of he).len; omega
  have HB1 : Hid (Below w.heap.size w (w.alloc (.cells (t.val A n c A' n' c') 29))) := (Below.refl _ _).alloc (Nat.le_refl _) _
  have K1 : Hid (Blk (w.alloc (.cells (t.val A n c A' n' c') 29)) w.heap.size 29 (t.val A n c A' n' c')) := Blk.new _ _ _ rfl
  have HC := Lib.hid (good_any t A n c A' n' c' _ (hT.below HB1.out))
  rw [he] at HC
  clear hT he
  unfold Task.val at *
  go_enter Try.func21, Try.ntmps21
  go_wp2_with fail
  refine HC.out.mono ?_
  rintro e W2 ⟨rfl, hb2⟩
  have HB2 : Hid (Below w.heap.size w W2) := HB1.out.trans (hb2.mono HB1.out.size)
  have k3 := (K1.out.later hb2).cell (i := 3) rfl
  have hz := (K1.out.later hb2).lt
  clear hb2
  go_wp2_with (go_at_call 53; refine (in_any _ _ _ _).mono ?_; rintro e w' ⟨rfl, rfl⟩)
  go_ret2
  exact ⟨rfl, HB2.out⟩

theorem filter_take_succ {P : Int → Bool} {l : List Int} {k : Nat} {v : Int} (hv : l[k]? = some v) : (l.take (k + 1)).filter P = if P v then (l.take k).filter P ++ [v] else (l.take k).filter P := by
  obtain ⟨hk, rfl⟩ := List.getElem?_eq_some_iff.1 hv
  rw [List.take_succ_eq_append_getElem hk, List.filter_append]
  simp only [List.filter_cons, List.filter_nil]
  split <;> simp

set_option maxRecDepth 100000 in
set_option maxHeartbeats 2000000 in
theorem refStarts_ok (t : Task) (A : Option Addr) (n c : Nat) (A' : Option Addr) (n' c' : Nat) (i : Nat) (x : Work) (w : World) (hT : TkM w t A n c A' n' c') (hx : t.works[i]? = some x) (he : (chkTask t).2.2 = 0) :
    Calls Try.prog 21 #[.agg (t.val A n c A' n' c'), .int .i64 (i : Int)] w (ListErrPost (startsF t x, 0) w) := by
  obtain ⟨i0, hi, hz0, hz1, hz2⟩ := info_parts info3
  have hin : i < n' := by have := (List.getElem?_eq_some_iff.1 hx).1; have := hT.hw.1; omega
  have hn4 : n' ≤ 4 := by have := hT.hw.1; have := (taskOK_of he).len; omega
  have hwk := workOK_of ((taskOK_of he).rows i x hx).2.2.1
  have HB1 : Hid (Below w.heap.size w (w.alloc (.cells (t.val A n c A' n' c') 29))) := (Below.refl _ _).alloc (Nat.le_refl _) _
  have K1 : Hid (Blk (w.alloc (.cells (t.val A n c A' n' c') 29)) w.heap.size 29 (t.val A n c A' n' c')) := Blk.new _ _ _ rfl
  have HC := Lib.hid (good_any t A n c A' n' c' _ (hT.below HB1.out))
  rw [he] at HC
  have HBd := Lib.hid (fun (W : World) (s : Int) (hW : Below w.heap.size w W) (s0 : 0 ≤ s) (s1 : s ≤ 100000) => refBad_any t A n c A' n' c' i x s W (hT.below hW) hx (taskOK_of he) s0 s1)
  have HTr := Lib.hid (fun W : World => tries_any x W hwk)
  have HMem : Hid (∀ y ∈ triesF x, 0 ≤ y ∧ y ≤ 364) := fun y hy => by
    have h1 := triesG_mem (by have := hwk.s0; omega) 400 x.frm y hy
    have := hwk.f0; have := hwk.u1
    omega
  have hTl : (triesF x).length ≤ 400 := triesG_len 400 x.frm
  have ho : outB (i : Int) 0 ((n' : Int) - 1) = false := outB_eq_false.2 ⟨by omega, by omega⟩
  have hii : (i : Int) < (n' : Int) := by omega
  obtain ⟨ad, hAd, ha⟩ := hT.hw.2 i x hx
  subst hAd
  have HAt := Lib.hid ha
  have HF : Hid (startsF t x = (triesF x).filter fun d => decide (badF t x d < 0)) := rfl
  clear hT hx hwk he ha
  unfold Task.val Work.val at *
  rw [HF.out]
  clear HF
  generalize badF t x = bd at *
  generalize triesF x = T at *
  go_enter Try.func21, Try.ntmps21
  go_wp2_with fail
  refine HC.out.mono ?_
  rintro e W2 ⟨rfl, hb2⟩
  have HB2 : Hid (Below w.heap.size w W2) := HB1.out.trans (hb2.mono HB1.out.size)
  have K2 := Lib.hid (K1.out.later hb2)
  clear hb2
  have k3 := K2.out.cell (i := 3) rfl
  have hz := K2.out.lt
  obtain ⟨c0, c1, c2, c3, c4, c5, c6⟩ := (HAt.out.below HB2.out).seven
  go_wp2_with (go_at_call 53; refine (in_any _ _ _ _).mono ?_; rintro e w' ⟨rfl, rfl⟩)
  refine (HTr.out W2).mono ?_
  rintro e W3 ⟨v, rfl, hown, hb3⟩
  obtain ⟨Al, cl, rfl, hl, _, _⟩ := rdI_of_own hown rfl
  have HB3 : Hid (Below w.heap.size w W3) := HB2.out.trans (hb3.mono HB2.out.size)
  have K3 := Lib.hid (K2.out.later hb3)
  have HL := Lib.hid hl
  clear hown hb3 hl k3 hz c0 c1 c2 c3 c4 c5 c6
  go_wp2_with fail
  go_loopw [7, 9] (fun v q wr => ∃ k : Nat, k ≤ T.length ∧ q = .int .i64 k ∧ wr.ownsRow W3.heap.size 3 1 v ((T.take k).filter fun d => decide (bd d < 0)).length (((T.take k).filter fun d => decide (bd d < 0)).map (Value.int .i64)) ∧ Below W3.heap.size W3 wr) (fun _ q _ => T.length - (intOf q).toNat)
  case atStart => exact ⟨0, Nat.zero_le _, rfl, World.ownsRow_nil _ _ _ _, Below.refl _ _⟩
  case round =>
    obtain ⟨k, hk, rfl, hown, hB⟩ := hrel
    have HB := Lib.hid hB; clear hB
    have HBw : Hid (Below w.heap.size w wr) := HB3.out.trans (HB.out.mono HB3.out.size)
    have hfl : ((T.take k).filter fun d => decide (bd d < 0)).length ≤ k := Nat.le_trans (List.length_filter_le _ _) (List.length_take_le _ _)
    by_cases hlt : k < T.length
    · obtain ⟨s, ld, hs, rfl, cs0⟩ := rdI_get (HL.out.below HB.out) hlt
      have hsb := HMem.out s (List.mem_of_getElem? hs)
      have hkl : (k : Int) < (T.length : Int) := by omega
      have HS := Lib.hid (filter_take_succ (P := fun d => decide (bd d < 0)) hs)
      have KR := K3.out.later HB.out
      have q0 := later_cell (KR.cell (i := 0) rfl)
      have q1 := later_cell (KR.cell (i := 1) rfl)
      have q2 := later_cell (KR.cell (i := 2) rfl)
      have q3 := later_cell (KR.cell (i := 3) rfl)
      have q4 := later_cell (KR.cell (i := 4) rfl)
      have q5 := later_cell (KR.cell (i := 5) rfl)
      have q6 := later_cell (KR.cell (i := 6) rfl)
      have q7 := later_cell (KR.cell (i := 7) rfl)
      have q8 := later_cell (KR.cell (i := 8) rfl)
      have q9 := later_cell (KR.cell (i := 9) rfl)
      have qs := later_cell cs0
      have HBq : Hid (∀ u : Later wr, Calls Try.prog 59 #[.agg #[.int .i64 t.rd.first, .int .i64 t.rd.years, .slice A n c, .slice (some ad) n' c', .int .i64 t.gap, .int .i64 t.width, .int .i64 t.day.1, .int .i64 t.day.2, .int .i64 t.plan.1, .int .i64 t.plan.2], .int .i64 (i : Int), .int .i64 s] u.w fun e w' => e = .returned (.int .i64 (bd s)) ∧ Below u.w.heap.size u.w w') := fun u => HBd.out u.w s (HBw.out.trans (u.h.mono HBw.out.size)) hsb.1 (by omega)
      clear hs KR
      go_wp2
      cases hbd : decide (bd s < 0)
      · have HS2 : Hid ((T.take (k + 1)).filter (fun d => decide (bd d < 0)) = (T.take k).filter fun d => decide (bd d < 0)) := by rw [HS.out, hbd]; rfl
        clear HS
        refine wp_region_later (by kernel_rfl) (by kernel_rfl) ?_
        repeat (first | go_big_quiet_skip | (go_big_quiet_want; go_big_quiet_op; first | go_big_quiet_on | (apply Exists.intro; refine ⟨fun _ => ?_, ?_⟩; (· (with_reducible exact later_calls (HBq.out _))); go_big_quiet_on)))
        refine wpQuiet_nil ?_
        intro _ hw'
        obtain ⟨u, hu⟩ := hw'
        subst hu
        clear q0 q1 q2 q3 q4 q5 q6 q7 q8 q9 qs
        go_wp2
        go_roundw
        case rel => exact ⟨k + 1, by omega, by go_num, by rw [HS2.out]; exact hown.kept (grown_of_below u.h none) (Classical.em _), HB.out.trans (u.h.mono HB.out.size)⟩
        case measure => simp [intOf]; omega
      · have HS2 : Hid ((T.take (k + 1)).filter (fun d => decide (bd d < 0)) = (T.take k).filter (fun d => decide (bd d < 0)) ++ [s]) := by rw [HS.out, hbd]; rfl
        clear HS
        refine wp_region_later (by kernel_rfl) (by kernel_rfl) ?_
        repeat (first | go_big_quiet_skip | (go_big_quiet_want; go_big_quiet_op; first | go_big_quiet_on | (apply Exists.intro; refine ⟨fun _ => ?_, ?_⟩; (· (with_reducible exact later_calls (HBq.out _))); go_big_quiet_on)))
        refine wpQuiet_nil ?_
        intro _ hw'
        obtain ⟨u, hu⟩ := hw'
        subst hu
        have cs1 := qs u
        clear q0 q1 q2 q3 q4 q5 q6 q7 q8 q9 qs
        have hown5 := hown.kept (grown_of_below u.h none) (Classical.em _)
        have HB5 : Hid (Below W3.heap.size W3 u.w) := HB.out.trans (u.h.mono HB.out.size)
        clear hown
        generalize (T.take k).filter (fun d => decide (bd d < 0)) = FL at *
        go_wp2_with (at_builtin; refine wpList_append_own _ rfl _ _ 33 rfl W3.heap.size 3 i0 (.int .i64 0) 1 8 Try.underlying33 hi hz0 hz1 hz2 rfl (by decide) _ _ _ rfl (hown5.alloc _) ⟨u.w.heap.size, 0, none⟩ 1 1 [.int .i64 s] rfl rfl (cell_one_new _ _ _) (by simp [Value.oneCell']) (by unfold maxLen; omega) (by omega) (by have := HB5.out.size; simp; omega) ?_; intro v' w2 hown' hgrow _; have HB6 : Hid (Below W3.heap.size W3 w2) := ((HB5.out.alloc HB5.out.size _).grown hgrow (by have := HB5.out.size; simp; omega) (fun j e => by have := (hown5.lt j e).1; omega)); clear hgrow)
        go_roundw
        case rel => exact ⟨k + 1, by omega, by go_num, by rw [HS2.out, List.length_append, List.map_append]; exact hown', HB6.out⟩
        case measure => simp [intOf]; omega
    · obtain rfl : k = T.length := by omega
      rw [List.take_length] at hown
      go_wp2
      go_ret2
      exact ⟨_, rfl, own_lower hown HB3.out.size, HBw.out⟩

theorem refStarts_any (t : Task) (A : Option Addr) (n c : Nat) (A' : Option Addr) (n' c' : Nat) (i : Int) (w : World) (hT : TkM w t A n c A' n' c') :
    Calls Try.prog 21 #[.agg (t.val A n c A' n' c'), .int .i64 i] w (ListErrPost (startsTop t i) w) := by
  unfold startsTop
  have hl := hT.hw.1
  by_cases h1 : ((chkTask t).2.2 != 0) = true
  · rw [if_pos h1]
    exact (refStarts_err t A n c A' n' c' i w hT h1).mono fun e w' ⟨he, hb⟩ => by subst he; exact listErr_nil _ _ _ hb
  · rw [if_neg h1]
    have hc : (chkTask t).2.2 = 0 := by simpa using h1
    rw [hl]
    by_cases h2 : outB i 0 ((n' : Int) - 1) = true
    · rw [if_pos h2]
      exact (refStarts_out t A n c A' n' c' i w hT hc h2).mono fun e w' ⟨he, hb⟩ => by subst he; exact listErr_nil _ _ _ hb
    · rw [if_neg h2]
      have h3 := outB_false (by simpa using h2 : outB i 0 ((n' : Int) - 1) = false)
      have h4 : i.toNat < t.works.length := by omega
      rw [List.getElem?_eq_getElem h4]
      have := refStarts_ok t A n c A' n' c' i.toNat _ w hT (List.getElem?_eq_getElem h4) hc
      rw [show ((i.toNat : Nat) : Int) = i by omega] at this
      exact this
end Go.Proofs.Ytkkajemahehoaaa
