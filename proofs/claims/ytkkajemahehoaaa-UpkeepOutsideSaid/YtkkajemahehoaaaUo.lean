/- UpkeepOutside returns true. -/
import Derived.Test.YtkkajemahehoaaaJ3
namespace Go.Proofs.Ytkkajemahehoaaa
open Go.RowKit

set_option maxRecDepth 100000 in
set_option maxHeartbeats 2000000 in
theorem UpkeepOutside_not (t : Task) (ss : List Int) (A : Option Addr) (n c : Nat) (A' : Option Addr) (n' c' : Nat) (As : Option Addr) (m cs : Nat) (w : World) (hT : TkM w t A n c A' n' c') (hs : RdI w As m ss) (he : shErr t ss ≠ 0 ∨ judgeL t ss ≠ []) :
    Calls Try.prog 14 #[.agg (t.val A n c A' n' c'), .slice As m cs] w fun e w' => e = .returned (.bool true) ∧ Below w.heap.size w w' := by
  have HB1 : Hid (Below w.heap.size w (w.alloc (.cells (t.val A n c A' n' c') 29))) := (Below.refl _ _).alloc (Nat.le_refl _) _
  have HC := Lib.hid (Judge_any t ss A n c A' n' c' As m cs _ (hT.below HB1.out) (hs.below HB1.out))
  clear hT hs
  unfold Task.val at *
  go_enter Try.func14, Try.ntmps14
  go_wp2_with fail
  refine HC.out.mono ?_
  rintro e W2 ⟨hb2, hp⟩
  have HB2 : Hid (Below w.heap.size w W2) := HB1.out.trans (hb2.mono HB1.out.size)
  clear hb2 HC
  rcases hp with ⟨hne, rfl⟩ | ⟨heq, v, rfl, hown⟩
  · have hXb : (shErr t ss != 0) = true := by simpa using hne
    clear he hne
    generalize shErr t ss = X at *
    go_wp2_with fail
    refine (Awake_any _).mono ?_
    rintro e W3 ⟨rfl, hb3⟩
    have HB3 := Lib.hid (HB2.out.trans (hb3.mono HB2.out.size))
    clear hb3
    go_wp2_with fail
    go_ret
    exact ⟨rfl, HB3.out⟩
  · have hj : judgeL t ss ≠ [] := by
      rcases he with h | h
      · exact absurd heq h
      · exact h
    have hl : 0 < (judgeL t ss).length := List.length_pos_iff.2 hj
    obtain ⟨Al, cl, rfl, _, _, _⟩ := rd_of_own reason_len hown rfl
    clear hown he hj heq
    generalize (judgeL t ss).length = N at *
    have hd : decide ((0 : Int) < (N : Int)) = true := by simp; omega
    go_wp2_with fail
    refine (Awake_any _).mono ?_
    rintro e W3 ⟨rfl, hb3⟩
    have HB3 := Lib.hid (HB2.out.trans (hb3.mono HB2.out.size))
    clear hb3
    go_wp2_with fail
    go_ret
    exact ⟨rfl, HB3.out⟩

set_option maxRecDepth 100000 in
set_option maxHeartbeats 4000000 in
theorem UpkeepOutside_ok (t : Task) (ss : List Int) (A : Option Addr) (n c : Nat) (A' : Option Addr) (n' c' : Nat) (As : Option Addr) (m cs : Nat) (w : World) (hT : TkM w t A n c A' n' c') (hs : RdI w As m ss) (he : shErr t ss = 0) (hg : Good t ss) :
    Calls Try.prog 14 #[.agg (t.val A n c A' n' c'), .slice As m cs] w fun e w' => e = .returned (.bool true) ∧ Below w.heap.size w w' := by
  have hP := planOK_of he
  have hok := taskOK_of hP.chk
  have HB1 : Hid (Below w.heap.size w (w.alloc (.cells (t.val A n c A' n' c') 29))) := (Below.refl _ _).alloc (Nat.le_refl _) _
  have KK : Hid (Blk (w.alloc (.cells (t.val A n c A' n' c') 29)) w.heap.size 29 (t.val A n c A' n' c')) := Blk.new _ _ _ rfl
  have HC := Lib.hid (Judge_any t ss A n c A' n' c' As m cs _ (hT.below HB1.out) (hs.below HB1.out))
  have hmn : m = n' := by have := hT.hw.1; have := hs.1; have := hP.len; omega
  have hsl := hs.1
  have hml : m ≤ 4 := by have := hT.hw.1; have := hok.len; omega
  have HWs : Hid (∀ (i : Nat) (v : Work), t.works[i]? = some v → WorkOK v) := fun i v hv => workOK_of (hok.rows i v hv).2.2.1
  have HSr := Lib.hid hP.days
  have HSs := Lib.hid hs
  have HTk := Lib.hid hT
  have HChk := Lib.hid hP.chk
  have HRec : Hid (RecAll t.rd) := recAll_of (by
    have := hP.chk
    unfold chkTask at this
    by_cases h1 : ((chkRec t.rd).2 != 0) = true
    · rw [if_pos h1] at this; exact this
    · simpa using h1)
  have HOk := Lib.hid hok
  have HG := Lib.hid hg
  have HJ : Hid (judgeL t ss = []) := good_iff.2 hg
  have hgap := hok.gap
  clear hT hs hok hP hg
  subst hmn
  have hne : ((m : Int) != (m : Int)) = false := by simp
  unfold Task.val at *
  go_enter Try.func14, Try.ntmps14
  go_wp2_with fail
  refine HC.out.mono ?_
  rintro e W2 ⟨hb2, hp⟩
  rcases hp with ⟨h0, _⟩ | ⟨_, v, rfl, hown⟩
  · exact absurd he h0
  rw [HJ.out] at hown
  obtain ⟨Al, cl, rfl, _, _, _⟩ := rd_of_own (xs := ([] : List Reason)) reason_len hown rfl
  have HB2 : Hid (Below w.heap.size w W2) := HB1.out.trans (hb2.mono HB1.out.size)
  have K2 := Lib.hid (KK.out.later hb2)
  clear hown HJ hb2 HC KK HB1
  have k3 := K2.out.cell (i := 3) rfl
  have hsz := K2.out.lt
  have hl0 : (([] : List Reason).length : Int) = 0 := rfl
  go_wp2_with fail
  clear k3 hsz hl0
  go_loopw [7] (fun i wr => ∃ k : Nat, k ≤ m ∧ i = .int .i64 k ∧ Below W2.heap.size W2 wr) (fun i _ => m - (intOf i).toNat)
  case atStart => exact ⟨0, Nat.zero_le _, rfl, Below.refl _ _⟩
  case round =>
    obtain ⟨k, hk, rfl, hB⟩ := hrel
    have HB := Lib.hid hB; clear hB
    have HBw : Hid (Below w.heap.size w wr) := HB2.out.trans (HB.out.mono HB2.out.size)
    obtain ⟨wo, rfl⟩ : ∃ wo : World, wo = wr := ⟨_, rfl⟩
    by_cases hlt : k < m
    · obtain ⟨x, ad, hx, hAd, ha⟩ := (HTk.out.hw.below HBw.out).get hlt
      obtain ⟨s, sd, hs, rfl, cs0⟩ := rdI_get (HSs.out.below HBw.out) hlt
      obtain ⟨c0, c1, c2, c3, c4, c5, c6⟩ := ha.seven
      have hwk := HWs.out k x hx
      obtain ⟨s0, s1⟩ := HSr.out s (List.mem_of_getElem? hs)
      have HSt := Lib.hid (fun (W : World) (hW : Below w.heap.size w W) => Starts_ok t A n c A' m c' k x W (HTk.out.below hW) hx HChk.out)
      have HSea := Lib.hid (fun (W : World) (hW : Below w.heap.size w W) => Season_ok t.rd t.width x.level t.day A n c W (HTk.out.hr.below hW) ⟨HRec.out, HOk.out.rd, HOk.out.width.1, HOk.out.width.2, hwk.l0, hwk.l1, HOk.out.day.2.1, HOk.out.day.2.2, HOk.out.day.1.1, HOk.out.day.1.2⟩)
      have hmem : decide (s ∈ startsF t x) = true := by simpa using (mem_startsF hwk s).2 ⟨HG.out.start k s x hs hx, HG.out.inside k s x hs hx⟩
      have HDay : Hid (∀ j : Nat, j < x.days.toNat → decide (((s + (j : Int)) % 365) ∈ pickL (seasonB t.rd t.width x.level t.day) 365) = false) := fun j hj => by
        have h1 := dayF_neg (x.days.toNat - 0) 0 (HG.out.inside k s x hs hx) j (by omega) (by omega)
        simp only [decide_eq_false_iff_not, mem_pickL, not_and, Bool.not_eq_true]
        exact fun _ => h1
      have hsl2 : (startsF t x).length ≤ 400 := Nat.le_trans (List.length_filter_le _ _) (triesG_len 400 _)
      have hpl2 := pickL_len (seasonB t.rd t.width x.level t.day) 365
      have HFar : Hid (∀ (j : Nat) (s' : Int), ss[j]? = some s' → j ≠ k → ¬ ((s' - s + 365) % 365 < x.days + t.gap)) := fun j s' hs' hjk => by
        have hjl := (List.getElem?_eq_some_iff.1 hs').1
        have hj2 : j < t.works.length := by have := HTk.out.hw.1; omega
        have hy := List.getElem?_eq_getElem hj2
        have hyk := HWs.out j _ hy
        rcases Nat.lt_or_gt_of_ne hjk with h | h
        · have hm := HG.out.meet j k h (by omega)
          have e : meetP t ss k j = mB t.gap s' t.works[j].days s x.days := by unfold meetP; rw [hs', hy, hs, hx]
          rw [e] at hm
          exact (far_ok hyk.d0 hwk.d0 hgap.1 hm).2
        · have hm := HG.out.meet k j h (by omega)
          have e : meetP t ss j k = mB t.gap s x.days s' t.works[j].days := by unfold meetP; rw [hs', hy, hs, hx]
          rw [e] at hm
          exact (far_ok hwk.d0 hyk.d0 hgap.1 hm).1
      obtain ⟨d0, d1, _, _, _, _, _, _, _, _⟩ := hwk
      have hki : (k : Int) < (m : Int) := by omega
      subst hAd
      have HC0 := Lib.hid cs0
      have b0 := (K2.out.later HB.out).cell (i := 0) rfl
      have b1 := (K2.out.later HB.out).cell (i := 1) rfl
      have b2 := (K2.out.later HB.out).cell (i := 2) rfl
      have b3 := (K2.out.later HB.out).cell (i := 3) rfl
      have b4 := (K2.out.later HB.out).cell (i := 4) rfl
      have b5 := (K2.out.later HB.out).cell (i := 5) rfl
      have b6 := (K2.out.later HB.out).cell (i := 6) rfl
      have b7 := (K2.out.later HB.out).cell (i := 7) rfl
      have b8 := (K2.out.later HB.out).cell (i := 8) rfl
      have b9 := (K2.out.later HB.out).cell (i := 9) rfl
      clear ha hx hs cs0
      generalize startsF t x = SL at *
      generalize pickL (seasonB t.rd t.width x.level t.day) 365 = PL at *
      obtain ⟨D, hD⟩ : ∃ D : Nat, x.days = (D : Int) := ⟨x.days.toNat, by omega⟩
      have HD : Hid (x.days.toNat = D) := by rw [hD]; rfl
      rw [hD] at c2 d0 d1 HFar
      rw [HD.out] at HDay
      have HDe := Lib.hid hD
      clear hD HD
      have hz := (K2.out.later HB.out).lt
      go_wp2_with fail
      obtain ⟨W5, hW5⟩ : ∃ W5, wo.alloc (Obj.cells #[.string x.name, .int .i64 x.gate, .int .i64 (D : Int), .int .i64 x.frm, .int .i64 x.til, .int .i64 x.step, .int .i64 x.level] 61) = W5 := ⟨_, rfl⟩
      have hb5 : Below wo.heap.size wo W5 := by rw [← hW5]; exact (Below.refl _ _).alloc (Nat.le_refl _) _
      have KW : Hid (Blk W5 wo.heap.size 61 #[.string x.name, .int .i64 x.gate, .int .i64 (D : Int), .int .i64 x.frm, .int .i64 x.til, .int .i64 x.step, .int .i64 x.level]) := by rw [← hW5]; exact Blk.new _ _ _ rfl
      rw [hW5]
      have KT := Lib.hid ((K2.out.later HB.out).later hb5)
      have HB5 : Hid (Below w.heap.size w W5) := HBw.out.trans (hb5.mono HBw.out.size)
      have HBB5 : Hid (Below W2.heap.size W2 W5) := HB.out.trans (hb5.mono HB.out.size)
      have HC5 := Lib.hid (cell_below hb5 HC0.out)
      clear hW5 hb5 b0 b1 b2 b3 b4 b5 b6 b7 b8 b9 c0 c1 c2 c3 c4 c5 c6 hz
      refine (HSt.out W5 HB5.out).mono ?_
      rintro e W6 ⟨v, rfl, hown, hb6⟩
      obtain ⟨A6, cl6, rfl, hl6, _, _⟩ := rdI_of_own hown rfl
      have KT6 := Lib.hid (KT.out.later hb6)
      have KW6 := Lib.hid (KW.out.later hb6)
      have HB6 : Hid (Below w.heap.size w W6) := HB5.out.trans (hb6.mono HB5.out.size)
      have HBB6 : Hid (Below W2.heap.size W2 W6) := HBB5.out.trans (hb6.mono HBB5.out.size)
      have HC6 := Lib.hid (cell_below hb6 HC5.out)
      have HL6 := Lib.hid hl6
      clear hown hb6 hl6
      have b0 := KT6.out.cell (i := 0) rfl
      have b1 := KT6.out.cell (i := 1) rfl
      have b2 := KT6.out.cell (i := 2) rfl
      have b3 := KT6.out.cell (i := 3) rfl
      have b4 := KT6.out.cell (i := 4) rfl
      have b5 := KT6.out.cell (i := 5) rfl
      have b6 := KT6.out.cell (i := 6) rfl
      have b7 := KT6.out.cell (i := 7) rfl
      have b8 := KT6.out.cell (i := 8) rfl
      have b9 := KT6.out.cell (i := 9) rfl
      have w6 := KW6.out.cell (i := 6) rfl
      have hz1 := KT6.out.lt
      have hz2 := KW6.out.lt
      go_wp2_with fail
      refine (HSea.out W6 HB6.out).mono ?_
      rintro e W7 ⟨v, rfl, hown, hb7⟩
      obtain ⟨A7, cl7, rfl, hl7, _, _⟩ := rdI_of_own hown rfl
      have KT7 := Lib.hid (KT6.out.later hb7)
      have KW7 := Lib.hid (KW6.out.later hb7)
      have HB7 : Hid (Below w.heap.size w W7) := HB6.out.trans (hb7.mono HB6.out.size)
      have HBB7 : Hid (Below W2.heap.size W2 W7) := HBB6.out.trans (hb7.mono HBB6.out.size)
      have cs7 := cell_below hb7 HC6.out
      have HL67 := Lib.hid (HL6.out.below hb7)
      have HL7 := Lib.hid hl7
      clear hown hb7 hl7 b0 b1 b2 b3 b4 b5 b6 b7 b8 b9 w6 hz1 hz2
      go_wp2_with fail
      have HHas := has_any SL s A6 SL.length cl6 W7 HL67.out (by omega)
      rw [hmem] at HHas
      refine HHas.mono ?_
      rintro e W8 ⟨rfl, hb8⟩
      have KT8 := Lib.hid (KT7.out.later hb8)
      have KW8 := Lib.hid (KW7.out.later hb8)
      have HB8 : Hid (Below w.heap.size w W8) := HB7.out.trans (hb8.mono HB7.out.size)
      have HBB8 : Hid (Below W2.heap.size W2 W8) := HBB7.out.trans (hb8.mono HBB7.out.size)
      have HC8 := Lib.hid (cell_below hb8 cs7)
      have HL8 := Lib.hid (HL7.out.below hb8)
      clear hb8 HHas cs7
      go_wp2_with fail
      go_loopw [13] (fun q wr => ∃ j : Nat, j ≤ D ∧ q = .int .i64 j ∧ Below W8.heap.size W8 wr) (fun q _ => D - (intOf q).toNat)
      case atStart => exact ⟨0, Nat.zero_le _, rfl, Below.refl _ _⟩
      case round =>
        obtain ⟨j, hj, rfl, hBj⟩ := hrel
        have HBj := Lib.hid hBj; clear hBj
        have w2 := (KW8.out.later HBj.out).cell (i := 2) rfl
        have hz2 := (KW8.out.later HBj.out).lt
        by_cases hjt : j < D
        · have hji : (j : Int) < (D : Int) := by omega
          have hj2 : decide ((j : Int) < 200) = true := by simp; omega
          have cj := cell_below HBj.out HC8.out
          have hm0 : 0 ≤ (s + (j : Int)) % 365 := by omega
          go_wp2_with fail
          have HHas := has_any PL ((s + (j : Int)) % 365) A7 PL.length cl7 wr (HL8.out.below HBj.out) (by omega)
          rw [HDay.out j hjt] at HHas
          refine HHas.mono ?_
          rintro e W9 ⟨rfl, hb9⟩
          have HB9 := Lib.hid (HBj.out.trans (hb9.mono HBj.out.size))
          clear hb9 HHas cj w2 hz2
          go_wp2_with fail
          go_roundw
          case rel => exact ⟨j + 1, by omega, by go_num, HB9.out⟩
          case measure => simp [intOf]; omega
        · obtain rfl : D = j := by omega
          have hji : ¬ (D : Int) < (D : Int) := by omega
          go_wp2_with fail
          obtain ⟨W9, rfl⟩ : ∃ W9 : World, W9 = wr := ⟨_, rfl⟩
          have KT9 := Lib.hid (KT8.out.later HBj.out)
          have KW9 := Lib.hid (KW8.out.later HBj.out)
          have HB9 : Hid (Below w.heap.size w W9) := HB8.out.trans (HBj.out.mono HB8.out.size)
          have HBB9 : Hid (Below W2.heap.size W2 W9) := HBB8.out.trans (HBj.out.mono HBB8.out.size)
          have HC9 := Lib.hid (cell_below HBj.out HC8.out)
          clear w2 hz2 HBj
          go_loopw [14] (fun q wr => ∃ i : Nat, i ≤ m ∧ q = .int .i64 i ∧ Below W9.heap.size W9 wr) (fun q _ => m - (intOf q).toNat)
          case atStart => exact ⟨0, Nat.zero_le _, rfl, Below.refl _ _⟩
          case round =>
            obtain ⟨i, hi, rfl, hBi⟩ := hrel
            have HBi := Lib.hid hBi; clear hBi
            have HBi2 : Hid (Below w.heap.size w wr) := HB9.out.trans (HBi.out.mono HB9.out.size)
            by_cases hit : i < m
            · obtain ⟨s', sd', hs', e', ci⟩ := rdI_get (HSs.out.below HBi2.out) hit
              cases e'
              have hsr' := HSr.out s' (List.mem_of_getElem? hs')
              have hii : (i : Int) < (m : Int) := by omega
              have q0 := later_cell ci
              have q1 := later_cell (cell_below HBi.out HC9.out)
              have HKT := Lib.hid (KT9.out.later HBi.out)
              have HKW := Lib.hid (KW9.out.later HBi.out)
              have hf0 : 0 ≤ s' - s + 365 := by omega
              have HFi := Lib.hid (HFar.out i s' hs')
              clear hs' ci
              go_wp2
              refine wp_region_later (by kernel_rfl) (by kernel_rfl) ?_
              repeat (first | go_big_quiet_skip | (go_big_quiet_want; go_big_quiet_op; go_big_quiet_on))
              refine wpQuiet_nil ?_
              intro _ hw'
              obtain ⟨u, hu⟩ := hw'
              subst hu
              clear q0 q1
              have k4 := (HKT.out.later u.h).cell (i := 4) rfl
              have k5 := (HKW.out.later u.h).cell (i := 2) rfl
              have hz4 := (HKT.out.later u.h).lt
              have hz5 := (HKW.out.later u.h).lt
              by_cases hik : i = k
              · have hbn : ((i : Int) != (k : Int)) = false := by simp; omega
                clear hik
                go_wp2
                go_roundw
                case rel => exact ⟨i + 1, by omega, by go_num, HBi.out.trans (u.h.mono HBi.out.size)⟩
                case measure => simp [intOf]; omega
              · have hbn : ((i : Int) != (k : Int)) = true := by simp; omega
                have hfd : decide ((s' - s) % 365 < (D : Int) + t.gap) = false := by have := HFi.out hik; rw [decide_eq_false_iff_not]; omega
                clear hik
                go_wp2
                go_roundw
                case rel => exact ⟨i + 1, by omega, by go_num, HBi.out.trans (u.h.mono HBi.out.size)⟩
                case measure => simp [intOf]; omega
            · obtain rfl : m = i := by omega
              go_wp2
              go_roundw
              case rel => exact ⟨k + 1, by omega, by go_num, HBB9.out.trans (HBi.out.mono HBB9.out.size)⟩
              case measure => simp [intOf]; omega
    · obtain rfl : m = k := by omega
      go_wp2_with fail
      refine (Awake_any _).mono ?_
      rintro e W3 ⟨rfl, hb3⟩
      have HB3 := Lib.hid (HBw.out.trans (hb3.mono HBw.out.size))
      clear hb3
      go_wp2_with fail
      go_ret
      exact ⟨rfl, HB3.out⟩
/-- UpkeepOutside returns true. -/
theorem UpkeepOutside_any (t : Task) (ss : List Int) (A : Option Addr) (n c : Nat) (A' : Option Addr) (n' c' : Nat) (As : Option Addr) (m cs : Nat) (w : World) (hT : TkM w t A n c A' n' c') (hs : RdI w As m ss) :
    Calls Try.prog 14 #[.agg (t.val A n c A' n' c'), .slice As m cs] w fun e w' => e = .returned (.bool true) ∧ Below w.heap.size w w' := by
  by_cases he : shErr t ss ≠ 0 ∨ judgeL t ss ≠ []
  · exact UpkeepOutside_not t ss A n c A' n' c' As m cs w hT hs he
  · have h1 : shErr t ss = 0 := Classical.byContradiction fun h => he (.inl h)
    have h2 : judgeL t ss = [] := Classical.byContradiction fun h => he (.inr h)
    exact UpkeepOutside_ok t ss A n c A' n' c' As m cs w hT hs h1 (good_iff.1 h2)
end Go.Proofs.Ytkkajemahehoaaa
