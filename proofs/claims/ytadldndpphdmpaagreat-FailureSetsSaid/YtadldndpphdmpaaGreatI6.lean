/- The document's others, guards, Proves: walks. -/
import Derived.Test.YtadldndpphdmpaaGreatI5
import Derived.Test.YtadldndpphdmpaaGreatP5
import Derived.Test.YtadldndpphdmpaaGreatHf
import Derived.Test.YtadldndpphdmpaaGreatL0
namespace Go.Proofs.YtadldndpphdmpaaGreat
open Go.RowKit Go.Shelf

def othersL (t : List Nd) (l : List Int) : List Int := (basL t).filter fun x => !decide (x ∈ l)
set_option maxRecDepth 100000 in
set_option maxHeartbeats 4000000 in
theorem others_any (t : List Nd) (l : List Int) (A : Option Addr) (n c : Nat) (ms : List NdM) (L : Option Addr) (cl : Nat) (w : World) (hT : TrM w t A n ms) (hO : TrOk t) (hL : RdI w L l.length l) (hl : l.length ≤ 1000000000000000) :
    Calls Tryz.prog 55 #[.agg #[.slice A n c], .slice L l.length cl] w (NewInts w (othersL t l)) := by
  have hn := hO.l40
  rw [hT.len] at hn
  have hbl := basL_le hO
  have HOt : Hid (othersL t l = (basL t).filter fun x => !decide (x ∈ l)) := rfl
  generalize othersL t l = OL at *
  obtain ⟨W1, hW1⟩ : ∃ W1, w.alloc (.cells #[.slice A n c] 24) = W1 := ⟨_, rfl⟩
  have HB1 : Hid (Below w.heap.size w W1) := by rw [← hW1]; exact (Below.refl _ w).alloc (Nat.le_refl _) _
  have HBas := Lib.hid (basics_any t A n c ms W1 (hT.below HB1.out) (by omega))
  have HR := Lib.hid (hL.below HB1.out)
  have HW1 := Lib.hid hW1
  clear hW1 hT hL hO
  obtain ⟨ii, hii, hzi0, hzi1, hzi2⟩ := info_parts infoI
  go_enter Tryz.func55, Tryz.ntmps55
  go_wp2_with fail
  rw [HW1.out]
  refine HBas.out.mono ?_
  rintro e W2 ⟨v, rfl, hrw, hb2⟩
  have HB2 : Hid (Below W1.heap.size W1 W2) := hb2
  obtain ⟨Ab, cb, rfl, hrb, _, _⟩ := rdI_of_own hrw rfl
  have HRb := Lib.hid hrb
  clear hrw hb2 hrb HBas HW1
  generalize basL t = BL at *
  have HLL : Hid (BL.length = BL.length) := rfl
  go_wp2_with fail
  go_loopw [5, 7] (fun v i wr => ∃ k : Nat, k ≤ BL.length ∧ i = .int .i64 k ∧ wr.ownsRow W2.heap.size 3 1 v ((BL.take k).filter fun x => !decide (x ∈ l)).length (((BL.take k).filter fun x => !decide (x ∈ l)).map (Value.int .i64)) ∧ Below W2.heap.size W2 wr) (fun _ i _ => BL.length - (intOf i).toNat)
  case atStart => exact ⟨0, Nat.zero_le _, rfl, World.ownsRow_nil _ _ _ _, Below.refl _ _⟩
  case round =>
    obtain ⟨k, hk, rfl, hrw, hB⟩ := hrel
    have HRw := Lib.hid hrw; have HB := Lib.hid hB
    have hfl : ((BL.take k).filter fun x => !decide (x ∈ l)).length ≤ k := Nat.le_trans (List.length_filter_le _ _) (List.length_take_le _ _)
    clear hrw hB
    by_cases hlt : k < BL.length
    · obtain ⟨y, ad, hy, rfl, cy⟩ := rdI_get (HRb.out.below HB.out) hlt
      have HSu := Lib.hid (filter_take (fun x => !decide (x ∈ l)) hy)
      have HH := Lib.hid (rhas_any l y L l.length cl wr ((HR.out.below HB2.out).below HB.out) hl)
      have HCy := Lib.hid cy
      have hkn : (k : Int) < (BL.length : Int) := by omega
      clear hy
      by_cases hq : y ∈ l
      · have hd : decide (y ∈ l) = true := by simpa using hq
        rw [hd] at HH
        have HS2 : Hid ((BL.take (k + 1)).filter (fun x => !decide (x ∈ l)) = (BL.take k).filter fun x => !decide (x ∈ l)) := by have := HSu.out; rw [hd, if_neg (by decide), List.append_nil] at this; exact this
        clear hq hd
        go_wp2_with fail
        refine HH.out.mono ?_
        rintro e W3 ⟨rfl, hb3⟩
        have HB3 : Hid (Below wr.heap.size wr W3) := hb3
        have HRw3 : Hid (W3.ownsRow W2.heap.size 3 1 u5 ((BL.take k).filter fun x => !decide (x ∈ l)).length (((BL.take k).filter fun x => !decide (x ∈ l)).map (Value.int .i64))) := own_far HRw.out (grown_of_below HB3.out none) (fun r e => by cases e)
        clear hb3 cy
        go_wp2_with fail
        go_roundw
        case rel => exact ⟨k + 1, by omega, by go_num, by rw [HS2.out]; exact HRw3.out, HB.out.trans (HB3.out.mono HB.out.size)⟩
        case measure => simp [intOf]; omega
      · have hd : decide (y ∈ l) = false := by simpa using hq
        rw [hd] at HH
        have HS2 : Hid ((BL.take (k + 1)).filter (fun x => !decide (x ∈ l)) = ((BL.take k).filter fun x => !decide (x ∈ l)) ++ [y]) := by have := HSu.out; rw [hd, if_pos (show (!false) = true from rfl)] at this; exact this
        clear hq hd
        go_wp2_with fail
        refine HH.out.mono ?_
        rintro e W3 ⟨rfl, hb3⟩
        have HB3 : Hid (Below wr.heap.size wr W3) := hb3
        have HRw3 : Hid (W3.ownsRow W2.heap.size 3 1 u5 ((BL.take k).filter fun x => !decide (x ∈ l)).length (((BL.take k).filter fun x => !decide (x ∈ l)).map (Value.int .i64))) := own_far HRw.out (grown_of_below HB3.out none) (fun r e => by cases e)
        have HZ3 : Hid (W2.heap.size ≤ W3.heap.size) := by have := HB.out.size; have := HB3.out.size; show _ ≤ _; omega
        clear hb3 cy
        have cy := cell_below HB3.out HCy.out
        go_wp2_with (at_builtin; refine wpList_append_one rfl _ _ 38 rfl W2.heap.size 3 ii (.int .i64 0) 8 Tryz.underlying38 hii hzi0 hzi1 hzi2 rfl _ _ _ rfl HRw3.out (.int .i64 y) W3.heap.size rfl rfl (by simp [Value.oneCell']) (by unfold maxLen; omega) (by omega) HZ3.out ?_; intro A' c'' w2 hown' hgrow _; have HO2 := Lib.hid hown'; have HG2 := Lib.hid hgrow; clear hown' hgrow)
        go_roundw
        case rel => exact ⟨k + 1, by omega, by go_num, by rw [HS2.out, List.length_append, List.map_append]; exact HO2.out, (HB.out.trans (HB3.out.mono HB.out.size)).grown HG2.out HZ3.out (fun r e => (HRw3.out.lt r e).1)⟩
        case measure => simp [intOf]; omega
    · obtain rfl : k = BL.length := by omega
      rw [List.take_length, ← HOt.out] at HRw
      have HBf : Hid (Below w.heap.size w wr) := HB1.out.trans ((HB2.out.trans (HB.out.mono HB2.out.size)).mono HB1.out.size)
      go_wp2_with fail
      go_ret
      exact ⟨_, rfl, own_lower HRw.out (Nat.le_trans HB1.out.size HB2.out.size), HBf.out⟩

theorem othersL_len {t : List Nd} (h : TrOk t) (l : List Int) : (othersL t l).length ≤ 10 := Nat.le_trans (List.length_filter_le _ _) (basL_le h)
theorem sound_others {t : List Nd} (h : TrOk t) {g : List Int} (hg : setT t g = 0) (i : Nat) : (!ef t (fun j => decide ((j : Int) ∈ othersL t g)) i) = soundB t i (lstGo t g 0).2 := by
  unfold soundB
  rw [eff_bit h (sub_bas t _)]
  congr 1
  refine ef_congr h (fun j x hx hk => ?_) i
  rw [diffN_bit, bas_bit, lst_bits hg, isBas_kind hx, Bool.eq_iff_iff]
  unfold othersL
  simp only [decide_eq_true_eq, List.mem_filter, mem_basL, Bool.not_eq_true', decide_eq_false_iff_not, Bool.and_eq_true, Int.toNat_natCast]
  rw [isBas_kind hx]
  constructor
  · rintro ⟨⟨_, a⟩, b⟩; exact ⟨a, b⟩
  · rintro ⟨a, b⟩; exact ⟨⟨by omega, a⟩, b⟩
theorem and_zero {t : List Nd} {l g : List Int} (hl : setT t l = 0) (hg : setT t g = 0) : (lstGo t l 0).2 &&& (lstGo t g 0).2 = 0 ↔ ∀ x ∈ l, x ∉ g := by
  constructor
  · intro h x hx hxg
    have h0 := (basI_nat ((lstGo_ok l 0).1 hl |>.1 x hx).1).1
    have h1 : ((lstGo t l 0).2 &&& (lstGo t g 0).2).testBit x.toNat = true := by
      rw [Nat.testBit_and, lst_bits hl, lst_bits hg, show ((x.toNat : Nat) : Int) = x by omega]
      simp [hx, hxg]
    rw [h] at h1
    simp at h1
  · intro h
    refine Nat.eq_of_testBit_eq fun j => ?_
    rw [Nat.testBit_and, lst_bits hl, lst_bits hg, Nat.zero_testBit, Bool.eq_false_iff]
    intro c
    simp only [Bool.and_eq_true, decide_eq_true_eq] at c
    exact h _ c.1 c.2

set_option maxRecDepth 100000 in
set_option maxHeartbeats 4000000 in
theorem rguards_any (t : List Nd) (nn : Nat) (g : List Int) (A : Option Addr) (n c : Nat) (ms : List NdM) (L : Option Addr) (cl : Nat) (w : World) (hT : TrM w t A n ms) (hO : TrOk t) (hL : RdI w L g.length g) (hl : g.length ≤ 1000000000000000) (hg : setT t g = 0) (hnn : nn < n) :
    Calls Tryz.prog 36 #[.agg #[.slice A n c], .int .i64 (nn : Int), .slice L g.length cl] w fun e w' => e = .returned (.bool (soundB t nn (lstGo t g 0).2)) ∧ Below w.heap.size w w' := by
  have HX := Lib.hid (sound_others hO hg nn)
  have hln := hT.len
  have hn := hO.l40
  rw [hln] at hn
  generalize soundB t nn (lstGo t g 0).2 = X at *
  obtain ⟨W1, hW1⟩ : ∃ W1, w.alloc (.cells #[.slice A n c] 24) = W1 := ⟨_, rfl⟩
  have HB1 : Hid (Below w.heap.size w W1) := by rw [← hW1]; exact (Below.refl _ w).alloc (Nat.le_refl _) _
  have K1 : Hid (Blk W1 w.heap.size 24 #[.slice A n c]) := by rw [← hW1]; exact Blk.new w _ _ rfl
  have HOth := Lib.hid (others_any t g A n c ms L cl W1.drew ((hT.below HB1.out).below (Below.refl _ _).drew) hO ((hL.below HB1.out).below (Below.refl _ _).drew) hl)
  have HEf := Lib.hid (fun (W : World) (A2 : Option Addr) (c2 : Nat) (h : Below w.heap.size w W) (hr : RdI W A2 (othersL t g).length (othersL t g)) => reffects_any t (othersL t g) A n c ms A2 c2 W (hT.below h) hO hr (by have := othersL_len hO g; omega))
  have HLn := Lib.hid hln
  have HW1 := Lib.hid hW1
  have x0 := later_cell (K1.out.cell (i := 0) rfl)
  clear hW1 hT hO hL hg hln
  go_enter Tryz.func36, Tryz.ntmps36
  go_wp2_with fail
  rw [HW1.out]
  have HS0 : Hid ((fun w' => ∃ u : Later W1, w' = u.w) W1.drew) := ⟨⟨W1.drew, (Below.refl _ _).drew⟩, rfl⟩
  refine wp_region_noPanic ?_
  refine wp_region_ord (fun w' => ∃ u : Later W1, w' = u.w) 6 (fun k => decide (k < 3) || k == 5) (ordOf _ [0, 1, 2, 5, 3, 4, 6, 7, 8, 9]) (by kernel_rfl) (by kernel_rfl) (ordOf_mem _ _) (fun _ _ _ _ _ h => h) ?_
  simp only [ordOf, List.filterMap_cons, List.filterMap_nil, List.getElem?_cons_zero, List.getElem?_cons_succ, Option.map_some]
  iterate 4 (refine ord_quiet rfl rfl rfl HS0.out ?_; intro K hK; go_big_quiet_op; go_big_quiet_on)
  clear x0
  refine ord_op rfl ?_
  go_wp2_with fail
  refine HOth.out.mono ?_
  rintro e W2 ⟨v, rfl, hrw, hb2⟩
  have HB2 : Hid (Below W1.heap.size W1 W2) := below_of_drew hb2
  obtain ⟨A2, c2, rfl, hr2, _, _⟩ := rdI_of_own hrw rfl
  have HE2 := Lib.hid (HEf.out W2 A2 c2 (HB1.out.trans (HB2.out.mono HB1.out.size)) hr2)
  clear hrw hb2 hr2 HOth HEf
  go_wp2_with fail
  refine mix_post (fun _ => ⟨⟨_, HB2.out⟩, rfl⟩) ?_
  refine ord_op rfl ?_
  go_wp2_with fail
  refine HE2.out.mono ?_
  rintro e W3 ⟨v, rfl, hrw, hb3⟩
  have HB3 : Hid (Below W1.heap.size W1 W3) := HB2.out.trans (hb3.mono HB2.out.size)
  obtain ⟨A3, c3, rfl, hr3, _, _⟩ := rdB_of_own hrw rfl
  rw [List.length_map, List.length_range, HLn.out] at hr3 ⊢
  obtain ⟨b, bd, hbv, rfl, hcb⟩ := rdB_get hr3 hnn
  have hbe : b = ef t (fun j => decide ((j : Int) ∈ othersL t g)) nn := by
    rw [List.getElem?_map, List.getElem?_range (by have := HLn.out; omega)] at hbv
    exact (Option.some.inj hbv).symm
  have HBe : Hid ((!b) = X) := by have := HX.out; rw [← hbe] at this; exact this
  have hnn' : (nn : Int) < (n : Int) := by omega
  clear hrw hb3 hr3 hbv hbe HE2
  go_wp2_with fail
  refine mix_post (fun _ => ⟨⟨_, HB3.out⟩, rfl⟩) ?_
  iterate 4 (refine ord_op rfl ?_; go_wp2_with fail; refine mix_post (fun h => absurd h (by decide)) ?_)
  refine ord_nil ?_
  refine NoPanic.normal ?_
  go_wp2_with fail
  go_ret
  exact ⟨ret_bool HBe.out, HB1.out.trans (HB3.out.mono HB1.out.size)⟩
end Go.Proofs.YtadldndpphdmpaaGreat
