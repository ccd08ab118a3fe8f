/- FailureInTime returns true. -/
import Derived.Test.YtadldndpphdmpaaP7
import Derived.Test.YtadldndpphdmpaaHi
import Derived.Test.YtadldndpphdmpaaL3
namespace Go.Proofs.Ytadldndpphdmpaa
open Go.RowKit Go.Shelf

theorem left_bd {t : List Nd} (h : TrOk t) (l : List Int) (x0 : Int) : 0 ≤ (leftT t l x0).1 ∧ (leftT t l x0).1 ≤ 4000 := by
  have hat : ∀ all i, 0 ≤ atL t all i ∧ atL t all i ≤ 4000 := fun all i => by
    by_cases hi : i < t.length
    · have := atL_bd h all i hi
      have := h.l40
      omega
    · unfold atL; rw [gf_out (by omega)]; omega
  unfold leftT
  split
  · split
    · exact hat _ _
    · simp
  · simp
set_option maxRecDepth 100000 in
set_option maxHeartbeats 8000000 in
theorem FailureInTime_any (t : List Nd) (l : List Int) (x0 x1 : Int) (A : Option Addr) (n c : Nat) (ms : List NdM) (L : Option Addr) (cl : Nat) (w : World) (hT : TrM w t A n ms) (hc : n ≤ c) (hL : RdI w L l.length l) (hl : l.length ≤ 1000000000000000) :
    Calls Try.prog 14 #[.agg #[.slice A n c], .slice L l.length cl, .agg #[.int .i64 x0, .int .i64 x1]] w fun e w' => e = .returned (.bool true) ∧ Below w.heap.size w w' := by
  obtain ⟨W1, hW1⟩ : ∃ W1, (w.alloc (.cells #[.slice A n c] 24)).alloc (.cells #[.int .i64 x0, .int .i64 x1] 36) = W1 := ⟨_, rfl⟩
  obtain ⟨b1, b2, b3⟩ := two_box w _ _ _ _ W1 hW1
  have HB1 := Lib.hid b1; have K1 := Lib.hid b2; have K2 := Lib.hid b3
  have C1 := Lib.hid (Left_any t l x0 A n c ms L cl W1 (hT.below b1) hc (hL.below b1) hl)
  have C2 := Lib.hid (fun (W : World) (A5 : Option Addr) (c5 : Nat) (h : Below w.heap.size w W) (hr : RdS W A5 (inL l x1).length (inL l x1)) => Run_any t (inL l x1) 400 A n c ms A5 c5 W (hT.below h) hc hr (by rw [inL_len]; exact hl))
  have HL := Lib.hid hL
  have HT := Lib.hid hT.len
  have HW1 := Lib.hid hW1
  have HIn := Lib.hid (fun h h0 hx0 hx1 hE he => inTime (t := t) (l := l) (x0 := x0) (x1 := x1) h h0 hx0 hx1 hE he)
  have HLb := Lib.hid (fun h => left_bd (t := t) h l x0)
  have HOut := Lib.hid (fun h hx => left_out (t := t) (l := l) (x0 := x0) h hx)
  have HIl : Hid (inL l x1 = l.map fun x => (⟨x, x1, 400⟩ : Sp)) := rfl
  have HILn := Lib.hid (inL_len l x1)
  have HOkR := Lib.hid (fun h => runT_ok (t := t) (l := inL l x1) (N := 400) h)
  clear hW1 hT hL b1 b2 b3
  generalize hY : leftT t l x0 = Y at *
  clear hY
  obtain ⟨y, e0⟩ := Y
  dsimp only at *
  go_enter Try.func14, Try.ntmps14
  go_wp2_with fail
  rw [HW1.out]
  refine C1.out.mono ?_
  rintro e W2 ⟨rfl, hb2⟩
  have HB2 : Hid (Below w.heap.size w W2) := HB1.out.trans (hb2.mono HB1.out.size)
  have HM1 := Lib.hid (K1.out.later hb2)
  have HM2 := Lib.hid (K2.out.later hb2)
  have r0 := HM2.out.cell (i := 0) rfl
  have r1 := HM2.out.cell (i := 1) rfl
  have rz := HM2.out.lt
  clear hb2 HW1 K1 K2
  have cs : ((e0 != 0) = true ∧ (e0 != 4) = true) ∨ (e0 = 0 ∨ e0 = 4) := by
    by_cases h0 : e0 = 0
    · exact .inr (.inl h0)
    · by_cases h4 : e0 = 4
      · exact .inr (.inr h4)
      · exact .inl ⟨by simpa using h0, by simpa using h4⟩
  rcases cs with ⟨g0, g4⟩ | he
  · go_wp2_with fail
    refine (Awake_any _).mono ?_
    rintro e W4 ⟨rfl, hb4⟩
    have HB4 : Hid (Below w.heap.size w W4) := HB2.out.trans (hb4.mono HB2.out.size)
    clear hb4
    go_wp2_with fail
    go_ret
    exact ⟨rfl, HB4.out⟩
  · have hg : (e0 != 0) = true → (e0 != 4) = false := fun h => by
      rcases he with rfl | rfl
      · simp at h
      · rfl
    have HE0 := Lib.hid he
    cases g0 : (e0 != 0)
    all_goals
      first | (have g4 := hg g0) | skip
      clear hg he
      cases b1 : decide (30 < (l.length : Int))
      · have hl30 : l.length ≤ 30 := by simp at b1; omega
        cases b2 : decide (x1 < 0)
        · have hx10 : 0 ≤ x1 := by simp at b2; omega
          cases b3 : decide (100 < x1)
          · have hx11 : x1 ≤ 100 := by simp at b3; omega
            obtain ⟨jj, hij, hzj0, hzj1, hzj2⟩ := info_parts infoSp
            go_wp2_with fail
            clear b1 b2 b3 r0 r1 rz
            go_loopw [9, 10] (fun v i wr => ∃ k : Nat, k ≤ l.length ∧ i = .int .i64 k ∧ wr.ownsRow W2.heap.size 65 3 v k (((l.take k).map fun x => (⟨x, x1, 400⟩ : Sp)).flatMap Sp.enc) ∧ Below W2.heap.size W2 wr) (fun _ i _ => l.length - (intOf i).toNat)
            case atStart => exact ⟨0, Nat.zero_le _, rfl, World.ownsRow_nil _ _ _ _, Below.refl _ _⟩
            case round =>
              obtain ⟨k, hk, rfl, hrw, hB⟩ := hrel
              have HRw := Lib.hid hrw; have HB := Lib.hid hB
              have HBw : Hid (Below w.heap.size w wr) := HB2.out.trans (hB.mono HB2.out.size)
              have HN1 := Lib.hid (HM1.out.later hB)
              have HN2 := Lib.hid (HM2.out.later hB)
              have hBz := hB.size
              have HBz := Lib.hid hBz
              clear hrw hB
              by_cases hlt : k < l.length
              · obtain ⟨v, ad, hv, hAd, cv⟩ := rdI_get (HL.out.below HBw.out) hlt
                subst hAd
                have HSu := Lib.hid (map_take_step (fun x => (⟨x, x1, 400⟩ : Sp)) hv)
                have hkn : (k : Int) < (l.length : Int) := by omega
                have s0 := later_cell cv
                have s1 := later_cell (HN2.out.cell (i := 1) rfl)
                clear hv cv
                have HB5 : Hid (Below wr.heap.size wr wr.drew) := (Below.refl _ _).drew
                have HRw5 : Hid (wr.drew.ownsRow W2.heap.size 65 3 u9 k (((l.take k).map fun x => (⟨x, x1, 400⟩ : Sp)).flatMap Sp.enc)) := own_far HRw.out (grown_of_below HB5.out none) (fun r e => by cases e)
                have HZ5 : Hid (W2.heap.size ≤ wr.drew.heap.size) := HBz.out
                go_wp2_with fail
                have HS0 : Hid ((fun w' => ∃ u : Later wr, w' = u.w) wr.drew) := ⟨⟨wr.drew, HB5.out⟩, rfl⟩
                refine wp_region_noPanic ?_
                refine wp_region_ord (fun w' => ∃ u : Later wr, w' = u.w) 9 (fun k => decide (k < 8)) (ordOf _ [0, 1, 2, 3, 4, 5, 6, 7, 8, 9, 10]) (by kernel_rfl) (by kernel_rfl) (ordOf_mem _ _) (fun _ _ _ _ _ h => h) ?_
                simp only [ordOf, List.filterMap_cons, List.filterMap_nil, List.getElem?_cons_zero, List.getElem?_cons_succ, Option.map_some]
                iterate 8 (refine ord_quiet rfl rfl rfl HS0.out ?_; intro K hK; go_big_quiet_op; go_big_quiet_on)
                clear s0 s1 HS0
                refine ord_op rfl ?_
                go_wp2_with (refine wpList_buildSlice_one rfl 56 65 _ rfl 3 _ #[.int .i64 v, .int .i64 x1, .int .i64 400] rfl Try.underlying56 (Try.sizeOf65 _) (Try.zeroValue65 _) rfl (by omega) (by omega) ?_)
                refine mix_post (fun _ => ⟨⟨_, HB5.out.alloc HB5.out.size _⟩, rfl⟩) ?_
                refine ord_op rfl ?_
                go_wp2_with (at_builtin; refine wpList_append_st rfl _ _ 56 rfl W2.heap.size 65 jj (.agg #[.int .i64 0, .int .i64 0, .int .i64 0]) 3 24 Try.underlying56 hij hzj0 hzj1 hzj2 rfl (by decide) _ _ _ rfl HRw5.out #[.int .i64 v, .int .i64 x1, .int .i64 400] rfl wr.drew.heap.size rfl rfl (by simp [Value.oneCell']) (by unfold maxLen; omega) (by omega) HZ5.out ?_; intro A' c'' w2 hown' hgrow _; have HO2 := Lib.hid hown'; have HG2 := Lib.hid hgrow; clear hown' hgrow)
                refine mix_post (fun h => absurd h (by decide)) ?_
                refine ord_op rfl ?_
                go_wp2_with fail
                refine mix_post (fun h => absurd h (by decide)) ?_
                refine ord_nil ?_
                refine NoPanic.normal ?_
                go_wp2_with fail
                go_roundw
                case rel => exact ⟨k + 1, by omega, by go_num, by rw [HSu.out, List.flatMap_append]; exact HO2.out, (HB.out.trans (HB5.out.mono HBz.out)).grown HG2.out HZ5.out (fun r e => (HRw5.out.lt r e).1)⟩
                case measure => simp [intOf]; omega
              · obtain rfl : k = l.length := by omega
                rw [List.take_length, ← HIl.out] at HRw
                obtain ⟨A5, c5, e5, hr5, _, _⟩ := rd_of_own enc3 HRw.out HILn.out
                subst e5
                rw [← HILn.out] at hr5
                have hRun := C2.out wr A5 c5 HBw.out hr5
                rw [HILn.out] at hRun
                have HRun := Lib.hid hRun
                have k0 := HN1.out.cell (i := 0) rfl
                have kz := HN1.out.lt
                clear hr5 hRun
                generalize runT t (inL l x1) 400 = X at *
                obtain ⟨X1, f⟩ := X
                dsimp only at *
                go_wp2_with fail
                refine HRun.out.mono ?_
                rintro e W6 ⟨v6, ps, rfl, hRo, hps, hb6⟩
                have HB6 : Hid (Below w.heap.size w W6) := HBw.out.trans (hb6.mono HBw.out.size)
                have HP2 := Lib.hid (HN2.out.later hb6)
                obtain ⟨A6, c6, e6, hsps⟩ := hRo.sps
                subst e6
                have HSps := Lib.hid hsps; have HPs := Lib.hid hps
                have r0 := HP2.out.cell (i := 0) rfl
                have r1 := HP2.out.cell (i := 1) rfl
                have rz := HP2.out.lt
                clear hb6 hRo hps hsps k0 kz HRun
                dsimp only
                by_cases hf : f = 0
                · obtain ⟨hok, _, _, _, hsp, hX1⟩ := HOkR.out hf
                  have HOk := Lib.hid hok; have HSp := Lib.hid hsp; have HX1 := Lib.hid hX1
                  subst hf
                  have hln : ps.length = n := by
                    have h := congrArg List.length HPs.out
                    rw [hX1, List.length_map, List.length_map, List.length_range] at h
                    rw [h]; exact HT.out
                  have hn40 : n ≤ 40 := by have := hok.l40; have := HT.out; omega
                  have HPn := Lib.hid hln
                  have hlb := HLb.out hok
                  obtain ⟨hy0, hy1⟩ := hlb
                  clear hok hsp hX1
                  rw [hln]
                  clear hln
                  by_cases hx : x0 < 0 ∨ (n : Int) ≤ x0
                  · have h4 : e0 = 4 := HOut.out HOk.out (by have := HT.out; omega)
                    subst h4
                    first
                      | exact absurd g0 (by decide)
                      | (cases d1 : decide (x0 < 0)
                         · have d2 : decide ((n : Int) ≤ x0) = true := by simp at d1 ⊢; omega
                           go_wp2_with fail
                           refine (Awake_any _).mono ?_
                           rintro e W7 ⟨rfl, hb7⟩
                           have HB7 : Hid (Below w.heap.size w W7) := HB6.out.trans (hb7.mono HB6.out.size)
                           clear hb7
                           go_wp2_with fail
                           go_ret
                           exact ⟨rfl, HB7.out⟩
                         · go_wp2_with fail
                           refine (Awake_any _).mono ?_
                           rintro e W7 ⟨rfl, hb7⟩
                           have HB7 : Hid (Below w.heap.size w W7) := HB6.out.trans (hb7.mono HB6.out.size)
                           clear hb7
                           go_wp2_with fail
                           go_ret
                           exact ⟨rfl, HB7.out⟩)
                  · obtain ⟨nn, rfl⟩ : ∃ nn : Nat, x0 = (nn : Int) := ⟨x0.toNat, by omega⟩
                    have hnn : nn < n := by omega
                    have hin := HIn.out HOk.out hx10 (by omega) (by have := HT.out; omega) HSp.out HE0.out
                    rw [Int.toNat_natCast] at hin
                    have d1 : decide ((nn : Int) < 0) = false := by simp
                    have d2 : decide ((n : Int) ≤ (nn : Int)) = false := by simp; omega
                    obtain ⟨sp, B, cB, sd, hsp, hA6, hcell, hrd⟩ := HSps.out.get (i := nn) (by have := HPn.out; omega)
                    have hspv : sp = spL t (ownR (inL l x1) 400) nn := by
                      rw [HPs.out, HX1.out, List.getElem?_map, List.getElem?_range (by have := HT.out; omega)] at hsp
                      exact (Option.some.inj hsp).symm
                    rw [hin] at hspv
                    subst hA6
                    have hnn' : (nn : Int) < (n : Int) := by omega
                    clear hx hsp hin
                    rcases HE0.out with h | h
                    · subst h
                      first
                        | exact absurd g0 (by decide)
                        | (by_cases h400 : y + x1 < 400
                           · rw [if_pos ⟨rfl, h400⟩] at hspv
                             subst hspv
                             obtain ⟨sp0, sq, hs0, hsq, hcs⟩ := hrd.get (i := 0) (by simp)
                             subst hsq
                             simp only [List.getElem?_cons_zero, Option.some.injEq] at hs0
                             subst hs0
                             obtain ⟨t0, t1, t2⟩ := hcs.three
                             dsimp only at t0 t1 t2
                             have hz : sq.add (0 * 3) = sq := by simp [Addr.add]
                             rw [hz] at t0 t1 t2
                             have T0 := Lib.hid t0; have T1 := Lib.hid t1; have T2 := Lib.hid t2
                             have d3 : decide (400 ≤ y + x1) = false := by simp; omega
                             simp only [List.length_cons, List.length_nil, Nat.zero_add] at hcell ⊢
                             clear hrd hcs t0 t1 t2
                             go_wp2_with fail
                             have hwr : IntKind.i64.wrap (x1 + y) = x1 + y := IntWalk.i64_in (x1 + y) ⟨by omega, by omega⟩
                             have c0 := later_cell T0.out
                             have c1 := later_cell T1.out
                             have c2 := later_cell T2.out
                             have q0 := later_cell r0
                             have q1 := later_cell r1
                             have HS0 : Hid ((fun w' => ∃ u : Later W6, w' = u.w) W6.drew) := ⟨⟨W6.drew, (Below.refl _ _).drew⟩, rfl⟩
                             refine wp_region_noPanic ?_
                             refine wp_region_ord (fun w' => ∃ u : Later W6, w' = u.w) 17 (fun k => decide (k < 17)) (ordOf _ [0, 1, 2, 3, 4, 5, 6, 7, 8, 9, 10, 11, 12, 13, 14, 15, 16, 17, 18, 19]) (by kernel_rfl) (by kernel_rfl) (ordOf_mem _ _) (fun _ _ _ _ _ h => h) ?_
                             simp only [ordOf, List.filterMap_cons, List.filterMap_nil, List.getElem?_cons_zero, List.getElem?_cons_succ, Option.map_some]
                             iterate 17 ((first | refine ord_quiet rfl rfl rfl HS0.out ?_ | refine ord_len rfl _ _ _ Try.underlying56 _ _ _ rfl rfl rfl HS0.out ?_); intro K hK; go_big_quiet_op; go_big_quiet_on)
                             refine ord_op rfl ?_
                             go_wp2_with fail
                             refine (Awake_any _).mono ?_
                             rintro e W7 ⟨rfl, hb7⟩
                             have HB7 : Hid (Below w.heap.size w W7) := HB6.out.trans (((Below.refl _ _).drew.trans hb7).mono HB6.out.size)
                             clear hb7
                             go_wp2_with fail
                             refine mix_post (fun h => absurd h (by decide)) ?_
                             refine ord_op rfl ?_
                             go_wp2_with fail
                             refine mix_post (fun h => absurd h (by decide)) ?_
                             refine ord_op rfl ?_
                             go_wp2_with fail
                             refine mix_post (fun h => absurd h (by decide)) ?_
                             refine ord_nil ?_
                             refine NoPanic.normal ?_
                             go_wp2_with fail
                             go_ret
                             exact ⟨rfl, HB7.out⟩
                           · rw [if_neg (fun q => h400 q.2)] at hspv
                             subst hspv
                             have d3 : decide (400 ≤ y + x1) = true := by simp; omega
                             simp only [List.length_nil] at hcell
                             clear hrd
                             go_wp2_with fail
                             refine (Awake_any _).mono ?_
                             rintro e W7 ⟨rfl, hb7⟩
                             have HB7 : Hid (Below w.heap.size w W7) := HB6.out.trans (hb7.mono HB6.out.size)
                             clear hb7
                             go_wp2_with fail
                             go_ret
                             exact ⟨rfl, HB7.out⟩)
                    · subst h
                      first
                        | exact absurd g0 (by decide)
                        | (rw [if_neg (fun q => absurd (show (4 : Int) = 0 from q.1) (by decide))] at hspv
                           subst hspv
                           simp only [List.length_nil] at hcell
                           clear hrd
                           go_wp2_with fail
                           refine (Awake_any _).mono ?_
                           rintro e W7 ⟨rfl, hb7⟩
                           have HB7 : Hid (Below w.heap.size w W7) := HB6.out.trans (hb7.mono HB6.out.size)
                           clear hb7
                           go_wp2_with fail
                           go_ret
                           exact ⟨rfl, HB7.out⟩)
                · have hfb : (f != 0) = true := by simpa using hf
                  clear hf
                  go_wp2_with fail
                  refine (Awake_any _).mono ?_
                  rintro e W7 ⟨rfl, hb7⟩
                  have HB7 : Hid (Below w.heap.size w W7) := HB6.out.trans (hb7.mono HB6.out.size)
                  clear hb7
                  go_wp2_with fail
                  go_ret
                  exact ⟨rfl, HB7.out⟩
          · go_wp2_with fail
            refine (Awake_any _).mono ?_
            rintro e W4 ⟨rfl, hb4⟩
            have HB4 : Hid (Below w.heap.size w W4) := HB2.out.trans (hb4.mono HB2.out.size)
            clear hb4
            go_wp2_with fail
            go_ret
            exact ⟨rfl, HB4.out⟩
        · go_wp2_with fail
          refine (Awake_any _).mono ?_
          rintro e W4 ⟨rfl, hb4⟩
          have HB4 : Hid (Below w.heap.size w W4) := HB2.out.trans (hb4.mono HB2.out.size)
          clear hb4
          go_wp2_with fail
          go_ret
          exact ⟨rfl, HB4.out⟩
      · go_wp2_with fail
        refine (Awake_any _).mono ?_
        rintro e W4 ⟨rfl, hb4⟩
        have HB4 : Hid (Below w.heap.size w W4) := HB2.out.trans (hb4.mono HB2.out.size)
        clear hb4
        go_wp2_with fail
        go_ret
        exact ⟨rfl, HB4.out⟩
end Go.Proofs.Ytadldndpphdmpaa
