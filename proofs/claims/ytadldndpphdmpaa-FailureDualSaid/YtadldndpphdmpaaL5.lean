/- FailureCaused returns true. -/
import Derived.Test.YtadldndpphdmpaaL0
import Derived.Test.YtadldndpphdmpaaI4
import Derived.Test.YtadldndpphdmpaaHf
import Derived.Test.YtadldndpphdmpaaS3
namespace Go.Proofs.Ytadldndpphdmpaa
open Go.RowKit

set_option maxRecDepth 100000 in
set_option maxHeartbeats 8000000 in
theorem FailureCaused_any (t : List Nd) (node : Int) (l : List Int) (A : Option Addr) (n c : Nat) (ms : List NdM) (L : Option Addr) (cl : Nat) (w : World) (hT : TrM w t A n ms) (hc : n ≤ c) (hL : RdI w L l.length l) (hl : l.length ≤ 1000000000000000) :
    Calls Try.prog 7 #[.agg #[.slice A n c], .int .i64 node, .slice L l.length cl] w fun e w' => e = .returned (.bool true) ∧ Below w.heap.size w w' := by
  obtain ⟨W1, hW1⟩ : ∃ W1, w.alloc (.cells #[.slice A n c] 24) = W1 := ⟨_, rfl⟩
  have HB1 : Hid (Below w.heap.size w W1) := by rw [← hW1]; exact (Below.refl _ _).alloc (Nat.le_refl _) _
  have K1 : Hid (Blk W1 w.heap.size 24 #[.slice A n c]) := by rw [← hW1]; exact Blk.new _ _ _ rfl
  have HC := Lib.hid (Causes_any t node A n c ms W1 (hT.below HB1.out) hc)
  have HT := Lib.hid hT
  have HL := Lib.hid hL
  have HW1 := Lib.hid hW1
  clear hW1 hT hL
  by_cases he : (causesT t node).2 = 0
  · have HOk := Lib.hid he
    go_enter Try.func7, Try.ntmps7
    go_wp2_with fail
    rw [HW1.out]
    refine HC.out.mono ?_
    rintro e W2 ⟨v, ps, rfl, hr, hps, hb2⟩
    rw [he]
    have HB2 : Hid (Below w.heap.size w W2) := HB1.out.trans (hb2.mono HB1.out.size)
    have hlen : ∀ p ∈ ps, p.1.length ≤ 1000000000000000 := fun p hp => by
      obtain ⟨i, hi⟩ := List.mem_iff_getElem?.1 hp
      obtain ⟨s, e, _⟩ := cause_get he (i := i) (c := p.1) (by rw [← hps, List.getElem?_map, hi]; rfl)
      rw [e]
      have := bitsL_len s
      omega
    obtain ⟨V, cv, rfl, hLs⟩ := hr.lsm hlen
    rw [hps] at hLs
    have HLs := Lib.hid hLs
    have HPl : Hid ((causesT t node).1.length = ps.length) := by rw [← hps, List.length_map]; exact rfl
    have HPs : Hid (ps.length ≤ 1000000) := by
      rw [← HPl.out, (causes_ok he).2.2.2, List.length_map]
      have h1 : (leastN (causeP t node) (bas t)).length ≤ (subL (bas t)).length := by
        unfold leastN
        rw [(sortN_perm _).length_eq]
        exact List.length_filter_le _ _
      exact Nat.le_trans h1 (Nat.le_trans (subL_short (causes_ok he).1 (sub_all t) (bas_lt_64 (causes_ok he).1)) (by decide))
    have HK2 := Lib.hid (K1.out.later hb2)
    have hpl := HPs.out
    clear hr hps hb2 hlen hLs HC HW1 K1 he
    generalize ps.length = np at *
    go_wp2_with fail
    go_loopw [9] (fun i wr => ∃ k : Nat, k ≤ np ∧ i = .int .i64 k ∧ Below W2.heap.size W2 wr) (fun i _ => np - (intOf i).toNat)
    case atStart => exact ⟨0, Nat.zero_le _, rfl, Below.refl _ _⟩
    case round =>
      obtain ⟨k, hk, rfl, hB⟩ := hrel
      have HB := Lib.hid hB
      have HK := Lib.hid (HK2.out.later hB)
      have HBw : Hid (Below w.heap.size w wr) := HB2.out.trans (hB.mono HB2.out.size)
      clear hB
      by_cases hlt : k < np
      · obtain ⟨cs, R, cr, rd, hcs, rfl, hcell, hrI, _⟩ := (HLs.out.below HB.out).get hlt
        obtain ⟨s, rfl, hs, hp, hmin⟩ := cause_get HOk.out hcs
        obtain ⟨hok, hn0, hn1, _⟩ := causes_ok HOk.out
        have HOK := Lib.hid hok; have HS := Lib.hid hs; have HMin := Lib.hid hmin; have HN0 := Lib.hid hn0
        have hbl := bitsL_len s
        have HBl := Lib.hid hbl
        have hCE := Effects_any t (bitsL s) A n c ms R cr wr.drew (HT.out.below (HBw.out.drew)) hc (hrI.below (Below.refl _ _).drew) (by omega)
        rw [effects_bits hok hs] at hCE
        have HCE := Lib.hid hCE
        have HHas : Hid (decide (node ∈ bitsL (eff t s)) = true) := by rw [cause_eff hok hs node hn0]; exact hp
        have HEl := Lib.hid (bitsL_len (eff t s))
        have HRI := Lib.hid hrI
        have x0 := later_cell (HK.out.cell (i := 0) rfl)
        have x1 := later_cell hcell
        have HCell := Lib.hid hcell
        have hkn : (k : Int) < (np : Int) := by omega
        clear hcs hcell hrI hs hp hmin hok hn0 hn1 hCE
        go_wp2_with fail
        have HS0 : Hid ((fun w' => ∃ u : Later wr, w' = u.w) wr.drew) := ⟨⟨wr.drew, (Below.refl _ _).drew⟩, rfl⟩
        refine wp_region_noPanic ?_
        refine wp_region_ord (fun w' => ∃ u : Later wr, w' = u.w) 10 (fun k => !(k == 5 || k == 9 || k == 10)) (ordOf _ [0, 1, 2, 3, 4, 5, 6, 7, 8, 9, 10]) (by kernel_rfl) (by kernel_rfl) (ordOf_mem _ _) (fun _ _ _ _ _ h => h) ?_
        simp only [ordOf, List.filterMap_cons, List.filterMap_nil, List.getElem?_cons_zero, List.getElem?_cons_succ, Option.map_some]
        iterate 5 (refine ord_quiet rfl rfl rfl HS0.out ?_; intro K hK; go_big_quiet_op; go_big_quiet_on)
        clear x0 x1
        refine ord_op rfl ?_
        go_wp2_with fail
        refine HCE.out.mono ?_
        rintro e W3 ⟨v3, rfl, hr3, hb3⟩
        have HB3 : Hid (Below wr.heap.size wr W3) := below_of_drew hb3
        obtain ⟨A3, c3, rfl, hI3, _, _⟩ := rdI_of_own hr3 rfl
        have HI3 := Lib.hid hI3
        clear hr3 hb3 hI3 HCE
        dsimp only
        go_wp2_with fail
        have HS3 : Hid ((fun w' => ∃ u : Later wr, w' = u.w) W3) := ⟨⟨W3, HB3.out⟩, rfl⟩
        refine mix_post (fun _ => HS3.out) ?_
        iterate 3 (refine ord_quiet rfl rfl rfl HS3.out ?_; intro K hK; go_big_quiet_op; go_big_quiet_on)
        refine ord_op rfl ?_
        go_wp2_with fail
        refine mix_post (fun _ => HS3.out) ?_
        refine ord_op rfl ?_
        go_wp2_with fail
        refine mix_post (fun h => absurd h (by decide)) ?_
        refine ord_nil ?_
        refine NoPanic.normal ?_
        have hH := lhas_any (bitsL (eff t s)) node A3 (bitsL (eff t s)).length c3 W3 HI3.out (by have := HEl.out; omega)
        rw [HHas.out] at hH
        have HH := Lib.hid hH
        clear hH HS3
        go_wp2_with fail
        refine HH.out.mono ?_
        rintro e W4 ⟨rfl, hb4⟩
        have HB4 : Hid (Below wr.heap.size wr W4) := HB3.out.trans (hb4.mono HB3.out.size)
        clear hb4 HH HI3 HHas
        go_wp2_with fail
        obtain ⟨wo, rfl⟩ : ∃ wo : World, wo = wr := ⟨_, rfl⟩
        go_loopw [12] (fun i w5 => ∃ j : Nat, j ≤ (bitsL s).length ∧ i = .int .i64 j ∧ Below wo.heap.size wo w5) (fun i _ => (bitsL s).length - (intOf i).toNat)
        case atStart => exact ⟨0, Nat.zero_le _, rfl, HB4.out⟩
        case round =>
          obtain ⟨j, hj, rfl, hB5⟩ := hrel
          obtain ⟨w5, rfl⟩ : ∃ w5 : World, w5 = wr := ⟨_, rfl⟩
          have HB5 := Lib.hid hB5
          have HBw5 : Hid (Below w.heap.size w w5) := HBw.out.trans (hB5.mono HBw.out.size)
          have HK5 := Lib.hid (HK.out.later hB5)
          have hc5 := cell_below hB5 HCell.out
          have HRI5 := Lib.hid (HRI.out.below hB5)
          clear hB5
          by_cases hjl : j < (bitsL s).length
          · obtain ⟨y, yd, hy, hR, hcy⟩ := rdI_get HRI5.out hjl
            subst hR
            obtain ⟨y0, y1⟩ := (mem_bitsL (sub_lt_64 HOK.out HS.out)).1 (List.mem_of_getElem? hy)
            obtain ⟨yn, rfl⟩ : ∃ yn : Nat, y = (yn : Int) := ⟨y.toNat, by omega⟩
            simp only [Int.toNat_natCast] at y1
            have hCW := lwithout_any (bitsL s) yn (some yd) (bitsL s).length cr w5.drew (HRI5.out.below (Below.refl _ _).drew) (by omega)
            rw [bits_without (sub_lt_64 HOK.out HS.out) yn] at hCW
            have HCW := Lib.hid hCW
            have hs1 := sub1_Sub HS.out yn
            have HCE : Hid (∀ W A5 c5, Below w.heap.size w W → RdI W A5 (bitsL (sub1 s yn)).length (bitsL (sub1 s yn)) → Calls Try.prog 21 #[.agg #[.slice A n c], .slice A5 (bitsL (sub1 s yn)).length c5] W (IntsErr W (0, bitsL (eff t (sub1 s yn))))) := fun W A5 c5 hW hR => by
              have h := Effects_any t (bitsL (sub1 s yn)) A n c ms A5 c5 W (HT.out.below hW) hc hR (by have := bitsL_len (sub1 s yn); omega)
              rw [effects_bits HOK.out hs1] at h
              exact h
            have HHas : Hid (decide (node ∈ bitsL (eff t (sub1 s yn))) = false) := by rw [cause_eff HOK.out hs1 node HN0.out]; exact HMin.out yn y1
            have HEl := Lib.hid (bitsL_len (eff t (sub1 s yn)))
            have hjl' : (j : Int) < ((bitsL s).length : Int) := by omega
            have hz5 := HK5.out.cell (i := 0) rfl
            have hzz := HK5.out.lt
            clear hy y0 y1 hCW hs1
            go_wp2_with fail
            have x0 := later_cell hz5
            have x1 := later_cell hc5
            have x2 := later_cell hcy
            clear hz5 hzz hc5 hcy
            have HS5 : Hid ((fun w' => ∃ u : Later w5, w' = u.w) w5.drew) := ⟨⟨w5.drew, (Below.refl _ _).drew⟩, rfl⟩
            refine wp_region_noPanic ?_
            refine wp_region_ord (fun w' => ∃ u : Later w5, w' = u.w) 18 (fun k => !(k == 12 || k == 13 || k == 17 || k == 18)) (ordOf _ [0, 1, 2, 3, 4, 5, 6, 7, 8, 9, 10, 11, 12, 13, 14, 15, 16, 17, 18]) (by kernel_rfl) (by kernel_rfl) (ordOf_mem _ _) (fun _ _ _ _ _ h => h) ?_
            simp only [ordOf, List.filterMap_cons, List.filterMap_nil, List.getElem?_cons_zero, List.getElem?_cons_succ, Option.map_some]
            iterate 12 (refine ord_quiet rfl rfl rfl HS5.out ?_; intro K hK; go_big_quiet_op; go_big_quiet_on)
            clear x0 x1 x2
            refine ord_op rfl ?_
            go_wp2_with fail
            refine HCW.out.mono ?_
            rintro e W6 ⟨v6, rfl, hr6, hb6⟩
            have HB6 : Hid (Below w5.heap.size w5 W6) := below_of_drew hb6
            obtain ⟨A6, c6, rfl, hI6, _, _⟩ := rdI_of_own hr6 rfl
            have HCE6 := Lib.hid (HCE.out W6 A6 c6 (HBw5.out.trans (HB6.out.mono HBw5.out.size)) hI6)
            clear hr6 hb6 hI6 HCW
            go_wp2_with fail
            refine mix_post (fun _ => ⟨⟨_, HB6.out⟩, rfl⟩) ?_
            refine ord_op rfl ?_
            go_wp2_with fail
            refine HCE6.out.mono ?_
            rintro e W7 ⟨v7, rfl, hr7, hb7⟩
            have HB7 : Hid (Below w5.heap.size w5 W7) := HB6.out.trans (hb7.mono HB6.out.size)
            obtain ⟨A7, c7, rfl, hI7, _, _⟩ := rdI_of_own hr7 rfl
            have hH := lhas_any (bitsL (eff t (sub1 s yn))) node A7 (bitsL (eff t (sub1 s yn))).length c7 W7 hI7 (by have := HEl.out; omega)
            rw [HHas.out] at hH
            have HH := Lib.hid hH
            clear hr7 hb7 hI7 hH HCE6 HCE
            dsimp only
            go_wp2_with fail
            have HS7 : Hid ((fun w' => ∃ u : Later w5, w' = u.w) W7) := ⟨⟨W7, HB7.out⟩, rfl⟩
            refine mix_post (fun _ => HS7.out) ?_
            iterate 3 (refine ord_quiet rfl rfl rfl HS7.out ?_; intro K hK; go_big_quiet_op; go_big_quiet_on)
            refine ord_op rfl ?_
            go_wp2_with fail
            refine mix_post (fun _ => HS7.out) ?_
            refine ord_op rfl ?_
            go_wp2_with fail
            refine mix_post (fun h => absurd h (by decide)) ?_
            refine ord_nil ?_
            refine NoPanic.normal ?_
            clear HS7 HS5
            go_wp2_with fail
            refine HH.out.mono ?_
            rintro e W8 ⟨rfl, hb8⟩
            have HB8 : Hid (Below w5.heap.size w5 W8) := HB7.out.trans (hb8.mono HB7.out.size)
            clear hb8
            go_wp2_with fail
            go_roundw
            case rel => exact ⟨j + 1, by omega, by go_num, HB5.out.trans (HB8.out.mono HB5.out.size)⟩
            case measure => simp [intOf]; omega
          · obtain rfl : j = (bitsL s).length := by omega
            go_wp2_with fail
            go_roundw
            case rel => exact ⟨k + 1, by omega, by go_num, HB.out.trans (HB5.out.mono HB.out.size)⟩
            case measure => simp [intOf]; omega
      · obtain rfl : np = k := by omega
        have hCE := Effects_any t l A n c ms L cl wr (HT.out.below HBw.out) hc (HL.out.below HBw.out) hl
        have HCa : Hid ((effectsT t l).1 = 0 → ((causesT t node).1.any fun c => c.all fun x => decide (x ∈ l)) = decide (node ∈ (effectsT t l).2)) := fun h => caused HOk.out h
        have HEl : Hid ((effectsT t l).1 = 0 → (effectsT t l).2.length ≤ 1000000000) := fun h => by
          rw [(effectsT_ok h).2.2]
          have := bitsL_len (eff t (lstGo t l 0).2)
          omega
        have HNe : Hid (0 < np) := by
          have h := List.length_pos_iff.2 (causes_some HOk.out)
          rw [HPl.out] at h
          exact h
        have HCE := Lib.hid hCE
        have q0 := HK.out.cell (i := 0) rfl
        have qz := HK.out.lt
        clear hCE hlt
        generalize effectsT t l = E at *
        obtain ⟨e1, E2⟩ := E
        dsimp only at *
        go_wp2_with fail
        refine HCE.out.mono ?_
        rintro e W3 ⟨v3, rfl, hr3, hb3⟩
        have HB3 : Hid (Below wr.heap.size wr W3) := hb3
        have HBw3 : Hid (Below w.heap.size w W3) := HBw.out.trans (hb3.mono HBw.out.size)
        obtain ⟨A3, c3, rfl, hI3, _, _⟩ := rdI_of_own hr3 rfl
        have HI3 := Lib.hid hI3
        clear hr3 hb3 hI3 HCE q0 qz
        dsimp only
        by_cases h0 : e1 = 0
        · have hb0 : (e1 != 0) = false := by simpa using h0
          have HAny := Lib.hid (HCa.out h0)
          have HE2 := Lib.hid (HEl.out h0)
          have HLs3 := Lib.hid ((HLs.out.below HB.out).below HB3.out)
          clear h0
          go_wp2_with fail
          clear hb0
          obtain ⟨wo, rfl⟩ : ∃ wo : World, wo = wr := ⟨_, rfl⟩
          go_loopw [16, 17] (fun f i w5 => ∃ k : Nat, k ≤ np ∧ i = .int .i64 k ∧ f = .bool (((causesT t node).1.take k).any fun c => c.all fun x => decide (x ∈ l)) ∧ Below W3.heap.size W3 w5) (fun _ i _ => np - (intOf i).toNat)
          case atStart => exact ⟨0, Nat.zero_le _, rfl, by simp, Below.refl _ _⟩
          case round =>
            obtain ⟨k, hk2, rfl, rfl, hB5⟩ := hrel
            obtain ⟨w5, rfl⟩ : ∃ w5 : World, w5 = wr := ⟨_, rfl⟩
            have HB5 := Lib.hid hB5
            have HBw5 : Hid (Below w.heap.size w w5) := HBw3.out.trans (hB5.mono HBw3.out.size)
            clear hB5
            by_cases hlt : k < np
            · obtain ⟨cs, R, cr, rd, hcs, rfl, hcell, hrI, hcl5⟩ := (HLs3.out.below HB5.out).get hlt
              have HSt := Lib.hid (any_step (fun c : List Int => c.all fun x => decide (x ∈ l)) hcs)
              have HWi := Lib.hid (lwithin_any cs l R cs.length cr L l.length cl w5 hrI (HL.out.below HBw5.out) (by omega) hl)
              have hkn : (k : Int) < (np : Int) := by omega
              clear hcs hrI hcl5
              generalize (cs.all fun x => decide (x ∈ l)) = bc at *
              generalize hfb : (((causesT t node).1.take k).any fun c => c.all fun x => decide (x ∈ l)) = fb at *
              cases fb
              · have HS2 : Hid ((((causesT t node).1.take (k + 1)).any fun c => c.all fun x => decide (x ∈ l)) = bc) := by have := HSt.out; rw [Bool.false_or] at this; exact this
                clear hfb
                go_wp2_with fail
                refine HWi.out.mono ?_
                rintro e W6 ⟨rfl, hb6⟩
                have HB6 : Hid (Below W3.heap.size W3 W6) := HB5.out.trans (hb6.mono HB5.out.size)
                clear hb6 hcell
                go_wp2_with fail
                go_roundw
                case rel => exact ⟨k + 1, by omega, by go_num, by rw [HS2.out], HB6.out⟩
                case measure => simp [intOf]; omega
              · have HS2 : Hid ((((causesT t node).1.take (k + 1)).any fun c => c.all fun x => decide (x ∈ l)) = true) := by have := HSt.out; rw [Bool.true_or] at this; exact this
                clear hfb hcell
                go_wp2_with fail
                go_roundw
                case rel => exact ⟨k + 1, by omega, by go_num, by rw [HS2.out], HB5.out⟩
                case measure => simp [intOf]; omega
            · obtain rfl : np = k := by omega
              have hfin : (((causesT t node).1.take np).any fun c => c.all fun x => decide (x ∈ l)) = decide (node ∈ E2) := by
                rw [List.take_of_length_le (by have := HPl.out; omega)]
                exact HAny.out
              have HFin := Lib.hid hfin
              rw [hfin]
              clear hfin
              have HH := Lib.hid (lhas_any E2 node A3 E2.length c3 w5 (HI3.out.below HB5.out) (by have := HE2.out; omega))
              have hnp : (0 : Int) < (np : Int) := by have := HNe.out; omega
              have hnp2 : 0 < np := HNe.out
              generalize decide (node ∈ E2) = d at *
              have hdd : (d == d) = true := by simp
              go_wp2_with fail
              refine HH.out.mono ?_
              rintro e W6 ⟨rfl, hb6⟩
              have HB6 : Hid (Below w.heap.size w W6) := HBw5.out.trans (hb6.mono HBw5.out.size)
              clear hb6
              go_wp2_with fail
              refine (Awake_any _).mono ?_
              rintro e W7 ⟨rfl, hb7⟩
              have HB7 : Hid (Below w.heap.size w W7) := HB6.out.trans (hb7.mono HB6.out.size)
              clear hb7
              go_wp2_with fail
              go_ret
              exact ⟨rfl, HB7.out⟩
        · have hb0 : (e1 != 0) = true := by simpa using h0
          clear h0
          go_wp2_with fail
          refine (Awake_any _).mono ?_
          rintro e W4 ⟨rfl, hb4⟩
          have HB4 : Hid (Below w.heap.size w W4) := HBw3.out.trans (hb4.mono HBw3.out.size)
          clear hb4
          go_wp2_with fail
          go_ret
          exact ⟨rfl, HB4.out⟩
  · have HNo := Lib.hid (causes_err he)
    go_enter Try.func7, Try.ntmps7
    go_wp2_with fail
    rw [HW1.out]
    refine HC.out.mono ?_
    rintro e W2 ⟨v, ps, rfl, hr, hps, hb2⟩
    have HB2 : Hid (Below w.heap.size w W2) := HB1.out.trans (hb2.mono HB1.out.size)
    rw [HNo.out] at hps
    obtain rfl := List.map_eq_nil_iff.1 hps
    obtain ⟨A3, c3, rfl, _⟩ := own_slice hr.1
    have hb0 : ((causesT t node).2 != 0) = true := by simpa using he
    clear hr hps hb2 he
    generalize (causesT t node).2 = x at *
    dsimp only [List.length_nil]
    go_wp2_with fail
    refine (Awake_any _).mono ?_
    rintro e W4 ⟨rfl, hb4⟩
    have HB4 : Hid (Below w.heap.size w W4) := HB2.out.trans (hb4.mono HB2.out.size)
    clear hb4
    go_wp2_with fail
    go_ret
    exact ⟨rfl, HB4.out⟩
end Go.Proofs.Ytadldndpphdmpaa
