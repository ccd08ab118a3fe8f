/- FailureWeights returns true. -/
import Derived.Test.YtadldndpphdmpaaP9
import Derived.Test.YtadldndpphdmpaaP10
import Derived.Test.YtadldndpphdmpaaI4
import Derived.Test.YtadldndpphdmpaaS3
namespace Go.Proofs.Ytadldndpphdmpaa
open Go.RowKit Go.Shelf

theorem two_box4 (w : World) (cs ds : Array Value) (t1 t2 : TypeId) : ∀ W, (w.alloc (.cells cs t1)).alloc (.cells ds t2) = W →
    Below w.heap.size w W ∧ Blk W w.heap.size t1 cs ∧ Blk W (w.heap.size + 1) t2 ds := by
  rintro W rfl
  exact ⟨((Below.refl _ w).alloc (Nat.le_refl _) _).alloc (by simp) _, (Blk.new _ _ _ rfl).alloc _, Blk.new _ _ _ (by simp)⟩
theorem least_short3 {t : List Nd} (h : TrOk t) (p : Nat → Bool) : (leastN p (bas t)).length ≤ 1000000 := by
  have h1 : (leastN p (bas t)).length ≤ (subL (bas t)).length := by
    unfold leastN
    rw [(sortN_perm _).length_eq]
    exact List.length_filter_le _ _
  exact Nat.le_trans h1 (Nat.le_trans (subL_short h (sub_all t) (bas_lt_64 h)) (by decide))
/-- The basic nodes among the first k. -/
def nbk (t : List Nd) (k : Nat) : Nat := ((List.range k).filter (isBas t)).length
theorem nbk_succ (t : List Nd) (k : Nat) : nbk t (k + 1) = nbk t k + if isBas t k = true then 1 else 0 := by
  unfold nbk
  rw [List.range_succ, List.filter_append, List.length_append]
  by_cases h : isBas t k = true <;> simp [h]
theorem nbk_le (t : List Nd) (k : Nat) : nbk t k ≤ k := by
  unfold nbk
  exact Nat.le_trans (List.length_filter_le _ _) (by simp)
theorem has_mem {c : List (List Int)} {x : Int} : (c.any fun s => decide (x ∈ s)) = true ↔ ∃ s ∈ c, x ∈ s := by
  rw [List.any_eq_true]
  constructor
  · rintro ⟨s, h1, h2⟩; exact ⟨s, h1, by simpa using h2⟩
  · rintro ⟨s, h1, h2⟩; exact ⟨s, h1, by simpa using h2⟩

set_option maxRecDepth 100000 in
set_option maxHeartbeats 8000000 in
theorem FailureWeights_any (t : List Nd) (x0 x1 : Int) (A : Option Addr) (n c : Nat) (ms : List NdM) (w : World) (hT : TrM w t A n ms) (hc : n ≤ c) :
    Calls Try.prog 16 #[.agg #[.slice A n c], .agg #[.int .i64 x0, .int .i64 x1]] w fun e w' => e = .returned (.bool true) ∧ Below w.heap.size w w' := by
  obtain ⟨W1, hW1⟩ : ∃ W1, (w.alloc (.cells #[.slice A n c] 24)).alloc (.cells #[.int .i64 x0, .int .i64 x1] 36) = W1 := ⟨_, rfl⟩
  obtain ⟨b1, b2, b3⟩ := two_box4 w _ _ _ _ W1 hW1
  have HB1 := Lib.hid b1; have K1 := Lib.hid b2; have K2 := Lib.hid b3
  have C1 := Lib.hid (Weight_any t x0 x1 A n c ms W1 (hT.below b1) hc)
  have C2 := Lib.hid (fun (W : World) (h : Below w.heap.size w W) => Causes_any t x0 A n c ms W (hT.below h) hc)
  have C3 := Lib.hid (fun (W : World) (h : Below w.heap.size w W) => Guards_any t x0 A n c ms W (hT.below h) hc)
  have C4 := Lib.hid (fun (W : World) (h : Below w.heap.size w W) => Count_any t x0 A n c ms W (hT.below h) hc)
  have HT := Lib.hid hT
  have HW1 := Lib.hid hW1
  clear hW1 hT b1 b2 b3
  have q0 := K1.out.cell (i := 0) rfl
  have q1 := K2.out.cell (i := 0) rfl
  have q2 := K2.out.cell (i := 1) rfl
  have qz := K1.out.lt
  have qz2 := K2.out.lt
  go_enter Try.func16, Try.ntmps16
  go_wp2_with fail
  rw [HW1.out]
  go_wp2_with fail
  refine C1.out.mono ?_
  rintro e W2 ⟨rfl, hb2⟩
  have HB2 : Hid (Below w.heap.size w W2) := HB1.out.trans (hb2.mono HB1.out.size)
  have M1 := Lib.hid (K1.out.later hb2); have M2 := Lib.hid (K2.out.later hb2)
  clear hb2 q0 q1 q2 qz qz2 HW1 K1 K2 C1
  by_cases ha : askT t x0 = 0
  · by_cases hb : basI t x1 = true
    · have hwt : weightT t x0 x1 = ((wtN t x0.toNat x1.toNat : Int), 0) := by unfold weightT; rw [if_neg (fun c => c ha), if_neg (by rw [hb]; decide)]
      rw [hwt]
      dsimp only
      obtain ⟨i0, i1, i2⟩ := basI_nat hb
      obtain ⟨xn, rfl⟩ : ∃ xn : Nat, x1 = (xn : Int) := ⟨x1.toNat, by omega⟩
      rw [Int.toNat_natCast] at i1 i2 ⊢
      obtain ⟨hok, y0, y1⟩ := ask_ok ha
      have hcs := wt_cause ha i2
      have hgs := wt_guard ha i2
      have hce : (causesT t x0).2 = 0 := by rw [causes_ask, ha]
      have hge : (guardsT t x0).2 = 0 := by rw [guards_ask, ha]
      have hcn : countT t x0 = ((cntN t x0.toNat : Int), 0) := by unfold countT; rw [if_neg (fun c => c ha)]
      have hcp := cnt_pos hok (y := x0.toNat) (by omega)
      have hcl := cnt_lt hok x0.toNat
      have hwl := wt_le hok x0.toNat i2
      have hb10 := hok.b10
      have hp10 : 2 ^ nBas t ≤ 1024 := Nat.le_trans (Nat.pow_le_pow_right (by decide) hb10) (by decide)
      have HCa : Hid ((causesT t x0).1.any (fun s => decide ((xn : Int) ∈ s)) = decide (0 < wtN t x0.toNat xn)) := by
        show _ = _
        rw [Bool.eq_iff_iff, has_mem, decide_eq_true_eq, hcs]
      have HGa : Hid ((guardsT t x0).1.any (fun s => decide ((xn : Int) ∈ s)) = decide (0 < wtN t x0.toNat xn)) := by
        show _ = _
        rw [Bool.eq_iff_iff, has_mem, decide_eq_true_eq, hgs]
      have HLc : Hid ((causesT t x0).1.length ≤ 1000000) := by
        show _ ≤ _
        rw [(causes_ok hce).2.2.2, List.length_map]
        exact least_short3 hok _
      have HLg : Hid ((guardsT t x0).1.length ≤ 1000000) := by
        show _ ≤ _
        rw [(guards_ok hge).2.2.2, List.length_map]
        exact least_short3 hok _
      have HSc : Hid (∀ s ∈ (causesT t x0).1, s.length ≤ 64) := fun s hs => by
        rw [(causes_ok hce).2.2.2] at hs
        obtain ⟨m, _, rfl⟩ := List.mem_map.1 hs
        exact bitsL_len m
      have HSg : Hid (∀ s ∈ (guardsT t x0).1, s.length ≤ 64) := fun s hs => by
        rw [(guards_ok hge).2.2.2] at hs
        obtain ⟨m, _, rfl⟩ := List.mem_map.1 hs
        exact bitsL_len m
      have HNb : Hid (nBas t = nbk t n) := by show _ = _; rw [nBas_eq, HT.out.len]; rfl
      have hn40 : n ≤ 40 := by have := hok.l40; have := HT.out.len; omega
      have HC4 : Hid (∀ W, Below w.heap.size w W → Calls Try.prog 41 #[.agg #[.slice A n c], .int .i64 x0] W fun e w' => e = .returned (.tuple #[.int .i64 (cntN t x0.toNat), .int .i64 0]) ∧ Below W.heap.size W w') := fun W h => by
        have := C4.out W h
        rw [hcn] at this
        exact this
      generalize hwv : wtN t x0.toNat xn = wv at *
      generalize hcv : cntN t x0.toNat = cv at *
      clear hcs hgs hcn hwt hwv hcv ha hb i0 i1 i2 hok y0 y1 C4
      have q0 := M1.out.cell (i := 0) rfl
      have q1 := M2.out.cell (i := 0) rfl
      have qz := M1.out.lt
      have qz2 := M2.out.lt
      go_wp2_with fail
      refine (C2.out _ HB2.out).mono ?_
      rintro e W3 ⟨v3, ps, rfl, hr3, hps, hb3⟩
      rw [hce]
      obtain ⟨V, cw, rfl, hLs⟩ := hr3.lsm (fun p hp => by have := HSc.out p.1 (by rw [← hps]; exact List.mem_map_of_mem hp); omega)
      rw [hps] at hLs
      have HPs : Hid (ps.length ≤ 1000000) := by have := HLc.out; rw [← hps, List.length_map] at this; exact this
      have HPe : Hid ((causesT t x0).1.length = ps.length) := by show _ = _; rw [← hps, List.length_map]
      have HB3 : Hid (Below w.heap.size w W3) := HB2.out.trans (hb3.mono HB2.out.size)
      have N1 := Lib.hid (M1.out.later hb3); have N2 := Lib.hid (M2.out.later hb3)
      have HLs := Lib.hid hLs
      clear hr3 hps hb3 hLs q0 q1 qz qz2 C2 HLc HSc hce
      dsimp only
      have q0 := N1.out.cell (i := 0) rfl
      have q1 := N2.out.cell (i := 0) rfl
      have qz := N1.out.lt
      have qz2 := N2.out.lt
      go_wp2_with fail
      refine (C3.out _ HB3.out).mono ?_
      rintro e W4 ⟨v4, gs, rfl, hr4, hgs, hb4⟩
      rw [hge]
      obtain ⟨V2, cw2, rfl, hLs2⟩ := hr4.lsm (fun p hp => by have := HSg.out p.1 (by rw [← hgs]; exact List.mem_map_of_mem hp); omega)
      rw [hgs] at hLs2
      have HGs : Hid (gs.length ≤ 1000000) := by have := HLg.out; rw [← hgs, List.length_map] at this; exact this
      have HGe : Hid ((guardsT t x0).1.length = gs.length) := by show _ = _; rw [← hgs, List.length_map]
      have HB4 : Hid (Below w.heap.size w W4) := HB3.out.trans (hb4.mono HB3.out.size)
      have O1 := Lib.hid (N1.out.later hb4); have O2 := Lib.hid (N2.out.later hb4)
      have HLs3 := Lib.hid (HLs.out.below hb4)
      have HLs4 := Lib.hid hLs2
      clear hr4 hgs hb4 hLs2 q0 q1 qz qz2 C3 HLg HSg hge HLs
      dsimp only
      have q0 := O1.out.cell (i := 0) rfl
      have q1 := O2.out.cell (i := 0) rfl
      have qz := O1.out.lt
      have qz2 := O2.out.lt
      go_wp2_with fail
      refine (HC4.out _ HB4.out).mono ?_
      rintro e W5 ⟨rfl, hb5⟩
      have HB5 : Hid (Below w.heap.size w W5) := HB4.out.trans (hb5.mono HB4.out.size)
      have P1 := Lib.hid (O1.out.later hb5); have P2 := Lib.hid (O2.out.later hb5)
      have HLs5 := Lib.hid (HLs3.out.below hb5)
      have HLs6 := Lib.hid (HLs4.out.below hb5)
      clear hb5 q0 q1 qz qz2 HC4 HLs3 HLs4
      have hw0 : decide ((wv : Int) < 0) = false := decide_eq_false (by omega)
      have hps := HPs.out
      have hgs := HGs.out
      go_wp2_with fail
      clear hw0
      go_loopw [12, 14] (fun v i wr => ∃ k : Nat, k ≤ ps.length ∧ i = .int .i64 k ∧ v = .bool (((causesT t x0).1.take k).any fun s => decide ((xn : Int) ∈ s)) ∧ Below W5.heap.size W5 wr) (fun _ i _ => ps.length - (intOf i).toNat)
      case atStart => exact ⟨0, Nat.zero_le _, rfl, rfl, Below.refl _ _⟩
      case round =>
        obtain ⟨k, hk, rfl, rfl, hB⟩ := hrel
        have HB := Lib.hid hB; clear hB
        by_cases hlt : k < ps.length
        · obtain ⟨s, R, cr, rd, hs, rfl, hcell, hrI, hsl⟩ := (HLs5.out.below HB.out).get hlt
          have HSt := Lib.hid (any_step (fun s => decide ((xn : Int) ∈ s)) hs)
          have hkn : (k : Int) < (ps.length : Int) := by omega
          have HB6 : Hid (Below wr.heap.size wr wr.drew) := (Below.refl _ _).drew
          have HB7 : Hid (Below W5.heap.size W5 wr.drew) := HB.out.drew
          have HH := Lib.hid (lhas_any s xn R s.length cr wr.drew (hrI.below HB6.out) (by omega))
          have HD0 := Lib.hid hcell
          clear hs hcell hrI
          try dsimp only at HSt
          go_wp2_with fail
          have HS0 : Hid ((fun w' => ∃ u : Later wr, w' = u.w) wr.drew) := ⟨⟨wr.drew, HB6.out⟩, rfl⟩
          have y0 := later_cell HD0.out
          have y1 := later_cell ((P2.out.later HB.out).cell (i := 1) rfl)
          refine wp_region_noPanic ?_
          refine wp_region_ord (fun w' => ∃ u : Later wr, w' = u.w) 8 (fun k => decide (k < 8)) (ordOf _ [0, 1, 2, 3, 4, 5, 6, 7, 8, 9, 10]) (by kernel_rfl) (by kernel_rfl) (ordOf_mem _ _) (fun _ _ _ _ _ h => h) ?_
          simp only [ordOf, List.filterMap_cons, List.filterMap_nil, List.getElem?_cons_zero, List.getElem?_cons_succ, Option.map_some]
          cases hd : ((causesT t x0).1.take k).any fun s => decide ((xn : Int) ∈ s)
          · have HS2 : Hid ((((causesT t x0).1.take (k + 1)).any fun s => decide ((xn : Int) ∈ s)) = decide ((xn : Int) ∈ s)) := by show _ = _; rw [HSt.out, hd]; exact Bool.false_or _
            clear HSt
            iterate 8 (refine ord_quiet rfl rfl rfl HS0.out ?_; intro K hK; go_big_quiet_op; go_big_quiet_on)
            clear y0 y1 HS0 hd
            generalize decide ((xn : Int) ∈ s) = dd at *
            refine ord_op rfl ?_
            go_wp2_with fail
            refine HH.out.mono ?_
            rintro e W6 ⟨rfl, hb6⟩
            have HB8 : Hid (Below W5.heap.size W5 W6) := HB.out.trans ((below_of_drew hb6).mono HB.out.size)
            clear hb6
            go_wp2_with fail
            refine mix_post (fun h => absurd h (by decide)) ?_
            iterate 2 (refine ord_op rfl ?_; go_wp2_with fail; refine mix_post (fun h => absurd h (by decide)) ?_)
            refine ord_nil ?_
            refine NoPanic.normal ?_
            go_wp2_with fail
            go_roundw
            case rel => exact ⟨k + 1, by omega, by go_num, by rw [HS2.out], HB8.out⟩
            case measure => simp [intOf]; omega
          · have HS2 : Hid ((((causesT t x0).1.take (k + 1)).any fun s => decide ((xn : Int) ∈ s)) = true) := by show _ = _; rw [HSt.out, hd]; exact Bool.true_or _
            clear HSt
            iterate 2 (refine ord_quiet rfl rfl rfl HS0.out ?_; intro K hK; go_big_quiet_op; go_big_quiet_on)
            iterate 6 (refine ord_skip rfl rfl HS0.out ?_; simp only [Act.put, List.setIfInBounds_toArray, List.set_cons_succ, List.set_cons_zero])
            clear y0 y1 HS0 hd
            iterate 3 (refine ord_op rfl ?_; go_wp2_with fail; refine mix_post (fun h => absurd h (by decide)) ?_)
            refine ord_nil ?_
            refine NoPanic.normal ?_
            go_wp2_with fail
            go_roundw
            case rel => exact ⟨k + 1, by omega, by go_num, by rw [HS2.out], HB7.out⟩
            case measure => simp [intOf]; omega
        · obtain rfl : k = ps.length := by omega
          rw [← HPe.out, List.take_length, HCa.out]
          have HBw : Hid (Below w.heap.size w wr) := HB5.out.trans (HB.out.mono HB5.out.size)
          go_wp2_with fail
          obtain ⟨wo, rfl⟩ : ∃ wo : World, wo = wr := ⟨_, rfl⟩
          go_loopw [13, 15] (fun v i wr => ∃ k : Nat, k ≤ gs.length ∧ i = .int .i64 k ∧ v = .bool (((guardsT t x0).1.take k).any fun s => decide ((xn : Int) ∈ s)) ∧ Below W5.heap.size W5 wr) (fun _ i _ => gs.length - (intOf i).toNat)
          case atStart => exact ⟨0, Nat.zero_le _, rfl, rfl, HB.out⟩
          case round =>
            obtain ⟨k, hk, rfl, rfl, hB⟩ := hrel
            clear HB
            have HB := Lib.hid hB; clear hB
            by_cases hlt : k < gs.length
            · obtain ⟨s, R, cr, rd, hs, rfl, hcell, hrI, hsl⟩ := (HLs6.out.below HB.out).get hlt
              have HSt := Lib.hid (any_step (fun s => decide ((xn : Int) ∈ s)) hs)
              have hkn : (k : Int) < (gs.length : Int) := by omega
              have HB6 : Hid (Below wr.heap.size wr wr.drew) := (Below.refl _ _).drew
              have HB7 : Hid (Below W5.heap.size W5 wr.drew) := HB.out.drew
              have HH := Lib.hid (lhas_any s xn R s.length cr wr.drew (hrI.below HB6.out) (by omega))
              have HD0 := Lib.hid hcell
              clear hs hcell hrI
              try dsimp only at HSt
              go_wp2_with fail
              have HS0 : Hid ((fun w' => ∃ u : Later wr, w' = u.w) wr.drew) := ⟨⟨wr.drew, HB6.out⟩, rfl⟩
              have y0 := later_cell HD0.out
              have y1 := later_cell ((P2.out.later HB.out).cell (i := 1) rfl)
              refine wp_region_noPanic ?_
              refine wp_region_ord (fun w' => ∃ u : Later wr, w' = u.w) 8 (fun k => decide (k < 8)) (ordOf _ [0, 1, 2, 3, 4, 5, 6, 7, 8, 9, 10]) (by kernel_rfl) (by kernel_rfl) (ordOf_mem _ _) (fun _ _ _ _ _ h => h) ?_
              simp only [ordOf, List.filterMap_cons, List.filterMap_nil, List.getElem?_cons_zero, List.getElem?_cons_succ, Option.map_some]
              cases hd : ((guardsT t x0).1.take k).any fun s => decide ((xn : Int) ∈ s)
              · have HS2 : Hid ((((guardsT t x0).1.take (k + 1)).any fun s => decide ((xn : Int) ∈ s)) = decide ((xn : Int) ∈ s)) := by show _ = _; rw [HSt.out, hd]; exact Bool.false_or _
                clear HSt
                iterate 8 (refine ord_quiet rfl rfl rfl HS0.out ?_; intro K hK; go_big_quiet_op; go_big_quiet_on)
                clear y0 y1 HS0 hd
                generalize decide ((xn : Int) ∈ s) = dd at *
                refine ord_op rfl ?_
                go_wp2_with fail
                refine HH.out.mono ?_
                rintro e W6 ⟨rfl, hb6⟩
                have HB8 : Hid (Below W5.heap.size W5 W6) := HB.out.trans ((below_of_drew hb6).mono HB.out.size)
                clear hb6
                go_wp2_with fail
                refine mix_post (fun h => absurd h (by decide)) ?_
                iterate 2 (refine ord_op rfl ?_; go_wp2_with fail; refine mix_post (fun h => absurd h (by decide)) ?_)
                refine ord_nil ?_
                refine NoPanic.normal ?_
                go_wp2_with fail
                go_roundw
                case rel => exact ⟨k + 1, by omega, by go_num, by rw [HS2.out], HB8.out⟩
                case measure => simp [intOf]; omega
              · have HS2 : Hid ((((guardsT t x0).1.take (k + 1)).any fun s => decide ((xn : Int) ∈ s)) = true) := by show _ = _; rw [HSt.out, hd]; exact Bool.true_or _
                clear HSt
                iterate 2 (refine ord_quiet rfl rfl rfl HS0.out ?_; intro K hK; go_big_quiet_op; go_big_quiet_on)
                iterate 6 (refine ord_skip rfl rfl HS0.out ?_; simp only [Act.put, List.setIfInBounds_toArray, List.set_cons_succ, List.set_cons_zero])
                clear y0 y1 HS0 hd
                iterate 3 (refine ord_op rfl ?_; go_wp2_with fail; refine mix_post (fun h => absurd h (by decide)) ?_)
                refine ord_nil ?_
                refine NoPanic.normal ?_
                go_wp2_with fail
                go_roundw
                case rel => exact ⟨k + 1, by omega, by go_num, by rw [HS2.out], HB7.out⟩
                case measure => simp [intOf]; omega
            · obtain rfl : k = gs.length := by omega
              rw [← HGe.out, List.take_length, HGa.out]
              have HBw : Hid (Below w.heap.size w wr) := HB5.out.trans (HB.out.mono HB5.out.size)
              go_wp2_with fail
              obtain ⟨wo2, rfl⟩ : ∃ wo2 : World, wo2 = wr := ⟨_, rfl⟩
              go_loopw [16, 17] (fun v i wr => ∃ k : Nat, k ≤ n ∧ i = .int .i64 k ∧ v = .int .i64 ((2 ^ nbk t k : Nat) : Int) ∧ Below W5.heap.size W5 wr) (fun _ i _ => n - (intOf i).toNat)
              case atStart => exact ⟨0, Nat.zero_le _, rfl, rfl, HB.out⟩
              case round =>
                obtain ⟨k, hk, rfl, rfl, hB⟩ := hrel
                clear HB
                have HB := Lib.hid hB; clear hB
                have HBw2 : Hid (Below w.heap.size w wr) := HB5.out.trans (HB.out.mono HB5.out.size)
                have k0 := (P1.out.later HB.out).cell (i := 0) rfl
                have kz := (P1.out.later HB.out).lt
                have hnb := nbk_le t k
                have hpw : 2 ^ nbk t k ≤ 1099511627776 := Nat.le_trans (Nat.pow_le_pow_right (by decide) (Nat.le_trans hnb (Nat.le_trans hk hn40))) (by decide)
                by_cases hlt : k < n
                · obtain ⟨m, ad, hm, hA, hcs, _⟩ := (HT.out.below HBw2.out).get hlt
                  subst hA
                  have hbk := isBas_kind hm
                  have hsu := nbk_succ t k
                  rw [hbk] at hsu
                  have HSu := Lib.hid hsu
                  obtain ⟨c0, c1, c2, c3, c4⟩ := hcs.five
                  have hkn : (k : Int) < (n : Int) := by omega
                  clear hm hcs hbk hsu c0 c2 c3 c4
                  obtain ⟨⟨na, ki, li, cn, ho⟩, A2, c2'⟩ := m
                  dsimp only at *
                  generalize hpv : 2 ^ nbk t k = pv at *
                  have HPv := Lib.hid hpv
                  clear hpv
                  cases hq : (ki == 1)
                  · have HS2 : Hid (2 ^ nbk t (k + 1) = pv) := by show _ = _; have := HSu.out; rw [hq] at this; have e : nbk t (k + 1) = nbk t k := this; rw [e]; exact HPv.out
                    go_wp2_with fail
                    go_roundw
                    case rel => exact ⟨k + 1, by omega, by go_num, by rw [HS2.out], HB.out⟩
                    case measure => simp [intOf]; omega
                  · have HS2 : Hid (2 ^ nbk t (k + 1) = 2 * pv) := by show _ = _; have := HSu.out; rw [hq] at this; have e : nbk t (k + 1) = nbk t k + 1 := this; rw [e, Nat.pow_succ, HPv.out, Nat.mul_comm]
                    have hw2 : IntKind.i64.wrap (2 * (pv : Int)) = ((2 * pv : Nat) : Int) := by rw [IntWalk.i64_in _ ⟨by omega, by omega⟩]; omega
                    go_wp2_with fail
                    go_roundw
                    case rel => exact ⟨k + 1, by omega, by go_num, by rw [HS2.out] <;> go_num, HB.out⟩
                    case measure => simp [intOf]; omega
                · obtain rfl : n = k := by omega
                  have hN := HNb.out
                  rw [← hN]
                  generalize 2 ^ nBas t = al at *
                  clear hnb hpw hN HNb
                  have f1 : (decide ((0 : Int) < (wv : Int)) == decide (0 < wv)) = true := by simp
                  have f2 : (decide (0 < wv) == decide (0 < wv)) = true := by simp
                  have f3 : decide ((0 : Int) < (cv : Int)) = true := decide_eq_true (by omega)
                  have f4 : decide ((cv : Int) < (al : Int)) = true := decide_eq_true (by omega)
                  have hw2 : IntKind.i64.wrap (2 * (wv : Int)) = 2 * (wv : Int) := IntWalk.i64_in _ ⟨by omega, by omega⟩
                  have f5 : decide (2 * (wv : Int) ≤ (al : Int)) = true := decide_eq_true (by omega)
                  go_wp2_with fail
                  refine (Awake_any _).mono ?_
                  rintro e W7 ⟨rfl, hb7⟩
                  have HB9 : Hid (Below w.heap.size w W7) := HBw2.out.trans (hb7.mono HBw2.out.size)
                  clear hb7
                  go_wp2_with fail
                  go_ret
                  exact ⟨rfl, HB9.out⟩
    · have hwt : weightT t x0 x1 = (0, 4) := by unfold weightT; rw [if_neg (fun c => c ha), if_pos (by simpa using hb)]
      rw [hwt]
      dsimp only
      go_wp2_with fail
      refine (Awake_any _).mono ?_
      rintro e W7 ⟨rfl, hb7⟩
      have HB9 : Hid (Below w.heap.size w W7) := HB2.out.trans (hb7.mono HB2.out.size)
      clear hb7
      go_wp2_with fail
      go_ret
      exact ⟨rfl, HB9.out⟩
  · have hwt : weightT t x0 x1 = (0, askT t x0) := by unfold weightT; rw [if_pos ha]
    rw [hwt]
    have hne : (askT t x0 != 0) = true := by simpa using ha
    dsimp only
    clear hwt ha
    generalize askT t x0 = ee at *
    go_wp2_with fail
    refine (Awake_any _).mono ?_
    rintro e W7 ⟨rfl, hb7⟩
    have HB9 : Hid (Below w.heap.size w W7) := HB2.out.trans (hb7.mono HB2.out.size)
    clear hb7
    go_wp2_with fail
    go_ret
    exact ⟨rfl, HB9.out⟩
end Go.Proofs.Ytadldndpphdmpaa
