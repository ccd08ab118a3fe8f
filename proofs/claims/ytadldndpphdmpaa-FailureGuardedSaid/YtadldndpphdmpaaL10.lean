/- FailureGuarded returns true. -/
import Derived.Test.YtadldndpphdmpaaHl
import Derived.Test.YtadldndpphdmpaaL2
import Derived.Test.YtadldndpphdmpaaL0
import Derived.Test.YtadldndpphdmpaaL5
namespace Go.Proofs.Ytadldndpphdmpaa
open Go.RowKit Go.Shelf

theorem disL_take {s g : List Int} {k : Nat} {x : Int} (h : s[k]? = some x) : disL (s.take (k + 1)) g = (disL (s.take k) g && !decide (x ∈ g)) := by
  obtain ⟨hk, rfl⟩ := List.getElem?_eq_some_iff.1 h
  unfold disL
  rw [List.take_succ_eq_append_getElem hk, List.all_append]
  simp
theorem least_short {t : List Nd} (h : TrOk t) (p : Nat → Bool) : (leastN p (bas t)).length ≤ 1000000 := by
  have h1 : (leastN p (bas t)).length ≤ (subL (bas t)).length := by
    unfold leastN
    rw [(sortN_perm _).length_eq]
    exact List.length_filter_le _ _
  exact Nat.le_trans h1 (Nat.le_trans (subL_short h (sub_all t) (bas_lt_64 h)) (by decide))
theorem lists_short {t : List Nd} {y : Int} (ha : askT t y = 0) : (guardsT t y).1.length ≤ 1000000 ∧ (causesT t y).1.length ≤ 1000000 := by
  unfold guardsT causesT
  rw [ask_about, if_neg (fun c => c ha), if_neg (fun c => c ha), List.length_map, List.length_map]
  exact ⟨least_short (ask_ok ha).1 _, least_short (ask_ok ha).1 _⟩

set_option maxRecDepth 100000 in
set_option maxHeartbeats 8000000 in
theorem FailureGuarded_any (t : List Nd) (y : Int) (s g : List Int) (A : Option Addr) (n c : Nat) (ms : List NdM) (L : Option Addr) (cl : Nat) (G : Option Addr) (cg : Nat) (w : World) (hT : TrM w t A n ms) (hc : n ≤ c) (hL : RdI w L s.length s) (hl : s.length ≤ 1000000000000000) (hG : RdI w G g.length g) (hg : g.length ≤ 1000000000000000) :
    Calls Try.prog 10 #[.agg #[.slice A n c], .int .i64 y, .agg #[.slice L s.length cl, .slice G g.length cg]] w fun e w' => e = .returned (.bool true) ∧ Below w.heap.size w w' := by
  obtain ⟨W1, hW1⟩ : ∃ W1, (w.alloc (.cells #[.slice A n c] 24)).alloc (.cells #[.slice L s.length cl, .slice G g.length cg] 40) = W1 := ⟨_, rfl⟩
  obtain ⟨b1, b2, b3⟩ := two_sl w _ _ _ _ _ W1 hW1
  have HB1 := Lib.hid b1; have K1 := Lib.hid b2; have K2 := Lib.hid b3
  have C0 := Lib.hid (fun (W : World) (h : Below w.heap.size w W) (x : List Int) (X : Option Addr) (cx : Nat) (hx : RdI W X x.length x) (hxl : x.length ≤ 1000000000000000) => Proves_any t y [] x A n c ms none 0 X cx W (hT.below h) hc ⟨rfl, fun i x hx => by simp at hx⟩ (by simp) hx hxl)
  have C1 := Lib.hid (fun (W : World) (h : Below w.heap.size w W) => C0.out W h g G cg (hG.below h) hg)
  have C2 := Lib.hid (fun (W : World) (h : Below w.heap.size w W) => Effects_any t s A n c ms L cl W (hT.below h) hc (hL.below h) hl)
  have C3 := Lib.hid (fun (W : World) (h : Below w.heap.size w W) => Proves_any t y s g A n c ms L cl G cg W (hT.below h) hc (hL.below h) hl (hG.below h) hg)
  have C4 := Lib.hid (fun (W : World) (h : Below w.heap.size w W) => Guards_any t y A n c ms W (hT.below h) hc)
  have C5 := Lib.hid (fun (W : World) (h : Below w.heap.size w W) => Causes_any t y A n c ms W (hT.below h) hc)
  have HL := Lib.hid hL; have HG := Lib.hid hG
  have HW1 := Lib.hid hW1
  have HEl := Lib.hid (effects_len t s)
  have HNe := Lib.hid (fun h => proves_nil_err (t := t) (y := y) (g := g) h)
  have HEo := Lib.hid (fun h => effectsT_ok (t := t) (l := s) h)
  have HG1 := Lib.hid (fun h1 h2 hp hd => guarded1 (t := t) (y := y) (s := s) (g := g) h1 h2 hp hd)
  have HPn := Lib.hid (fun h1 h2 => proves_nil (t := t) (y := y) (g := g) h1 h2)
  clear hW1 hT hL hG b1 b2 b3
  generalize provesT t y [] g = Y0 at *
  generalize effectsT t s = Z at *
  obtain ⟨p0, e0⟩ := Y0
  obtain ⟨e2, EF⟩ := Z
  dsimp only at *
  go_enter Try.func10, Try.ntmps10
  have k0 := K2.out.cell (i := 0) rfl
  have k1 := K2.out.cell (i := 1) rfl
  have kz := K2.out.lt
  go_wp2_with fail
  rw [HW1.out]
  go_wp2_with fail
  refine (C1.out _ HB1.out).mono ?_
  rintro e W2 ⟨rfl, hb2⟩
  have HB2 : Hid (Below w.heap.size w W2) := HB1.out.trans (hb2.mono HB1.out.size)
  have HM1 := Lib.hid (K1.out.later hb2)
  have HM2 := Lib.hid (K2.out.later hb2)
  clear hb2 k0 k1 kz HW1 K1 K2
  have q0 := HM1.out.cell (i := 0) rfl
  have qz := HM1.out.lt
  have r0 := HM2.out.cell (i := 0) rfl
  have r1 := HM2.out.cell (i := 1) rfl
  have rz := HM2.out.lt
  go_wp2_with fail
  refine (C2.out _ HB2.out).mono ?_
  rintro e W3 ⟨v3, rfl, hr3, hb3⟩
  have HB3 : Hid (Below w.heap.size w W3) := HB2.out.trans (hb3.mono HB2.out.size)
  have HN1 := Lib.hid (HM1.out.later hb3)
  have HN2 := Lib.hid (HM2.out.later hb3)
  obtain ⟨A3, c3, rfl, hI3, _, _⟩ := rdI_of_own hr3 rfl
  have HI3 := Lib.hid hI3
  clear hb3 hr3 hI3 q0 qz r0 r1 rz HM1 HM2
  dsimp only
  cases q1 : (e0 != 0)
  · cases q2 : (e2 != 0)
    · have he0 : e0 = 0 := by simpa using q1
      have he2 : e2 = 0 := by simpa using q2
      obtain ⟨hok, y0, y1, ha, hsg⟩ := HNe.out he0
      have HOk := Lib.hid hok; have HA := Lib.hid ha; have HSg := Lib.hid hsg
      have HSs := Lib.hid (HEo.out he2).2.1
      have HP0 : Hid (p0 = soundB t y.toNat (lstGo t g 0).2) := congrArg Prod.fst (HPn.out ha hsg)
      have HGu : Hid (p0 = true → disL s g = true → y ∉ EF) := fun h1 h2 => HG1.out he0 he2 h1 h2
      have HP1 : Hid (provesT t y s g = (disL s g && p0, 0)) := by rw [proves_eq ha HSs.out hsg, HP0.out]; exact rfl
      have HGe := Lib.hid (guards_err ha)
      have HLg : Hid (∀ ps : List LsP, ps.map (·.1) = (guardsT t y).1 → ∀ p ∈ ps, p.1.length ≤ 1000000000000000) := fun ps hps p hp => by
        have := setT_len hok (guard_ok ha (by rw [← hps]; exact List.mem_map_of_mem hp)).1
        omega
      have HLc : Hid (∀ ps : List LsP, ps.map (·.1) = (causesT t y).1 → ∀ p ∈ ps, p.1.length ≤ 1000000000000000) := fun ps hps p hp => by
        have := setT_len hok (cause_ok ha (by rw [← hps]; exact List.mem_map_of_mem hp)).1
        omega
      have HPl : Hid (∀ ps : List LsP, ps.map (·.1) = (guardsT t y).1 → ps.length ≤ 1000000) := fun ps hps => by
        have := (lists_short ha).1
        rw [← hps, List.length_map] at this
        exact this
      have HCl : Hid (∀ ps : List LsP, ps.map (·.1) = (causesT t y).1 → ps.length ≤ 1000000) := fun ps hps => by
        have := (lists_short ha).2
        rw [← hps, List.length_map] at this
        exact this
      clear hok ha hsg HNe HEo HG1 HPn
      go_wp2_with fail
      go_loopw [11, 12] (fun v i wr => ∃ k : Nat, k ≤ s.length ∧ i = .int .i64 k ∧ v = .bool (disL (s.take k) g) ∧ Below W3.heap.size W3 wr) (fun _ i _ => s.length - (intOf i).toNat)
      case atStart => exact ⟨0, Nat.zero_le _, rfl, rfl, Below.refl _ _⟩
      case round =>
        obtain ⟨k, hk, rfl, rfl, hB4⟩ := hrel
        have HB4 := Lib.hid hB4
        have HBw : Hid (Below w.heap.size w wr) := HB3.out.trans (hB4.mono HB3.out.size)
        have HN1w := Lib.hid (HN1.out.later hB4)
        have HN2w := Lib.hid (HN2.out.later hB4)
        have r0 := HN2w.out.cell (i := 0) rfl
        have rz := HN2w.out.lt
        clear hB4
        by_cases hlt : k < s.length
        · obtain ⟨x, ad, hx, rfl, cx⟩ := rdI_get (HL.out.below HBw.out) hlt
          have HSt := Lib.hid (disL_take (g := g) hx)
          have hkl : (k : Int) < (s.length : Int) := by omega
          have HB5 : Hid (Below wr.heap.size wr wr.drew) := (Below.refl _ _).drew
          have HB45 : Hid (Below W3.heap.size W3 wr.drew) := HB4.out.drew
          have HH := Lib.hid (lhas_any g x G g.length cg wr.drew (HG.out.below (HBw.out.drew)) hg)
          clear hx
          go_wp2_with fail
          have HS0 : Hid ((fun w' => ∃ u : Later wr, w' = u.w) wr.drew) := ⟨⟨wr.drew, HB5.out⟩, rfl⟩
          have y0 := later_cell r0
          have y1 := later_cell (HN2w.out.cell (i := 1) rfl)
          have y2 := later_cell cx
          refine wp_region_noPanic ?_
          refine wp_region_ord (fun w' => ∃ u : Later wr, w' = u.w) 9 (fun k => decide (k < 9)) (ordOf _ [0, 1, 2, 3, 4, 5, 6, 7, 8, 9, 10, 11, 12]) (by kernel_rfl) (by kernel_rfl) (ordOf_mem _ _) (fun _ _ _ _ _ h => h) ?_
          simp only [ordOf, List.filterMap_cons, List.filterMap_nil, List.getElem?_cons_zero, List.getElem?_cons_succ, Option.map_some]
          cases hd : disL (s.take k) g
          · have HS2 : Hid (disL (s.take (k + 1)) g = false) := by rw [HSt.out, hd]; exact rfl
            iterate 2 (refine ord_quiet rfl rfl rfl HS0.out ?_; intro K hK; go_big_quiet_op; go_big_quiet_on)
            iterate 7 (refine ord_skip rfl rfl HS0.out ?_; simp only [Act.put, List.setIfInBounds_toArray, List.set_cons_succ, List.set_cons_zero])
            clear y0 y1 y2 HS0
            iterate 4 (refine ord_op rfl ?_; go_wp2_with fail; refine mix_post (fun h => absurd h (by decide)) ?_)
            refine ord_nil ?_
            refine NoPanic.normal ?_
            go_wp2_with fail
            go_roundw
            case rel => exact ⟨k + 1, by omega, by go_num, by rw [HS2.out], HB45.out⟩
            case measure => simp [intOf]; omega
          · have HSd : Hid (disL (s.take (k + 1)) g = !decide (x ∈ g)) := by rw [HSt.out, hd]; exact rfl
            clear HSt
            iterate 9 (refine ord_quiet rfl rfl rfl HS0.out ?_; intro K hK; go_big_quiet_op; go_big_quiet_on)
            clear y0 y1 y2 HS0
            generalize decide (x ∈ g) = dd at *
            refine ord_op rfl ?_
            go_wp2_with fail
            refine HH.out.mono ?_
            rintro e W4 ⟨rfl, hb4⟩
            have HB6 : Hid (Below W3.heap.size W3 W4) := HB4.out.trans ((below_of_drew hb4).mono HB4.out.size)
            clear hb4
            go_wp2_with fail
            refine mix_post (fun h => absurd h (by decide)) ?_
            cases dd
            · have HS2 : Hid (disL (s.take (k + 1)) g = true) := by rw [HSd.out]; exact rfl
              iterate 3 (refine ord_op rfl ?_; go_wp2_with fail; refine mix_post (fun h => absurd h (by decide)) ?_)
              refine ord_nil ?_
              refine NoPanic.normal ?_
              go_wp2_with fail
              go_roundw
              case rel => exact ⟨k + 1, by omega, by go_num, by rw [HS2.out], HB6.out⟩
              case measure => simp [intOf]; omega
            · have HS2 : Hid (disL (s.take (k + 1)) g = false) := by rw [HSd.out]; exact rfl
              iterate 3 (refine ord_op rfl ?_; go_wp2_with fail; refine mix_post (fun h => absurd h (by decide)) ?_)
              refine ord_nil ?_
              refine NoPanic.normal ?_
              go_wp2_with fail
              go_roundw
              case rel => exact ⟨k + 1, by omega, by go_num, by rw [HS2.out], HB6.out⟩
              case measure => simp [intOf]; omega
        · obtain rfl : k = s.length := by omega
          rw [List.take_length]
          generalize disL s g = dj at *
          cases p0
          · cases dj
            · clear HGu r0 rz
              have HN1t := Lib.hid (HN1.out.later HB4.out)
              have HN2t := Lib.hid (HN2.out.later HB4.out)
              have k0 := HN1t.out.cell (i := 0) rfl
              have kz := HN1t.out.lt
              have k1 := HN2t.out.cell (i := 0) rfl
              have k2 := HN2t.out.cell (i := 1) rfl
              have kz2 := HN2t.out.lt
              have hC := C3.out _ HBw.out
              rw [HP1.out] at hC
              have HC := Lib.hid hC
              clear hC
              go_wp2_with fail
              refine HC.out.mono ?_
              rintro e W5 ⟨rfl, hb5⟩
              have HB5 : Hid (Below w.heap.size w W5) := HBw.out.trans (hb5.mono HBw.out.size)
              have HN1u := Lib.hid (HN1t.out.later hb5)
              have HN2u := Lib.hid (HN2t.out.later hb5)
              clear hb5 k0 kz k1 k2 kz2 HC
              dsimp only [Bool.and_true, Bool.true_and, Bool.and_false, Bool.false_and]
              have k0 := HN1u.out.cell (i := 0) rfl
              have kz := HN1u.out.lt
              go_wp2_with fail
              refine (C4.out _ HB5.out).mono ?_
              rintro e W6 ⟨v6, ps, rfl, hr6, hps, hb6⟩
              rw [HGe.out.1]
              obtain ⟨V, cv, rfl, hLs⟩ := hr6.lsm (HLg.out ps hps)
              rw [hps] at hLs
              have HB6 : Hid (Below w.heap.size w W6) := HB5.out.trans (hb6.mono HB5.out.size)
              have HNx := Lib.hid (HN1u.out.later hb6)
              have HNy := Lib.hid (HN2u.out.later hb6)
              have HLs := Lib.hid hLs
              clear hb6 hr6 hLs k0 kz
              have k0 := HNx.out.cell (i := 0) rfl
              have kz := HNx.out.lt
              go_wp2_with fail
              refine (C5.out _ HB6.out).mono ?_
              rintro e W7 ⟨v7, cs, rfl, hr7, hcs, hb7⟩
              rw [HGe.out.2]
              obtain ⟨V2, cv2, rfl, hLs2⟩ := hr7.lsm (HLc.out cs hcs)
              rw [hcs] at hLs2
              have HB7 : Hid (Below w.heap.size w W7) := HB6.out.trans (hb7.mono HB6.out.size)
              have HNx2 := Lib.hid (HNx.out.later hb7)
              have HNy2 := Lib.hid (HNy.out.later hb7)
              have HLs1 := Lib.hid (HLs.out.below hb7)
              have HLs2 := Lib.hid hLs2
              have hnp : ps.length ≤ 1000000 := HPl.out ps hps
              have hnq : cs.length ≤ 1000000 := HCl.out cs hcs
              clear hb7 hr7 hLs2 k0 kz HLs hps hcs
              go_wp2_with fail
              have HNq := Lib.hid hnq
              clear hnq
              go_loopw [16, 17, 18, 19, 20, 21] (fun i _ _ _ _ _ wr => ∃ k : Nat, k ≤ ps.length ∧ i = .int .i64 k ∧ Below W7.heap.size W7 wr) (fun i _ _ _ _ _ _ => ps.length - (intOf i).toNat)
              case atStart => exact ⟨0, Nat.zero_le _, rfl, Below.refl _ _⟩
              case round =>
                obtain ⟨k, hk, rfl, hB8⟩ := hrel
                have HB8 := Lib.hid hB8; clear hB8
                have HBw8 : Hid (Below w.heap.size w wr) := HB7.out.trans (HB8.out.mono HB7.out.size)
                by_cases hlt : k < ps.length
                · obtain ⟨gd, R, cr, rd, hgd, rfl, hcell, hrI, _⟩ := (HLs1.out.below HB8.out).get hlt
                  have HMg := Lib.hid (List.mem_of_getElem? hgd)
                  obtain ⟨g1, g2⟩ := guard_ok HA.out HMg.out
                  have hgl : gd.length ≤ 10 := setT_len HOk.out g1
                  have HB5x : Hid (Below wr.heap.size wr wr.drew) := (Below.refl _ _).drew
                  have hC := C0.out wr.drew HBw8.out.drew gd R cr (hrI.below HB5x.out) (by omega)
                  rw [proves_nil HA.out g1, g2] at hC
                  have HC := Lib.hid hC
                  have HD0 := Lib.hid hcell; have HRg := Lib.hid hrI
                  have hkn : (k : Int) < (ps.length : Int) := by omega
                  clear hC hgd hrI hcell g1 g2
                  go_wp2_with fail
                  have HS0 : Hid ((fun w' => ∃ u : Later wr, w' = u.w) wr.drew) := ⟨⟨wr.drew, HB5x.out⟩, rfl⟩
                  have y0 := later_cell HD0.out
                  have y1 := later_cell ((HNx2.out.later HB8.out).cell (i := 0) rfl)
                  refine wp_region_noPanic ?_
                  refine wp_region_ord (fun w' => ∃ u : Later wr, w' = u.w) 11 (fun k => !(k == 6 || k == 10 || k == 11)) (ordOf _ [0, 1, 2, 3, 4, 5, 6, 7, 8, 9, 10, 11]) (by kernel_rfl) (by kernel_rfl) (ordOf_mem _ _) (fun _ _ _ _ _ h => h) ?_
                  simp only [ordOf, List.filterMap_cons, List.filterMap_nil, List.getElem?_cons_zero, List.getElem?_cons_succ, Option.map_some]
                  iterate 6 (refine ord_quiet rfl rfl rfl HS0.out ?_; intro K hK; go_big_quiet_op; go_big_quiet_on)
                  clear y0 y1 HS0
                  refine ord_op rfl ?_
                  go_wp2_with fail
                  refine HC.out.mono ?_
                  rintro e W9 ⟨rfl, hb9⟩
                  have HB9w : Hid (Below wr.heap.size wr W9) := below_of_drew hb9
                  have HB9 : Hid (Below W7.heap.size W7 W9) := HB8.out.trans (HB9w.out.mono HB8.out.size)
                  have HBw9 : Hid (Below w.heap.size w W9) := HB7.out.trans (HB9.out.mono HB7.out.size)
                  clear hb9 HC
                  dsimp only
                  go_wp2_with fail
                  have HS1 : Hid ((fun w' => ∃ u : Later wr, w' = u.w) W9) := ⟨⟨W9, HB9w.out⟩, rfl⟩
                  refine mix_post (fun _ => HS1.out) ?_
                  iterate 3 (refine ord_quiet rfl rfl rfl HS1.out ?_; intro K hK; go_big_quiet_op; go_big_quiet_on)
                  refine ord_op rfl ?_
                  go_wp2_with fail
                  refine mix_post (fun _ => HS1.out) ?_
                  clear HS1
                  iterate 1 (refine ord_op rfl ?_; go_wp2_with fail; refine mix_post (fun h => absurd h (by decide)) ?_)
                  refine ord_nil ?_
                  refine NoPanic.normal ?_
                  have hWi := lwithin_any gd g R gd.length cr G g.length cg W9.drew ((HRg.out.below HB9w.out).below (Below.refl _ _).drew) (HG.out.below HBw9.out.drew) (by omega) hg
                  have HWi := Lib.hid hWi
                  have HDj : Hid ((gd.all fun x => decide (x ∈ g)) = true → soundB t y.toNat (lstGo t g 0).2 = true) := fun h => guard_within HA.out HMg.out HSg.out h
                  rw [← HP0.out] at HDj
                  clear hWi
                  generalize (gd.all fun x => decide (x ∈ g)) = wi at *
                  go_wp2_with fail
                  have HS2 : Hid ((fun w' => ∃ u : Later W9, w' = u.w) W9.drew) := ⟨⟨W9.drew, (Below.refl _ _).drew⟩, rfl⟩
                  have y0 := later_cell (cell_below HB9w.out HD0.out)
                  have y1 := later_cell ((HNy2.out.later HB9.out).cell (i := 1) rfl)
                  refine wp_region_noPanic ?_
                  refine wp_region_ord (fun w' => ∃ u : Later W9, w' = u.w) 13 (fun k => decide (k < 13)) (ordOf _ [0, 1, 2, 3, 4, 5, 6, 7, 8, 9, 10, 11, 12, 13, 14, 15, 16, 17, 18, 19, 20, 21]) (by kernel_rfl) (by kernel_rfl) (ordOf_mem _ _) (fun _ _ _ _ _ h => h) ?_
                  simp only [ordOf, List.filterMap_cons, List.filterMap_nil, List.getElem?_cons_zero, List.getElem?_cons_succ, Option.map_some]
                  iterate 13 (refine ord_quiet rfl rfl rfl HS2.out ?_; intro K hK; go_big_quiet_op; go_big_quiet_on)
                  clear y0 y1 HS2
                  refine ord_op rfl ?_
                  go_wp2_with fail
                  refine HWi.out.mono ?_
                  rintro e W10 ⟨rfl, hb10⟩
                  have HB10 : Hid (Below W7.heap.size W7 W10) := HB9.out.trans ((below_of_drew hb10).mono HB9.out.size)
                  have HB10w : Hid (Below wr.heap.size wr W10) := HB9w.out.trans ((below_of_drew hb10).mono HB9w.out.size)
                  clear hb10 HWi
                  go_wp2_with fail
                  refine mix_post (fun h => absurd h (by decide)) ?_
                  have HDx := Lib.hid (cell_below HB10w.out HD0.out)
                  have HRx := Lib.hid (HRg.out.below HB10w.out)
                  clear HB9w HB9 HBw9 HBw8 HB8 HB5x HD0 HRg HB10w
                  cases wi
                  · iterate 8 (refine ord_op rfl ?_; go_wp2_with fail; refine mix_post (fun h => absurd h (by decide)) ?_)
                    refine ord_nil ?_
                    refine NoPanic.normal ?_
                    clear HDj
                    go_wp2_with fail
                    obtain ⟨wo2, rfl⟩ : ∃ wo2 : World, wo2 = wr := ⟨_, rfl⟩
                    go_loopw [19, 20, 21] (fun i _ _ wr => ∃ j : Nat, j ≤ cs.length ∧ i = .int .i64 j ∧ Below W10.heap.size W10 wr) (fun i _ _ _ => cs.length - (intOf i).toNat)
                    case atStart => exact ⟨0, Nat.zero_le _, rfl, Below.refl _ _⟩
                    case round =>
                      obtain ⟨j, hj, rfl, hB11⟩ := hrel
                      have HB11 := Lib.hid hB11; clear hB11
                      have hnq := HNq.out
                      have HB7w : Hid (Below W7.heap.size W7 wr) := HB10.out.trans (HB11.out.mono HB10.out.size)
                      by_cases hlt3 : j < cs.length
                      · obtain ⟨ca, R2, cr2, rd2, hca, rfl, hcell2, hrI2, _⟩ := (HLs2.out.below HB7w.out).get hlt3
                        have HMc := Lib.hid (List.mem_of_getElem? hca)
                        have hcl : ca.length ≤ 10 := setT_len HOk.out (cause_ok HA.out HMc.out).1
                        have HMt : Hid ((ca.any fun x => decide (x ∈ gd)) = true) := guard_meets HA.out HMg.out HMc.out
                        have HD1 := Lib.hid hcell2; have HR1 := Lib.hid hrI2
                        have hjn : (j : Int) < (cs.length : Int) := by omega
                        clear hca hcell2 hrI2
                        go_wp2_with fail
                        obtain ⟨wo3, rfl⟩ : ∃ wo3 : World, wo3 = wr := ⟨_, rfl⟩
                        go_loopw [20, 21] (fun v i wr => ∃ k : Nat, k ≤ ca.length ∧ i = .int .i64 k ∧ v = .bool ((ca.take k).any fun x => decide (x ∈ gd)) ∧ Below wo3.heap.size wo3 wr) (fun _ i _ => ca.length - (intOf i).toNat)
                        case atStart => exact ⟨0, Nat.zero_le _, rfl, rfl, Below.refl _ _⟩
                        case round =>
                          obtain ⟨q, hq, rfl, rfl, hB12⟩ := hrel
                          have HB12 := Lib.hid hB12; clear hB12
                          have HB112 : Hid (Below W10.heap.size W10 wr) := HB11.out.trans (HB12.out.mono HB11.out.size)
                          have z1 := cell_below HB12.out HD1.out
                          by_cases hlt4 : q < ca.length
                          · obtain ⟨x, ad, hx, rfl, cx⟩ := rdI_get (HR1.out.below HB12.out) hlt4
                            have HSt := Lib.hid (any_take (fun x => decide (x ∈ gd)) hx)
                            have hqn : (q : Int) < (ca.length : Int) := by omega
                            have HB5 : Hid (Below wr.heap.size wr wr.drew) := (Below.refl _ _).drew
                            have HBd : Hid (Below wo3.heap.size wo3 wr.drew) := HB12.out.drew
                            have HH := Lib.hid (lhas_any gd x R gd.length cr wr.drew (HRx.out.below HB112.out.drew) (by omega))
                            clear hx
                            go_wp2_with fail
                            have HS0 : Hid ((fun w' => ∃ u : Later wr, w' = u.w) wr.drew) := ⟨⟨wr.drew, HB5.out⟩, rfl⟩
                            have y0 := later_cell (cell_below HB112.out HDx.out)
                            have y1 := later_cell z1
                            have y2 := later_cell cx
                            refine wp_region_noPanic ?_
                            refine wp_region_ord (fun w' => ∃ u : Later wr, w' = u.w) 13 (fun k => decide (k < 13)) (ordOf _ [0, 1, 2, 3, 4, 5, 6, 7, 8, 9, 10, 11, 12, 13, 14, 15]) (by kernel_rfl) (by kernel_rfl) (ordOf_mem _ _) (fun _ _ _ _ _ h => h) ?_
                            simp only [ordOf, List.filterMap_cons, List.filterMap_nil, List.getElem?_cons_zero, List.getElem?_cons_succ, Option.map_some]
                            cases hd : (ca.take q).any fun x => decide (x ∈ gd)
                            · have HSd : Hid (((ca.take (q + 1)).any fun x => decide (x ∈ gd)) = decide (x ∈ gd)) := by rw [HSt.out, hd]; exact Bool.false_or _
                              clear HSt
                              iterate 13 (refine ord_quiet rfl rfl rfl HS0.out ?_; intro K hK; go_big_quiet_op; go_big_quiet_on)
                              clear y0 y1 y2 HS0
                              generalize decide (x ∈ gd) = dd at *
                              refine ord_op rfl ?_
                              go_wp2_with fail
                              refine HH.out.mono ?_
                              rintro e W13 ⟨rfl, hb13⟩
                              have HB13 : Hid (Below wo3.heap.size wo3 W13) := HB12.out.trans ((below_of_drew hb13).mono HB12.out.size)
                              clear hb13
                              go_wp2_with fail
                              refine mix_post (fun h => absurd h (by decide)) ?_
                              cases dd
                              · have HS2 := Lib.hid HSd.out
                                iterate 2 (refine ord_op rfl ?_; go_wp2_with fail; refine mix_post (fun h => absurd h (by decide)) ?_)
                                refine ord_nil ?_
                                refine NoPanic.normal ?_
                                go_wp2_with fail
                                go_roundw
                                case rel => exact ⟨q + 1, by omega, by go_num, by rw [HS2.out], HB13.out⟩
                                case measure => simp [intOf]; omega
                              · have HS2 := Lib.hid HSd.out
                                iterate 2 (refine ord_op rfl ?_; go_wp2_with fail; refine mix_post (fun h => absurd h (by decide)) ?_)
                                refine ord_nil ?_
                                refine NoPanic.normal ?_
                                go_wp2_with fail
                                go_roundw
                                case rel => exact ⟨q + 1, by omega, by go_num, by rw [HS2.out], HB13.out⟩
                                case measure => simp [intOf]; omega
                            · have HS2 : Hid (((ca.take (q + 1)).any fun x => decide (x ∈ gd)) = true) := by rw [HSt.out, hd]; exact rfl
                              iterate 2 (refine ord_quiet rfl rfl rfl HS0.out ?_; intro K hK; go_big_quiet_op; go_big_quiet_on)
                              iterate 11 (refine ord_skip rfl rfl HS0.out ?_; simp only [Act.put, List.setIfInBounds_toArray, List.set_cons_succ, List.set_cons_zero])
                              clear y0 y1 y2 HS0
                              iterate 3 (refine ord_op rfl ?_; go_wp2_with fail; refine mix_post (fun h => absurd h (by decide)) ?_)
                              refine ord_nil ?_
                              refine NoPanic.normal ?_
                              go_wp2_with fail
                              go_roundw
                              case rel => exact ⟨q + 1, by omega, by go_num, by rw [HS2.out], HBd.out⟩
                              case measure => simp [intOf]; omega
                          · obtain rfl : q = ca.length := by omega
                            rw [List.take_length, HMt.out]
                            go_wp2_with fail
                            go_roundw
                            case rel => exact ⟨j + 1, by omega, by go_num, HB112.out⟩
                            case measure => simp [intOf]; omega
                      · obtain rfl : j = cs.length := by omega
                        go_wp2_with fail
                        go_roundw
                        case rel => exact ⟨k + 1, by omega, by go_num, HB7w.out⟩
                        case measure => simp [intOf]; omega
                  · first
                      | exact absurd (HDj.out rfl) (by decide)
                      | skip
                    all_goals (iterate 8 (refine ord_op rfl ?_; go_wp2_with fail; refine mix_post (fun h => absurd h (by decide)) ?_))
                    all_goals refine ord_nil ?_
                    all_goals refine NoPanic.normal ?_

                · obtain rfl : k = ps.length := by omega
                  go_wp2_with fail
                  refine (Awake_any _).mono ?_
                  rintro e W9 ⟨rfl, hb9⟩
                  have HB9 : Hid (Below w.heap.size w W9) := HBw8.out.trans (hb9.mono HBw8.out.size)
                  clear hb9
                  go_wp2_with fail
                  go_ret
                  exact ⟨rfl, HB9.out⟩
            · clear HGu r0 rz
              have HN1t := Lib.hid (HN1.out.later HB4.out)
              have HN2t := Lib.hid (HN2.out.later HB4.out)
              have k0 := HN1t.out.cell (i := 0) rfl
              have kz := HN1t.out.lt
              have k1 := HN2t.out.cell (i := 0) rfl
              have k2 := HN2t.out.cell (i := 1) rfl
              have kz2 := HN2t.out.lt
              have hC := C3.out _ HBw.out
              rw [HP1.out] at hC
              have HC := Lib.hid hC
              clear hC
              go_wp2_with fail
              refine HC.out.mono ?_
              rintro e W5 ⟨rfl, hb5⟩
              have HB5 : Hid (Below w.heap.size w W5) := HBw.out.trans (hb5.mono HBw.out.size)
              have HN1u := Lib.hid (HN1t.out.later hb5)
              have HN2u := Lib.hid (HN2t.out.later hb5)
              clear hb5 k0 kz k1 k2 kz2 HC
              dsimp only [Bool.and_true, Bool.true_and, Bool.and_false, Bool.false_and]
              have k0 := HN1u.out.cell (i := 0) rfl
              have kz := HN1u.out.lt
              go_wp2_with fail
              refine (C4.out _ HB5.out).mono ?_
              rintro e W6 ⟨v6, ps, rfl, hr6, hps, hb6⟩
              rw [HGe.out.1]
              obtain ⟨V, cv, rfl, hLs⟩ := hr6.lsm (HLg.out ps hps)
              rw [hps] at hLs
              have HB6 : Hid (Below w.heap.size w W6) := HB5.out.trans (hb6.mono HB5.out.size)
              have HNx := Lib.hid (HN1u.out.later hb6)
              have HNy := Lib.hid (HN2u.out.later hb6)
              have HLs := Lib.hid hLs
              clear hb6 hr6 hLs k0 kz
              have k0 := HNx.out.cell (i := 0) rfl
              have kz := HNx.out.lt
              go_wp2_with fail
              refine (C5.out _ HB6.out).mono ?_
              rintro e W7 ⟨v7, cs, rfl, hr7, hcs, hb7⟩
              rw [HGe.out.2]
              obtain ⟨V2, cv2, rfl, hLs2⟩ := hr7.lsm (HLc.out cs hcs)
              rw [hcs] at hLs2
              have HB7 : Hid (Below w.heap.size w W7) := HB6.out.trans (hb7.mono HB6.out.size)
              have HNx2 := Lib.hid (HNx.out.later hb7)
              have HNy2 := Lib.hid (HNy.out.later hb7)
              have HLs1 := Lib.hid (HLs.out.below hb7)
              have HLs2 := Lib.hid hLs2
              have hnp : ps.length ≤ 1000000 := HPl.out ps hps
              have hnq : cs.length ≤ 1000000 := HCl.out cs hcs
              clear hb7 hr7 hLs2 k0 kz HLs hps hcs
              go_wp2_with fail
              have HNq := Lib.hid hnq
              clear hnq
              go_loopw [16, 17, 18, 19, 20, 21] (fun i _ _ _ _ _ wr => ∃ k : Nat, k ≤ ps.length ∧ i = .int .i64 k ∧ Below W7.heap.size W7 wr) (fun i _ _ _ _ _ _ => ps.length - (intOf i).toNat)
              case atStart => exact ⟨0, Nat.zero_le _, rfl, Below.refl _ _⟩
              case round =>
                obtain ⟨k, hk, rfl, hB8⟩ := hrel
                have HB8 := Lib.hid hB8; clear hB8
                have HBw8 : Hid (Below w.heap.size w wr) := HB7.out.trans (HB8.out.mono HB7.out.size)
                by_cases hlt : k < ps.length
                · obtain ⟨gd, R, cr, rd, hgd, rfl, hcell, hrI, _⟩ := (HLs1.out.below HB8.out).get hlt
                  have HMg := Lib.hid (List.mem_of_getElem? hgd)
                  obtain ⟨g1, g2⟩ := guard_ok HA.out HMg.out
                  have hgl : gd.length ≤ 10 := setT_len HOk.out g1
                  have HB5x : Hid (Below wr.heap.size wr wr.drew) := (Below.refl _ _).drew
                  have hC := C0.out wr.drew HBw8.out.drew gd R cr (hrI.below HB5x.out) (by omega)
                  rw [proves_nil HA.out g1, g2] at hC
                  have HC := Lib.hid hC
                  have HD0 := Lib.hid hcell; have HRg := Lib.hid hrI
                  have hkn : (k : Int) < (ps.length : Int) := by omega
                  clear hC hgd hrI hcell g1 g2
                  go_wp2_with fail
                  have HS0 : Hid ((fun w' => ∃ u : Later wr, w' = u.w) wr.drew) := ⟨⟨wr.drew, HB5x.out⟩, rfl⟩
                  have y0 := later_cell HD0.out
                  have y1 := later_cell ((HNx2.out.later HB8.out).cell (i := 0) rfl)
                  refine wp_region_noPanic ?_
                  refine wp_region_ord (fun w' => ∃ u : Later wr, w' = u.w) 11 (fun k => !(k == 6 || k == 10 || k == 11)) (ordOf _ [0, 1, 2, 3, 4, 5, 6, 7, 8, 9, 10, 11]) (by kernel_rfl) (by kernel_rfl) (ordOf_mem _ _) (fun _ _ _ _ _ h => h) ?_
                  simp only [ordOf, List.filterMap_cons, List.filterMap_nil, List.getElem?_cons_zero, List.getElem?_cons_succ, Option.map_some]
                  iterate 6 (refine ord_quiet rfl rfl rfl HS0.out ?_; intro K hK; go_big_quiet_op; go_big_quiet_on)
                  clear y0 y1 HS0
                  refine ord_op rfl ?_
                  go_wp2_with fail
                  refine HC.out.mono ?_
                  rintro e W9 ⟨rfl, hb9⟩
                  have HB9w : Hid (Below wr.heap.size wr W9) := below_of_drew hb9
                  have HB9 : Hid (Below W7.heap.size W7 W9) := HB8.out.trans (HB9w.out.mono HB8.out.size)
                  have HBw9 : Hid (Below w.heap.size w W9) := HB7.out.trans (HB9.out.mono HB7.out.size)
                  clear hb9 HC
                  dsimp only
                  go_wp2_with fail
                  have HS1 : Hid ((fun w' => ∃ u : Later wr, w' = u.w) W9) := ⟨⟨W9, HB9w.out⟩, rfl⟩
                  refine mix_post (fun _ => HS1.out) ?_
                  iterate 3 (refine ord_quiet rfl rfl rfl HS1.out ?_; intro K hK; go_big_quiet_op; go_big_quiet_on)
                  refine ord_op rfl ?_
                  go_wp2_with fail
                  refine mix_post (fun _ => HS1.out) ?_
                  clear HS1
                  iterate 1 (refine ord_op rfl ?_; go_wp2_with fail; refine mix_post (fun h => absurd h (by decide)) ?_)
                  refine ord_nil ?_
                  refine NoPanic.normal ?_
                  have hWi := lwithin_any gd g R gd.length cr G g.length cg W9.drew ((HRg.out.below HB9w.out).below (Below.refl _ _).drew) (HG.out.below HBw9.out.drew) (by omega) hg
                  have HWi := Lib.hid hWi
                  have HDj : Hid ((gd.all fun x => decide (x ∈ g)) = true → soundB t y.toNat (lstGo t g 0).2 = true) := fun h => guard_within HA.out HMg.out HSg.out h
                  rw [← HP0.out] at HDj
                  clear hWi
                  generalize (gd.all fun x => decide (x ∈ g)) = wi at *
                  go_wp2_with fail
                  have HS2 : Hid ((fun w' => ∃ u : Later W9, w' = u.w) W9.drew) := ⟨⟨W9.drew, (Below.refl _ _).drew⟩, rfl⟩
                  have y0 := later_cell (cell_below HB9w.out HD0.out)
                  have y1 := later_cell ((HNy2.out.later HB9.out).cell (i := 1) rfl)
                  refine wp_region_noPanic ?_
                  refine wp_region_ord (fun w' => ∃ u : Later W9, w' = u.w) 13 (fun k => decide (k < 13)) (ordOf _ [0, 1, 2, 3, 4, 5, 6, 7, 8, 9, 10, 11, 12, 13, 14, 15, 16, 17, 18, 19, 20, 21]) (by kernel_rfl) (by kernel_rfl) (ordOf_mem _ _) (fun _ _ _ _ _ h => h) ?_
                  simp only [ordOf, List.filterMap_cons, List.filterMap_nil, List.getElem?_cons_zero, List.getElem?_cons_succ, Option.map_some]
                  iterate 13 (refine ord_quiet rfl rfl rfl HS2.out ?_; intro K hK; go_big_quiet_op; go_big_quiet_on)
                  clear y0 y1 HS2
                  refine ord_op rfl ?_
                  go_wp2_with fail
                  refine HWi.out.mono ?_
                  rintro e W10 ⟨rfl, hb10⟩
                  have HB10 : Hid (Below W7.heap.size W7 W10) := HB9.out.trans ((below_of_drew hb10).mono HB9.out.size)
                  have HB10w : Hid (Below wr.heap.size wr W10) := HB9w.out.trans ((below_of_drew hb10).mono HB9w.out.size)
                  clear hb10 HWi
                  go_wp2_with fail
                  refine mix_post (fun h => absurd h (by decide)) ?_
                  have HDx := Lib.hid (cell_below HB10w.out HD0.out)
                  have HRx := Lib.hid (HRg.out.below HB10w.out)
                  clear HB9w HB9 HBw9 HBw8 HB8 HB5x HD0 HRg HB10w
                  cases wi
                  · iterate 8 (refine ord_op rfl ?_; go_wp2_with fail; refine mix_post (fun h => absurd h (by decide)) ?_)
                    refine ord_nil ?_
                    refine NoPanic.normal ?_
                    clear HDj
                    go_wp2_with fail
                    obtain ⟨wo2, rfl⟩ : ∃ wo2 : World, wo2 = wr := ⟨_, rfl⟩
                    go_loopw [19, 20, 21] (fun i _ _ wr => ∃ j : Nat, j ≤ cs.length ∧ i = .int .i64 j ∧ Below W10.heap.size W10 wr) (fun i _ _ _ => cs.length - (intOf i).toNat)
                    case atStart => exact ⟨0, Nat.zero_le _, rfl, Below.refl _ _⟩
                    case round =>
                      obtain ⟨j, hj, rfl, hB11⟩ := hrel
                      have HB11 := Lib.hid hB11; clear hB11
                      have hnq := HNq.out
                      have HB7w : Hid (Below W7.heap.size W7 wr) := HB10.out.trans (HB11.out.mono HB10.out.size)
                      by_cases hlt3 : j < cs.length
                      · obtain ⟨ca, R2, cr2, rd2, hca, rfl, hcell2, hrI2, _⟩ := (HLs2.out.below HB7w.out).get hlt3
                        have HMc := Lib.hid (List.mem_of_getElem? hca)
                        have hcl : ca.length ≤ 10 := setT_len HOk.out (cause_ok HA.out HMc.out).1
                        have HMt : Hid ((ca.any fun x => decide (x ∈ gd)) = true) := guard_meets HA.out HMg.out HMc.out
                        have HD1 := Lib.hid hcell2; have HR1 := Lib.hid hrI2
                        have hjn : (j : Int) < (cs.length : Int) := by omega
                        clear hca hcell2 hrI2
                        go_wp2_with fail
                        obtain ⟨wo3, rfl⟩ : ∃ wo3 : World, wo3 = wr := ⟨_, rfl⟩
                        go_loopw [20, 21] (fun v i wr => ∃ k : Nat, k ≤ ca.length ∧ i = .int .i64 k ∧ v = .bool ((ca.take k).any fun x => decide (x ∈ gd)) ∧ Below wo3.heap.size wo3 wr) (fun _ i _ => ca.length - (intOf i).toNat)
                        case atStart => exact ⟨0, Nat.zero_le _, rfl, rfl, Below.refl _ _⟩
                        case round =>
                          obtain ⟨q, hq, rfl, rfl, hB12⟩ := hrel
                          have HB12 := Lib.hid hB12; clear hB12
                          have HB112 : Hid (Below W10.heap.size W10 wr) := HB11.out.trans (HB12.out.mono HB11.out.size)
                          have z1 := cell_below HB12.out HD1.out
                          by_cases hlt4 : q < ca.length
                          · obtain ⟨x, ad, hx, rfl, cx⟩ := rdI_get (HR1.out.below HB12.out) hlt4
                            have HSt := Lib.hid (any_take (fun x => decide (x ∈ gd)) hx)
                            have hqn : (q : Int) < (ca.length : Int) := by omega
                            have HB5 : Hid (Below wr.heap.size wr wr.drew) := (Below.refl _ _).drew
                            have HBd : Hid (Below wo3.heap.size wo3 wr.drew) := HB12.out.drew
                            have HH := Lib.hid (lhas_any gd x R gd.length cr wr.drew (HRx.out.below HB112.out.drew) (by omega))
                            clear hx
                            go_wp2_with fail
                            have HS0 : Hid ((fun w' => ∃ u : Later wr, w' = u.w) wr.drew) := ⟨⟨wr.drew, HB5.out⟩, rfl⟩
                            have y0 := later_cell (cell_below HB112.out HDx.out)
                            have y1 := later_cell z1
                            have y2 := later_cell cx
                            refine wp_region_noPanic ?_
                            refine wp_region_ord (fun w' => ∃ u : Later wr, w' = u.w) 13 (fun k => decide (k < 13)) (ordOf _ [0, 1, 2, 3, 4, 5, 6, 7, 8, 9, 10, 11, 12, 13, 14, 15]) (by kernel_rfl) (by kernel_rfl) (ordOf_mem _ _) (fun _ _ _ _ _ h => h) ?_
                            simp only [ordOf, List.filterMap_cons, List.filterMap_nil, List.getElem?_cons_zero, List.getElem?_cons_succ, Option.map_some]
                            cases hd : (ca.take q).any fun x => decide (x ∈ gd)
                            · have HSd : Hid (((ca.take (q + 1)).any fun x => decide (x ∈ gd)) = decide (x ∈ gd)) := by rw [HSt.out, hd]; exact Bool.false_or _
                              clear HSt
                              iterate 13 (refine ord_quiet rfl rfl rfl HS0.out ?_; intro K hK; go_big_quiet_op; go_big_quiet_on)
                              clear y0 y1 y2 HS0
                              generalize decide (x ∈ gd) = dd at *
                              refine ord_op rfl ?_
                              go_wp2_with fail
                              refine HH.out.mono ?_
                              rintro e W13 ⟨rfl, hb13⟩
                              have HB13 : Hid (Below wo3.heap.size wo3 W13) := HB12.out.trans ((below_of_drew hb13).mono HB12.out.size)
                              clear hb13
                              go_wp2_with fail
                              refine mix_post (fun h => absurd h (by decide)) ?_
                              cases dd
                              · have HS2 := Lib.hid HSd.out
                                iterate 2 (refine ord_op rfl ?_; go_wp2_with fail; refine mix_post (fun h => absurd h (by decide)) ?_)
                                refine ord_nil ?_
                                refine NoPanic.normal ?_
                                go_wp2_with fail
                                go_roundw
                                case rel => exact ⟨q + 1, by omega, by go_num, by rw [HS2.out], HB13.out⟩
                                case measure => simp [intOf]; omega
                              · have HS2 := Lib.hid HSd.out
                                iterate 2 (refine ord_op rfl ?_; go_wp2_with fail; refine mix_post (fun h => absurd h (by decide)) ?_)
                                refine ord_nil ?_
                                refine NoPanic.normal ?_
                                go_wp2_with fail
                                go_roundw
                                case rel => exact ⟨q + 1, by omega, by go_num, by rw [HS2.out], HB13.out⟩
                                case measure => simp [intOf]; omega
                            · have HS2 : Hid (((ca.take (q + 1)).any fun x => decide (x ∈ gd)) = true) := by rw [HSt.out, hd]; exact rfl
                              iterate 2 (refine ord_quiet rfl rfl rfl HS0.out ?_; intro K hK; go_big_quiet_op; go_big_quiet_on)
                              iterate 11 (refine ord_skip rfl rfl HS0.out ?_; simp only [Act.put, List.setIfInBounds_toArray, List.set_cons_succ, List.set_cons_zero])
                              clear y0 y1 y2 HS0
                              iterate 3 (refine ord_op rfl ?_; go_wp2_with fail; refine mix_post (fun h => absurd h (by decide)) ?_)
                              refine ord_nil ?_
                              refine NoPanic.normal ?_
                              go_wp2_with fail
                              go_roundw
                              case rel => exact ⟨q + 1, by omega, by go_num, by rw [HS2.out], HBd.out⟩
                              case measure => simp [intOf]; omega
                          · obtain rfl : q = ca.length := by omega
                            rw [List.take_length, HMt.out]
                            go_wp2_with fail
                            go_roundw
                            case rel => exact ⟨j + 1, by omega, by go_num, HB112.out⟩
                            case measure => simp [intOf]; omega
                      · obtain rfl : j = cs.length := by omega
                        go_wp2_with fail
                        go_roundw
                        case rel => exact ⟨k + 1, by omega, by go_num, HB7w.out⟩
                        case measure => simp [intOf]; omega
                  · first
                      | exact absurd (HDj.out rfl) (by decide)
                      | skip
                    all_goals (iterate 8 (refine ord_op rfl ?_; go_wp2_with fail; refine mix_post (fun h => absurd h (by decide)) ?_))
                    all_goals refine ord_nil ?_
                    all_goals refine NoPanic.normal ?_

                · obtain rfl : k = ps.length := by omega
                  go_wp2_with fail
                  refine (Awake_any _).mono ?_
                  rintro e W9 ⟨rfl, hb9⟩
                  have HB9 : Hid (Below w.heap.size w W9) := HBw8.out.trans (hb9.mono HBw8.out.size)
                  clear hb9
                  go_wp2_with fail
                  go_ret
                  exact ⟨rfl, HB9.out⟩
          · cases dj
            · clear HGu r0 rz
              have HN1t := Lib.hid (HN1.out.later HB4.out)
              have HN2t := Lib.hid (HN2.out.later HB4.out)
              have k0 := HN1t.out.cell (i := 0) rfl
              have kz := HN1t.out.lt
              have k1 := HN2t.out.cell (i := 0) rfl
              have k2 := HN2t.out.cell (i := 1) rfl
              have kz2 := HN2t.out.lt
              have hC := C3.out _ HBw.out
              rw [HP1.out] at hC
              have HC := Lib.hid hC
              clear hC
              go_wp2_with fail
              refine HC.out.mono ?_
              rintro e W5 ⟨rfl, hb5⟩
              have HB5 : Hid (Below w.heap.size w W5) := HBw.out.trans (hb5.mono HBw.out.size)
              have HN1u := Lib.hid (HN1t.out.later hb5)
              have HN2u := Lib.hid (HN2t.out.later hb5)
              clear hb5 k0 kz k1 k2 kz2 HC
              dsimp only [Bool.and_true, Bool.true_and, Bool.and_false, Bool.false_and]
              have k0 := HN1u.out.cell (i := 0) rfl
              have kz := HN1u.out.lt
              go_wp2_with fail
              refine (C4.out _ HB5.out).mono ?_
              rintro e W6 ⟨v6, ps, rfl, hr6, hps, hb6⟩
              rw [HGe.out.1]
              obtain ⟨V, cv, rfl, hLs⟩ := hr6.lsm (HLg.out ps hps)
              rw [hps] at hLs
              have HB6 : Hid (Below w.heap.size w W6) := HB5.out.trans (hb6.mono HB5.out.size)
              have HNx := Lib.hid (HN1u.out.later hb6)
              have HNy := Lib.hid (HN2u.out.later hb6)
              have HLs := Lib.hid hLs
              clear hb6 hr6 hLs k0 kz
              have k0 := HNx.out.cell (i := 0) rfl
              have kz := HNx.out.lt
              go_wp2_with fail
              refine (C5.out _ HB6.out).mono ?_
              rintro e W7 ⟨v7, cs, rfl, hr7, hcs, hb7⟩
              rw [HGe.out.2]
              obtain ⟨V2, cv2, rfl, hLs2⟩ := hr7.lsm (HLc.out cs hcs)
              rw [hcs] at hLs2
              have HB7 : Hid (Below w.heap.size w W7) := HB6.out.trans (hb7.mono HB6.out.size)
              have HNx2 := Lib.hid (HNx.out.later hb7)
              have HNy2 := Lib.hid (HNy.out.later hb7)
              have HLs1 := Lib.hid (HLs.out.below hb7)
              have HLs2 := Lib.hid hLs2
              have hnp : ps.length ≤ 1000000 := HPl.out ps hps
              have hnq : cs.length ≤ 1000000 := HCl.out cs hcs
              clear hb7 hr7 hLs2 k0 kz HLs hps hcs
              go_wp2_with fail
              have HNq := Lib.hid hnq
              clear hnq
              go_loopw [16, 17, 18, 19, 20, 21] (fun i _ _ _ _ _ wr => ∃ k : Nat, k ≤ ps.length ∧ i = .int .i64 k ∧ Below W7.heap.size W7 wr) (fun i _ _ _ _ _ _ => ps.length - (intOf i).toNat)
              case atStart => exact ⟨0, Nat.zero_le _, rfl, Below.refl _ _⟩
              case round =>
                obtain ⟨k, hk, rfl, hB8⟩ := hrel
                have HB8 := Lib.hid hB8; clear hB8
                have HBw8 : Hid (Below w.heap.size w wr) := HB7.out.trans (HB8.out.mono HB7.out.size)
                by_cases hlt : k < ps.length
                · obtain ⟨gd, R, cr, rd, hgd, rfl, hcell, hrI, _⟩ := (HLs1.out.below HB8.out).get hlt
                  have HMg := Lib.hid (List.mem_of_getElem? hgd)
                  obtain ⟨g1, g2⟩ := guard_ok HA.out HMg.out
                  have hgl : gd.length ≤ 10 := setT_len HOk.out g1
                  have HB5x : Hid (Below wr.heap.size wr wr.drew) := (Below.refl _ _).drew
                  have hC := C0.out wr.drew HBw8.out.drew gd R cr (hrI.below HB5x.out) (by omega)
                  rw [proves_nil HA.out g1, g2] at hC
                  have HC := Lib.hid hC
                  have HD0 := Lib.hid hcell; have HRg := Lib.hid hrI
                  have hkn : (k : Int) < (ps.length : Int) := by omega
                  clear hC hgd hrI hcell g1 g2
                  go_wp2_with fail
                  have HS0 : Hid ((fun w' => ∃ u : Later wr, w' = u.w) wr.drew) := ⟨⟨wr.drew, HB5x.out⟩, rfl⟩
                  have y0 := later_cell HD0.out
                  have y1 := later_cell ((HNx2.out.later HB8.out).cell (i := 0) rfl)
                  refine wp_region_noPanic ?_
                  refine wp_region_ord (fun w' => ∃ u : Later wr, w' = u.w) 11 (fun k => !(k == 6 || k == 10 || k == 11)) (ordOf _ [0, 1, 2, 3, 4, 5, 6, 7, 8, 9, 10, 11]) (by kernel_rfl) (by kernel_rfl) (ordOf_mem _ _) (fun _ _ _ _ _ h => h) ?_
                  simp only [ordOf, List.filterMap_cons, List.filterMap_nil, List.getElem?_cons_zero, List.getElem?_cons_succ, Option.map_some]
                  iterate 6 (refine ord_quiet rfl rfl rfl HS0.out ?_; intro K hK; go_big_quiet_op; go_big_quiet_on)
                  clear y0 y1 HS0
                  refine ord_op rfl ?_
                  go_wp2_with fail
                  refine HC.out.mono ?_
                  rintro e W9 ⟨rfl, hb9⟩
                  have HB9w : Hid (Below wr.heap.size wr W9) := below_of_drew hb9
                  have HB9 : Hid (Below W7.heap.size W7 W9) := HB8.out.trans (HB9w.out.mono HB8.out.size)
                  have HBw9 : Hid (Below w.heap.size w W9) := HB7.out.trans (HB9.out.mono HB7.out.size)
                  clear hb9 HC
                  dsimp only
                  go_wp2_with fail
                  have HS1 : Hid ((fun w' => ∃ u : Later wr, w' = u.w) W9) := ⟨⟨W9, HB9w.out⟩, rfl⟩
                  refine mix_post (fun _ => HS1.out) ?_
                  iterate 3 (refine ord_quiet rfl rfl rfl HS1.out ?_; intro K hK; go_big_quiet_op; go_big_quiet_on)
                  refine ord_op rfl ?_
                  go_wp2_with fail
                  refine mix_post (fun _ => HS1.out) ?_
                  clear HS1
                  iterate 1 (refine ord_op rfl ?_; go_wp2_with fail; refine mix_post (fun h => absurd h (by decide)) ?_)
                  refine ord_nil ?_
                  refine NoPanic.normal ?_
                  have hWi := lwithin_any gd g R gd.length cr G g.length cg W9.drew ((HRg.out.below HB9w.out).below (Below.refl _ _).drew) (HG.out.below HBw9.out.drew) (by omega) hg
                  have HWi := Lib.hid hWi
                  have HDj : Hid ((gd.all fun x => decide (x ∈ g)) = true → soundB t y.toNat (lstGo t g 0).2 = true) := fun h => guard_within HA.out HMg.out HSg.out h
                  rw [← HP0.out] at HDj
                  clear hWi
                  generalize (gd.all fun x => decide (x ∈ g)) = wi at *
                  go_wp2_with fail
                  have HS2 : Hid ((fun w' => ∃ u : Later W9, w' = u.w) W9.drew) := ⟨⟨W9.drew, (Below.refl _ _).drew⟩, rfl⟩
                  have y0 := later_cell (cell_below HB9w.out HD0.out)
                  have y1 := later_cell ((HNy2.out.later HB9.out).cell (i := 1) rfl)
                  refine wp_region_noPanic ?_
                  refine wp_region_ord (fun w' => ∃ u : Later W9, w' = u.w) 13 (fun k => decide (k < 13)) (ordOf _ [0, 1, 2, 3, 4, 5, 6, 7, 8, 9, 10, 11, 12, 13, 14, 15, 16, 17, 18, 19, 20, 21]) (by kernel_rfl) (by kernel_rfl) (ordOf_mem _ _) (fun _ _ _ _ _ h => h) ?_
                  simp only [ordOf, List.filterMap_cons, List.filterMap_nil, List.getElem?_cons_zero, List.getElem?_cons_succ, Option.map_some]
                  iterate 13 (refine ord_quiet rfl rfl rfl HS2.out ?_; intro K hK; go_big_quiet_op; go_big_quiet_on)
                  clear y0 y1 HS2
                  refine ord_op rfl ?_
                  go_wp2_with fail
                  refine HWi.out.mono ?_
                  rintro e W10 ⟨rfl, hb10⟩
                  have HB10 : Hid (Below W7.heap.size W7 W10) := HB9.out.trans ((below_of_drew hb10).mono HB9.out.size)
                  have HB10w : Hid (Below wr.heap.size wr W10) := HB9w.out.trans ((below_of_drew hb10).mono HB9w.out.size)
                  clear hb10 HWi
                  go_wp2_with fail
                  refine mix_post (fun h => absurd h (by decide)) ?_
                  have HDx := Lib.hid (cell_below HB10w.out HD0.out)
                  have HRx := Lib.hid (HRg.out.below HB10w.out)
                  clear HB9w HB9 HBw9 HBw8 HB8 HB5x HD0 HRg HB10w
                  cases wi
                  · iterate 8 (refine ord_op rfl ?_; go_wp2_with fail; refine mix_post (fun h => absurd h (by decide)) ?_)
                    refine ord_nil ?_
                    refine NoPanic.normal ?_
                    clear HDj
                    go_wp2_with fail
                    obtain ⟨wo2, rfl⟩ : ∃ wo2 : World, wo2 = wr := ⟨_, rfl⟩
                    go_loopw [19, 20, 21] (fun i _ _ wr => ∃ j : Nat, j ≤ cs.length ∧ i = .int .i64 j ∧ Below W10.heap.size W10 wr) (fun i _ _ _ => cs.length - (intOf i).toNat)
                    case atStart => exact ⟨0, Nat.zero_le _, rfl, Below.refl _ _⟩
                    case round =>
                      obtain ⟨j, hj, rfl, hB11⟩ := hrel
                      have HB11 := Lib.hid hB11; clear hB11
                      have hnq := HNq.out
                      have HB7w : Hid (Below W7.heap.size W7 wr) := HB10.out.trans (HB11.out.mono HB10.out.size)
                      by_cases hlt3 : j < cs.length
                      · obtain ⟨ca, R2, cr2, rd2, hca, rfl, hcell2, hrI2, _⟩ := (HLs2.out.below HB7w.out).get hlt3
                        have HMc := Lib.hid (List.mem_of_getElem? hca)
                        have hcl : ca.length ≤ 10 := setT_len HOk.out (cause_ok HA.out HMc.out).1
                        have HMt : Hid ((ca.any fun x => decide (x ∈ gd)) = true) := guard_meets HA.out HMg.out HMc.out
                        have HD1 := Lib.hid hcell2; have HR1 := Lib.hid hrI2
                        have hjn : (j : Int) < (cs.length : Int) := by omega
                        clear hca hcell2 hrI2
                        go_wp2_with fail
                        obtain ⟨wo3, rfl⟩ : ∃ wo3 : World, wo3 = wr := ⟨_, rfl⟩
                        go_loopw [20, 21] (fun v i wr => ∃ k : Nat, k ≤ ca.length ∧ i = .int .i64 k ∧ v = .bool ((ca.take k).any fun x => decide (x ∈ gd)) ∧ Below wo3.heap.size wo3 wr) (fun _ i _ => ca.length - (intOf i).toNat)
                        case atStart => exact ⟨0, Nat.zero_le _, rfl, rfl, Below.refl _ _⟩
                        case round =>
                          obtain ⟨q, hq, rfl, rfl, hB12⟩ := hrel
                          have HB12 := Lib.hid hB12; clear hB12
                          have HB112 : Hid (Below W10.heap.size W10 wr) := HB11.out.trans (HB12.out.mono HB11.out.size)
                          have z1 := cell_below HB12.out HD1.out
                          by_cases hlt4 : q < ca.length
                          · obtain ⟨x, ad, hx, rfl, cx⟩ := rdI_get (HR1.out.below HB12.out) hlt4
                            have HSt := Lib.hid (any_take (fun x => decide (x ∈ gd)) hx)
                            have hqn : (q : Int) < (ca.length : Int) := by omega
                            have HB5 : Hid (Below wr.heap.size wr wr.drew) := (Below.refl _ _).drew
                            have HBd : Hid (Below wo3.heap.size wo3 wr.drew) := HB12.out.drew
                            have HH := Lib.hid (lhas_any gd x R gd.length cr wr.drew (HRx.out.below HB112.out.drew) (by omega))
                            clear hx
                            go_wp2_with fail
                            have HS0 : Hid ((fun w' => ∃ u : Later wr, w' = u.w) wr.drew) := ⟨⟨wr.drew, HB5.out⟩, rfl⟩
                            have y0 := later_cell (cell_below HB112.out HDx.out)
                            have y1 := later_cell z1
                            have y2 := later_cell cx
                            refine wp_region_noPanic ?_
                            refine wp_region_ord (fun w' => ∃ u : Later wr, w' = u.w) 13 (fun k => decide (k < 13)) (ordOf _ [0, 1, 2, 3, 4, 5, 6, 7, 8, 9, 10, 11, 12, 13, 14, 15]) (by kernel_rfl) (by kernel_rfl) (ordOf_mem _ _) (fun _ _ _ _ _ h => h) ?_
                            simp only [ordOf, List.filterMap_cons, List.filterMap_nil, List.getElem?_cons_zero, List.getElem?_cons_succ, Option.map_some]
                            cases hd : (ca.take q).any fun x => decide (x ∈ gd)
                            · have HSd : Hid (((ca.take (q + 1)).any fun x => decide (x ∈ gd)) = decide (x ∈ gd)) := by rw [HSt.out, hd]; exact Bool.false_or _
                              clear HSt
                              iterate 13 (refine ord_quiet rfl rfl rfl HS0.out ?_; intro K hK; go_big_quiet_op; go_big_quiet_on)
                              clear y0 y1 y2 HS0
                              generalize decide (x ∈ gd) = dd at *
                              refine ord_op rfl ?_
                              go_wp2_with fail
                              refine HH.out.mono ?_
                              rintro e W13 ⟨rfl, hb13⟩
                              have HB13 : Hid (Below wo3.heap.size wo3 W13) := HB12.out.trans ((below_of_drew hb13).mono HB12.out.size)
                              clear hb13
                              go_wp2_with fail
                              refine mix_post (fun h => absurd h (by decide)) ?_
                              cases dd
                              · have HS2 := Lib.hid HSd.out
                                iterate 2 (refine ord_op rfl ?_; go_wp2_with fail; refine mix_post (fun h => absurd h (by decide)) ?_)
                                refine ord_nil ?_
                                refine NoPanic.normal ?_
                                go_wp2_with fail
                                go_roundw
                                case rel => exact ⟨q + 1, by omega, by go_num, by rw [HS2.out], HB13.out⟩
                                case measure => simp [intOf]; omega
                              · have HS2 := Lib.hid HSd.out
                                iterate 2 (refine ord_op rfl ?_; go_wp2_with fail; refine mix_post (fun h => absurd h (by decide)) ?_)
                                refine ord_nil ?_
                                refine NoPanic.normal ?_
                                go_wp2_with fail
                                go_roundw
                                case rel => exact ⟨q + 1, by omega, by go_num, by rw [HS2.out], HB13.out⟩
                                case measure => simp [intOf]; omega
                            · have HS2 : Hid (((ca.take (q + 1)).any fun x => decide (x ∈ gd)) = true) := by rw [HSt.out, hd]; exact rfl
                              iterate 2 (refine ord_quiet rfl rfl rfl HS0.out ?_; intro K hK; go_big_quiet_op; go_big_quiet_on)
                              iterate 11 (refine ord_skip rfl rfl HS0.out ?_; simp only [Act.put, List.setIfInBounds_toArray, List.set_cons_succ, List.set_cons_zero])
                              clear y0 y1 y2 HS0
                              iterate 3 (refine ord_op rfl ?_; go_wp2_with fail; refine mix_post (fun h => absurd h (by decide)) ?_)
                              refine ord_nil ?_
                              refine NoPanic.normal ?_
                              go_wp2_with fail
                              go_roundw
                              case rel => exact ⟨q + 1, by omega, by go_num, by rw [HS2.out], HBd.out⟩
                              case measure => simp [intOf]; omega
                          · obtain rfl : q = ca.length := by omega
                            rw [List.take_length, HMt.out]
                            go_wp2_with fail
                            go_roundw
                            case rel => exact ⟨j + 1, by omega, by go_num, HB112.out⟩
                            case measure => simp [intOf]; omega
                      · obtain rfl : j = cs.length := by omega
                        go_wp2_with fail
                        go_roundw
                        case rel => exact ⟨k + 1, by omega, by go_num, HB7w.out⟩
                        case measure => simp [intOf]; omega
                  · first
                      | exact absurd (HDj.out rfl) (by decide)
                      | skip
                    all_goals (iterate 8 (refine ord_op rfl ?_; go_wp2_with fail; refine mix_post (fun h => absurd h (by decide)) ?_))
                    all_goals refine ord_nil ?_
                    all_goals refine NoPanic.normal ?_
                    clear HDj
                    go_wp2_with fail
                    obtain ⟨wo2, rfl⟩ : ∃ wo2 : World, wo2 = wr := ⟨_, rfl⟩
                    go_loopw [19, 20, 21] (fun i _ _ wr => ∃ j : Nat, j ≤ cs.length ∧ i = .int .i64 j ∧ Below W10.heap.size W10 wr) (fun i _ _ _ => cs.length - (intOf i).toNat)
                    case atStart => exact ⟨0, Nat.zero_le _, rfl, Below.refl _ _⟩
                    case round =>
                      obtain ⟨j, hj, rfl, hB11⟩ := hrel
                      have HB11 := Lib.hid hB11; clear hB11
                      have hnq := HNq.out
                      have HB7w : Hid (Below W7.heap.size W7 wr) := HB10.out.trans (HB11.out.mono HB10.out.size)
                      by_cases hlt3 : j < cs.length
                      · obtain ⟨ca, R2, cr2, rd2, hca, rfl, hcell2, hrI2, _⟩ := (HLs2.out.below HB7w.out).get hlt3
                        have HMc := Lib.hid (List.mem_of_getElem? hca)
                        have hcl : ca.length ≤ 10 := setT_len HOk.out (cause_ok HA.out HMc.out).1
                        have HMt : Hid ((ca.any fun x => decide (x ∈ gd)) = true) := guard_meets HA.out HMg.out HMc.out
                        have HD1 := Lib.hid hcell2; have HR1 := Lib.hid hrI2
                        have hjn : (j : Int) < (cs.length : Int) := by omega
                        clear hca hcell2 hrI2
                        go_wp2_with fail
                        obtain ⟨wo3, rfl⟩ : ∃ wo3 : World, wo3 = wr := ⟨_, rfl⟩
                        go_loopw [20, 21] (fun v i wr => ∃ k : Nat, k ≤ ca.length ∧ i = .int .i64 k ∧ v = .bool ((ca.take k).any fun x => decide (x ∈ gd)) ∧ Below wo3.heap.size wo3 wr) (fun _ i _ => ca.length - (intOf i).toNat)
                        case atStart => exact ⟨0, Nat.zero_le _, rfl, rfl, Below.refl _ _⟩
                        case round =>
                          obtain ⟨q, hq, rfl, rfl, hB12⟩ := hrel
                          have HB12 := Lib.hid hB12; clear hB12
                          have HB112 : Hid (Below W10.heap.size W10 wr) := HB11.out.trans (HB12.out.mono HB11.out.size)
                          have z1 := cell_below HB12.out HD1.out
                          by_cases hlt4 : q < ca.length
                          · obtain ⟨x, ad, hx, rfl, cx⟩ := rdI_get (HR1.out.below HB12.out) hlt4
                            have HSt := Lib.hid (any_take (fun x => decide (x ∈ gd)) hx)
                            have hqn : (q : Int) < (ca.length : Int) := by omega
                            have HB5 : Hid (Below wr.heap.size wr wr.drew) := (Below.refl _ _).drew
                            have HBd : Hid (Below wo3.heap.size wo3 wr.drew) := HB12.out.drew
                            have HH := Lib.hid (lhas_any gd x R gd.length cr wr.drew (HRx.out.below HB112.out.drew) (by omega))
                            clear hx
                            go_wp2_with fail
                            have HS0 : Hid ((fun w' => ∃ u : Later wr, w' = u.w) wr.drew) := ⟨⟨wr.drew, HB5.out⟩, rfl⟩
                            have y0 := later_cell (cell_below HB112.out HDx.out)
                            have y1 := later_cell z1
                            have y2 := later_cell cx
                            refine wp_region_noPanic ?_
                            refine wp_region_ord (fun w' => ∃ u : Later wr, w' = u.w) 13 (fun k => decide (k < 13)) (ordOf _ [0, 1, 2, 3, 4, 5, 6, 7, 8, 9, 10, 11, 12, 13, 14, 15]) (by kernel_rfl) (by kernel_rfl) (ordOf_mem _ _) (fun _ _ _ _ _ h => h) ?_
                            simp only [ordOf, List.filterMap_cons, List.filterMap_nil, List.getElem?_cons_zero, List.getElem?_cons_succ, Option.map_some]
                            cases hd : (ca.take q).any fun x => decide (x ∈ gd)
                            · have HSd : Hid (((ca.take (q + 1)).any fun x => decide (x ∈ gd)) = decide (x ∈ gd)) := by rw [HSt.out, hd]; exact Bool.false_or _
                              clear HSt
                              iterate 13 (refine ord_quiet rfl rfl rfl HS0.out ?_; intro K hK; go_big_quiet_op; go_big_quiet_on)
                              clear y0 y1 y2 HS0
                              generalize decide (x ∈ gd) = dd at *
                              refine ord_op rfl ?_
                              go_wp2_with fail
                              refine HH.out.mono ?_
                              rintro e W13 ⟨rfl, hb13⟩
                              have HB13 : Hid (Below wo3.heap.size wo3 W13) := HB12.out.trans ((below_of_drew hb13).mono HB12.out.size)
                              clear hb13
                              go_wp2_with fail
                              refine mix_post (fun h => absurd h (by decide)) ?_
                              cases dd
                              · have HS2 := Lib.hid HSd.out
                                iterate 2 (refine ord_op rfl ?_; go_wp2_with fail; refine mix_post (fun h => absurd h (by decide)) ?_)
                                refine ord_nil ?_
                                refine NoPanic.normal ?_
                                go_wp2_with fail
                                go_roundw
                                case rel => exact ⟨q + 1, by omega, by go_num, by rw [HS2.out], HB13.out⟩
                                case measure => simp [intOf]; omega
                              · have HS2 := Lib.hid HSd.out
                                iterate 2 (refine ord_op rfl ?_; go_wp2_with fail; refine mix_post (fun h => absurd h (by decide)) ?_)
                                refine ord_nil ?_
                                refine NoPanic.normal ?_
                                go_wp2_with fail
                                go_roundw
                                case rel => exact ⟨q + 1, by omega, by go_num, by rw [HS2.out], HB13.out⟩
                                case measure => simp [intOf]; omega
                            · have HS2 : Hid (((ca.take (q + 1)).any fun x => decide (x ∈ gd)) = true) := by rw [HSt.out, hd]; exact rfl
                              iterate 2 (refine ord_quiet rfl rfl rfl HS0.out ?_; intro K hK; go_big_quiet_op; go_big_quiet_on)
                              iterate 11 (refine ord_skip rfl rfl HS0.out ?_; simp only [Act.put, List.setIfInBounds_toArray, List.set_cons_succ, List.set_cons_zero])
                              clear y0 y1 y2 HS0
                              iterate 3 (refine ord_op rfl ?_; go_wp2_with fail; refine mix_post (fun h => absurd h (by decide)) ?_)
                              refine ord_nil ?_
                              refine NoPanic.normal ?_
                              go_wp2_with fail
                              go_roundw
                              case rel => exact ⟨q + 1, by omega, by go_num, by rw [HS2.out], HBd.out⟩
                              case measure => simp [intOf]; omega
                          · obtain rfl : q = ca.length := by omega
                            rw [List.take_length, HMt.out]
                            go_wp2_with fail
                            go_roundw
                            case rel => exact ⟨j + 1, by omega, by go_num, HB112.out⟩
                            case measure => simp [intOf]; omega
                      · obtain rfl : j = cs.length := by omega
                        go_wp2_with fail
                        go_roundw
                        case rel => exact ⟨k + 1, by omega, by go_num, HB7w.out⟩
                        case measure => simp [intOf]; omega
                · obtain rfl : k = ps.length := by omega
                  go_wp2_with fail
                  refine (Awake_any _).mono ?_
                  rintro e W9 ⟨rfl, hb9⟩
                  have HB9 : Hid (Below w.heap.size w W9) := HBw8.out.trans (hb9.mono HBw8.out.size)
                  clear hb9
                  go_wp2_with fail
                  go_ret
                  exact ⟨rfl, HB9.out⟩
            · have hy : decide (y ∈ EF) = false := by simpa using HGu.out rfl rfl
              have hH := lhas_any EF y A3 EF.length c3 wr (HI3.out.below HB4.out) (by have := HEl.out; omega)
              rw [hy] at hH
              have HH := Lib.hid hH
              clear hy hH
              go_wp2_with fail
              refine HH.out.mono ?_
              rintro e W4 ⟨rfl, hb4⟩
              have HB34 : Hid (Below W3.heap.size W3 W4) := HB4.out.trans (hb4.mono HB4.out.size)
              have HB04 : Hid (Below w.heap.size w W4) := HB3.out.trans (HB34.out.mono HB3.out.size)
              clear hb4 HGu r0 rz
              have HN1t := Lib.hid (HN1.out.later HB34.out)
              have HN2t := Lib.hid (HN2.out.later HB34.out)
              have k0 := HN1t.out.cell (i := 0) rfl
              have kz := HN1t.out.lt
              have k1 := HN2t.out.cell (i := 0) rfl
              have k2 := HN2t.out.cell (i := 1) rfl
              have kz2 := HN2t.out.lt
              have hC := C3.out _ HB04.out
              rw [HP1.out] at hC
              have HC := Lib.hid hC
              clear hC
              go_wp2_with fail
              refine HC.out.mono ?_
              rintro e W5 ⟨rfl, hb5⟩
              have HB5 : Hid (Below w.heap.size w W5) := HB04.out.trans (hb5.mono HB04.out.size)
              have HN1u := Lib.hid (HN1t.out.later hb5)
              have HN2u := Lib.hid (HN2t.out.later hb5)
              clear hb5 k0 kz k1 k2 kz2 HC
              dsimp only [Bool.and_true, Bool.true_and, Bool.and_false, Bool.false_and]
              have k0 := HN1u.out.cell (i := 0) rfl
              have kz := HN1u.out.lt
              go_wp2_with fail
              refine (C4.out _ HB5.out).mono ?_
              rintro e W6 ⟨v6, ps, rfl, hr6, hps, hb6⟩
              rw [HGe.out.1]
              obtain ⟨V, cv, rfl, hLs⟩ := hr6.lsm (HLg.out ps hps)
              rw [hps] at hLs
              have HB6 : Hid (Below w.heap.size w W6) := HB5.out.trans (hb6.mono HB5.out.size)
              have HNx := Lib.hid (HN1u.out.later hb6)
              have HNy := Lib.hid (HN2u.out.later hb6)
              have HLs := Lib.hid hLs
              clear hb6 hr6 hLs k0 kz
              have k0 := HNx.out.cell (i := 0) rfl
              have kz := HNx.out.lt
              go_wp2_with fail
              refine (C5.out _ HB6.out).mono ?_
              rintro e W7 ⟨v7, cs, rfl, hr7, hcs, hb7⟩
              rw [HGe.out.2]
              obtain ⟨V2, cv2, rfl, hLs2⟩ := hr7.lsm (HLc.out cs hcs)
              rw [hcs] at hLs2
              have HB7 : Hid (Below w.heap.size w W7) := HB6.out.trans (hb7.mono HB6.out.size)
              have HNx2 := Lib.hid (HNx.out.later hb7)
              have HNy2 := Lib.hid (HNy.out.later hb7)
              have HLs1 := Lib.hid (HLs.out.below hb7)
              have HLs2 := Lib.hid hLs2
              have hnp : ps.length ≤ 1000000 := HPl.out ps hps
              have hnq : cs.length ≤ 1000000 := HCl.out cs hcs
              clear hb7 hr7 hLs2 k0 kz HLs hps hcs
              go_wp2_with fail
              have HNq := Lib.hid hnq
              clear hnq
              go_loopw [16, 17, 18, 19, 20, 21] (fun i _ _ _ _ _ wr => ∃ k : Nat, k ≤ ps.length ∧ i = .int .i64 k ∧ Below W7.heap.size W7 wr) (fun i _ _ _ _ _ _ => ps.length - (intOf i).toNat)
              case atStart => exact ⟨0, Nat.zero_le _, rfl, Below.refl _ _⟩
              case round =>
                obtain ⟨k, hk, rfl, hB8⟩ := hrel
                have HB8 := Lib.hid hB8; clear hB8
                have HBw8 : Hid (Below w.heap.size w wr) := HB7.out.trans (HB8.out.mono HB7.out.size)
                by_cases hlt : k < ps.length
                · obtain ⟨gd, R, cr, rd, hgd, rfl, hcell, hrI, _⟩ := (HLs1.out.below HB8.out).get hlt
                  have HMg := Lib.hid (List.mem_of_getElem? hgd)
                  obtain ⟨g1, g2⟩ := guard_ok HA.out HMg.out
                  have hgl : gd.length ≤ 10 := setT_len HOk.out g1
                  have HB5x : Hid (Below wr.heap.size wr wr.drew) := (Below.refl _ _).drew
                  have hC := C0.out wr.drew HBw8.out.drew gd R cr (hrI.below HB5x.out) (by omega)
                  rw [proves_nil HA.out g1, g2] at hC
                  have HC := Lib.hid hC
                  have HD0 := Lib.hid hcell; have HRg := Lib.hid hrI
                  have hkn : (k : Int) < (ps.length : Int) := by omega
                  clear hC hgd hrI hcell g1 g2
                  go_wp2_with fail
                  have HS0 : Hid ((fun w' => ∃ u : Later wr, w' = u.w) wr.drew) := ⟨⟨wr.drew, HB5x.out⟩, rfl⟩
                  have y0 := later_cell HD0.out
                  have y1 := later_cell ((HNx2.out.later HB8.out).cell (i := 0) rfl)
                  refine wp_region_noPanic ?_
                  refine wp_region_ord (fun w' => ∃ u : Later wr, w' = u.w) 11 (fun k => !(k == 6 || k == 10 || k == 11)) (ordOf _ [0, 1, 2, 3, 4, 5, 6, 7, 8, 9, 10, 11]) (by kernel_rfl) (by kernel_rfl) (ordOf_mem _ _) (fun _ _ _ _ _ h => h) ?_
                  simp only [ordOf, List.filterMap_cons, List.filterMap_nil, List.getElem?_cons_zero, List.getElem?_cons_succ, Option.map_some]
                  iterate 6 (refine ord_quiet rfl rfl rfl HS0.out ?_; intro K hK; go_big_quiet_op; go_big_quiet_on)
                  clear y0 y1 HS0
                  refine ord_op rfl ?_
                  go_wp2_with fail
                  refine HC.out.mono ?_
                  rintro e W9 ⟨rfl, hb9⟩
                  have HB9w : Hid (Below wr.heap.size wr W9) := below_of_drew hb9
                  have HB9 : Hid (Below W7.heap.size W7 W9) := HB8.out.trans (HB9w.out.mono HB8.out.size)
                  have HBw9 : Hid (Below w.heap.size w W9) := HB7.out.trans (HB9.out.mono HB7.out.size)
                  clear hb9 HC
                  dsimp only
                  go_wp2_with fail
                  have HS1 : Hid ((fun w' => ∃ u : Later wr, w' = u.w) W9) := ⟨⟨W9, HB9w.out⟩, rfl⟩
                  refine mix_post (fun _ => HS1.out) ?_
                  iterate 3 (refine ord_quiet rfl rfl rfl HS1.out ?_; intro K hK; go_big_quiet_op; go_big_quiet_on)
                  refine ord_op rfl ?_
                  go_wp2_with fail
                  refine mix_post (fun _ => HS1.out) ?_
                  clear HS1
                  iterate 1 (refine ord_op rfl ?_; go_wp2_with fail; refine mix_post (fun h => absurd h (by decide)) ?_)
                  refine ord_nil ?_
                  refine NoPanic.normal ?_
                  have hWi := lwithin_any gd g R gd.length cr G g.length cg W9.drew ((HRg.out.below HB9w.out).below (Below.refl _ _).drew) (HG.out.below HBw9.out.drew) (by omega) hg
                  have HWi := Lib.hid hWi
                  have HDj : Hid ((gd.all fun x => decide (x ∈ g)) = true → soundB t y.toNat (lstGo t g 0).2 = true) := fun h => guard_within HA.out HMg.out HSg.out h
                  rw [← HP0.out] at HDj
                  clear hWi
                  generalize (gd.all fun x => decide (x ∈ g)) = wi at *
                  go_wp2_with fail
                  have HS2 : Hid ((fun w' => ∃ u : Later W9, w' = u.w) W9.drew) := ⟨⟨W9.drew, (Below.refl _ _).drew⟩, rfl⟩
                  have y0 := later_cell (cell_below HB9w.out HD0.out)
                  have y1 := later_cell ((HNy2.out.later HB9.out).cell (i := 1) rfl)
                  refine wp_region_noPanic ?_
                  refine wp_region_ord (fun w' => ∃ u : Later W9, w' = u.w) 13 (fun k => decide (k < 13)) (ordOf _ [0, 1, 2, 3, 4, 5, 6, 7, 8, 9, 10, 11, 12, 13, 14, 15, 16, 17, 18, 19, 20, 21]) (by kernel_rfl) (by kernel_rfl) (ordOf_mem _ _) (fun _ _ _ _ _ h => h) ?_
                  simp only [ordOf, List.filterMap_cons, List.filterMap_nil, List.getElem?_cons_zero, List.getElem?_cons_succ, Option.map_some]
                  iterate 13 (refine ord_quiet rfl rfl rfl HS2.out ?_; intro K hK; go_big_quiet_op; go_big_quiet_on)
                  clear y0 y1 HS2
                  refine ord_op rfl ?_
                  go_wp2_with fail
                  refine HWi.out.mono ?_
                  rintro e W10 ⟨rfl, hb10⟩
                  have HB10 : Hid (Below W7.heap.size W7 W10) := HB9.out.trans ((below_of_drew hb10).mono HB9.out.size)
                  have HB10w : Hid (Below wr.heap.size wr W10) := HB9w.out.trans ((below_of_drew hb10).mono HB9w.out.size)
                  clear hb10 HWi
                  go_wp2_with fail
                  refine mix_post (fun h => absurd h (by decide)) ?_
                  have HDx := Lib.hid (cell_below HB10w.out HD0.out)
                  have HRx := Lib.hid (HRg.out.below HB10w.out)
                  clear HB9w HB9 HBw9 HBw8 HB8 HB5x HD0 HRg HB10w
                  cases wi
                  · iterate 8 (refine ord_op rfl ?_; go_wp2_with fail; refine mix_post (fun h => absurd h (by decide)) ?_)
                    refine ord_nil ?_
                    refine NoPanic.normal ?_
                    clear HDj
                    go_wp2_with fail
                    obtain ⟨wo2, rfl⟩ : ∃ wo2 : World, wo2 = wr := ⟨_, rfl⟩
                    go_loopw [19, 20, 21] (fun i _ _ wr => ∃ j : Nat, j ≤ cs.length ∧ i = .int .i64 j ∧ Below W10.heap.size W10 wr) (fun i _ _ _ => cs.length - (intOf i).toNat)
                    case atStart => exact ⟨0, Nat.zero_le _, rfl, Below.refl _ _⟩
                    case round =>
                      obtain ⟨j, hj, rfl, hB11⟩ := hrel
                      have HB11 := Lib.hid hB11; clear hB11
                      have hnq := HNq.out
                      have HB7w : Hid (Below W7.heap.size W7 wr) := HB10.out.trans (HB11.out.mono HB10.out.size)
                      by_cases hlt3 : j < cs.length
                      · obtain ⟨ca, R2, cr2, rd2, hca, rfl, hcell2, hrI2, _⟩ := (HLs2.out.below HB7w.out).get hlt3
                        have HMc := Lib.hid (List.mem_of_getElem? hca)
                        have hcl : ca.length ≤ 10 := setT_len HOk.out (cause_ok HA.out HMc.out).1
                        have HMt : Hid ((ca.any fun x => decide (x ∈ gd)) = true) := guard_meets HA.out HMg.out HMc.out
                        have HD1 := Lib.hid hcell2; have HR1 := Lib.hid hrI2
                        have hjn : (j : Int) < (cs.length : Int) := by omega
                        clear hca hcell2 hrI2
                        go_wp2_with fail
                        obtain ⟨wo3, rfl⟩ : ∃ wo3 : World, wo3 = wr := ⟨_, rfl⟩
                        go_loopw [20, 21] (fun v i wr => ∃ k : Nat, k ≤ ca.length ∧ i = .int .i64 k ∧ v = .bool ((ca.take k).any fun x => decide (x ∈ gd)) ∧ Below wo3.heap.size wo3 wr) (fun _ i _ => ca.length - (intOf i).toNat)
                        case atStart => exact ⟨0, Nat.zero_le _, rfl, rfl, Below.refl _ _⟩
                        case round =>
                          obtain ⟨q, hq, rfl, rfl, hB12⟩ := hrel
                          have HB12 := Lib.hid hB12; clear hB12
                          have HB112 : Hid (Below W10.heap.size W10 wr) := HB11.out.trans (HB12.out.mono HB11.out.size)
                          have z1 := cell_below HB12.out HD1.out
                          by_cases hlt4 : q < ca.length
                          · obtain ⟨x, ad, hx, rfl, cx⟩ := rdI_get (HR1.out.below HB12.out) hlt4
                            have HSt := Lib.hid (any_take (fun x => decide (x ∈ gd)) hx)
                            have hqn : (q : Int) < (ca.length : Int) := by omega
                            have HB5 : Hid (Below wr.heap.size wr wr.drew) := (Below.refl _ _).drew
                            have HBd : Hid (Below wo3.heap.size wo3 wr.drew) := HB12.out.drew
                            have HH := Lib.hid (lhas_any gd x R gd.length cr wr.drew (HRx.out.below HB112.out.drew) (by omega))
                            clear hx
                            go_wp2_with fail
                            have HS0 : Hid ((fun w' => ∃ u : Later wr, w' = u.w) wr.drew) := ⟨⟨wr.drew, HB5.out⟩, rfl⟩
                            have y0 := later_cell (cell_below HB112.out HDx.out)
                            have y1 := later_cell z1
                            have y2 := later_cell cx
                            refine wp_region_noPanic ?_
                            refine wp_region_ord (fun w' => ∃ u : Later wr, w' = u.w) 13 (fun k => decide (k < 13)) (ordOf _ [0, 1, 2, 3, 4, 5, 6, 7, 8, 9, 10, 11, 12, 13, 14, 15]) (by kernel_rfl) (by kernel_rfl) (ordOf_mem _ _) (fun _ _ _ _ _ h => h) ?_
                            simp only [ordOf, List.filterMap_cons, List.filterMap_nil, List.getElem?_cons_zero, List.getElem?_cons_succ, Option.map_some]
                            cases hd : (ca.take q).any fun x => decide (x ∈ gd)
                            · have HSd : Hid (((ca.take (q + 1)).any fun x => decide (x ∈ gd)) = decide (x ∈ gd)) := by rw [HSt.out, hd]; exact Bool.false_or _
                              clear HSt
                              iterate 13 (refine ord_quiet rfl rfl rfl HS0.out ?_; intro K hK; go_big_quiet_op; go_big_quiet_on)
                              clear y0 y1 y2 HS0
                              generalize decide (x ∈ gd) = dd at *
                              refine ord_op rfl ?_
                              go_wp2_with fail
                              refine HH.out.mono ?_
                              rintro e W13 ⟨rfl, hb13⟩
                              have HB13 : Hid (Below wo3.heap.size wo3 W13) := HB12.out.trans ((below_of_drew hb13).mono HB12.out.size)
                              clear hb13
                              go_wp2_with fail
                              refine mix_post (fun h => absurd h (by decide)) ?_
                              cases dd
                              · have HS2 := Lib.hid HSd.out
                                iterate 2 (refine ord_op rfl ?_; go_wp2_with fail; refine mix_post (fun h => absurd h (by decide)) ?_)
                                refine ord_nil ?_
                                refine NoPanic.normal ?_
                                go_wp2_with fail
                                go_roundw
                                case rel => exact ⟨q + 1, by omega, by go_num, by rw [HS2.out], HB13.out⟩
                                case measure => simp [intOf]; omega
                              · have HS2 := Lib.hid HSd.out
                                iterate 2 (refine ord_op rfl ?_; go_wp2_with fail; refine mix_post (fun h => absurd h (by decide)) ?_)
                                refine ord_nil ?_
                                refine NoPanic.normal ?_
                                go_wp2_with fail
                                go_roundw
                                case rel => exact ⟨q + 1, by omega, by go_num, by rw [HS2.out], HB13.out⟩
                                case measure => simp [intOf]; omega
                            · have HS2 : Hid (((ca.take (q + 1)).any fun x => decide (x ∈ gd)) = true) := by rw [HSt.out, hd]; exact rfl
                              iterate 2 (refine ord_quiet rfl rfl rfl HS0.out ?_; intro K hK; go_big_quiet_op; go_big_quiet_on)
                              iterate 11 (refine ord_skip rfl rfl HS0.out ?_; simp only [Act.put, List.setIfInBounds_toArray, List.set_cons_succ, List.set_cons_zero])
                              clear y0 y1 y2 HS0
                              iterate 3 (refine ord_op rfl ?_; go_wp2_with fail; refine mix_post (fun h => absurd h (by decide)) ?_)
                              refine ord_nil ?_
                              refine NoPanic.normal ?_
                              go_wp2_with fail
                              go_roundw
                              case rel => exact ⟨q + 1, by omega, by go_num, by rw [HS2.out], HBd.out⟩
                              case measure => simp [intOf]; omega
                          · obtain rfl : q = ca.length := by omega
                            rw [List.take_length, HMt.out]
                            go_wp2_with fail
                            go_roundw
                            case rel => exact ⟨j + 1, by omega, by go_num, HB112.out⟩
                            case measure => simp [intOf]; omega
                      · obtain rfl : j = cs.length := by omega
                        go_wp2_with fail
                        go_roundw
                        case rel => exact ⟨k + 1, by omega, by go_num, HB7w.out⟩
                        case measure => simp [intOf]; omega
                  · first
                      | exact absurd (HDj.out rfl) (by decide)
                      | skip
                    all_goals (iterate 8 (refine ord_op rfl ?_; go_wp2_with fail; refine mix_post (fun h => absurd h (by decide)) ?_))
                    all_goals refine ord_nil ?_
                    all_goals refine NoPanic.normal ?_
                    clear HDj
                    go_wp2_with fail
                    obtain ⟨wo2, rfl⟩ : ∃ wo2 : World, wo2 = wr := ⟨_, rfl⟩
                    go_loopw [19, 20, 21] (fun i _ _ wr => ∃ j : Nat, j ≤ cs.length ∧ i = .int .i64 j ∧ Below W10.heap.size W10 wr) (fun i _ _ _ => cs.length - (intOf i).toNat)
                    case atStart => exact ⟨0, Nat.zero_le _, rfl, Below.refl _ _⟩
                    case round =>
                      obtain ⟨j, hj, rfl, hB11⟩ := hrel
                      have HB11 := Lib.hid hB11; clear hB11
                      have hnq := HNq.out
                      have HB7w : Hid (Below W7.heap.size W7 wr) := HB10.out.trans (HB11.out.mono HB10.out.size)
                      by_cases hlt3 : j < cs.length
                      · obtain ⟨ca, R2, cr2, rd2, hca, rfl, hcell2, hrI2, _⟩ := (HLs2.out.below HB7w.out).get hlt3
                        have HMc := Lib.hid (List.mem_of_getElem? hca)
                        have hcl : ca.length ≤ 10 := setT_len HOk.out (cause_ok HA.out HMc.out).1
                        have HMt : Hid ((ca.any fun x => decide (x ∈ gd)) = true) := guard_meets HA.out HMg.out HMc.out
                        have HD1 := Lib.hid hcell2; have HR1 := Lib.hid hrI2
                        have hjn : (j : Int) < (cs.length : Int) := by omega
                        clear hca hcell2 hrI2
                        go_wp2_with fail
                        obtain ⟨wo3, rfl⟩ : ∃ wo3 : World, wo3 = wr := ⟨_, rfl⟩
                        go_loopw [20, 21] (fun v i wr => ∃ k : Nat, k ≤ ca.length ∧ i = .int .i64 k ∧ v = .bool ((ca.take k).any fun x => decide (x ∈ gd)) ∧ Below wo3.heap.size wo3 wr) (fun _ i _ => ca.length - (intOf i).toNat)
                        case atStart => exact ⟨0, Nat.zero_le _, rfl, rfl, Below.refl _ _⟩
                        case round =>
                          obtain ⟨q, hq, rfl, rfl, hB12⟩ := hrel
                          have HB12 := Lib.hid hB12; clear hB12
                          have HB112 : Hid (Below W10.heap.size W10 wr) := HB11.out.trans (HB12.out.mono HB11.out.size)
                          have z1 := cell_below HB12.out HD1.out
                          by_cases hlt4 : q < ca.length
                          · obtain ⟨x, ad, hx, rfl, cx⟩ := rdI_get (HR1.out.below HB12.out) hlt4
                            have HSt := Lib.hid (any_take (fun x => decide (x ∈ gd)) hx)
                            have hqn : (q : Int) < (ca.length : Int) := by omega
                            have HB5 : Hid (Below wr.heap.size wr wr.drew) := (Below.refl _ _).drew
                            have HBd : Hid (Below wo3.heap.size wo3 wr.drew) := HB12.out.drew
                            have HH := Lib.hid (lhas_any gd x R gd.length cr wr.drew (HRx.out.below HB112.out.drew) (by omega))
                            clear hx
                            go_wp2_with fail
                            have HS0 : Hid ((fun w' => ∃ u : Later wr, w' = u.w) wr.drew) := ⟨⟨wr.drew, HB5.out⟩, rfl⟩
                            have y0 := later_cell (cell_below HB112.out HDx.out)
                            have y1 := later_cell z1
                            have y2 := later_cell cx
                            refine wp_region_noPanic ?_
                            refine wp_region_ord (fun w' => ∃ u : Later wr, w' = u.w) 13 (fun k => decide (k < 13)) (ordOf _ [0, 1, 2, 3, 4, 5, 6, 7, 8, 9, 10, 11, 12, 13, 14, 15]) (by kernel_rfl) (by kernel_rfl) (ordOf_mem _ _) (fun _ _ _ _ _ h => h) ?_
                            simp only [ordOf, List.filterMap_cons, List.filterMap_nil, List.getElem?_cons_zero, List.getElem?_cons_succ, Option.map_some]
                            cases hd : (ca.take q).any fun x => decide (x ∈ gd)
                            · have HSd : Hid (((ca.take (q + 1)).any fun x => decide (x ∈ gd)) = decide (x ∈ gd)) := by rw [HSt.out, hd]; exact Bool.false_or _
                              clear HSt
                              iterate 13 (refine ord_quiet rfl rfl rfl HS0.out ?_; intro K hK; go_big_quiet_op; go_big_quiet_on)
                              clear y0 y1 y2 HS0
                              generalize decide (x ∈ gd) = dd at *
                              refine ord_op rfl ?_
                              go_wp2_with fail
                              refine HH.out.mono ?_
                              rintro e W13 ⟨rfl, hb13⟩
                              have HB13 : Hid (Below wo3.heap.size wo3 W13) := HB12.out.trans ((below_of_drew hb13).mono HB12.out.size)
                              clear hb13
                              go_wp2_with fail
                              refine mix_post (fun h => absurd h (by decide)) ?_
                              cases dd
                              · have HS2 := Lib.hid HSd.out
                                iterate 2 (refine ord_op rfl ?_; go_wp2_with fail; refine mix_post (fun h => absurd h (by decide)) ?_)
                                refine ord_nil ?_
                                refine NoPanic.normal ?_
                                go_wp2_with fail
                                go_roundw
                                case rel => exact ⟨q + 1, by omega, by go_num, by rw [HS2.out], HB13.out⟩
                                case measure => simp [intOf]; omega
                              · have HS2 := Lib.hid HSd.out
                                iterate 2 (refine ord_op rfl ?_; go_wp2_with fail; refine mix_post (fun h => absurd h (by decide)) ?_)
                                refine ord_nil ?_
                                refine NoPanic.normal ?_
                                go_wp2_with fail
                                go_roundw
                                case rel => exact ⟨q + 1, by omega, by go_num, by rw [HS2.out], HB13.out⟩
                                case measure => simp [intOf]; omega
                            · have HS2 : Hid (((ca.take (q + 1)).any fun x => decide (x ∈ gd)) = true) := by rw [HSt.out, hd]; exact rfl
                              iterate 2 (refine ord_quiet rfl rfl rfl HS0.out ?_; intro K hK; go_big_quiet_op; go_big_quiet_on)
                              iterate 11 (refine ord_skip rfl rfl HS0.out ?_; simp only [Act.put, List.setIfInBounds_toArray, List.set_cons_succ, List.set_cons_zero])
                              clear y0 y1 y2 HS0
                              iterate 3 (refine ord_op rfl ?_; go_wp2_with fail; refine mix_post (fun h => absurd h (by decide)) ?_)
                              refine ord_nil ?_
                              refine NoPanic.normal ?_
                              go_wp2_with fail
                              go_roundw
                              case rel => exact ⟨q + 1, by omega, by go_num, by rw [HS2.out], HBd.out⟩
                              case measure => simp [intOf]; omega
                          · obtain rfl : q = ca.length := by omega
                            rw [List.take_length, HMt.out]
                            go_wp2_with fail
                            go_roundw
                            case rel => exact ⟨j + 1, by omega, by go_num, HB112.out⟩
                            case measure => simp [intOf]; omega
                      · obtain rfl : j = cs.length := by omega
                        go_wp2_with fail
                        go_roundw
                        case rel => exact ⟨k + 1, by omega, by go_num, HB7w.out⟩
                        case measure => simp [intOf]; omega
                · obtain rfl : k = ps.length := by omega
                  go_wp2_with fail
                  refine (Awake_any _).mono ?_
                  rintro e W9 ⟨rfl, hb9⟩
                  have HB9 : Hid (Below w.heap.size w W9) := HBw8.out.trans (hb9.mono HBw8.out.size)
                  clear hb9
                  go_wp2_with fail
                  go_ret
                  exact ⟨rfl, HB9.out⟩
    · clear HNe HEo HG1 HPn HI3
      go_wp2_with fail
      refine (Awake_any _).mono ?_
      rintro e W7 ⟨rfl, hb7⟩
      have HB7 : Hid (Below w.heap.size w W7) := HB3.out.trans (hb7.mono HB3.out.size)
      clear hb7
      go_wp2_with fail
      go_ret
      exact ⟨rfl, HB7.out⟩
  · clear HNe HEo HG1 HPn HI3
    go_wp2_with fail
    refine (Awake_any _).mono ?_
    rintro e W7 ⟨rfl, hb7⟩
    have HB7 : Hid (Below w.heap.size w W7) := HB3.out.trans (hb7.mono HB3.out.size)
    clear hb7
    go_wp2_with fail
    go_ret
    exact ⟨rfl, HB7.out⟩
end Go.Proofs.Ytadldndpphdmpaa
