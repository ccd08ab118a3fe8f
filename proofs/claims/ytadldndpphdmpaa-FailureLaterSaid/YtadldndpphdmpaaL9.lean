/- FailureLater returns true. -/
import Derived.Test.YtadldndpphdmpaaP7
import Derived.Test.YtadldndpphdmpaaHk
import Derived.Test.YtadldndpphdmpaaL8
import Derived.Test.YtadldndpphdmpaaL0
namespace Go.Proofs.Ytadldndpphdmpaa
open Go.RowKit Go.Shelf

theorem run_minc (a : Act) (o : Oper) (w' : World) (x : Nat) (b c : Int) (ho : o.op = .call { callee := .builtin .min, args := #[.tmp x, .const (.int .i64 c)], argTypes := #[3, 3] }) (hx : a.tmps.getD x undef = .int .i64 b) : (execOp a.eval o).run Try.prog w' = .ok (.value (.int .i64 (min b c))) w' := by
  unfold execOp
  rw [ho]
  have hx' : a.tmps[x]?.getD undef = .int .i64 b := by simpa using hx
  simp [go_sem, resolve, invoke, hx']

set_option maxRecDepth 100000 in
set_option maxHeartbeats 8000000 in
theorem FailureLater_any (t : List Nd) (l : List Sp) (s : List Int) (bb nd tk : Int) (A : Option Addr) (n c : Nat) (ms : List NdM) (L : Option Addr) (cl : Nat) (S : Option Addr) (cs : Nat) (w : World) (hT : TrM w t A n ms) (hc : n ≤ c) (hL : RdS w L l.length l) (hl : l.length ≤ 1000000000000000) (hS : RdI w S s.length s) (hs : s.length ≤ 1000000000000000) (hb : 0 ≤ bb ∧ bb ≤ 255) (ht : 0 ≤ tk ∧ tk ≤ 255) :
    Calls Try.prog 15 #[.agg #[.slice A n c], .slice L l.length cl, .agg #[.int .u8 bb, .slice S s.length cs, .int .i64 nd, .int .u8 tk]] w fun e w' => e = .returned (.bool true) ∧ Below w.heap.size w w' := by
  obtain ⟨W1, hW1⟩ : ∃ W1, (w.alloc (.cells #[.slice A n c] 24)).alloc (.cells #[.int .u8 bb, .slice S s.length cs, .int .i64 nd, .int .u8 tk] 67) = W1 := ⟨_, rfl⟩
  obtain ⟨b1, b2, b3⟩ := two_box w _ _ _ _ W1 hW1
  obtain ⟨d, hd⟩ : ∃ d : Nat, (d : Int) = bb % 50 := ⟨(bb % 50).toNat, by omega⟩
  have hd50 : d < 50 := by omega
  have HB1 := Lib.hid b1; have K1 := Lib.hid b2; have K2 := Lib.hid b3
  have C1 := Lib.hid (Run_any t l 350 A n c ms L cl W1 (hT.below b1) hc (hL.below b1) hl)
  have C2 := Lib.hid (fun (W : World) (B : Option Addr) (cB : Nat) (h : Below w.heap.size w W) (hr : RdS W B (shL d l).length (shL d l)) => Run_any t (shL d l) (350 + d) A n c ms B cB W (hT.below h) hc hr (by rw [shL_len]; exact hl))
  have C3a := Lib.hid (fun (W : World) (h : Below w.heap.size w W) => Saves_any t s nd tk A n c ms S cs W (hT.below h) hc (hS.below h) hs)
  have C3b := Lib.hid (fun (W : World) (h : Below w.heap.size w W) => Saves_any t s nd (tk + d) A n c ms S cs W (hT.below h) hc (hS.below h) hs)
  have HSl1 := Lib.hid (saves_len t s nd tk)
  have HSl2 := Lib.hid (saves_len t s nd (tk + d))
  have HFa := Lib.hid (fun h1 h2 => saves_fall (t := t) (l := s) (node := nd) (tk := tk) (d := d) h1 h2)
  have HL := Lib.hid hL
  have HT := Lib.hid hT.len
  have HW1 := Lib.hid hW1
  have HErr := Lib.hid (fun h => runT_err (t := t) (l := l) (N := 350) h)
  have HOkR := Lib.hid (fun h => runT_ok (t := t) (l := l) (N := 350) h)
  have HOk2 := Lib.hid (fun h => sh_ok (t := t) (l := l) h (d := d) (by omega))
  clear hW1 hT hL hS b1 b2 b3
  have hw0 : IntKind.i64.wrap bb = bb := IntWalk.i64_in _ ⟨by omega, by omega⟩
  have hw1 : IntKind.i64.wrap tk = tk := IntWalk.i64_in _ ⟨by omega, by omega⟩
  generalize savesT t s nd tk = Z1 at *
  generalize savesT t s nd (tk + d) = Z2 at *
  generalize runT t l 350 = X at *
  obtain ⟨X1, f⟩ := X
  obtain ⟨z1, l1⟩ := Z1
  obtain ⟨z2, l2⟩ := Z2
  dsimp only at *
  have hw2 : IntKind.i64.wrap (tk + (d : Int)) = tk + (d : Int) := IntWalk.i64_in _ ⟨by omega, by omega⟩
  have hw3 : IntKind.i64.wrap (350 + (d : Int)) = 350 + (d : Int) := IntWalk.i64_in _ ⟨by omega, by omega⟩
  have p0 := K2.out.cell (i := 0) rfl
  have pz := K2.out.lt
  go_enter Try.func15, Try.ntmps15
  go_wp2_with fail
  rw [HW1.out]
  go_wp2_with fail
  rw [← hd]
  refine C1.out.mono ?_
  rintro e W2 ⟨v, ps, rfl, hRo, hps, hb2⟩
  have HB2 : Hid (Below w.heap.size w W2) := HB1.out.trans (hb2.mono HB1.out.size)
  have HM1 := Lib.hid (K1.out.later hb2)
  have HM2 := Lib.hid (K2.out.later hb2)
  obtain ⟨A5, c5, e5, hsps⟩ := hRo.sps
  subst e5
  have HSps := Lib.hid hsps; have HPs := Lib.hid hps
  clear hb2 hRo hps hsps HW1 K1 K2 p0 pz C1 hw0
  have HD := Lib.hid hd
  clear hd
  dsimp only
  by_cases hf : f = 0
  · obtain ⟨hok, hl30, _, _, hsp, hX1⟩ := HOkR.out hf
    have HR2 := Lib.hid (HOk2.out hf)
    subst hf
    have HOk := Lib.hid hok; have HSp := Lib.hid hsp
    have hln : ps.length = n := by
      have h := congrArg List.length HPs.out
      rw [hX1, List.length_map, List.length_map, List.length_range] at h
      rw [h]; exact HT.out
    have hn40 : n ≤ 40 := by have := hok.l40; have := HT.out; omega
    have HGet : Hid (∀ i, i < n → ∀ sp, (ps.map (·.1))[i]? = some sp → sp = spL t (ownR l 350) i) := fun i hi sp hsp => by
      rw [HPs.out, hX1, List.getElem?_map, List.getElem?_range (by have := HT.out; omega)] at hsp
      exact (Option.some.inj hsp).symm
    have HPr : Hid (∀ i, i < n → ∀ (j : Nat) (s : Sp), (spL t (ownR l 350) i)[j]? = some s → s.nd = i ∧ 0 ≤ s.a ∧ s.a < s.b ∧ s.b ≤ 350) := fun i hi j s hs => by
      obtain ⟨g1, g2, g3, g4, _⟩ := run_parts hok hsp (N := 350) (by have := HT.out; omega) hs
      exact ⟨g1, g2, g3, g4⟩
    have HSpE : Hid (∀ u ∈ l, 0 ≤ u.a ∧ u.a ≤ u.b ∧ u.b ≤ 400) := fun u hu => (spE_ok (spErr_ok hsp u hu)).2
    have HLen : Hid (∀ i, i < n → (spL t (ownR l 350) i).length ≤ 400) := fun i hi => run_len hok hsp (by decide) (by have := HT.out; omega)
    have HShL : Hid (shL d l = l.map (shS d)) := rfl
    have HILn := Lib.hid (shL_len d l)
    have e3 : ((n : Int) != (n : Int)) = false := by simp
    clear hok hsp hX1 HOkR HErr HOk2
    rw [hln] at HSps ⊢
    clear hln
    obtain ⟨jj, hij, hzj0, hzj1, hzj2⟩ := info_parts infoSp
    go_wp2_with fail
    go_loopw [11, 12] (fun v i wr => ∃ k : Nat, k ≤ l.length ∧ i = .int .i64 k ∧ wr.ownsRow W2.heap.size 65 3 v k (((l.take k).map (shS d)).flatMap Sp.enc) ∧ Below W2.heap.size W2 wr) (fun _ i _ => l.length - (intOf i).toNat)
    case atStart => exact ⟨0, Nat.zero_le _, rfl, World.ownsRow_nil _ _ _ _, Below.refl _ _⟩
    case round =>
      obtain ⟨k, hk, rfl, hrw, hB⟩ := hrel
      have HRw := Lib.hid hrw; have HB := Lib.hid hB
      have HBw : Hid (Below w.heap.size w wr) := HB2.out.trans (hB.mono HB2.out.size)
      have HN1 := Lib.hid (HM1.out.later hB)
      have hBz := hB.size
      have HBz := Lib.hid hBz
      clear hrw hB
      by_cases hlt : k < l.length
      · obtain ⟨u, sd2, hu, rfl, hcu⟩ := (HL.out.below HBw.out).get hlt
        have HSu := Lib.hid (map_take_step (shS d) hu)
        obtain ⟨g0, g1, g2⟩ := HSpE.out u (List.mem_of_getElem? hu)
        obtain ⟨d0, d1, d2⟩ := hcu.three
        have hkn : (k : Int) < (l.length : Int) := by omega
        obtain ⟨un, ua, ub⟩ := u
        dsimp only at *
        have y0 := later_cell d0
        have y1 := later_cell d1
        have y2 := later_cell d2
        have hwa : IntKind.i64.wrap (ua + (d : Int)) = ua + (d : Int) := IntWalk.i64_in _ ⟨by omega, by omega⟩
        have hwb : IntKind.i64.wrap (ub + (d : Int)) = ub + (d : Int) := IntWalk.i64_in _ ⟨by omega, by omega⟩
        clear hu hcu
        have HB5 : Hid (Below wr.heap.size wr wr.drew) := (Below.refl _ _).drew
        have HRw5 : Hid (wr.drew.ownsRow W2.heap.size 65 3 u11 k (((l.take k).map (shS d)).flatMap Sp.enc)) := own_far HRw.out (grown_of_below HB5.out none) (fun r e => by cases e)
        have HZ5 : Hid (W2.heap.size ≤ wr.drew.heap.size) := HBz.out
        have hse : shS d ⟨un, ua, ub⟩ = ⟨un, min (ua + (d : Int)) 400, min (ub + (d : Int)) 400⟩ := rfl
        rw [hse] at HSu
        clear hse
        go_wp2_with fail
        have HS0 : Hid ((fun w' => ∃ u : Later wr, w' = u.w) wr.drew) := ⟨⟨wr.drew, HB5.out⟩, rfl⟩
        refine wp_region_noPanic ?_
        refine wp_region_ord (fun w' => ∃ u : Later wr, w' = u.w) 24 (fun k => decide (k < 23)) (ordOf _ [0, 1, 2, 3, 4, 5, 6, 7, 8, 9, 10, 11, 12, 13, 14, 15, 16, 17, 18, 19, 20, 21, 22, 23, 24, 25]) (by kernel_rfl) (by kernel_rfl) (ordOf_mem _ _) (fun _ _ _ _ _ h => h) ?_
        simp only [ordOf, List.filterMap_cons, List.filterMap_nil, List.getElem?_cons_zero, List.getElem?_cons_succ, Option.map_some]
        iterate 23 ((first | refine ord_quiet rfl rfl rfl HS0.out ?_ | refine ord_valQ rfl _ (fun w' => run_minc _ _ w' _ _ _ rfl rfl) rfl HS0.out ?_); intro K hK; go_big_quiet_op; go_big_quiet_on)
        clear y0 y1 y2 d0 d1 d2 HS0
        refine ord_op rfl ?_
        go_wp2_with (refine wpList_buildSlice_one rfl 56 65 _ rfl 3 _ #[.int .i64 un, .int .i64 (min (ua + (d : Int)) 400), .int .i64 (min (ub + (d : Int)) 400)] rfl Try.underlying56 (Try.sizeOf65 _) (Try.zeroValue65 _) rfl (by omega) (by omega) ?_)
        refine mix_post (fun _ => ⟨⟨_, HB5.out.alloc HB5.out.size _⟩, rfl⟩) ?_
        refine ord_op rfl ?_
        go_wp2_with (at_builtin; refine wpList_append_st rfl _ _ 56 rfl W2.heap.size 65 jj (.agg #[.int .i64 0, .int .i64 0, .int .i64 0]) 3 24 Try.underlying56 hij hzj0 hzj1 hzj2 rfl (by decide) _ _ _ rfl HRw5.out #[.int .i64 un, .int .i64 (min (ua + (d : Int)) 400), .int .i64 (min (ub + (d : Int)) 400)] rfl wr.drew.heap.size rfl rfl (by simp [Value.oneCell']) (by unfold maxLen; omega) (by omega) HZ5.out ?_; intro A' c'' w2 hown' hgrow _; have HO2 := Lib.hid hown'; have HG2 := Lib.hid hgrow; clear hown' hgrow)
        refine mix_post (fun h => absurd h (by decide)) ?_
        refine ord_op rfl ?_
        go_wp2_with fail
        refine mix_post (fun h => absurd h (by decide)) ?_
        refine ord_nil ?_
        refine NoPanic.normal ?_
        go_wp2_with fail
        go_roundw
        case rel => exact ⟨k + 1, by omega, by go_num, by rw [HSu.out, List.flatMap_append]; exact HO2.out, (HB.out.trans (HB5.out.mono HBz.out)).grown HG2.out HZ5.out (fun r e => (HRw5.out.lt r e).1)⟩
        case measure => simp [intOf]; omega
      · obtain rfl : k = l.length := by omega
        rw [List.take_length, ← HShL.out] at HRw
        obtain ⟨A6, c6, e6, hr6, _, _⟩ := rd_of_own enc3 HRw.out HILn.out
        subst e6
        rw [← HILn.out] at hr6
        have hRun := C2.out wr A6 c6 HBw.out hr6
        rw [HR2.out, HILn.out] at hRun
        have HRun := Lib.hid hRun
        have k0 := HN1.out.cell (i := 0) rfl
        have kz := HN1.out.lt
        clear hr6 hRun
        go_wp2_with fail
        refine HRun.out.mono ?_
        rintro e W6 ⟨v6, qs, rfl, hRo, hqs, hb6⟩
        have HB26 : Hid (Below W2.heap.size W2 W6) := HB.out.trans (hb6.mono HB.out.size)
        have HBw6 : Hid (Below w.heap.size w W6) := HB2.out.trans (HB26.out.mono HB2.out.size)
        obtain ⟨A7, c7, e7, hsqs⟩ := hRo.sps
        subst e7
        have hlq : qs.length = n := by
          have h := congrArg List.length hqs
          rw [List.length_map, List.length_map, List.length_range] at h
          rw [h]; exact HT.out
        have HSqs := Lib.hid hsqs
        have HGet2 : Hid (∀ i, i < n → ∀ sp, (qs.map (·.1))[i]? = some sp → sp = (spL t (ownR l 350) i).map (shR d)) := fun i hi sp hsp => by
          rw [hqs, List.getElem?_map, List.getElem?_range (by have := HT.out; omega)] at hsp
          exact (Option.some.inj hsp).symm
        rw [hlq] at HSqs ⊢
        clear hb6 hRo hqs hsqs hlq k0 kz HRun
        dsimp only
        go_wp2_with fail
        obtain ⟨wo, rfl⟩ : ∃ wo : World, wo = W6 := ⟨_, rfl⟩
        go_loopw [15, 16] (fun i _ wr => ∃ k : Nat, k ≤ n ∧ i = .int .i64 k ∧ Below wo.heap.size wo wr) (fun i _ _ => n - (intOf i).toNat)
        case atStart => exact ⟨0, Nat.zero_le _, rfl, Below.refl _ _⟩
        case round =>
          obtain ⟨k, hk, rfl, hB7⟩ := hrel
          have HB7 := Lib.hid hB7; clear hB7
          have HB27 : Hid (Below W2.heap.size W2 wr) := HB26.out.trans (HB7.out.mono HB26.out.size)
          by_cases hlt : k < n
          · obtain ⟨sp, B, cB, sd, hsp, hA5, hcell, hrd⟩ := (HSps.out.below HB27.out).get hlt
            obtain ⟨sq, B2, cB2, sd2, hsq, hA7, hcell2, hrd2⟩ := (HSqs.out.below HB7.out).get hlt
            have e1 := HGet.out k hlt sp hsp
            have e2 := HGet2.out k hlt sq hsq
            have hPk := HPr.out k hlt
            have hsl := HLen.out k hlt
            rw [← e1] at e2 hPk hsl
            subst e2
            rw [List.length_map] at hcell2 hrd2
            subst hA5
            subst hA7
            have HPk := Lib.hid hPk; have HRd := Lib.hid hrd; have HRd2 := Lib.hid hrd2; have HC0 := Lib.hid hcell; have HC02 := Lib.hid hcell2
            have hkn : (k : Int) < (n : Int) := by omega
            have e4 : ((sp.length : Int) != (sp.length : Int)) = false := by simp
            clear hsp hsq e1 hPk hrd hrd2
            go_wp2_with fail
            go_region
            go_wp2_with fail
            clear hcell hcell2
            obtain ⟨wp, rfl⟩ : ∃ wp : World, wp = wr := ⟨_, rfl⟩
            go_loopw [16] (fun j wr => ∃ jn : Nat, jn ≤ sp.length ∧ j = .int .i64 jn ∧ Below wp.heap.size wp wr) (fun j _ => sp.length - (intOf j).toNat)
            case atStart => exact ⟨0, Nat.zero_le _, rfl, (Below.refl _ _).drew⟩
            case round =>
              obtain ⟨j, hj, rfl, hB8⟩ := hrel
              have HB8 := Lib.hid hB8; clear hB8
              have hc1 := cell_below HB8.out HC0.out
              have hc2 := cell_below HB8.out HC02.out
              by_cases hjl : j < sp.length
              · obtain ⟨s1, a1, hs1, rfl, hcs1⟩ := (HRd.out.below HB8.out).get hjl
                obtain ⟨s2, a2, hs2, rfl, hcs2⟩ := (HRd2.out.below HB8.out).get hjl
                have hse : s2 = shR d s1 := by
                  rw [List.getElem?_map, hs1] at hs2
                  exact (Option.some.inj hs2).symm
                subst hse
                obtain ⟨g0, g1, g2, g3⟩ := HPk.out j s1 hs1
                obtain ⟨d0, d1, d2⟩ := hcs1.three
                obtain ⟨f0, f1, f2⟩ := hcs2.three
                obtain ⟨sn, sa, sb⟩ := s1
                dsimp only [shR] at *
                subst g0
                have hwa : IntKind.i64.wrap (sa + (d : Int)) = sa + (d : Int) := IntWalk.i64_in _ ⟨by omega, by omega⟩
                have hwb : IntKind.i64.wrap (sb + (d : Int)) = sb + (d : Int) := IntWalk.i64_in _ ⟨by omega, by omega⟩
                have hjl' : (j : Int) < (sp.length : Int) := by omega
                clear hs1 hs2 hcs1 hcs2
                go_wp2_with fail
                go_region
                go_wp2_with fail
                go_roundw
                case rel => exact ⟨j + 1, by omega, by go_num, HB8.out.drew⟩
                case measure => simp [intOf]; omega
              · obtain rfl : j = sp.length := by omega
                go_wp2_with fail
                go_roundw
                case rel => exact ⟨k + 1, by omega, by go_num, HB7.out.trans (HB8.out.mono HB7.out.size)⟩
                case measure => simp [intOf]; omega
          · obtain rfl : n = k := by omega
            have HB27w : Hid (Below w.heap.size w wr) := HB2.out.trans (HB27.out.mono HB2.out.size)
            clear HGet HGet2 HPr HLen HSpE
            have HN1t := Lib.hid (HM1.out.later HB27.out)
            have HN2t := Lib.hid (HM2.out.later HB27.out)
            have k0 := HN1t.out.cell (i := 0) rfl
            have kz := HN1t.out.lt
            have k1 := HN2t.out.cell (i := 1) rfl
            have k2 := HN2t.out.cell (i := 2) rfl
            have k3 := HN2t.out.cell (i := 3) rfl
            have kz2 := HN2t.out.lt
            go_wp2_with fail
            refine (C3a.out _ HB27w.out).mono ?_
            rintro e Wa ⟨va, rfl, hra, hba⟩
            have HBa : Hid (Below w.heap.size w Wa) := HB27w.out.trans (hba.mono HB27w.out.size)
            have HN1a := Lib.hid (HN1t.out.later hba)
            have HN2a := Lib.hid (HN2t.out.later hba)
            obtain ⟨Aa, ca, rfl, hIa, _, _⟩ := rdI_of_own hra rfl
            have HIa := Lib.hid hIa
            clear hba hra hIa k0 kz k1 k2 k3 kz2
            have k0 := HN1a.out.cell (i := 0) rfl
            have kz := HN1a.out.lt
            have k1 := HN2a.out.cell (i := 1) rfl
            have k2 := HN2a.out.cell (i := 2) rfl
            have k3 := HN2a.out.cell (i := 3) rfl
            have kz2 := HN2a.out.lt
            dsimp only
            go_wp2_with fail
            refine (C3b.out _ HBa.out).mono ?_
            rintro e Wb ⟨vb, rfl, hrb, hbb⟩
            have HBb : Hid (Below w.heap.size w Wb) := HBa.out.trans (hbb.mono HBa.out.size)
            obtain ⟨Ab, cb, rfl, hIb, _, _⟩ := rdI_of_own hrb rfl
            have HIb := Lib.hid hIb
            have HIa2 := Lib.hid (HIa.out.below hbb)
            clear hbb hrb hIb k0 kz k1 k2 k3 kz2
            dsimp only
            cases q1 : (z1 != 0)
            · cases q2 : (z2 != 0)
              · have HWi := Lib.hid (HFa.out (by simpa using q1) (by simpa using q2))
                have hH := lwithin_any l2 l1 Ab l2.length cb Aa l1.length ca Wb HIb.out HIa2.out (by have := HSl2.out; omega) (by have := HSl1.out; omega)
                rw [HWi.out] at hH
                have HH := Lib.hid hH
                clear hH
                go_wp2_with fail
                refine HH.out.mono ?_
                rintro e Wc ⟨rfl, hbc⟩
                have HBc : Hid (Below w.heap.size w Wc) := HBb.out.trans (hbc.mono HBb.out.size)
                clear hbc
                go_wp2_with fail
                refine (Awake_any _).mono ?_
                rintro e W8 ⟨rfl, hb8⟩
                have HB8 : Hid (Below w.heap.size w W8) := HBc.out.trans (hb8.mono HBc.out.size)
                clear hb8
                go_wp2_with fail
                go_ret
                exact ⟨rfl, HB8.out⟩
              · clear HIa HIa2 HIb
                go_wp2_with fail
                refine (Awake_any _).mono ?_
                rintro e W8 ⟨rfl, hb8⟩
                have HB8 : Hid (Below w.heap.size w W8) := HBb.out.trans (hb8.mono HBb.out.size)
                clear hb8
                go_wp2_with fail
                go_ret
                exact ⟨rfl, HB8.out⟩
            · clear HIa HIa2 HIb
              go_wp2_with fail
              refine (Awake_any _).mono ?_
              rintro e W8 ⟨rfl, hb8⟩
              have HB8 : Hid (Below w.heap.size w W8) := HBb.out.trans (hb8.mono HBb.out.size)
              clear hb8
              go_wp2_with fail
              go_ret
              exact ⟨rfl, HB8.out⟩
  · have hfb : (f == 0) = false := by simpa using hf
    clear hf
    have HN1t := Lib.hid (HM1.out.later (Below.refl _ _))
    have HN2t := Lib.hid (HM2.out.later (Below.refl _ _))
    have k0 := HN1t.out.cell (i := 0) rfl
    have kz := HN1t.out.lt
    have k1 := HN2t.out.cell (i := 1) rfl
    have k2 := HN2t.out.cell (i := 2) rfl
    have k3 := HN2t.out.cell (i := 3) rfl
    have kz2 := HN2t.out.lt
    go_wp2_with fail
    refine (C3a.out _ HB2.out).mono ?_
    rintro e Wa ⟨va, rfl, hra, hba⟩
    have HBa : Hid (Below w.heap.size w Wa) := HB2.out.trans (hba.mono HB2.out.size)
    have HN1a := Lib.hid (HN1t.out.later hba)
    have HN2a := Lib.hid (HN2t.out.later hba)
    obtain ⟨Aa, ca, rfl, hIa, _, _⟩ := rdI_of_own hra rfl
    have HIa := Lib.hid hIa
    clear hba hra hIa k0 kz k1 k2 k3 kz2
    have k0 := HN1a.out.cell (i := 0) rfl
    have kz := HN1a.out.lt
    have k1 := HN2a.out.cell (i := 1) rfl
    have k2 := HN2a.out.cell (i := 2) rfl
    have k3 := HN2a.out.cell (i := 3) rfl
    have kz2 := HN2a.out.lt
    dsimp only
    go_wp2_with fail
    refine (C3b.out _ HBa.out).mono ?_
    rintro e Wb ⟨vb, rfl, hrb, hbb⟩
    have HBb : Hid (Below w.heap.size w Wb) := HBa.out.trans (hbb.mono HBa.out.size)
    obtain ⟨Ab, cb, rfl, hIb, _, _⟩ := rdI_of_own hrb rfl
    have HIb := Lib.hid hIb
    have HIa2 := Lib.hid (HIa.out.below hbb)
    clear hbb hrb hIb k0 kz k1 k2 k3 kz2
    dsimp only
    cases q1 : (z1 != 0)
    · cases q2 : (z2 != 0)
      · have HWi := Lib.hid (HFa.out (by simpa using q1) (by simpa using q2))
        have hH := lwithin_any l2 l1 Ab l2.length cb Aa l1.length ca Wb HIb.out HIa2.out (by have := HSl2.out; omega) (by have := HSl1.out; omega)
        rw [HWi.out] at hH
        have HH := Lib.hid hH
        clear hH
        go_wp2_with fail
        refine HH.out.mono ?_
        rintro e Wc ⟨rfl, hbc⟩
        have HBc : Hid (Below w.heap.size w Wc) := HBb.out.trans (hbc.mono HBb.out.size)
        clear hbc
        go_wp2_with fail
        refine (Awake_any _).mono ?_
        rintro e W8 ⟨rfl, hb8⟩
        have HB8 : Hid (Below w.heap.size w W8) := HBc.out.trans (hb8.mono HBc.out.size)
        clear hb8
        go_wp2_with fail
        go_ret
        exact ⟨rfl, HB8.out⟩
      · clear HIa HIa2 HIb
        go_wp2_with fail
        refine (Awake_any _).mono ?_
        rintro e W8 ⟨rfl, hb8⟩
        have HB8 : Hid (Below w.heap.size w W8) := HBb.out.trans (hb8.mono HBb.out.size)
        clear hb8
        go_wp2_with fail
        go_ret
        exact ⟨rfl, HB8.out⟩
    · clear HIa HIa2 HIb
      go_wp2_with fail
      refine (Awake_any _).mono ?_
      rintro e W8 ⟨rfl, hb8⟩
      have HB8 : Hid (Below w.heap.size w W8) := HBb.out.trans (hb8.mono HBb.out.size)
      clear hb8
      go_wp2_with fail
      go_ret
      exact ⟨rfl, HB8.out⟩
end Go.Proofs.Ytadldndpphdmpaa
