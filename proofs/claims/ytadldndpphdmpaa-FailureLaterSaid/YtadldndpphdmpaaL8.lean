/- FailureTold returns true. -/
import Derived.Test.YtadldndpphdmpaaS4
import Derived.Test.YtadldndpphdmpaaHj
import Derived.Test.YtadldndpphdmpaaL3
namespace Go.Proofs.Ytadldndpphdmpaa
open Go.RowKit Go.Shelf

theorem canon_lenB {n hi : Int} : ∀ (l : List Sp) (lo : Int), Canon n l → (∀ s ∈ l, lo ≤ s.a ∧ s.b ≤ hi) → l.length ≤ (hi - lo).toNat
  | [], _, _, _ => by simp
  | s :: l, lo, h, hb => by
    have h1 := hb s (List.mem_cons_self ..)
    have h2 := (h.one s (List.mem_cons_self ..)).2
    have h3 := canon_lenB l (lo + 1) h.tail fun u hu => by
      have h4 := h.behind u hu
      exact ⟨by omega, (hb u (List.mem_cons_of_mem _ hu)).2⟩
    rw [List.length_cons]
    omega
theorem run_len {t : List Nd} (hT : TrOk t) {l : List Sp} (h : spErr t l = 0) {N : Int} (hN : N ≤ 400) {i : Nat} (hi : i < t.length) : (spL t (ownR l N) i).length ≤ 400 := by
  rw [spL_fil]
  obtain ⟨h1, h2, _⟩ := spL_spec hT (fun i _ => ownR_inR h (N := N) i) i hi
  have := canon_lenB _ 0 h1 (hi := N) fun s hs => ⟨(h2 s hs).1, (h2 s hs).2.2⟩
  omega
set_option maxRecDepth 100000 in
set_option maxHeartbeats 8000000 in
theorem FailureTold_any (t : List Nd) (l : List Sp) (x0 x1 : Int) (A : Option Addr) (n c : Nat) (ms : List NdM) (L : Option Addr) (cl : Nat) (w : World) (hT : TrM w t A n ms) (hc : n ≤ c) (hL : RdS w L l.length l) (hl : l.length ≤ 1000000000000000) :
    Calls Try.prog 13 #[.agg #[.slice A n c], .slice L l.length cl, .agg #[.int .i64 x0, .int .i64 x1]] w fun e w' => e = .returned (.bool true) ∧ Below w.heap.size w w' := by
  obtain ⟨W1, hW1⟩ : ∃ W1, (w.alloc (.cells #[.slice A n c] 24)).alloc (.cells #[.int .i64 x0, .int .i64 x1] 36) = W1 := ⟨_, rfl⟩
  obtain ⟨b1, b2, b3⟩ := two_box w _ _ _ _ W1 hW1
  have HB1 := Lib.hid b1; have K1 := Lib.hid b2; have K2 := Lib.hid b3
  have C1 := Lib.hid (Run_any t l x0 A n c ms L cl W1 (hT.below b1) hc (hL.below b1) hl)
  have C2 := Lib.hid (fun (W : World) (B : Option Addr) (cB : Nat) (h : Below w.heap.size w W) (hr : RdI W B (tldL x1 l).length (tldL x1 l)) => Effects_any t (tldL x1 l) A n c ms B cB W (hT.below h) hc hr (by have := tldL_len x1 l; omega))
  have HL := Lib.hid hL
  have HT := Lib.hid hT.len
  have HW1 := Lib.hid hW1
  have HErr := Lib.hid (fun h => runT_err (t := t) (l := l) (N := x0) h)
  have HOkR := Lib.hid (fun h => runT_ok (t := t) (l := l) (N := x0) h)
  have HTld := Lib.hid (fun h1 h2 => told_ok (t := t) h1 (l := l) h2 x1)
  have HTin := Lib.hid (fun h1 h2 i hi hcv => told_in (t := t) h1 (l := l) h2 (N := x0) (K := x1) (i := i) hi hcv)
  have HPar := Lib.hid (fun h1 h2 i hi j s hs => run_parts (t := t) h1 (l := l) h2 (N := x0) (i := i) hi (j := j) (s := s) hs)
  clear hW1 hT hL b1 b2 b3
  generalize runT t l x0 = X at *
  obtain ⟨X1, f⟩ := X
  dsimp only at *
  go_enter Try.func13, Try.ntmps13
  go_wp2_with fail
  rw [HW1.out]
  have p0 := K2.out.cell (i := 0) rfl
  have pz := K2.out.lt
  go_wp2_with fail
  refine C1.out.mono ?_
  rintro e W2 ⟨v, ps, rfl, hRo, hps, hb2⟩
  have HB2 : Hid (Below w.heap.size w W2) := HB1.out.trans (hb2.mono HB1.out.size)
  have HM1 := Lib.hid (K1.out.later hb2)
  have HM2 := Lib.hid (K2.out.later hb2)
  have r0 := HM1.out.cell (i := 0) rfl
  have rz := HM1.out.lt
  obtain ⟨A5, c5, e5, hsps⟩ := hRo.sps
  subst e5
  have HSps := Lib.hid hsps; have HPs := Lib.hid hps
  clear hb2 hRo hps hsps HW1 K1 K2 p0 pz
  dsimp only
  by_cases hf : f = 0
  · obtain ⟨hok, hl30, _, hN4, hsp, hX1⟩ := HOkR.out hf
    subst hf
    have HOk := Lib.hid hok; have HSp := Lib.hid hsp
    have HTd := Lib.hid (HTld.out hok hsp)
    have hln : ps.length = n := by
      have h := congrArg List.length HPs.out
      rw [hX1, List.length_map, List.length_map, List.length_range] at h
      rw [h]; exact HT.out
    have hn40 : n ≤ 40 := by have := hok.l40; have := HT.out; omega
    have HPn := Lib.hid hln
    have HGet : Hid (∀ i, i < n → ∀ sp, (ps.map (·.1))[i]? = some sp → sp = spL t (ownR l x0) i) := fun i hi sp hsp => by
      rw [HPs.out, hX1, List.getElem?_map, List.getElem?_range (by have := HT.out; omega)] at hsp
      exact (Option.some.inj hsp).symm
    have HLen : Hid (∀ i, i < n → (spL t (ownR l x0) i).length ≤ 400) := fun i hi => run_len hok hsp hN4 (by have := HT.out; omega)
    have HPr : Hid (∀ i, i < n → ∀ (j : Nat) (s : Sp), (spL t (ownR l x0) i)[j]? = some s → s.nd = i ∧ 0 ≤ s.a ∧ s.a < s.b ∧ s.b ≤ x0 ∧ ∀ (k : Nat) (u : Sp), (spL t (ownR l x0) i)[k]? = some u → k < j → u.b < s.a) := fun i hi j s hs => HPar.out HOk.out HSp.out i (by have := HT.out; omega) j s hs
    have e3 : ((n : Int) != (n : Int)) = false := by simp
    clear hok hsp hX1 HPar HOkR HErr HTld
    rw [hln] at HSps ⊢
    clear hln
    go_wp2_with fail
    clear r0 rz e3
    go_loopw [9, 10, 11] (fun i _ _ wr => ∃ k : Nat, k ≤ n ∧ i = .int .i64 k ∧ Below W2.heap.size W2 wr) (fun i _ _ _ => n - (intOf i).toNat)
    case atStart => exact ⟨0, Nat.zero_le _, rfl, Below.refl _ _⟩
    case round =>
      obtain ⟨k, hk, rfl, hB⟩ := hrel
      have HB := Lib.hid hB; clear hB
      by_cases hlt : k < n
      · obtain ⟨sp, B, cB, sd, hsp, hA5, hcell, hrd⟩ := HSps.out.get hlt
        have hspe := HGet.out k hlt sp hsp
        have hPk := HPr.out k hlt
        rw [← hspe] at hPk
        have hsl := HLen.out k hlt
        rw [← hspe] at hsl
        have HPk := Lib.hid hPk
        subst hA5
        have HRd := Lib.hid hrd; have HCell := Lib.hid hcell
        have hkn : (k : Int) < (n : Int) := by omega
        clear hsp hspe hPk hrd hcell
        go_wp2_with fail
        obtain ⟨wo, rfl⟩ : ∃ wo : World, wo = wr := ⟨_, rfl⟩
        go_loopw [10, 11] (fun j _ wr => ∃ jn : Nat, jn ≤ sp.length ∧ j = .int .i64 jn ∧ Below W2.heap.size W2 wr) (fun j _ _ => sp.length - (intOf j).toNat)
        case atStart => exact ⟨0, Nat.zero_le _, rfl, HB.out⟩
        case round =>
          obtain ⟨j, hj, rfl, hB3⟩ := hrel
          have HB3 := Lib.hid hB3; clear hB3
          have hcl := cell_below HB3.out HCell.out
          by_cases hjl : j < sp.length
          · obtain ⟨s, sd2, hs, rfl, hcs⟩ := (HRd.out.below HB3.out).get hjl
            obtain ⟨g1, g2, g3, g4, g5⟩ := HPk.out j s hs
            obtain ⟨d0, d1, d2⟩ := hcs.three
            have HG5 := Lib.hid g5
            have hjl' : (j : Int) < (sp.length : Int) := by omega
            obtain ⟨sn, sa, sb⟩ := s
            dsimp only at *
            subst g1
            obtain ⟨W3, hW3⟩ : ∃ W3, wr.alloc (.cells #[.int .i64 k, .int .i64 sa, .int .i64 sb] 65) = W3 := ⟨_, rfl⟩
            have HB4 : Hid (Below wr.heap.size wr W3) := by rw [← hW3]; exact (Below.refl _ _).alloc (Nat.le_refl _) _
            have HKs : Hid (Blk W3 wr.heap.size 65 #[.int .i64 k, .int .i64 sa, .int .i64 sb]) := by rw [← hW3]; exact Blk.new _ _ _ rfl
            have HW3 := Lib.hid hW3
            have HB23 : Hid (Below W2.heap.size W2 W3) := HB3.out.trans (HB4.out.mono HB3.out.size)
            clear hW3 hs hcs g5
            go_wp2_with fail
            rw [HW3.out]
            clear d0 d1 d2 hcl
            have y0 := HKs.out.cell (i := 0) rfl
            have y1 := HKs.out.cell (i := 1) rfl
            have y2 := HKs.out.cell (i := 2) rfl
            have yz := HKs.out.lt
            have q0 := (HM2.out.later HB23.out).cell (i := 0) rfl
            have qz := (HM2.out.later HB23.out).lt
            have b1 : ((k : Int) != (k : Int)) = false := by simp
            have b2 : decide (sa < 0) = false := by simp; omega
            have b3 : decide (sb ≤ sa) = false := by simp; omega
            have b4 : decide (x0 < sb) = false := by simp; omega
            have hcl3 := cell_below HB23.out HCell.out
            rcases j with _ | jj
            · have b5 : decide ((0 : Int) < 0) = false := by simp
              go_wp2_with fail
              go_region
              go_wp2_with fail
              go_roundw
              case rel => exact ⟨0 + 1, by omega, by go_num, HB23.out.drew⟩
              case measure => simp [intOf]; omega
            · obtain ⟨s', sd3, hs', e3, hcs'⟩ := (HRd.out.below HB23.out).get (i := jj) (by omega)
              have hp := HG5.out jj s' hs' (by omega)
              obtain ⟨d0, d1, d2⟩ := hcs'.three
              injection e3 with e3
              subst e3
              obtain ⟨un, ua, ub⟩ := s'
              dsimp only at *
              have b5 : decide ((0 : Int) < (jj : Int) + 1) = true := by simp; first | done | omega
              have b6 : decide (sa ≤ ub) = false := by simp; omega
              have hw1 : IntKind.i64.wrap ((jj : Int) + 1 - 1) = (jj : Int) := by rw [IntWalk.i64_in _ ⟨by omega, by omega⟩]; omega
              have hjj : (jj : Int) < (sp.length : Int) := by omega
              clear hs' hcs'
              push_cast
              go_wp2_with fail
              go_region
              go_wp2_with fail
              go_roundw
              case rel => exact ⟨jj + 1 + 1, by omega, by go_num, HB23.out.drew⟩
              case measure => simp [intOf]; omega
          · obtain rfl : j = sp.length := by omega
            go_wp2_with fail
            go_roundw
            case rel => exact ⟨k + 1, by omega, by go_num, HB3.out⟩
            case measure => simp [intOf]; omega
      · obtain rfl : n = k := by omega
        clear HPr
        have HB' := HB
        obtain ⟨jq, hij, hzj0, hzj1, hzj2⟩ := info_parts infoI
        go_wp2_with fail
        obtain ⟨wo, rfl⟩ : ∃ wo : World, wo = wr := ⟨_, rfl⟩
        go_loopw [12, 13] (fun v i wr => ∃ k : Nat, k ≤ l.length ∧ i = .int .i64 k ∧ wr.ownsRow wo.heap.size 3 1 v (tldL x1 (l.take k)).length ((tldL x1 (l.take k)).map (Value.int .i64)) ∧ Below wo.heap.size wo wr) (fun _ i _ => l.length - (intOf i).toNat)
        case atStart => exact ⟨0, Nat.zero_le _, rfl, World.ownsRow_nil _ _ _ _, Below.refl _ _⟩
        case round =>
          obtain ⟨q, hq, rfl, hrw, hB4⟩ := hrel
          have HRw := Lib.hid hrw; have HB4 := Lib.hid hB4
          have HB24 : Hid (Below W2.heap.size W2 wr) := HB.out.trans (hB4.mono HB.out.size)
          have HBw : Hid (Below w.heap.size w wr) := HB2.out.trans (HB24.out.mono HB2.out.size)
          have hBz := hB4.size
          have HBz := Lib.hid hBz
          clear hrw hB4
          by_cases hql : q < l.length
          · obtain ⟨s, sd2, hs, rfl, hcs⟩ := (HL.out.below HBw.out).get hql
            have HSt : Hid (tldL x1 (l.take (q + 1)) = tldF x1 (tldL x1 (l.take q)) s) := tldL_take x1 hs
            have hTl : (tldL x1 (l.take q)).length ≤ 30 := by have h1 := tldL_len x1 (l.take q); rw [List.length_take] at h1; omega
            obtain ⟨d0, d1, d2⟩ := hcs.three
            obtain ⟨As, cs, rfl, hIs, _, _⟩ := rdI_of_own HRw.out rfl
            have HIs := Lib.hid hIs
            have HTl := Lib.hid hTl
            have hql' : (q : Int) < (l.length : Int) := by omega
            obtain ⟨sn, sa, sb⟩ := s
            dsimp only at *
            generalize hTT : tldL x1 (l.take q) = TT at *
            have HD0 := Lib.hid d0
            have HN2 := Lib.hid (HM2.out.later HB24.out)
            clear hs hcs hIs hTT
            have hF : tldF x1 TT ⟨sn, sa, sb⟩ = if ((decide (sa ≤ x1) && decide (sa < sb)) && !decide (sn ∈ TT)) = true then TT ++ [sn] else TT := rfl
            have HF := Lib.hid hF
            have HB5 : Hid (Below wr.heap.size wr wr.drew) := (Below.refl _ _).drew
            have HRw5 : Hid (wr.drew.ownsRow wo.heap.size 3 1 (.slice As TT.length cs) TT.length (TT.map (Value.int .i64))) := own_far HRw.out (grown_of_below HB5.out none) (fun r e => by cases e)
            clear hF hTl
            go_wp2_with fail
            clear hql'
            have HS0 : Hid ((fun w' => ∃ u : Later wr, w' = u.w) wr.drew) := ⟨⟨wr.drew, HB5.out⟩, rfl⟩
            have y0 := later_cell HD0.out
            have y1 := later_cell d1
            have y2 := later_cell d2
            have y3 := later_cell (HN2.out.cell (i := 1) rfl)
            have hql' : (q : Int) < (l.length : Int) := by omega
            clear d0 d1 d2
            refine wp_region_noPanic ?_
            refine wp_region_ord (fun w' => ∃ u : Later wr, w' = u.w) 28 (fun k => decide (k < 28)) (ordOf _ [0, 1, 2, 3, 4, 5, 6, 7, 8, 9, 10, 11, 12, 13, 14, 15, 16, 17, 18, 19, 20, 21, 22, 23, 24, 25, 26, 27, 28, 29, 30]) (by kernel_rfl) (by kernel_rfl) (ordOf_mem _ _) (fun _ _ _ _ _ h => h) ?_
            simp only [ordOf, List.filterMap_cons, List.filterMap_nil, List.getElem?_cons_zero, List.getElem?_cons_succ, Option.map_some]
            cases h1 : decide (sa ≤ x1)
            · have HS2 : Hid (tldL x1 (l.take (q + 1)) = TT) := by rw [HSt.out, HF.out, h1]; rfl
              iterate 9 (refine ord_quiet rfl rfl rfl HS0.out ?_; intro K hK; go_big_quiet_op; go_big_quiet_on)
              iterate 11 (refine ord_skip rfl rfl HS0.out ?_; simp only [Act.put, List.setIfInBounds_toArray, List.set_cons_succ, List.set_cons_zero])
              iterate 2 (refine ord_quiet rfl rfl rfl HS0.out ?_; intro K hK; go_big_quiet_op; go_big_quiet_on)
              iterate 6 (refine ord_skip rfl rfl HS0.out ?_; simp only [Act.put, List.setIfInBounds_toArray, List.set_cons_succ, List.set_cons_zero])
              clear y0 y1 y2 y3 HS0
              iterate 3 (refine ord_op rfl ?_; go_wp2_with fail; refine mix_post (fun h => absurd h (by decide)) ?_)
              refine ord_nil ?_
              refine NoPanic.normal ?_
              go_wp2_with fail
              go_roundw
              case rel => exact ⟨q + 1, by omega, by go_num, by rw [HS2.out]; exact HRw5.out, HB4.out.trans (HB5.out.mono HBz.out)⟩
              case measure => simp [intOf]; omega
            · cases h2 : decide (sa < sb)
              · have HS2 : Hid (tldL x1 (l.take (q + 1)) = TT) := by rw [HSt.out, HF.out, h1, h2]; rfl
                iterate 22 (refine ord_quiet rfl rfl rfl HS0.out ?_; intro K hK; go_big_quiet_op; go_big_quiet_on)
                iterate 6 (refine ord_skip rfl rfl HS0.out ?_; simp only [Act.put, List.setIfInBounds_toArray, List.set_cons_succ, List.set_cons_zero])
                clear y0 y1 y2 y3 HS0
                iterate 3 (refine ord_op rfl ?_; go_wp2_with fail; refine mix_post (fun h => absurd h (by decide)) ?_)
                refine ord_nil ?_
                refine NoPanic.normal ?_
                go_wp2_with fail
                go_roundw
                case rel => exact ⟨q + 1, by omega, by go_num, by rw [HS2.out]; exact HRw5.out, HB4.out.trans (HB5.out.mono HBz.out)⟩
                case measure => simp [intOf]; omega
              · have HH := Lib.hid (lhas_any TT sn As TT.length cs wr.drew (HIs.out.below HB5.out) (by have := HTl.out; omega))
                iterate 28 (refine ord_quiet rfl rfl rfl HS0.out ?_; intro K hK; go_big_quiet_op; go_big_quiet_on)
                clear y0 y1 y2 y3 HS0
                refine ord_op rfl ?_
                go_wp2_with fail
                refine HH.out.mono ?_
                rintro e W4 ⟨rfl, hb4⟩
                have HB6 : Hid (Below wr.heap.size wr W4) := below_of_drew hb4
                clear hb4
                go_wp2_with fail
                refine mix_post (fun h => absurd h (by decide)) ?_
                have HS2' : Hid (tldL x1 (l.take (q + 1)) = if (!decide (sn ∈ TT)) = true then TT ++ [sn] else TT) := by rw [HSt.out, HF.out, h1, h2]; rfl
                have HRw6 : Hid (W4.ownsRow wo.heap.size 3 1 (.slice As TT.length cs) TT.length (TT.map (Value.int .i64))) := own_far HRw.out (grown_of_below HB6.out none) (fun r e => by cases e)
                have HZ6 : Hid (wo.heap.size ≤ W4.heap.size) := by have := HB6.out.size; have := HBz.out; show _ ≤ _; omega
                clear HSt HF HH
                generalize decide (sn ∈ TT) = dd at *
                cases dd
                · have HS2 : Hid (tldL x1 (l.take (q + 1)) = TT ++ [sn]) := by rw [HS2'.out]; rfl
                  iterate 2 (refine ord_op rfl ?_; go_wp2_with fail; refine mix_post (fun h => absurd h (by decide)) ?_)
                  refine ord_nil ?_
                  refine NoPanic.normal ?_
                  have d0 := cell_below HB6.out HD0.out
                  have hTT : TT.length ≤ 30 := HTl.out
                  go_wp2_with (at_builtin; refine wpList_append_one rfl _ _ 30 rfl wo.heap.size 3 jq (.int .i64 0) 8 Try.underlying30 hij hzj0 hzj1 hzj2 rfl _ _ _ rfl HRw6.out (.int .i64 sn) W4.heap.size rfl rfl (by simp [Value.oneCell']) (by unfold maxLen; omega) (by omega) HZ6.out ?_; intro A' c'' w2 hown' hgrow _; have HO2 := Lib.hid hown'; have HG2 := Lib.hid hgrow; clear hown' hgrow)
                  go_roundw
                  case rel => exact ⟨q + 1, by omega, by go_num, by rw [HS2.out, List.length_append, List.map_append]; exact HO2.out, (HB4.out.trans (HB6.out.mono HBz.out)).grown HG2.out HZ6.out (fun r e => (HRw6.out.lt r e).1)⟩
                  case measure => simp [intOf]; omega
                · have HS2 : Hid (tldL x1 (l.take (q + 1)) = TT) := by rw [HS2'.out]; rfl
                  iterate 2 (refine ord_op rfl ?_; go_wp2_with fail; refine mix_post (fun h => absurd h (by decide)) ?_)
                  refine ord_nil ?_
                  refine NoPanic.normal ?_
                  go_wp2_with fail
                  go_roundw
                  case rel => exact ⟨q + 1, by omega, by go_num, by rw [HS2.out]; exact HRw6.out, HB4.out.trans (HB6.out.mono HBz.out)⟩
                  case measure => simp [intOf]; omega
          · obtain rfl : q = l.length := by omega
            rw [List.take_length] at HRw
            obtain ⟨As, cs, rfl, hIs, _, _⟩ := rdI_of_own HRw.out rfl
            have hE := C2.out wr As cs HBw.out hIs
            rw [HTd.out] at hE
            have HE := Lib.hid hE
            have HN1 := Lib.hid (HM1.out.later HB24.out)
            have k0 := HN1.out.cell (i := 0) rfl
            have kz := HN1.out.lt
            clear hIs hE
            go_wp2_with fail
            refine HE.out.mono ?_
            rintro e W6 ⟨v6, rfl, hr6, hb6⟩
            have HB26 : Hid (Below W2.heap.size W2 W6) := HB24.out.trans (hb6.mono HB24.out.size)
            obtain ⟨A6, c6, rfl, hI6, _, _⟩ := rdI_of_own hr6 rfl
            have HI6 := Lib.hid hI6
            clear hr6 hb6 hI6 k0 kz
            dsimp only
            go_wp2_with fail
            have HTn : Hid (t.length = n) := HT.out
            have HEl : Hid ((effL t fun j => decide ((j : Int) ∈ tldL x1 l)).length ≤ 40) := by
              have h1 : (effL t fun j => decide ((j : Int) ∈ tldL x1 l)).length ≤ t.length := by
                unfold effL
                rw [List.length_map]
                exact Nat.le_trans (List.length_filter_le _ _) (by simp)
              have := HOk.out.l40
              show _ ≤ _
              omega
            have HIn : Hid (∀ i, i < n → ∀ sp, (ps.map (·.1))[i]? = some sp → cov sp x1 = true → ((i : Nat) : Int) ∈ effL t fun j => decide ((j : Int) ∈ tldL x1 l)) := fun i hi sp hsp hcv => by
              rw [HGet.out i hi sp hsp] at hcv
              exact HTin.out HOk.out HSp.out i (by have := HTn.out; omega) hcv
            clear HTin HTd
            generalize (effL t fun j => decide ((j : Int) ∈ tldL x1 l)) = EE at *
            obtain ⟨w5, rfl⟩ : ∃ w5 : World, w5 = W6 := ⟨_, rfl⟩
            go_loopw [15] (fun i wr => ∃ k : Nat, k ≤ n ∧ i = .int .i64 k ∧ Below w5.heap.size w5 wr) (fun i _ => n - (intOf i).toNat)
            case atStart => exact ⟨0, Nat.zero_le _, rfl, Below.refl _ _⟩
            case round =>
              obtain ⟨k, hk, rfl, hB7⟩ := hrel
              have HB7 := Lib.hid hB7; clear hB7
              have HB27 : Hid (Below W2.heap.size W2 wr) := HB26.out.trans (HB7.out.mono HB26.out.size)
              by_cases hlt2 : k < n
              · obtain ⟨sp, B, cB, sd, hsp, hA5, hcell, hrd⟩ := (HSps.out.below HB27.out).get hlt2
                have HIk : Hid (cov sp x1 = true → decide ((k : Int) ∈ EE) = true) := fun h => by simpa using HIn.out k hlt2 sp hsp h
                have hsl : sp.length ≤ 400 := by rw [HGet.out k hlt2 sp hsp]; exact HLen.out k hlt2
                subst hA5
                have HN2 := Lib.hid (HM2.out.later HB27.out)
                have hkn : (k : Int) < (n : Int) := by omega
                have HB8 : Hid (Below wr.heap.size wr wr.drew) := (Below.refl _ _).drew
                have HFl := Lib.hid (failed_any sp x1 B cB wr.drew (hrd.below HB8.out) (by omega))
                have HHs := Lib.hid (fun (W : World) (h : Below w5.heap.size w5 W) => lhas_any EE k A6 EE.length c6 W (HI6.out.below h) (by have := HEl.out; omega))
                have HD0 := Lib.hid hcell
                clear hsp hrd hcell
                go_wp2_with fail
                clear hkn
                have HS0 : Hid ((fun w' => ∃ u : Later wr, w' = u.w) wr.drew) := ⟨⟨wr.drew, HB8.out⟩, rfl⟩
                have y0 := later_cell HD0.out
                have y3 := later_cell (HN2.out.cell (i := 1) rfl)
                have hkn : (k : Int) < (n : Int) := by omega
                refine wp_region_noPanic ?_
                refine wp_region_ord (fun w' => ∃ u : Later wr, w' = u.w) 10 (fun k => decide (k < 10) && !(k == 6)) (ordOf _ [0, 1, 2, 3, 4, 5, 6, 7, 8, 9, 10, 11, 12]) (by kernel_rfl) (by kernel_rfl) (ordOf_mem _ _) (fun _ _ _ _ _ h => h) ?_
                simp only [ordOf, List.filterMap_cons, List.filterMap_nil, List.getElem?_cons_zero, List.getElem?_cons_succ, Option.map_some]
                iterate 6 (refine ord_quiet rfl rfl rfl HS0.out ?_; intro K hK; go_big_quiet_op; go_big_quiet_on)
                clear y0 y3 HS0
                refine ord_op rfl ?_
                go_wp2_with fail
                refine HFl.out.mono ?_
                rintro e W7 ⟨rfl, hb7⟩
                have HB9 : Hid (Below wr.heap.size wr W7) := below_of_drew hb7
                clear hb7
                go_wp2_with fail
                have HS1 : Hid ((fun w' => ∃ u : Later wr, w' = u.w) W7) := ⟨⟨W7, HB9.out⟩, rfl⟩
                refine mix_post (fun _ => HS1.out) ?_
                have HB57 : Hid (Below w5.heap.size w5 W7) := HB7.out.trans (HB9.out.mono HB7.out.size)
                have HH := Lib.hid (HHs.out W7 HB57.out)
                clear HHs HFl
                generalize cov sp x1 = cc at *
                cases cc
                · iterate 1 (refine ord_quiet rfl rfl rfl HS1.out ?_; intro K hK; go_big_quiet_op; go_big_quiet_on)
                  iterate 2 (refine ord_skip rfl rfl HS1.out ?_; simp only [Act.put, List.setIfInBounds_toArray, List.set_cons_succ, List.set_cons_zero])
                  clear HS1
                  iterate 3 (refine ord_op rfl ?_; go_wp2_with fail; refine mix_post (fun h => absurd h (by decide)) ?_)
                  refine ord_nil ?_
                  refine NoPanic.normal ?_
                  go_wp2_with fail
                  go_roundw
                  case rel => exact ⟨k + 1, by omega, by go_num, HB57.out⟩
                  case measure => simp [intOf]; omega
                · have hd := HIk.out rfl
                  rw [hd] at HH
                  iterate 3 (refine ord_quiet rfl rfl rfl HS1.out ?_; intro K hK; go_big_quiet_op; go_big_quiet_on)
                  clear HS1 hd HIk
                  refine ord_op rfl ?_
                  go_wp2_with fail
                  refine HH.out.mono ?_
                  rintro e W8 ⟨rfl, hb8⟩
                  have HB10 : Hid (Below w5.heap.size w5 W8) := HB57.out.trans (hb8.mono HB57.out.size)
                  clear hb8
                  go_wp2_with fail
                  refine mix_post (fun h => absurd h (by decide)) ?_
                  iterate 2 (refine ord_op rfl ?_; go_wp2_with fail; refine mix_post (fun h => absurd h (by decide)) ?_)
                  refine ord_nil ?_
                  refine NoPanic.normal ?_
                  go_wp2_with fail
                  go_roundw
                  case rel => exact ⟨k + 1, by omega, by go_num, HB10.out⟩
                  case measure => simp [intOf]; omega
              · obtain rfl : k = n := by omega
                go_wp2_with fail
                refine (Awake_any _).mono ?_
                rintro e W7 ⟨rfl, hb7⟩
                have HB8 : Hid (Below w.heap.size w W7) := HB2.out.trans ((HB27.out.trans (hb7.mono HB27.out.size)).mono HB2.out.size)
                clear hb7
                go_wp2_with fail
                go_ret
                exact ⟨rfl, HB8.out⟩
  · have hfb : (f != 0) = true := by simpa using hf
    have hp0 : ps.length = 0 := by
      have h := congrArg List.length HPs.out
      rw [HErr.out hf, List.length_map] at h
      exact h
    rw [hp0]
    clear hf hp0
    go_wp2_with fail
    refine (Awake_any _).mono ?_
    rintro e W7 ⟨rfl, hb7⟩
    have HB7 : Hid (Below w.heap.size w W7) := HB2.out.trans (hb7.mono HB2.out.size)
    clear hb7
    go_wp2_with fail
    go_ret
    exact ⟨rfl, HB7.out⟩
end Go.Proofs.Ytadldndpphdmpaa
