/- The document's error of a node: a walk. -/
import Derived.Test.YtadldndpphdmpaaGreatQI
namespace Go.Proofs.YtadldndpphdmpaaGreat
open Go.RowKit

theorem two_blocks (w : World) (cs ms : Array Value) (t1 t3 : TypeId) : ∀ W, (w.alloc (.cells cs t1)).alloc (.cells ms t3) = W →
    Below w.heap.size w W ∧ Blk W w.heap.size t1 cs ∧ Blk W (w.heap.size + 1) t3 ms := by
  rintro W rfl
  exact ⟨((Below.refl _ w).alloc (Nat.le_refl _) _).alloc (by simp) _, (Blk.new _ _ _ rfl).alloc _, Blk.new _ _ _ (by simp)⟩
theorem any_step {α : Type} (q : α → Bool) {l : List α} {k : Nat} {x : α} (h : l[k]? = some x) : (l.take (k + 1)).any q = ((l.take k).any q || q x) := by
  obtain ⟨hk, rfl⟩ := List.getElem?_eq_some_iff.1 h
  rw [List.take_succ_eq_append_getElem hk, List.any_append]
  simp
theorem any_hit {α : Type} (q : α → Bool) {l : List α} {k : Nat} {x : α} (h : l[k]? = some x) (hq : q x = true) : l.any q = true := by
  rw [List.any_eq_true]; exact ⟨x, List.mem_of_getElem? h, hq⟩
theorem nodup_step {l : List Int} {k : Nat} {x : Int} (h : l[k]? = some x) (hn : (l.take k).Nodup) (hx : x ∉ l.take k) : (l.take (k + 1)).Nodup := by
  obtain ⟨hk, rfl⟩ := List.getElem?_eq_some_iff.1 h
  rw [List.take_succ_eq_append_getElem hk, List.nodup_append]
  refine ⟨hn, by simp, fun a ha b hb => ?_⟩
  rw [List.mem_singleton] at hb
  subst hb
  exact fun e => hx (e ▸ ha)
theorem nodup_hit {l : List Int} {k : Nat} {x : Int} (h : l[k]? = some x) (hx : x ∈ l.take k) : dupB l = true := by
  obtain ⟨hk, rfl⟩ := List.getElem?_eq_some_iff.1 h
  unfold dupB
  rw [Bool.not_eq_true', decide_eq_false_iff_not]
  intro hn
  have h1 : (l.take (k + 1)).Nodup := hn.sublist (List.take_sublist _ _)
  rw [List.take_succ_eq_append_getElem hk, List.nodup_append] at h1
  exact h1.2.2 _ hx _ (List.mem_singleton.2 rfl) rfl

set_option maxRecDepth 100000 in
set_option maxHeartbeats 8000000 in
theorem rnode_any (t : List Nd) (A : Option Addr) (n c : Nat) (ms : List NdM) (i : Nat) (x : Nd) (w : World) (hT : TrM w t A n ms) (hx : t[i]? = some x) :
    Calls Tryz.prog 63 #[.agg #[.slice A n c], .int .i64 (i : Int)] w fun e w' => e = .returned (.int .i64 (ndErr t i x)) ∧ Below w.heap.size w w' := by
  have hin : i < n := by have := (List.getElem?_eq_some_iff.1 hx).1; have := hT.len; omega
  obtain ⟨m, ad, hm, hA, ha, hN⟩ := hT.get hin
  rw [hx] at hm
  cases hm
  subst hA
  have hbig := hT.big
  have HX : Hid (ndErr t i m.nd = if nameB m.nd.name = false then 6 else if anyB t m.nd.name i = true then 5 else if outB m.nd.kind 1 4 = true then 2 else if lenBad m.nd = true then 3 else if insBad i m.nd = true then 4 else if dupB m.nd.ins = true then 5 else if rangeBad m.nd = true then 7 else 0) := rfl
  have HLB : Hid (lenBad m.nd = if m.nd.kind = 1 then !(m.nd.ins.length == 0) else outB m.nd.ins.length 1 10) := rfl
  have HIB : Hid (insBad i m.nd = m.nd.ins.any fun n => outB n 0 ((i : Int) - 1)) := rfl
  have HRB : Hid (rangeBad m.nd = (cntBad m.nd || outB m.nd.hold 0 100 || ((m.nd.kind == 1) && decide (0 < m.nd.hold)))) := rfl
  have HCB : Hid (cntBad m.nd = if m.nd.kind = 4 then outB m.nd.cnt 1 m.nd.ins.length else !(m.nd.cnt == 0)) := rfl
  have HAn : Hid (anyB t m.nd.name i = decide (0 ≤ idxF (sameB t m.nd.name) 0 (i - 0))) := rfl
  have hI := hN.ins
  have hL := hN.len
  have hcap := hN.cap
  have hnm := hN.nam
  generalize lenBad m.nd = bLen at *
  generalize insBad i m.nd = bIns at *
  generalize rangeBad m.nd = bRan at *
  generalize cntBad m.nd = bCnt at *
  generalize anyB t m.nd.name i = bAny at *
  generalize ndErr t i m.nd = X at *
  obtain ⟨W1, hW1⟩ : ∃ W1, (w.alloc (.cells #[.slice (some ad) n c] 24)).alloc (.cells m.val 40) = W1 := ⟨_, rfl⟩
  obtain ⟨b1, b2, b3⟩ := two_blocks w _ _ _ _ W1 hW1
  have HB1 := Lib.hid b1; have K1 := Lib.hid b2; have K2 := Lib.hid b3
  have HT := Lib.hid (hT.below b1)
  have HI := Lib.hid (hI.below b1)
  have HW1 := Lib.hid hW1
  obtain ⟨c0, c1, c2, c3, c4⟩ := ha.five
  clear hW1 b1 b2 b3 hT hN hI ha hx
  obtain ⟨⟨na, ki, li, cn, ho⟩, A2, c2'⟩ := m
  dsimp only [NdM.val] at *
  have hin' : (i : Int) < (n : Int) := by omega
  have hcz : (ad.add (i * 5)).block < w.heap.size := cell_lt c0
  go_enter Tryz.func63, Tryz.ntmps63
  go_wp2_with fail
  rw [HW1.out]
  refine (refName_any _ _ hnm).mono ?_
  rintro e w' ⟨rfl, rfl⟩
  clear c0 c1 c2 c3 c4 hcz
  by_cases g1 : nameB na = false
  · have F : Hid (6 = X) := by have := HX.out; rw [if_pos g1] at this; exact this.symm
    rw [g1]
    clear g1
    go_wp2_with fail
    go_ret
    exact ⟨ret_int F.out, HB1.out⟩
  have g1' : nameB na = true := by simpa using g1
  have HX2 : Hid ((if bAny = true then 5 else if outB ki 1 4 = true then 2 else if bLen = true then 3 else if bIns = true then 4 else if dupB li = true then 5 else if bRan = true then 7 else 0) = X) := by have := HX.out; rw [if_neg g1] at this; exact this.symm
  rw [g1']
  clear g1 g1'
  go_wp2_with fail
  go_loopw [6] (fun q wr => ∃ k : Nat, k ≤ i ∧ q = .int .i64 k ∧ Below W1.heap.size W1 wr ∧ idxF (sameB t na) k (i - k) = idxF (sameB t na) 0 (i - 0)) (fun q _ => i - (intOf q).toNat)
  case atStart => exact ⟨0, Nat.zero_le _, rfl, Below.refl _ _, rfl⟩
  case round =>
    obtain ⟨k, hk, rfl, hB, hE⟩ := hrel
    have HE := Lib.hid hE; have HB := Lib.hid hB
    have KA := Lib.hid (K1.out.later hB); have KN := Lib.hid (K2.out.later hB)
    clear hB hE
    by_cases hlt : k < i
    · obtain ⟨m', ad', hm', hA', ha', _⟩ := (HT.out.below HB.out).get (i := k) (by omega)
      cases hA'
      have hs : sameB t na k = (m'.nd.name.toList == na.toList) := by unfold sameB; rw [hm']
      have HS := Lib.hid hs
      obtain ⟨d0, _, _, _, _⟩ := ha'.five
      have k0 := KA.out.cell (i := 0) rfl
      have kn0 := KN.out.cell (i := 0) rfl
      have kz := KA.out.lt
      have knz := KN.out.lt
      have hki : (k : Int) < (i : Int) := by omega
      have hkn : (k : Int) < (n : Int) := by omega
      clear hs ha' hm'
      obtain ⟨⟨na', ki', li', cn', ho'⟩, A2', c2''⟩ := m'
      dsimp only at *
      cases hq : (na'.toList == na.toList)
      · have HN2 : Hid (idxF (sameB t na) (k + 1) (i - (k + 1)) = idxF (sameB t na) 0 (i - 0)) := by
          have := HE.out
          rw [idxF_no hlt (by rw [HS.out, hq])] at this
          exact this
        go_wp2_with fail
        go_region
        go_wp2_with fail
        go_roundw
        case rel => exact ⟨k + 1, by omega, by go_num, HB.out.drew, HN2.out⟩
        case measure => simp [intOf]; omega
      · have F : Hid (5 = X) := by
          have h1 := HE.out
          rw [idxF_yes hlt (by rw [HS.out, hq])] at h1
          have h2 := HAn.out
          rw [← h1] at h2
          have h3 := HX2.out
          rw [h2, if_pos (by simp)] at h3
          exact h3
        go_wp2_with fail
        go_region
        go_wp2_with fail
        go_ret
        exact ⟨ret_int F.out, (HB1.out.trans (HB.out.mono HB1.out.size)).drew⟩
    · have HX3 : Hid ((if outB ki 1 4 = true then 2 else if bLen = true then 3 else if bIns = true then 4 else if dupB li = true then 5 else if bRan = true then 7 else 0) = X) := by
        have h1 := HE.out
        rw [idxF_end (by omega)] at h1
        have h2 := HAn.out
        rw [← h1] at h2
        have h3 := HX2.out
        rw [h2, if_neg (by decide)] at h3
        exact h3
      have HBw : Hid (Below w.heap.size w wr) := HB1.out.trans (HB.out.mono HB1.out.size)
      have HI2 := Lib.hid (HI.out.below HB.out)
      have kn1 := KN.out.cell (i := 1) rfl
      have kn2 := KN.out.cell (i := 2) rfl
      have kn3 := KN.out.cell (i := 3) rfl
      have kn4 := KN.out.cell (i := 4) rfl
      have knz := KN.out.lt
      obtain rfl : i = k := by omega
      clear HX HX2 HAn HE hlt KA HB HI K1 K2 HW1
      cases g3 : outB ki 1 4
      · have HX4 : Hid ((if bLen = true then 3 else if bIns = true then 4 else if dupB li = true then 5 else if bRan = true then 7 else 0) = X) := by have := HX3.out; rw [g3, if_neg (by decide)] at this; exact this
        have cs : ((ki == 1) = true ∧ (ki != 1) = false ∧ ((li.length : Int) != 0) = true ∧ bLen = true) ∨ ((ki == 1) = false ∧ (ki != 1) = true ∧ outB li.length 1 10 = true ∧ bLen = true) ∨
            ((ki == 1) = true ∧ (ki != 1) = false ∧ ((li.length : Int) != 0) = false ∧ bLen = false) ∨ ((ki == 1) = false ∧ (ki != 1) = true ∧ outB li.length 1 10 = false ∧ bLen = false) := by
          have h := HLB.out
          by_cases hk1 : ki = 1
          · rw [if_pos hk1] at h
            by_cases hl0 : li.length = 0
            · refine .inr (.inr (.inl ⟨by simp [hk1], by simp [hk1], by simp [hl0], by rw [h]; simp [hl0]⟩))
            · refine .inl ⟨by simp [hk1], by simp [hk1], by simp only [bne_iff_ne, ne_eq]; omega, by rw [h]; simp [hl0]⟩
          · rw [if_neg hk1] at h
            cases hq : outB li.length 1 10
            · exact .inr (.inr (.inr ⟨by simp [hk1], by simp [hk1], rfl, by rw [h, hq]⟩))
            · exact .inr (.inl ⟨by simp [hk1], by simp [hk1], rfl, by rw [h, hq]⟩)
        clear HX3
        rcases cs with ⟨q1, q1', ql, hbL⟩ | ⟨q1, q1', ql, hbL⟩ | ⟨q1, q1', ql, hbL⟩ | ⟨q1, q1', ql, hbL⟩
        · have F : Hid (3 = X) := by have := HX4.out; rw [hbL, if_pos rfl] at this; exact this
          clear hbL
          go_wp2_with (go_at_call 52; refine (in_any _ _ _ _).mono ?_; rintro e w' ⟨rfl, rfl⟩)
          go_ret
          exact ⟨ret_int F.out, HBw.out⟩
        · have F : Hid (3 = X) := by have := HX4.out; rw [hbL, if_pos rfl] at this; exact this
          clear hbL
          go_wp2_with (go_at_call 52; refine (in_any _ _ _ _).mono ?_; rintro e w' ⟨rfl, rfl⟩)
          go_ret
          exact ⟨ret_int F.out, HBw.out⟩
        all_goals
          have HX5 : Hid ((if bIns = true then 4 else if dupB li = true then 5 else if bRan = true then 7 else 0) = X) := by have := HX4.out; rw [hbL, if_neg (by decide)] at this; exact this
          clear hbL HX4
          have HLi : Hid (li.length ≤ 1000000000000000) := hL
          go_wp2_with (go_at_call 52; refine (in_any _ _ _ _).mono ?_; rintro e w' ⟨rfl, rfl⟩)
          obtain ⟨wo, rfl⟩ : ∃ wo, wo = wr := ⟨_, rfl⟩
          clear kn1 kn2 kn3 kn4 knz
          go_loopw [7] (fun q wr => ∃ j : Nat, j ≤ li.length ∧ q = .int .i64 j ∧ Below wo.heap.size wo wr ∧ (li.take j).any (fun n => outB n 0 ((i : Int) - 1)) = false) (fun q _ => li.length - (intOf q).toNat)
          case atStart => exact ⟨0, Nat.zero_le _, rfl, Below.refl _ _, by simp⟩
          case round =>
            obtain ⟨j, hj, rfl, hB, hE⟩ := hrel
            have HE := Lib.hid hE; have HB := Lib.hid hB
            have KN2 := Lib.hid (KN.out.later hB)
            clear hB hE
            have kn1 := KN2.out.cell (i := 1) rfl
            have kn2 := KN2.out.cell (i := 2) rfl
            have kn3 := KN2.out.cell (i := 3) rfl
            have kn4 := KN2.out.cell (i := 4) rfl
            have knz := KN2.out.lt
            by_cases hlt : j < li.length
            · obtain ⟨y, yd, hy, rfl, cy⟩ := rdI_get (HI2.out.below HB.out) hlt
              have HSt := Lib.hid (any_step (fun n => outB n 0 ((i : Int) - 1)) hy)
              have HHit := Lib.hid (any_hit (fun n => outB n 0 ((i : Int) - 1)) hy)
              have hjl : (j : Int) < (li.length : Int) := by omega
              clear hy
              cases hq : outB y 0 ((i : Int) - 1)
              · have HE2 : Hid ((li.take (j + 1)).any (fun n => outB n 0 ((i : Int) - 1)) = false) := by have := HSt.out; rw [HE.out, hq] at this; exact this
                go_wp2_with (go_at_call 52; refine (in_any _ _ _ _).mono ?_; rintro e w' ⟨rfl, rfl⟩)
                go_roundw
                case rel => exact ⟨j + 1, by omega, by go_num, HB.out, HE2.out⟩
                case measure => simp [intOf]; omega
              · have F : Hid (4 = X) := by have h1 := HHit.out hq; have := HX5.out; rw [HIB.out, h1, if_pos rfl] at this; exact this
                go_wp2_with (go_at_call 52; refine (in_any _ _ _ _).mono ?_; rintro e w' ⟨rfl, rfl⟩)
                go_ret
                exact ⟨ret_int F.out, HBw.out.trans (HB.out.mono HBw.out.size)⟩
            · have HX6 : Hid ((if dupB li = true then 5 else if bRan = true then 7 else 0) = X) := by
                have h1 := HE.out
                rw [List.take_of_length_le (by omega)] at h1
                have := HX5.out
                rw [HIB.out, h1, if_neg (by decide)] at this
                exact this
              obtain rfl : j = li.length := by omega
              have HBx : Hid (Below w.heap.size w wr) := HBw.out.trans (HB.out.mono HBw.out.size)
              have HI3 := Lib.hid (HI2.out.below HB.out)
              clear HX5 HE HB KN HI2
              go_wp2_with fail
              obtain ⟨wp, rfl⟩ : ∃ wp, wp = wr := ⟨_, rfl⟩
              clear kn1 kn2 kn3 kn4 knz hlt
              go_loopw [8] (fun q wr => ∃ j : Nat, j ≤ li.length ∧ q = .int .i64 j ∧ Below wp.heap.size wp wr ∧ (li.take j).Nodup) (fun q _ => li.length - (intOf q).toNat)
              case atStart => exact ⟨0, Nat.zero_le _, rfl, Below.refl _ _, by simp⟩
              case round =>
                obtain ⟨j, hj, rfl, hB, hE⟩ := hrel
                have HE := Lib.hid hE; have HB := Lib.hid hB
                have KN3 := Lib.hid (KN2.out.later hB)
                have HBy : Hid (Below w.heap.size w wr) := HBx.out.trans (hB.mono HBx.out.size)
                clear hB hE
                by_cases hlt : j < li.length
                · have kn2 := KN3.out.cell (i := 2) rfl
                  have knz := KN3.out.lt
                  have HR4 := HI3.out.below HB.out
                  obtain ⟨y, yd, hy, rfl, cy⟩ := rdI_get HR4 hlt
                  have HY := Lib.hid hy
                  have HR := Lib.hid HR4
                  have hjl : (j : Int) < (li.length : Int) := by omega
                  have hjc : (j : Int) ≤ (c2' : Int) := by omega
                  clear hy HR4
                  go_wp2_with fail
                  have x0 := later_cell kn2
                  have x1 := later_cell cy
                  clear kn2 cy knz
                  have HS3 : Hid ((fun w' => ∃ u : Later wr, w' = u.w) wr.drew) := ⟨⟨wr.drew, (Below.refl _ _).drew⟩, rfl⟩
                  refine wp_region_noPanic ?_
                  refine wp_region_ord (fun w' => ∃ u : Later wr, w' = u.w) 9 (fun k => !(k == 9)) (ordOf _ [0, 1, 2, 3, 4, 5, 6, 7, 8, 9]) (by kernel_rfl) (by kernel_rfl) (ordOf_mem _ _) (fun _ _ _ _ _ h => h) ?_
                  simp only [ordOf, List.filterMap_cons, List.filterMap_nil, List.getElem?_cons_zero, List.getElem?_cons_succ, Option.map_some]
                  iterate 9 ((first | refine ord_quiet rfl rfl rfl HS3.out ?_ | refine ord_slice rfl _ _ _ _ _ rfl rfl HS3.out ?_); intro K hK; go_big_quiet_op; go_big_quiet_on)
                  clear x0 x1
                  have HTk : Hid (RdI wr.drew (some yd) j (li.take j)) := (HR.out.below (Below.refl _ _).drew).take hj
                  have HH := Lib.hid (rhas_any (li.take j) y (some yd) j c2' wr.drew HTk.out (by omega))
                  refine ord_op rfl ?_
                  go_wp2_with fail
                  refine HH.out.mono ?_
                  rintro e W4 ⟨rfl, hb4⟩
                  have HB4 : Hid (Below wp.heap.size wp W4) := HB.out.trans ((below_of_drew hb4).mono HB.out.size)
                  have HB4w : Hid (Below w.heap.size w W4) := HBx.out.trans (HB4.out.mono HBx.out.size)
                  clear hb4
                  go_wp2_with fail
                  refine mix_post (fun h => absurd h (by decide)) ?_
                  refine ord_nil ?_
                  refine NoPanic.normal ?_
                  by_cases hm : y ∈ li.take j
                  · have F : Hid (5 = X) := by have := HX6.out; rw [nodup_hit HY.out hm, if_pos rfl] at this; exact this
                    have hd : decide (y ∈ li.take j) = true := by simpa using hm
                    rw [hd]
                    clear hm hd
                    go_wp2_with fail
                    go_ret
                    exact ⟨ret_int F.out, HB4w.out⟩
                  · have HF := Lib.hid (nodup_step HY.out HE.out hm)
                    have hd : decide (y ∈ li.take j) = false := by simpa using hm
                    rw [hd]
                    clear hm hd
                    go_wp2_with fail
                    go_roundw
                    case rel => exact ⟨j + 1, by omega, by go_num, HB4.out, HF.out⟩
                    case measure => simp [intOf]; omega
                · have HX7 : Hid ((if bRan = true then 7 else 0) = X) := by
                    have h1 := HE.out
                    rw [List.take_of_length_le (by omega)] at h1
                    have := HX6.out
                    rw [show dupB li = false from by unfold dupB; simpa using h1, if_neg (by decide)] at this
                    exact this
                  obtain rfl : j = li.length := by omega
                  have kn1 := KN3.out.cell (i := 1) rfl
                  have kn2 := KN3.out.cell (i := 2) rfl
                  have kn3 := KN3.out.cell (i := 3) rfl
                  have kn4 := KN3.out.cell (i := 4) rfl
                  have knz := KN3.out.lt
                  have cs : ((ki == 4) = true ∧ (ki != 4) = false ∧ outB cn 1 li.length = bCnt) ∨ ((ki == 4) = false ∧ (ki != 4) = true ∧ (cn != 0) = bCnt) := by
                    have h := HCB.out
                    by_cases hk : ki = 4
                    · rw [if_pos hk] at h
                      exact .inl ⟨by simp [hk], by simp [hk], h.symm⟩
                    · rw [if_neg hk] at h
                      exact .inr ⟨by simp [hk], by simp [hk], h.symm⟩
                  have ch : (ho != 0) = decide (0 < ho) ∨ outB ho 0 100 = true := by
                    cases hq : outB ho 0 100
                    · have := outB_false hq
                      left
                      rw [Bool.eq_iff_iff]
                      simp only [bne_iff_ne, ne_eq, decide_eq_true_eq]
                      omega
                    · exact .inr rfl
                  have HCh := Lib.hid ch
                  clear HX6 HE hlt ch
                  rcases cs with ⟨r1, r1', rb⟩ | ⟨r1, r1', rb⟩
                  all_goals
                    cases bCnt
                    · cases g : outB ho 0 100
                      · have hch : (ho != 0) = decide (0 < ho) := by rcases HCh.out with h | h; exact h; rw [g] at h; cases h
                        cases hh : decide (0 < ho)
                        · rw [hh] at hch
                          have F : Hid (0 = X) := by have := HX7.out; rw [HRB.out, g, hh, Bool.and_false, Bool.or_false, Bool.or_false, if_neg (by decide)] at this; exact this
                          go_wp2_with (go_at_call 52; refine (in_any _ _ _ _).mono ?_; rintro e w' ⟨rfl, rfl⟩)
                          go_ret
                          exact ⟨ret_int F.out, HBy.out⟩
                        · rw [hh] at hch
                          have F : Hid ((if (ki == 1) = true then (7 : Int) else 0) = X) := by have := HX7.out; rw [HRB.out, g, hh, Bool.and_true, Bool.or_false, Bool.false_or] at this; exact this
                          rw [q1] at F
                          go_wp2_with (go_at_call 52; refine (in_any _ _ _ _).mono ?_; rintro e w' ⟨rfl, rfl⟩)
                          go_ret
                          have := F.out
                          exact ⟨ret_int (by simpa using this), HBy.out⟩
                      · have F : Hid (7 = X) := by have := HX7.out; rw [HRB.out, g, Bool.false_or, Bool.true_or, if_pos rfl] at this; exact this
                        clear HCh
                        go_wp2_with (go_at_call 52; refine (in_any _ _ _ _).mono ?_; rintro e w' ⟨rfl, rfl⟩)
                        go_ret
                        exact ⟨ret_int F.out, HBy.out⟩
                    · have F : Hid (7 = X) := by have := HX7.out; rw [HRB.out, Bool.true_or, Bool.true_or, if_pos rfl] at this; exact this
                      go_wp2_with (go_at_call 52; refine (in_any _ _ _ _).mono ?_; rintro e w' ⟨rfl, rfl⟩)
                      go_ret
                      exact ⟨ret_int F.out, HBy.out⟩
      · have F : Hid (2 = X) := by have := HX3.out; rw [g3, if_pos rfl] at this; exact this
        go_wp2_with (go_at_call 52; refine (in_any _ _ _ _).mono ?_; rintro e w' ⟨rfl, rfl⟩)
        go_ret
        exact ⟨ret_int F.out, HBw.out⟩
end Go.Proofs.YtadldndpphdmpaaGreat
