/- The document's Guards. -/
import Derived.Test.YtadldndpphdmpaaGreatTF
namespace Go.Proofs.YtadldndpphdmpaaGreat
open Go.RowKit Go.Shelf

theorem guards_err0 {t : List Nd} {node : Int} (h : (guardsT t node).2 ≠ 0) : (guardsT t node).1 = [] := by
  unfold guardsT at h ⊢
  by_cases c : (aboutT t node []).1 ≠ 0
  · rw [if_pos c]
  · rw [if_neg c] at h; exact absurd rfl h
set_option maxRecDepth 100000 in
set_option maxHeartbeats 8000000 in
theorem rGuards_any (t : List Nd) (node : Int) (A : Option Addr) (n c : Nat) (ms : List NdM) (w : World) (hT : TrM w t A n ms) :
    Calls Tryz.prog 11 #[.agg #[.slice A n c], .int .i64 node] w (IListsErr w (guardsT t node)) := by
  obtain ⟨W1, hW1⟩ : ∃ W1, w.alloc (.cells #[.slice A n c] 24) = W1 := ⟨_, rfl⟩
  have HB1 : Hid (Below w.heap.size w W1) := by rw [← hW1]; exact (Below.refl _ w).alloc (Nat.le_refl _) _
  have K1 : Hid (Blk W1 w.heap.size 24 #[.slice A n c]) := by rw [← hW1]; exact Blk.new w _ _ rfl
  have HT := Lib.hid hT
  have HAs := Lib.hid (rasked_any t node A n c ms W1 (hT.below HB1.out))
  have HW1 := Lib.hid hW1
  have HLn := Lib.hid hT.len
  have HEr : Hid (askT t node ≠ 0 → ∀ w', Below w.heap.size w w' → IListsErr w (guardsT t node) (.returned (.tuple #[.slice none 0 0, .int .i64 (askT t node)])) w') := fun h w' hb => by
    refine ⟨_, [], by rw [guards_ask], IRows.nil _ _, ?_, hb⟩
    rw [guards_err0 (by rw [guards_ask]; exact h)]
    rfl
  have HOkk : Hid (askT t node = 0 → ∀ v ps w', IRows w' w.heap.size v ps → ps.map (·.1) = (leastN (soundB t node.toNat) (bas t)).map bitsL → Below w.heap.size w w' → IListsErr w (guardsT t node) (.returned (.tuple #[v, .int .i64 0])) w') := fun h v ps w' h1 h2 h3 => by
    refine ⟨v, ps, by rw [guards_ask, h], h1, ?_, h3⟩
    rw [h2, (guards_ok (by rw [guards_ask]; exact h)).2.2.2]
  generalize IListsErr w (guardsT t node) = PP at *
  clear hW1 hT
  go_enter Tryz.func11, Tryz.ntmps11
  go_wp2_with fail
  rw [HW1.out]
  refine HAs.out.mono ?_
  rintro e W2 ⟨rfl, hb2⟩
  have HB2 : Hid (Below w.heap.size w W2) := HB1.out.trans (hb2.mono HB1.out.size)
  have HK2 := Lib.hid (K1.out.later hb2)
  clear hb2 HAs HW1 K1
  by_cases ha : askT t node = 0
  · have F := HOkk.out ha
    have HFin := Lib.hid F
    obtain ⟨hok, n0, n1⟩ := ask_ok ha
    rw [ha]
    clear HOkk HEr F
    obtain ⟨nn, rfl⟩ : ∃ nn : Nat, node = (nn : Int) := ⟨node.toNat, by omega⟩
    rw [Int.toNat_natCast] at HFin
    have hn40 : n ≤ 40 := by have := hok.l40; have := HLn.out; omega
    have hnn : nn < n := by have := HLn.out; omega
    have HOk := Lib.hid hok
    have HBs := Lib.hid (basics_any t A n c ms W2 (HT.out.below HB2.out) (by omega))
    obtain ⟨g, hg⟩ : ∃ g : Nat → Bool, (soundB t nn) = g := ⟨_, rfl⟩
    rw [hg] at HFin
    have HC : Hid (∀ (s : Nat) (L : Option Addr) (cl : Nat) (W : World), Sub t s → Below w.heap.size w W → RdI W L (bitsL s).length (bitsL s) → Calls Tryz.prog 36 #[.agg #[.slice A n c], .int .i64 (nn : Int), .slice L (bitsL s).length cl] W fun e w' => e = .returned (.bool (g s)) ∧ Below W.heap.size W w') := fun s L cl W hs h hL => by
      have h64 := bitsL_len s
      have h2 := setT_bits HOk.out hs
      have h1 := rguards_any t nn (bitsL s) A n c ms L cl W (HT.out.below h) HOk.out hL (by omega) h2.1 hnn
      rw [h2.2] at h1
      rw [← hg]
      exact h1
    clear hg
    have HBL := Lib.hid (basL_short hok)
    have HPl := Lib.hid (place_all hok g)
    have HSb : Hid (∀ l ∈ setsL (basL t), ∃ s, l = bitsL s ∧ Sub t s) := fun l hl => sets_bits hok hl
    have q0 := HK2.out.cell (i := 0) rfl
    have qz := HK2.out.lt
    clear hok ha n0 n1
    go_wp2_with fail
    refine HBs.out.mono ?_
    rintro e W3 ⟨v3, rfl, hr3, hb3⟩
    have HB3 : Hid (Below w.heap.size w W3) := HB2.out.trans (hb3.mono HB2.out.size)
    have HK3 := Lib.hid (HK2.out.later hb3)
    obtain ⟨A3, c3, rfl, hI3, hc3, _⟩ := rdI_of_own hr3 rfl
    have HSt := Lib.hid (sets_any _ (basL t) A3 c3 W3 rfl hI3 hc3 HBL.out)
    have HSl := Lib.hid (sets_mem_len _ (basL t) rfl)
    clear hr3 hb3 hI3 hc3 HBs q0 qz
    go_wp2_with fail
    refine HSt.out.mono ?_
    rintro e W4 ⟨v4, ps, rfl, hR4, hps, hb4⟩
    have HB4 : Hid (Below w.heap.size w W4) := HB3.out.trans (hb4.mono HB3.out.size)
    have HK4 := Lib.hid (HK3.out.later hb4)
    have hlen : ∀ p ∈ ps, p.1.length ≤ 10 := fun p hp => by
      have h1 := HSl.out p.1 (by rw [← hps]; exact List.mem_map_of_mem hp)
      have h2 := HBL.out
      omega
    have hpl : ps.length ≤ 1024 := by
      have h := congrArg List.length hps
      rw [List.length_map, setsL_len] at h
      rw [h]
      exact Nat.le_trans (Nat.pow_le_pow_right (by decide) HBL.out) (by decide)
    obtain ⟨V, cv, rfl, hLs⟩ := hR4.lsm (fun p hp => by have := hlen p hp; omega)
    have HLs := Lib.hid hLs; have HAl := Lib.hid hR4.all; have HLen := Lib.hid hlen; have HPs := Lib.hid hps
    have HLl : Hid (∀ l ∈ ps.map (·.1), l.length ≤ 10) := fun l hl => by
      obtain ⟨p, hp, rfl⟩ := List.mem_map.1 hl
      exact hlen p hp
    have HPn := Lib.hid hpl
    clear hR4 hps hb4 hLs hlen HSt HSl
    go_wp2_with fail
    go_loopw [7, 9] (fun v i wr => ∃ (k : Nat) (qs : List LsP), k ≤ ps.length ∧ i = .int .i64 k ∧ IRows wr W4.heap.size v qs ∧ qs.map (·.1) = placeL (setP t g) ((ps.map (·.1)).take k) ∧ (∀ q ∈ qs, q.1.length ≤ 10) ∧ Below W4.heap.size W4 wr) (fun _ i _ => ps.length - (intOf i).toNat)
    case atStart => exact ⟨0, [], Nat.zero_le _, rfl, IRows.nil _ _, rfl, by simp, Below.refl _ _⟩
    case round =>
      obtain ⟨k, qs, hk, rfl, hR, hqm, hql, hB⟩ := hrel
      have HR := Lib.hid hR; have HB := Lib.hid hB; have HQm := Lib.hid hqm; have HQl := Lib.hid hql
      have HBw : Hid (Below w.heap.size w wr) := HB4.out.trans (hB.mono HB4.out.size)
      have HKw := Lib.hid (HK4.out.later hB)
      have HBz := Lib.hid hB.size
      clear hR hB hqm hql
      by_cases hlt : k < ps.length
      · obtain ⟨⟨pl, pA, pc⟩, rd, hp, rfl, hcell0⟩ := (HLs.out.below HB.out).getP hlt
        have hcell : wr.cell? (rd.add k) = some (.slice pA pl.length pc) := hcell0
        clear hcell0
        have hpm := List.mem_of_getElem? hp
        obtain ⟨s, hs, hsub⟩ := HSb.out pl (by rw [← HPs.out]; exact List.mem_map_of_mem hpm)
        have HPt := Lib.hid (placeL_take (setP t g) (map_take_get hp))
        have HPp : Hid (setP t g pl = minB g s) := by show _ = _; rw [hs]; exact setP_bits HOk.out g hsub
        have HIp := Lib.hid ((HAl.out _ hpm).below HB.out)
        have hp10 := HLen.out _ hpm
        have HP10 := Lib.hid hp10
        have HSs := Lib.hid hs; have HSu := Lib.hid hsub
        have HSl : Hid ((bitsL s).length = pl.length) := by show _ = _; rw [hs]
        have hrp := (HIp.out.below (Below.refl wr.heap.size wr).drew).rd
        rw [hs] at hrp
        have hCa := HC.out s pA pc wr.drew hsub HBw.out.drew hrp
        rw [HSl.out] at hCa
        have HCa := Lib.hid hCa
        have HCell := Lib.hid hcell
        have x0 := later_cell (HKw.out.cell (i := 0) rfl)
        have x1 := later_cell hcell
        have hkn : (k : Int) < (ps.length : Int) := by omega
        clear hp hpm hcell hs hsub hrp hCa
        go_wp2_with fail
        have HS0 : Hid ((fun w' => ∃ u : Later wr, w' = u.w) wr.drew) := ⟨⟨wr.drew, (Below.refl _ _).drew⟩, rfl⟩
        refine wp_region_noPanic ?_
        refine wp_region_ord (fun w' => ∃ u : Later wr, w' = u.w) 6 (fun k => decide (k < 6)) (ordOf _ [0, 1, 2, 3, 4, 5, 6, 7]) (by kernel_rfl) (by kernel_rfl) (ordOf_mem _ _) (fun _ _ _ _ _ h => h) ?_
        simp only [ordOf, List.filterMap_cons, List.filterMap_nil, List.getElem?_cons_zero, List.getElem?_cons_succ, Option.map_some]
        iterate 6 (refine ord_quiet rfl rfl rfl HS0.out ?_; intro K hK; go_big_quiet_op; go_big_quiet_on)
        clear x0 x1 HS0
        refine ord_op rfl ?_
        go_wp2_with fail
        refine HCa.out.mono ?_
        rintro e W6 ⟨rfl, hb6⟩
        have HB6 : Hid (Below wr.heap.size wr W6) := below_of_drew hb6
        have HB46 : Hid (Below W4.heap.size W4 W6) := HB.out.trans (HB6.out.mono HBz.out)
        clear hb6 HCa
        go_wp2_with fail
        refine mix_post (fun h => absurd h (by decide)) ?_
        refine ord_op rfl ?_
        go_wp2_with fail
        refine mix_post (fun h => absurd h (by decide)) ?_
        refine ord_nil ?_
        refine NoPanic.normal ?_
        go_wp2_with fail
        obtain ⟨wo, rfl⟩ : ∃ wo : World, wo = wr := ⟨_, rfl⟩
        go_loopw [10, 11] (fun v i wr => ∃ (j : Nat), j ≤ pl.length ∧ i = .int .i64 j ∧ v = .bool (g s && !((bitsL s).take j).any fun i => g (sub1 s i.toNat)) ∧ Below wo.heap.size wo wr) (fun _ i _ => pl.length - (intOf i).toNat)
        case atStart => exact ⟨0, Nat.zero_le _, rfl, by rw [List.take_zero]; simp, HB6.out⟩
        case round =>
          obtain ⟨j, hj, rfl, rfl, hB7⟩ := hrel
          have HB7 := Lib.hid hB7
          have HBw7 : Hid (Below w.heap.size w wr) := HBw.out.trans (hB7.mono HBw.out.size)
          have HB47 : Hid (Below W4.heap.size W4 wr) := HB.out.trans (hB7.mono HBz.out)
          have HK7 := Lib.hid (HKw.out.later hB7)
          have hc7 := cell_below hB7 HCell.out
          have HC7 := Lib.hid hc7
          have HIp7 := Lib.hid (HIp.out.below hB7)
          have hp10 := HP10.out
          clear hB7
          by_cases hjl : j < pl.length
          · have hjn : (j : Int) < (pl.length : Int) := by omega
            cases hb : (g s && !((bitsL s).take j).any fun i => g (sub1 s i.toNat))
            · have HMin : Hid (minB g s = false) := by
                show _ = _
                unfold minB
                rw [← List.take_append_drop j (bitsL s), List.any_append]
                rw [Bool.eq_false_iff] at hb ⊢
                intro c
                apply hb
                rw [Bool.and_eq_true, Bool.not_eq_true', Bool.or_eq_false_iff] at c
                rw [Bool.and_eq_true, Bool.not_eq_true']
                exact ⟨c.1, c.2.1⟩
              have HQ2 : Hid (qs.map (·.1) = placeL (setP t g) ((ps.map (·.1)).take (k + 1))) := by show _ = _; rw [HPt.out, if_neg (by rw [HPp.out, HMin.out]; decide)]; exact HQm.out
              clear hb
              go_wp2_with fail
              go_roundw
              case rel => exact ⟨k + 1, qs, by omega, by go_num, HR.out.below HB7.out, HQ2.out, HQl.out, HB47.out⟩
              case measure => simp [intOf]; omega
            · obtain ⟨y, yd, hy, hyd, hcy⟩ := rdI_get (HIp7.out.rd) hjl
              have hyd' : pA = some yd := hyd
              subst hyd'
              clear hyd
              have hy2 : (bitsL s)[j]? = some y := by rw [← HSs.out]; exact hy
              obtain ⟨y0, y1⟩ := (mem_bitsL (sub_lt_64 HOk.out HSu.out)).1 (List.mem_of_getElem? hy2)
              obtain ⟨yn, rfl⟩ : ∃ yn : Nat, y = (yn : Int) := ⟨y.toNat, by omega⟩
              have HAn := Lib.hid (any_take2 (fun i => g (sub1 s i.toNat)) hy2)
              have hWo := rwithout_any pl yn (some yd) pl.length pc wr.drew ((HIp7.out.below (Below.refl wr.heap.size wr).drew).rd) (by omega)
              rw [HSs.out, bits_without (sub_lt_64 HOk.out HSu.out) yn, ← HSs.out] at hWo
              have HWo := Lib.hid hWo
              have HSub1 : Hid (Sub t (sub1 s yn)) := sub1_Sub HSu.out yn
              have HbT := Lib.hid hb
              have x0 := later_cell (HK7.out.cell (i := 0) rfl)
              have x1 := later_cell hc7
              have hcy' := later_cell hcy
              clear hy hy2 y0 y1 hWo hb hcy
              go_wp2_with fail
              have HS0 : Hid ((fun w' => ∃ u : Later wr, w' = u.w) wr.drew) := ⟨⟨wr.drew, (Below.refl _ _).drew⟩, rfl⟩
              refine wp_region_noPanic ?_
              refine wp_region_ord (fun w' => ∃ u : Later wr, w' = u.w) 14 (fun k => decide (k < 13)) (ordOf _ [0, 1, 2, 3, 4, 5, 6, 7, 8, 9, 10, 11, 12, 13, 14, 15, 16]) (by kernel_rfl) (by kernel_rfl) (ordOf_mem _ _) (fun _ _ _ _ _ h => h) ?_
              simp only [ordOf, List.filterMap_cons, List.filterMap_nil, List.getElem?_cons_zero, List.getElem?_cons_succ, Option.map_some]
              iterate 13 (refine ord_quiet rfl rfl rfl HS0.out ?_; intro K hK; go_big_quiet_op; go_big_quiet_on)
              clear x0 x1 HS0 hcy'
              refine ord_op rfl ?_
              go_wp2_with fail
              refine HWo.out.mono ?_
              rintro e W8 ⟨v8, rfl, hr8, hb8⟩
              have HB8 : Hid (Below wr.heap.size wr W8) := below_of_drew hb8
              obtain ⟨A8, c8, rfl, hI8, _, _⟩ := rdI_of_own hr8 rfl
              have HC8 := Lib.hid (HC.out (sub1 s yn) A8 c8 W8 HSub1.out (HBw7.out.trans (HB8.out.mono HBw7.out.size)) hI8)
              clear hr8 hb8 hI8 HWo
              go_wp2_with fail
              refine mix_post (fun _ => ⟨⟨_, HB8.out⟩, rfl⟩) ?_
              refine ord_op rfl ?_
              go_wp2_with fail
              refine HC8.out.mono ?_
              rintro e W9 ⟨rfl, hb9⟩
              have HB9 : Hid (Below wo.heap.size wo W9) := HB7.out.trans ((HB8.out.trans (hb9.mono HB8.out.size)).mono HB7.out.size)
              clear hb9 HC8
              have HNx : Hid ((g s && !((bitsL s).take (j + 1)).any fun i => g (sub1 s i.toNat)) = !g (sub1 s yn)) := by
                show _ = _
                have h := HbT.out
                rw [Bool.and_eq_true] at h
                rw [HAn.out, h.1, Bool.true_and, Bool.not_or, h.2, Bool.true_and]
                rfl
              generalize g (sub1 s yn) = d2 at *
              go_wp2_with fail
              refine mix_post (fun h => absurd h (by decide)) ?_
              iterate 2 (refine ord_op rfl ?_; go_wp2_with fail; refine mix_post (fun h => absurd h (by decide)) ?_)
              refine ord_nil ?_
              refine NoPanic.normal ?_
              go_wp2_with fail
              go_roundw
              case rel => exact ⟨j + 1, by omega, by go_num, by rw [HNx.out], HB9.out⟩
              case measure => simp [intOf]; omega
          · obtain rfl : j = pl.length := by omega
            have HMin : Hid ((g s && !((bitsL s).take pl.length).any fun i => g (sub1 s i.toNat)) = minB g s) := by show _ = _; rw [← HSl.out, List.take_length]; rfl
            rw [HMin.out]
            cases hm : minB g s
            · have HQ2 : Hid (qs.map (·.1) = placeL (setP t g) ((ps.map (·.1)).take (k + 1))) := by show _ = _; rw [HPt.out, if_neg (by rw [HPp.out, hm]; decide)]; exact HQm.out
              clear hm HMin
              go_wp2_with fail
              go_roundw
              case rel => exact ⟨k + 1, qs, by omega, by go_num, HR.out.below HB7.out, HQ2.out, HQl.out, HB47.out⟩
              case measure => simp [intOf]; omega
            · have HQ2 : Hid (placeL (setP t g) ((ps.map (·.1)).take (k + 1)) = insZ pl (qs.map (·.1))) := by show _ = _; rw [HPt.out, if_pos (by rw [HPp.out, hm]), HQm.out]
              have hR7 := HR.out.below HB7.out
              have hqk : qs.length ≤ 1024 := by
                have h := congrArg List.length HQm.out
                rw [List.length_map] at h
                have h2 := placeL_len (setP t g) ((ps.map (·.1)).take k)
                rw [List.length_take, List.length_map] at h2
                have := HPn.out
                omega
              obtain ⟨Aq, cq, hve, hLq⟩ := hR7.lsm (fun q hq => by have := HQl.out q hq; omega)
              subst hve
              have HPl7 := Lib.hid (placed_any qs (pl, pA, pc) Aq cq wr hLq hR7.all HIp7.out (by omega) (fun q hq => by have := HQl.out q hq; omega) (show pl.length ≤ 1000000 by omega))
              clear hm HMin hR7 hLq
              go_wp2_with fail
              refine HPl7.out.mono ?_
              rintro e W8 ⟨v8, qs2, rfl, hR8, hq8, hb8⟩
              have HR8 := Lib.hid (hR8.lower HB47.out.size)
              have HB48 : Hid (Below W4.heap.size W4 W8) := HB47.out.trans (hb8.mono HB47.out.size)
              have HQ3 : Hid (qs2.map (·.1) = placeL (setP t g) ((ps.map (·.1)).take (k + 1))) := by show _ = _; rw [hq8, HQ2.out]
              have HQl3 : Hid (∀ q ∈ qs2, q.1.length ≤ 10) := fun q hq => by
                have h := List.mem_map_of_mem (f := (·.1)) hq
                rw [hq8] at h
                rcases insZ_mem h with h | h
                · rw [h]; exact HP10.out
                · obtain ⟨z, hz, e⟩ := List.mem_map.1 h
                  rw [← e]; exact HQl.out z hz
              clear hR8 hq8 hb8
              go_wp2_with fail
              go_roundw
              case rel => exact ⟨k + 1, qs2, by omega, by go_num, HR8.out, HQ3.out, HQl3.out, HB48.out⟩
              case measure => simp [intOf]; omega
      · obtain rfl : k = ps.length := by omega
        have HQf : Hid (qs.map (·.1) = (leastN g (bas t)).map bitsL) := by
          show _ = _
          rw [HQm.out, show ps.length = (ps.map (·.1)).length by rw [List.length_map], List.take_length, HPs.out, HPl.out]
        have F := HFin.out _ qs wr (HR.out.lower HB4.out.size) HQf.out HBw.out
        have HF2 := Lib.hid F
        clear F
        go_wp2_with fail
        first | exact HF2.out | (go_ret2; exact HF2.out)
  · have F := HEr.out ha W2 HB2.out
    have HF2 := Lib.hid F
    have hne : (askT t node != 0) = true := by simpa using ha
    clear ha F HEr HOkk
    generalize askT t node = ee at *
    go_wp2_with fail
    first | exact HF2.out | (go_ret2; exact HF2.out)
end Go.Proofs.YtadldndpphdmpaaGreat
