/- Left, by the program. -/
import Derived.Test.YtadldndpphdmpaaGreatG10
import Derived.Test.YtadldndpphdmpaaGreatQA
import Derived.OwnWalk
namespace Go.Proofs.YtadldndpphdmpaaGreat
open Go.RowKit Go.Shelf

/-- The numbers of the first q nodes; 0 behind them. -/
def atX (t : List Nd) (all n q : Nat) : List Int := (List.range n).map fun i => if i < q then atL t all i else 0
theorem atX_len (t : List Nd) (all n q : Nat) : (atX t all n q).length = n := by unfold atX; simp
theorem atX_get {t : List Nd} {all n q i : Nat} (hi : i < n) : (atX t all n q)[i]? = some (if i < q then atL t all i else 0) := by
  unfold atX
  rw [List.getElem?_map, List.getElem?_range hi]
  rfl
theorem atX_set {t : List Nd} {all n q : Nat} (hq : q < n) : (atX t all n q).set q (atL t all q) = atX t all n (q + 1) := by
  apply List.ext_getElem?
  intro i
  by_cases hi : i < n
  · rw [List.getElem?_set, atX_get hi, atX_get hi, atX_len]
    by_cases e : q = i
    · subst e; rw [if_pos rfl, if_pos hq, if_pos (by omega)]
    · rw [if_neg e]
      by_cases h : i < q
      · rw [if_pos h, if_pos (by omega)]
      · rw [if_neg h, if_neg (by omega)]
  · rw [List.getElem?_eq_none (by rw [List.length_set, atX_len]; omega), List.getElem?_eq_none (by rw [atX_len]; omega)]
theorem atX_zero {t : List Nd} {all n q : Nat} (h : atL t all q = 0) : atX t all n q = atX t all n (q + 1) := by
  unfold atX
  refine List.map_congr_left fun i _ => ?_
  by_cases e : i = q
  · subst e; rw [if_neg (by omega), if_pos (by omega), h]
  · by_cases h : i < q
    · rw [if_pos h, if_pos (by omega)]
    · rw [if_neg h, if_neg (by omega)]
theorem add0 (G j : Nat) : (⟨G, 0, none⟩ : Addr).add j = ⟨G, j, none⟩ := by rw [Addr.add_mid, Nat.zero_add]
theorem atX_start (t : List Nd) (all n : Nat) : (madeCells (Value.int .i64 0).cells (n * 1)).toList = (atX t all n 0).map (Value.int .i64) := by
  unfold madeCells atX
  apply List.ext_getElem?
  intro i
  by_cases hi : i < n
  · simp [Value.cells, hi]
    rw [Nat.mod_one]
    rfl
  · simp [Value.cells, hi]

/-- Sorting a row of the call's own. -/
theorem sortOwn_any {w : World} {base : Nat} {v : Value} {xs : List Int} (h : w.ownsRow base 3 1 v xs.length (xs.map (Value.int .i64))) (hn : xs.length ≤ 1000000000) :
    Calls Tryz.prog 40 #[v] w fun e w' => e = .returned (.tuple #[]) ∧ w'.ownsRow base 3 1 v xs.length ((sortD xs).map (Value.int .i64)) ∧ w.grownBy w' v.ownBlock := by
  rcases h.2 with ⟨rfl, hn0⟩ | ⟨g, cap, cur, rfl, hbase, hb, g1, g2, g3, g4⟩
  · have hls : xs = [] := List.length_eq_zero_iff.1 hn0
    subst hls
    exact (Tryz.slices_Sort_int_none _ _ _).mono fun e w' ⟨he, hw⟩ => ⟨he, by rw [hw]; exact World.ownsRow_nil _ _ _ _, by rw [hw]; exact grown_refl _ _⟩
  · have hH := holds_of_blockI hb (by simpa using g4)
    have hl : (xs.mergeSort fun x y => decide (x ≤ y)).length = xs.length := List.length_mergeSort xs
    refine (Tryz.slices_Sort_int g 0 cap xs w hH (Array.getElem?_eq_some_iff.1 hb).1 (by omega)).mono fun e w' ⟨he, nn, os, hw⟩ => ⟨he, ?_, ?_⟩
    · rw [hw, ← sortD_eq]
      exact ownsRow_sortedI (w := w) (n := nn) (os := os) (ts := xs.mergeSort fun x y => decide (x ≤ y)) (ss := xs) hl hbase hb g1 g2 g3
    · rw [hw]
      exact grownBy_sortedI _

set_option maxRecDepth 100000 in
set_option maxHeartbeats 8000000 in
theorem Left_any (t : List Nd) (l : List Int) (node : Int) (A : Option Addr) (n c : Nat) (ms : List NdM) (L : Option Addr) (cl : Nat) (w : World) (hT : TrM w t A n ms) (hc : n ≤ c) (hL : RdI w L l.length l) (hl : l.length ≤ 1000000000000000) :
    Calls Tryz.prog 17 #[.agg #[.slice A n c], .slice L l.length cl, .int .i64 node] w fun e w' => e = .returned (.tuple #[.int .i64 (leftT t l node).1, .int .i64 (leftT t l node).2]) ∧ Below w.heap.size w w' := by
  obtain ⟨W1, hW1⟩ : ∃ W1, (w.alloc (.cells #[.slice A n c] 24)).alloc (.cells #[.slice L l.length cl] 38) = W1 := ⟨_, rfl⟩
  have HB1 : Hid (Below w.heap.size w W1) := by rw [← hW1]; exact ((Below.refl _ w).alloc (Nat.le_refl _) _).alloc (by simp) _
  have hcell : W1.cell? ⟨w.heap.size + 1, 0, none⟩ = some (.slice L l.length cl) := by rw [← hW1]; exact cell_at_new (by simp) rfl
  have HAb := Lib.hid (about_any t node [l] A n c ms (some ⟨w.heap.size + 1, 0, none⟩) 1 1 [(l, L, cl)] W1 (hT.below HB1.out) hc (LsM.one hcell (hL.below HB1.out) hl) (by omega))
  have HW1 := Lib.hid hW1
  clear hcell hW1 hT hL
  have HLen := Lib.hid (fun h : (aboutT t node [l]).1 = 0 => aboutT_len h)
  have HNode := Lib.hid (fun h : (aboutT t node [l]).1 = 0 => aboutT_node h)
  have HSubs := Lib.hid (aboutT_sub (t := t) (node := node) (ls := [l]))
  have HRes : Hid (leftT t l node = leftT t l node) := rfl
  unfold leftT at HRes ⊢
  generalize aboutT t node [l] = X at *
  obtain ⟨x, S⟩ := X
  dsimp only at *
  generalize hY : (if x = 0 then (if (eff t (S.headD 0)).testBit node.toNat = true then (atL t (eff t (S.headD 0)) node.toNat, 0) else (0, 4)) else ((0 : Int), x)) = Y at *
  have HY := Lib.hid hY
  clear hY HRes
  go_enter Tryz.func17, Tryz.ntmps17
  go_wp2_with fail
  rw [HW1.out]
  refine HAb.out.mono ?_
  rintro e W2 (⟨h0, rfl, hb⟩ | ⟨h0, T, M, cr, R, v, rfl, hF, hrow, hb, hM, hTb⟩)
  · have HB2 := Lib.hid (HB1.out.trans (hb.mono HB1.out.size))
    have hne : (x != 0) = true := by simpa using h0
    have F : Hid (((0 : Int), x) = Y) := by have := HY.out; rw [if_neg h0] at this; exact this
    dsimp only at *
    clear h0 hb HAb
    go_wp2_with fail
    first | exact ⟨by rw [← F.out]; rfl, HB2.out⟩ | (go_ret2; exact ⟨by rw [← F.out]; rfl, HB2.out⟩)
  · have hx : x = 0 := h0
    subst hx
    have hlen := HLen.out rfl
    dsimp only at *
    match S, hlen with
    | [s], _ =>
      have HB2 := Lib.hid (HB1.out.trans (hb.mono HB1.out.size))
      obtain ⟨ad, cv, rfl, hcs⟩ := set_get hrow (i := 0) rfl
      have hsub := HSubs.out s (by simp)
      obtain ⟨hok, nd0, nd1⟩ := HNode.out rfl
      have HEf := Lib.hid (effects_any t s T A n c ms R cr M 0 W2 hF hsub (by omega))
      have hes64 : eff t s < 18446744073709551616 := by have := pow_40 hok (eff_lt hok hsub); omega
      have hln := hF.tr.len
      have n40 := hok.l40
      rw [hln] at n40 nd1
      have F : Hid ((if (eff t s).testBit node.toNat = true then (atL t (eff t s) node.toNat, 0) else ((0 : Int), (4 : Int))) = Y) := by have := HY.out; rw [if_pos rfl] at this; exact this
      have hM2 : w.heap.size ≤ M := by have := HB1.out.size; omega
      have HM2 := Lib.hid hM2
      have HCs : Hid (W2.cell? ad = some (.int .u64 (s : Int))) := hcs
      have HcsL : Hid (ad.block < W2.heap.size) := cell_lt hcs
      have HFm := Lib.hid hF.kn.noCells
      have HOk := Lib.hid hok
      have HSub := Lib.hid hsub
      have HLn := Lib.hid hln
      have H64 := Lib.hid hes64
      obtain ⟨nn, rfl⟩ : ∃ nn : Nat, node = (nn : Int) := ⟨node.toNat, by omega⟩
      have HHas := Lib.hid (fun W => has_any (eff t s) nn W hes64 (by omega))
      have hnn : nn < n := by omega
      simp only [Int.toNat_natCast] at F
      clear hrow hb hF hsub hok hM hTb hM2 HAb h0 hcs hln hes64 HY HLen HNode HSubs
      generalize hes : eff t s = es at *
      have HEs := Lib.hid hes
      clear hes
      have hcs0 := HCs.out
      go_wp2_with fail
      refine HEf.out.mono ?_
      rintro e W3 ⟨rfl, hF3, hb3⟩
      have hcs3 := hb3.cell HcsL.out HFm.out HCs.out
      have HB3 : Hid (Below w.heap.size w W3) := HB2.out.trans (hb3.below HM2.out HB2.out.size)
      have HF3 := Lib.hid hF3
      have HC3 := Lib.hid hcs3
      have HL3 : Hid (ad.block < W3.heap.size) := cell_lt hcs3
      have hEf2 := fun W (h : Below W3.heap.size W3 W) => effects_any t s T A n c ms R cr M (0 + 1) W (hF3.below h) HSub.out (by omega)
      rw [HEs.out] at hEf2
      have HEf2 := Lib.hid hEf2
      have b1 := hF3.blk.cell (i := 1) rfl
      have bz := hF3.blk.lt
      clear hF3 hb3 hcs0 hEf2
      cases hbit : es.testBit nn
      · have F2 : Hid (((0 : Int), (4 : Int)) = Y) := by have := F.out; rw [hbit, if_neg (by decide)] at this; exact this
        rw [hbit] at HHas
        go_wp2_with (go_at_call 26; refine (HHas.out _).mono ?_; rintro e w' ⟨rfl, rfl⟩)
        first | exact ⟨by rw [← F2.out]; rfl, HB3.out⟩ | (go_ret2; exact ⟨by rw [← F2.out]; rfl, HB3.out⟩)
      · have F2 : Hid ((atL t es nn, (0 : Int)) = Y) := by have := F.out; rw [hbit, if_pos rfl] at this; exact this
        rw [hbit] at HHas
        clear hbit
        obtain ⟨i0, hi, hz0, hz1, hz2⟩ := info_parts infoI
        have hzb : i0.bytes * n ≤ 281474976710656 := by rw [hz2]; omega
        go_wp2_with (first | (go_at_call 26; refine (HHas.out _).mono ?_; rintro e w' ⟨rfl, rfl⟩) | (at_make; refine wpList_make_full _ rfl _ _ 38 rfl W3.heap.size 3 i0 (.int .i64 0) 1 Tryz.underlying38 hi hz0 hz1 .i64 .i64 _ _ n rfl rfl rfl rfl hzb (by unfold maxLen; omega) (Nat.le_refl _) ?_; intro W4 hrow4 hg4; have HRow4 := Lib.hid hrow4; have HB34 : Hid (Below W3.heap.size W3 W4) := (Below.refl _ _).grown hg4 (Nat.le_refl _) (fun r e => by cases e); have HC4 : Hid (W4.cell? ad = some (.int .u64 (s : Int))) := cell_below HB34.out HC3.out; have hcs4 := HC4.out; clear hrow4 hg4) | fail)
        refine (HEf2.out W4 HB34.out).mono ?_
        rintro e W5 ⟨rfl, hF5, hb5⟩
        have HBB5 : Hid (BB W3.heap.size M W3 W5) := (BB.of_below HB34.out (Nat.le_refl _)).trans (hb5.lower HB34.out.size)
        have HKn5 := Lib.hid hF5.kn
        have HG0 : Hid (W3.heap.size < W4.heap.size) := by obtain ⟨_, h⟩ := HRow4.out.lt W3.heap.size rfl; exact h
        have hGM : M ≠ W3.heap.size := by have := HF3.out.kn.lt; omega
        have HRow5 : Hid (W5.ownsRow W3.heap.size 3 1 (.slice (some ⟨W3.heap.size, 0, none⟩) n n) n ((atX t es n 0).map (Value.int .i64))) := by
          have h := HRow4.out
          rw [atX_start t es n] at h
          exact h.kept ⟨hb5.os, hb5.tape, hb5.output, hb5.size, fun i hi hne => hb5.block i hi (fun e => hne (by rw [e]))⟩ (.inr (fun e => hGM (by cases e; rfl)))
        clear hF5 hb5 hcs4 b1 bz HRow4 HEf2 hi hz0 hz1 hz2 hzb
        have b1 := (HF3.out.move HBB5.out HKn5.out).blk.cell (i := 1) rfl
        have bz := (HF3.out.move HBB5.out HKn5.out).blk.lt
        generalize hGG : W3.heap.size = G at HRow5 hGM HBB5 ⊢
        have HGG := Lib.hid hGG
        clear hGG
        go_wp2_with fail
        clear b1 bz
        go_loopw [56] (fun i wr => ∃ q : Nat, q ≤ n ∧ i = .int .i64 q ∧ wr.ownsRow G 3 1 (.slice (some ⟨G, 0, none⟩) n n) n ((atX t es n q).map (Value.int .i64)) ∧ BB G M W3 wr ∧ Known wr M (0 + 1 + 1) t) (fun i _ => n - (intOf i).toNat)
        case atStart => exact ⟨0, Nat.zero_le _, rfl, HRow5.out, HBB5.out, HKn5.out⟩
        case round =>
          obtain ⟨q, hq, rfl, hrow, hB, hkn⟩ := hrel
          have HRow := Lib.hid hrow; have HBq := Lib.hid hB; have HKq := Lib.hid hkn
          have HF : Hid (FT wr T t A n c ms R cr M (0 + 1 + 1)) := HF3.out.move (by rw [HGG.out]; exact HBq.out) HKq.out
          clear hrow hB hkn
          by_cases hlt : q < n
          · obtain ⟨x, rd, hx, hR, hcx⟩ := HF.out.rl.get hlt
            have hcx0 : wr.cell? (rd.add q) = some (ruleV x) := by have := hcx 0 _ rfl; rw [Nat.mul_one] at this; exact this
            obtain ⟨m, bd, hm, hA, ha, hN⟩ := HF.out.tr.get hlt
            rw [hx] at hm
            cases hm
            subst hA hR
            obtain ⟨c0, c1, c2, c3, c4⟩ := ha.five
            have hcz : (bd.add (q * 5)).block < wr.heap.size := cell_lt c0
            have hok := HOk.out.nd q m.nd hx
            have HNd := Lib.hid hok
            have HAt := Lib.hid (atL_eq HOk.out es hx)
            have HN := Lib.hid hN
            have hl10 := hok.l10
            have b0 := HF.out.blk.cell (i := 0) rfl
            have bz := HF.out.blk.lt
            have hh0 := hok.h0
            have hh1 := hok.h1
            have HGz : Hid (G < wr.heap.size) := (HRow.out.lt G rfl).2
            clear hx ha hN hok hcx
            obtain ⟨⟨na, ki, li, cn, ho⟩, A2, c2'⟩ := m
            dsimp only at *
            by_cases hk1 : ki = 1
            · have hli : li = [] := HNd.out.b0 hk1
              have HAt0 : Hid (atL t es q = 0) := by
                have := HAt.out
                unfold atF at this
                have hnd : need ⟨na, ki, li, cn, ho⟩ = 1 := by unfold need; rw [if_pos hk1]
                rw [hnd, tickF_len, if_neg ?_] at this
                · exact this
                · unfold hitsF
                  show ¬ ((1 : Int) ≤ ((li.filter fun k => es.testBit k.toNat).length : Int))
                  rw [hli]
                  simp
              rw [show ruleV ⟨na, ki, li, cn, ho⟩ = .iface 95 (.agg #[]) by unfold ruleV; rw [if_pos hk1]] at hcx0
              subst hli
              clear hk1
              have hns := need_one
              have HS0 := Lib.hid (Tryz.slices_Sort_int_none none 0 wr)
              go_wp2_with fail
              go_loop [15, 70] (fun v i => v = .slice none 0 0 ∧ i = .int .i64 0) (fun _ _ => 0)
              case atStart => exact ⟨rfl, rfl⟩
              case round =>
                obtain ⟨rfl, rfl⟩ := hrel
                go_wp2_with (first | (go_at_call 40; refine (Tryz.slices_Sort_int_none _ _ _).mono ?_; rintro e w' ⟨rfl, rfl⟩) | (go_at_call 126; refine (one_need _).mono ?_; rintro e w' ⟨rfl, hb3⟩; have HB3 := Lib.hid hb3; clear hb3))
                go_roundw
                case rel => exact ⟨q + 1, by omega, by go_num, by rw [← atX_zero HAt0.out]; exact own_far HRow.out (grown_of_below HB3.out none) (fun r e => by cases e), HBq.out.trans (BB.of_below HB3.out (by have := HGz.out; omega)), HKq.out.below HB3.out⟩
                case measure => simp [intOf]; omega
            · rw [show ruleV ⟨na, ki, li, cn, ho⟩ = .iface 105 (.agg #[.int .i64 (need ⟨na, ki, li, cn, ho⟩), .int .i64 ho]) by unfold ruleV; rw [if_neg hk1]] at hcx0
              have hns := need_some
              have hnd1 := need_pos HNd.out
              have hnd2 := need_le HNd.out
              have HTf : Hid (tickF es ⟨na, ki, li, cn, ho⟩ (atL t es) = sortD ((li.filter fun k => es.testBit k.toNat).map fun k => atL t es k.toNat)) := rfl
              have HAt2 : Hid (atL t es q = if need ⟨na, ki, li, cn, ho⟩ ≤ ((tickF es ⟨na, ki, li, cn, ho⟩ (atL t es)).length : Int) then (tickF es ⟨na, ki, li, cn, ho⟩ (atL t es)).getD (need ⟨na, ki, li, cn, ho⟩ - 1).toNat 0 + ho else 0) := HAt.out
              generalize need ⟨na, ki, li, cn, ho⟩ = nv at *
              generalize tickF es ⟨na, ki, li, cn, ho⟩ (atL t es) = TF at *
              obtain ⟨A0, C0, e0, hrdG, _, _⟩ := rdI_of_own HRow.out (atX_len t es n q)
              cases e0
              have HRdG := Lib.hid hrdG
              have HIns := Lib.hid HN.out.ins
              obtain ⟨i0, hi, hz0, hz1, hz2⟩ := info_parts infoI
              clear hk1 hrdG
              go_wp2_with fail
              clear hcx0 c0 c1 c2 c3 c4 hcz b0 bz
              obtain ⟨wo, rfl⟩ : ∃ wo : World, wo = wr := ⟨_, rfl⟩
              go_loopw [15, 70] (fun v i wr => ∃ (j : Nat) (ts : List Int), j ≤ li.length ∧ i = .int .i64 j ∧ ts = ((li.take j).filter fun k => es.testBit k.toNat).map (fun k => atL t es k.toNat) ∧ wr.ownsRow wo.heap.size 3 1 v ts.length (ts.map (Value.int .i64)) ∧ ts.length ≤ j ∧ Below wo.heap.size wo wr) (fun _ i _ => li.length - (intOf i).toNat)
              case atStart => exact ⟨0, [], Nat.zero_le _, rfl, rfl, World.ownsRow_nil _ _ _ _, Nat.zero_le _, Below.refl _ _⟩
              case round =>
                obtain ⟨j, ts, hj, rfl, hts, hrw, htl, hBi⟩ := hrel
                have HTs := Lib.hid hts; have HRw := Lib.hid hrw; have HBi := Lib.hid hBi
                clear hts hrw hBi
                by_cases hjl : j < li.length
                · obtain ⟨y, ld, hy, hAy, cy⟩ := rdI_get (HIns.out.below HBi.out) hjl
                  subst hAy
                  have hy0 := HNd.out.ins y (List.mem_of_getElem? hy)
                  obtain ⟨yn, rfl⟩ : ∃ yn : Nat, y = (yn : Int) := ⟨y.toNat, by omega⟩
                  have hyq : yn < q := by have := hy0.2; omega
                  obtain ⟨z, gd, hz, hAz, cz⟩ := rdI_get (HRdG.out.below HBi.out) (k := yn) (by omega)
                  cases hAz
                  have hzv : z = atL t es yn := by
                    rw [atX_get (by omega), if_pos hyq] at hz
                    exact (Option.some.inj hz).symm
                  subst hzv
                  have cz2 : wr.cell? ⟨G, yn, none⟩ = some (.int .i64 (atL t es yn)) := by rw [← add0]; exact cz
                  clear cz
                  have HTk : Hid (((li.take (j + 1)).filter fun k => es.testBit k.toNat).map (fun k => atL t es k.toNat) = ts ++ if es.testBit yn = true then [atL t es yn] else []) := by
                    obtain ⟨hk', e⟩ := List.getElem?_eq_some_iff.1 hy
                    rw [List.take_succ_eq_append_getElem hk', List.filter_append, List.map_append, e, ← HTs.out]
                    show _ = _
                    congr 1
                    by_cases hb : es.testBit yn = true <;> simp [hb]
                  have hyn : yn ≤ 63 := by omega
                  have HHy := Lib.hid (has_any es yn wr H64.out hyn)
                  have hjl' : (j : Int) < (li.length : Int) := by omega
                  have hyn' : (yn : Int) < (n : Int) := by omega
                  clear hy hz hy0
                  cases hb : es.testBit yn
                  · have HT2 : Hid (ts = ((li.take (j + 1)).filter fun k => es.testBit k.toNat).map (fun k => atL t es k.toNat)) := by have := HTk.out; rw [hb, if_neg (by decide), List.append_nil] at this; exact this.symm
                    rw [hb] at HHy
                    clear hb HTk
                    go_wp2_with (go_at_call 26; refine HHy.out.mono ?_; rintro e w' ⟨rfl, rfl⟩)
                    go_roundw
                    case rel => exact ⟨j + 1, ts, by omega, by go_num, HT2.out, HRw.out, by omega, HBi.out⟩
                    case measure => simp [intOf]; omega
                  · have HT2 : Hid (ts ++ [atL t es yn] = ((li.take (j + 1)).filter fun k => es.testBit k.toNat).map (fun k => atL t es k.toNat)) := by have := HTk.out; rw [hb, if_pos rfl] at this; exact this.symm
                    rw [hb] at HHy
                    have HSz := Lib.hid HBi.out.size
                    clear hb HTk
                    go_wp2_with (first | (go_at_call 26; refine HHy.out.mono ?_; rintro e w' ⟨rfl, rfl⟩) | (at_builtin; refine wpList_append_one rfl _ _ 38 rfl wo.heap.size 3 i0 (.int .i64 0) 8 Tryz.underlying38 hi hz0 hz1 hz2 rfl _ _ _ rfl HRw.out (.int .i64 (atL t es yn)) wr.heap.size rfl rfl (by simp [Value.oneCell']) (by unfold maxLen; omega) (by omega) HSz.out ?_; intro A' c'' w2 hown' hgrow _; have HO2 := Lib.hid hown'; have HG2 := Lib.hid hgrow; clear hown' hgrow))
                    go_roundw
                    case rel => exact ⟨j + 1, ts ++ [atL t es yn], by omega, by go_num, HT2.out, by rw [List.length_append, List.map_append]; exact HO2.out, by rw [List.length_append]; simp; omega, HBi.out.grown HG2.out HSz.out (fun r e => (HRw.out.lt r e).1)⟩
                    case measure => simp [intOf]; omega
                · obtain rfl : j = li.length := by omega
                  have HTs2 : Hid (sortD ts = TF) := by rw [HTf.out, HTs.out, List.take_length]; exact rfl
                  have HSo := Lib.hid (sortOwn_any HRw.out (by omega))
                  go_wp2_with fail
                  refine HSo.out.mono ?_
                  rintro e W6 ⟨rfl, hr6, hg6⟩
                  have HL6 : Hid (TF.length = ts.length) := by rw [← HTs2.out]; exact (sortD_perm ts).length_eq
                  rw [HTs2.out] at hr6
                  have HB6 : Hid (Below wo.heap.size wo W6) := HBi.out.grown hg6 HBi.out.size (fun r e => (HRw.out.lt r e).1)
                  obtain ⟨A6, c6, rfl, _⟩ := own_slice hr6
                  have HR6 := Lib.hid hr6
                  clear hr6 hg6 HSo HTs HTf hi hz0 hz1 hz2
                  by_cases hge : nv ≤ (ts.length : Int)
                  · have HAt3 : Hid (atL t es q = TF.getD (nv - 1).toNat 0 + ho) := by have := HAt2.out; rw [if_pos (by rw [HL6.out]; exact hge)] at this; exact this
                    have hge' : decide (nv ≤ (ts.length : Int)) = true := by simpa using hge
                    have hAtb := atL_bd HOk.out es q (by rw [HLn.out]; exact hlt)
                    obtain ⟨d, rfl⟩ : ∃ d : Nat, nv = (d : Int) + 1 := ⟨(nv - 1).toNat, by omega⟩
                    have hdn : ((d : Int) + 1 - 1).toNat = d := by omega
                    rw [hdn] at HAt3
                    clear hdn
                    have hdl : d < ts.length := by omega
                    obtain ⟨A7, c7, e7, hrd7, _, _⟩ := rdI_of_own HR6.out HL6.out
                    cases e7
                    obtain ⟨z6, td, hz6, hA7, cz6⟩ := rdI_get hrd7 hdl
                    subst hA7
                    have hg6 : TF.getD d 0 = z6 := by rw [List.getD_eq_getElem?_getD, hz6]; rfl
                    rw [hg6] at HAt3
                    rw [HAt3.out] at hAtb
                    obtain ⟨hab1, hab2⟩ := hAtb
                    have HCz := Lib.hid cz6
                    clear hz6 hg6 hrd7 cz6
                    go_wp2_with (go_at_call 128; refine (some_need _ _ _).mono ?_; rintro e W7 ⟨rfl, hb7⟩; have HB7 := Lib.hid hb7; clear hb7)
                    have HB7w := Lib.hid (HB6.out.trans (HB7.out.mono HB6.out.size))
                    have cz7 := later_cell (cell_below HB7.out HCz.out)
                    have hw1 : IntKind.i64.wrap ((d : Int) + 1 - 1) = (d : Int) := by rw [IntWalk.i64_in _ ⟨by omega, by omega⟩]; omega
                    have hw2 : IntKind.i64.wrap (z6 + ho) = z6 + ho := IntWalk.i64_in _ ⟨by omega, by omega⟩
                    have hdl' : (d : Int) < (ts.length : Int) := by omega
                    have HS0 : Hid ((fun w' => ∃ u : Later W7, w' = u.w) W7.drew) := ⟨⟨W7.drew, (Below.refl _ _).drew⟩, rfl⟩
                    refine wp_region_noPanic ?_
                    refine wp_region_ord (fun w' => ∃ u : Later W7, w' = u.w) 12 (fun k => !(k == 4 || k == 9 || k == 12)) (ordOf _ [0, 1, 2, 3, 8, 4, 5, 6, 7, 9, 10, 11, 12]) (by kernel_rfl) (by kernel_rfl) (ordOf_mem _ _) (fun _ _ _ _ _ h => h) ?_
                    simp only [ordOf, List.filterMap_cons, List.filterMap_nil, List.getElem?_cons_zero, List.getElem?_cons_succ, Option.map_some]
                    iterate 5 (refine ord_quiet rfl rfl rfl HS0.out ?_; intro K hK; go_big_quiet_op; go_big_quiet_on)
                    refine ord_op rfl ?_
                    go_wp2_with (go_at_call 128; refine (some_need _ _ _).mono ?_; rintro e W8 ⟨rfl, hb8⟩; have HB8 : Hid (Below W7.heap.size W7 W8) := ((Below.refl _ W7).drew).trans hb8; clear hb8)
                    have HS8 : Hid ((fun w' => ∃ u : Later W7, w' = u.w) W8) := ⟨⟨W8, HB8.out⟩, rfl⟩
                    refine mix_post (fun _ => HS8.out) ?_
                    iterate 3 (refine ord_quiet rfl rfl rfl HS8.out ?_; intro K hK; go_big_quiet_op; go_big_quiet_on)
                    clear cz7
                    have hhs := hold_some
                    refine ord_op rfl ?_
                    go_wp2_with (go_at_call 127; refine (some_hold _ _ _).mono ?_; rintro e W9 ⟨rfl, hb9⟩; have HB9 : Hid (Below W7.heap.size W7 W9) := HB8.out.trans (hb9.mono HB8.out.size); clear hb9)
                    have HS9 : Hid ((fun w' => ∃ u : Later W7, w' = u.w) W9) := ⟨⟨W9, HB9.out⟩, rfl⟩
                    refine mix_post (fun _ => HS9.out) ?_
                    iterate 2 (refine ord_quiet rfl rfl rfl HS9.out ?_; intro K hK; go_big_quiet_op; go_big_quiet_on)
                    have HB9w : Hid (Below wo.heap.size wo W9) := HB7w.out.trans (HB9.out.mono HB7w.out.size)
                    have HR9 : Hid (W9.ownsRow G 3 1 (.slice (some ⟨G, 0, none⟩) n n) n ((atX t es n q).map (Value.int .i64))) := own_far HRow.out (grown_of_below HB9w.out none) (fun r e => by cases e)
                    have cq : W9.cell? ⟨G, q, none⟩ = some (.int .i64 0) := by rw [HR9.out.cellAt q (by omega), List.getElem?_map, atX_get hlt, if_neg (by omega)]; rfl
                    have cf := HR9.out.frozenAt q
                    have cg : G < W9.heap.size := (HR9.out.lt G rfl).2
                    clear hw1 hw2
                    refine ord_op rfl ?_
                    go_wp2_with fail
                    refine mix_post (fun h => absurd h (by decide)) ?_
                    refine ord_nil ?_
                    refine NoPanic.normal ?_
                    have HSt := Lib.hid (HR9.out.stored q (.int .i64 (z6 + ho)))
                    clear cq cf cg
                    go_wp2_with fail
                    go_roundw
                    case rel => exact ⟨q + 1, by omega, by go_num, by have h := HSt.out.1; rw [← HAt3.out, ← List.map_set, atX_set hlt] at h; rw [← HAt3.out]; exact h, (HBq.out.trans (BB.of_below HB9w.out (by have := HGz.out; omega))).grown HSt.out.2 (fun r e => by cases e; exact .inr (Nat.le_refl _)) (by have := HB9w.out.size; have := HGz.out; omega), (HKq.out.below HB9w.out).set (by show M ≠ G; exact hGM) _⟩
                    case measure => simp [intOf]; omega
                  · have HAt3 : Hid (atL t es q = 0) := by have := HAt2.out; rw [if_neg (by rw [HL6.out]; exact hge)] at this; exact this
                    have hge' : decide (nv ≤ (ts.length : Int)) = false := by simpa using hge
                    go_wp2_with (go_at_call 128; refine (some_need _ _ _).mono ?_; rintro e w' ⟨rfl, hb7⟩; have HB7 := Lib.hid hb7; clear hb7)
                    have HB7w := Lib.hid (HB6.out.trans (HB7.out.mono HB6.out.size))
                    go_roundw
                    case rel => exact ⟨q + 1, by omega, by go_num, by rw [← atX_zero HAt3.out]; exact own_far HRow.out (grown_of_below HB7w.out none) (fun r e => by cases e), HBq.out.trans (BB.of_below HB7w.out (by have := HGz.out; omega)), HKq.out.below HB7w.out⟩
                    case measure => simp [intOf]; omega
          · obtain rfl : q = n := by omega
            obtain ⟨A0, C0, e0, hrdG, _, _⟩ := rdI_of_own HRow.out (atX_len t es q q)
            cases e0
            obtain ⟨z, gd, hz, hAz, cz⟩ := rdI_get hrdG hnn
            cases hAz
            have hzv : z = atL t es nn := by
              rw [atX_get hnn, if_pos hnn] at hz
              exact (Option.some.inj hz).symm
            subst hzv
            have cz2 : wr.cell? ⟨G, nn, none⟩ = some (.int .i64 (atL t es nn)) := by rw [← add0]; exact cz
            have hnn' : (nn : Int) < (q : Int) := by omega
            have HBw : Hid (Below w.heap.size w wr) := HB3.out.trans (HBq.out.below HM2.out (by rw [← HGG.out]; exact HB3.out.size))
            clear hz cz hrdG
            go_wp2_with fail
            first | exact ⟨by rw [← F2.out]; rfl, HBw.out⟩ | (go_ret2; exact ⟨by rw [← F2.out]; rfl, HBw.out⟩)
end Go.Proofs.YtadldndpphdmpaaGreat
