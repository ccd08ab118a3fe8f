/- The effects of a set, by the program. -/
import Derived.Test.YtadldndpphdmpaaGreatG8
namespace Go.Proofs.YtadldndpphdmpaaGreat
open Go.RowKit Go.Shelf

set_option maxHeartbeats 400000 in
theorem one_need (w : World) : Calls Tryz.prog 126 #[.agg #[]] w fun e w' => e = .returned (.int .i64 1) ∧ Below w.heap.size w w' := by
  go_enter Tryz.func126, Tryz.ntmps126
  go_wp2
  go_ret
  exact ⟨rfl, (Below.refl _ _).alloc (Nat.le_refl _) _⟩
set_option maxHeartbeats 400000 in
theorem one_hold (w : World) : Calls Tryz.prog 125 #[.agg #[]] w fun e w' => e = .returned (.int .i64 0) ∧ Below w.heap.size w w' := by
  go_enter Tryz.func125, Tryz.ntmps125
  go_wp2
  go_ret
  exact ⟨rfl, (Below.refl _ _).alloc (Nat.le_refl _) _⟩
set_option maxHeartbeats 400000 in
theorem some_need (a b : Int) (w : World) : Calls Tryz.prog 128 #[.agg #[.int .i64 a, .int .i64 b]] w fun e w' => e = .returned (.int .i64 a) ∧ Below w.heap.size w w' := by
  go_enter Tryz.func128, Tryz.ntmps128
  go_wp2
  go_ret
  exact ⟨rfl, (Below.refl _ _).alloc (Nat.le_refl _) _⟩
set_option maxHeartbeats 400000 in
theorem some_hold (a b : Int) (w : World) : Calls Tryz.prog 127 #[.agg #[.int .i64 a, .int .i64 b]] w fun e w' => e = .returned (.int .i64 b) ∧ Below w.heap.size w w' := by
  go_enter Tryz.func127, Tryz.ntmps127
  go_wp2
  go_ret
  exact ⟨rfl, (Below.refl _ _).alloc (Nat.le_refl _) _⟩

theorem ta_one (w : World) : (Instr.typeAssert (.iface 95 (.agg #[])) 77 95 true).run Tryz.prog w = .ok (.tuple #[.agg #[], .bool true]) w := by kernel_rfl
theorem ta_some (a b : Int) (w : World) : (Instr.typeAssert (.iface 105 (.agg #[.int .i64 a, .int .i64 b])) 77 95 true).run Tryz.prog w = .ok (.tuple #[.agg #[], .bool false]) w := by kernel_rfl
theorem ta_some1 (w : World) : (Instr.typeAssert (.iface 95 (.agg #[])) 77 105 true).run Tryz.prog w = .ok (.tuple #[.agg #[.int .i64 0, .int .i64 0], .bool false]) w := by kernel_rfl
theorem ta_some2 (a b : Int) (w : World) : (Instr.typeAssert (.iface 105 (.agg #[.int .i64 a, .int .i64 b])) 77 105 true).run Tryz.prog w = .ok (.tuple #[.agg #[.int .i64 a, .int .i64 b], .bool true]) w := by kernel_rfl
theorem need_some (a b : Int) (w : World) : (method 266 105 (.agg #[.int .i64 a, .int .i64 b]) "barrage/failure.need").run Tryz.prog w = .ok (128, .agg #[.int .i64 a, .int .i64 b]) w := by kernel_rfl
theorem need_one (w : World) : (method 266 95 (.agg #[]) "barrage/failure.need").run Tryz.prog w = .ok (126, .agg #[]) w := by kernel_rfl
theorem hold_some (a b : Int) (w : World) : (method 266 105 (.agg #[.int .i64 a, .int .i64 b]) "barrage/failure.hold").run Tryz.prog w = .ok (127, .agg #[.int .i64 a, .int .i64 b]) w := by kernel_rfl
theorem hold_one (w : World) : (method 266 95 (.agg #[]) "barrage/failure.hold").run Tryz.prog w = .ok (125, .agg #[]) w := by kernel_rfl
theorem zeroS (w : World) : (zeroValue 57).run Tryz.prog w = .ok (.int .u64 0) w := by kernel_rfl
theorem wf_u64 {s : Nat} (h : s < 18446744073709551616) : (Lit.int .u64 (s : Int)).wf = true := WalkArith.wf_u64 ⟨by omega, by omega⟩

theorem KnownD.put {t : List Nd} {D : DataW Unit} {s : Nat} (h : KnownD t D) : KnownD t (D.put (.int .u64 (s : Int)) (.lit (.int .u64 (eff t s)))) := by
  obtain ⟨hM, hD⟩ := h
  refine ⟨by obtain ⟨es, rfl⟩ := hM; exact ⟨_, rfl⟩, fun z hz => ?_⟩
  by_cases e : z = s
  · subst e
    exact Maps.atKey_put_same hM (by trivial) _ _
  · have hne : Lit.int .u64 (z : Int) ≠ Lit.int .u64 (s : Int) := by intro e'; injection e' with _ e'; exact e (by omega)
    rw [Maps.has_put_other hne] at hz
    rw [Maps.atKey_put_other hne]
    exact hD z hz

set_option maxRecDepth 100000 in
set_option maxHeartbeats 4000000 in
theorem effects_any (t : List Nd) (s : Nat) (T : Nat) (A : Option Addr) (n c : Nat) (ms : List NdM) (R : Option Addr) (cr M k : Nat) (w : World) (hF : FT w T t A n c ms R cr M k) (hs : Sub t s) (hk : k < 1000000000000) :
    Calls Tryz.prog 25 #[.pointer (some ⟨T, 0, none⟩), .int .u64 s] w fun e w' => e = .returned (.int .u64 (eff t s)) ∧ FT w' T t A n c ms R cr M (k + 1) ∧ BB w.heap.size M w w' := by
  have hok := hF.ok
  have hln := hF.tr.len
  have n1 := hok.l1
  have n40 := hok.l40
  rw [hln] at n1 n40
  have hs40 := pow_40 hok hs.lt
  have HOK := Lib.hid hok
  have hs64 : s < 18446744073709551616 := by omega
  obtain ⟨D, hown, hmap, hD⟩ := hF.kn
  have HF := Lib.hid hF
  have HOwn := Lib.hid hown
  have HMap := Lib.hid hmap
  have HD := Lib.hid (hD s)
  have hkey := Maps.keyOf_int_mk Tryz.underlying57 (wf_u64 hs64)
  have hlaw := Maps.int_keyed Tryz.underlying57
  have b0 := hF.blk.cell (i := 0) rfl
  have b1 := hF.blk.cell (i := 1) rfl
  have b3 := hF.blk.cell (i := 3) rfl
  have bz := hF.blk.lt
  have HKey := Lib.hid hkey
  have HSub := Lib.hid hs
  have HLn := Lib.hid hln
  have HS64 := Lib.hid hs64
  have HDall := Lib.hid hD
  clear hF hown hmap hD hkey hok hln hs40 hs64 hs
  cases hh : Maps.has D (.int .u64 (s : Int))
  · have HHas := Lib.hid hh
    go_enter Tryz.func25, Tryz.ntmps25
    go_wp2_with (at_lookup; refine wpList_lookup_own_ok_int _ rfl _ _ 58 rfl 57 57 .u64 hlaw Tryz.underlying58 Tryz.underlying57 (zeroS _) M k D rfl HOwn.out _ _ rfl HKey.out ?_; intro cc hat hwf; clear hat hwf)
    clear hh hlaw
    go_loopw [7, 32] (fun v i wr => ∃ q : Nat, q ≤ n ∧ i = .int .i64 q ∧ v = .int .u64 (effN t s q) ∧ Below w.heap.size w wr) (fun _ i _ => n - (intOf i).toNat)
    case atStart => exact ⟨0, Nat.zero_le _, rfl, rfl, Below.refl _ _⟩
    case round =>
      obtain ⟨q, hq, rfl, rfl, hB⟩ := hrel
      have HB := Lib.hid hB; clear hB
      by_cases hlt : q < n
      · obtain ⟨x, rd, hx, hR, hcx⟩ := (HF.out.rl.below HB.out).get hlt
        have hcx0 : wr.cell? (rd.add q) = some (ruleV x) := by have := hcx 0 _ rfl; rw [Nat.mul_one] at this; exact this
        obtain ⟨m, ad, hm, hA, ha, hN⟩ := (HF.out.tr.below HB.out).get hlt
        rw [hx] at hm
        cases hm
        subst hA hR
        obtain ⟨c0, c1, c2, c3, c4⟩ := ha.five
        have hcz : (ad.add (q * 5)).block < wr.heap.size := cell_lt c0
        have hok := HOK.out.nd q m.nd hx
        have HNd := Lib.hid hok
        have HE : Hid (effN t s (q + 1) = effS (effN t s q) q m.nd) := by rw [effN, hx]; exact rfl
        have HN := Lib.hid hN
        have hl10 := hok.l10
        have KB := HF.out.blk.later HB.out
        clear b0 b1 b3 bz
        have b0 := KB.cell (i := 0) rfl
        have b1 := KB.cell (i := 1) rfl
        have b3 := KB.cell (i := 3) rfl
        have bz := KB.lt
        have hq63 : q ≤ 63 := by omega
        have HLt : Hid (effN t s q < 18446744073709551616) := by have := pow_40 HOK.out (effN_lt HOK.out HSub.out (k := q) (by rw [HLn.out]; omega)); show _ < _; omega
        have HWith := Lib.hid (fun W => with_any (effN t s q) q W HLt.out (by omega))
        have HHas2 := Lib.hid (fun (j : Nat) (hj : j ≤ 63) W => has_any (effN t s q) j W HLt.out hj)
        have HEFF : Hid (effN t s q = effN t s q) := rfl
        clear hx ha hN hok KB hcx
        generalize effN t s q = ev at *
        obtain ⟨⟨na, ki, li, cn, ho⟩, A2, c2'⟩ := m
        dsimp only at *
        by_cases hk1 : ki = 1
        · have HE2 : Hid (effN t s (q + 1) = ev) := by have := HE.out; unfold effS at this; rw [if_pos hk1] at this; exact this
          rw [show ruleV ⟨na, ki, li, cn, ho⟩ = .iface 95 (.agg #[]) by unfold ruleV; rw [if_pos hk1]] at hcx0
          clear hk1
          have hta := ta_one
          go_wp2_with fail
          go_roundw
          case rel => exact ⟨q + 1, by omega, by go_num, by rw [HE2.out], HB.out.alloc HB.out.size _⟩
          case measure => simp [intOf]; omega
        · have HE2 : Hid (effN t s (q + 1) = if need ⟨na, ki, li, cn, ho⟩ ≤ (hitsF ⟨na, ki, li, cn, ho⟩ ev.testBit : Int) then withN ev q else ev) := by have := HE.out; unfold effS at this; rw [if_neg hk1] at this; exact this
          have HHit : Hid (hitsF ⟨na, ki, li, cn, ho⟩ ev.testBit = (li.filter fun k => ev.testBit k.toNat).length) := rfl
          rw [show ruleV ⟨na, ki, li, cn, ho⟩ = .iface 105 (.agg #[.int .i64 (need ⟨na, ki, li, cn, ho⟩), .int .i64 ho]) by unfold ruleV; rw [if_neg hk1]] at hcx0
          have hta := ta_some
          have hnd1 := need_pos HNd.out
          have hnd2 := need_le HNd.out
          generalize hnv : need ⟨na, ki, li, cn, ho⟩ = nv at *
          clear hk1 hnv
          go_wp2_with fail
          clear hcx0 hta
          obtain ⟨W2, hW2⟩ : ∃ W2, wr.alloc (.cells #[] 95) = W2 := ⟨_, rfl⟩
          have HB2 : Hid (Below w.heap.size w W2) := by rw [← hW2]; exact HB.out.alloc HB.out.size _
          have HBr : Hid (Below wr.heap.size wr W2) := by rw [← hW2]; exact (Below.refl _ _).alloc (Nat.le_refl _) _
          have HIns : Hid (RdI W2 A2 li.length li) := HN.out.ins.below HBr.out
          rw [hW2]
          clear hW2 c0 c1 c2 c3 c4 hcz b0 b1 b3 bz
          go_loop [12, 52] (fun v i => ∃ j : Nat, j ≤ li.length ∧ i = .int .i64 j ∧ v = .int .i64 ((((li.take j).filter fun k => ev.testBit k.toNat).length : Nat) : Int)) (fun _ i => li.length - (intOf i).toNat)
          case atStart => exact ⟨0, Nat.zero_le _, rfl, rfl⟩
          case round =>
            obtain ⟨j, hj, rfl, rfl⟩ := hrel
            have hcl : ((li.take j).filter fun k => ev.testBit k.toNat).length ≤ j := Nat.le_trans (List.length_filter_le _ _) (List.length_take_le _ _)
            by_cases hjl : j < li.length
            · obtain ⟨y, bd, hy, rfl, cy⟩ := rdI_get HIns.out hjl
              have hy0 := HNd.out.ins y (List.mem_of_getElem? hy)
              obtain ⟨yn, rfl⟩ : ∃ yn : Nat, y = (yn : Int) := ⟨y.toNat, by omega⟩
              have HTk : Hid (((li.take (j + 1)).filter fun k => ev.testBit k.toNat).length = ((li.take j).filter fun k => ev.testBit k.toNat).length + if ev.testBit yn = true then 1 else 0) := by
                obtain ⟨hk', e⟩ := List.getElem?_eq_some_iff.1 hy
                rw [List.take_succ_eq_append_getElem hk', List.filter_append, List.length_append, e]
                show _ = _
                congr 1
                by_cases hb : ev.testBit yn = true <;> simp [hb]
              have hyn : yn ≤ 63 := by have := hy0.2; omega
              have HHy := Lib.hid (HHas2.out yn hyn W2)
              have hjl' : (j : Int) < (li.length : Int) := by omega
              clear hy hy0
              generalize hcn : ((li.take j).filter fun k => ev.testBit k.toNat).length = cnt at *
              clear hcn
              cases hb : ev.testBit yn
              · have HT2 : Hid (((li.take (j + 1)).filter fun k => ev.testBit k.toNat).length = cnt) := by have := HTk.out; rw [hb] at this; exact this
                rw [hb] at HHy
                clear hb HTk
                go_wp2_with (go_at_call 26; refine HHy.out.mono ?_; rintro e w' ⟨rfl, rfl⟩)
                go_round
                case rel => exact ⟨j + 1, by omega, by go_num, by rw [HT2.out]⟩
                case measure => simp [intOf]; omega
              · have HT2 : Hid (((li.take (j + 1)).filter fun k => ev.testBit k.toNat).length = cnt + 1) := by have := HTk.out; rw [hb] at this; exact this
                rw [hb] at HHy
                clear hb HTk
                go_wp2_with (go_at_call 26; refine HHy.out.mono ?_; rintro e w' ⟨rfl, rfl⟩)
                go_round
                case rel => exact ⟨j + 1, by omega, by go_num, by rw [HT2.out]; go_num⟩
                case measure => simp [intOf]; omega
            · obtain rfl : j = li.length := by omega
              have HTl : Hid (li.take li.length = li) := List.take_length
              rw [HTl.out, ← HHit.out] at hcl ⊢
              generalize hitsF ⟨na, ki, li, cn, ho⟩ ev.testBit = cnt at *
              have hns := need_some
              by_cases hge : nv ≤ (cnt : Int)
              · have hge' : decide (nv ≤ (cnt : Int)) = true := by simpa using hge
                have HE3 : Hid (effN t s (q + 1) = withN ev q) := by have := HE2.out; rw [if_pos hge] at this; exact this
                go_wp2_with (first | (go_at_call 128; refine (some_need _ _ _).mono ?_; rintro e w' ⟨rfl, hb3⟩; have HB3 := Lib.hid hb3; clear hb3) | (go_at_call 38; refine (HWith.out _).mono ?_; rintro e w' ⟨rfl, rfl⟩))
                go_roundw
                case rel => exact ⟨q + 1, by omega, by go_num, by rw [HE3.out], HB2.out.trans (HB3.out.mono HB2.out.size)⟩
                case measure => simp [intOf]; omega
              · have hge' : decide (nv ≤ (cnt : Int)) = false := by simpa using hge
                have HE3 : Hid (effN t s (q + 1) = ev) := by have := HE2.out; rw [if_neg hge] at this; exact this
                go_wp2_with (first | (go_at_call 128; refine (some_need _ _ _).mono ?_; rintro e w' ⟨rfl, hb3⟩; have HB3 := Lib.hid hb3; clear hb3))
                go_roundw
                case rel => exact ⟨q + 1, by omega, by go_num, by rw [HE3.out], HB2.out.trans (HB3.out.mono HB2.out.size)⟩
                case measure => simp [intOf]; omega
      · obtain rfl : q = n := by omega
        have HEf : Hid (effN t s q = eff t s) := by unfold eff; rw [HLn.out]; exact rfl
        have HLt : Hid (eff t s < 18446744073709551616) := by have := pow_40 HOK.out (eff_lt HOK.out HSub.out); show _ < _; omega
        rw [HEf.out]
        have HWf := Lib.hid (wf_u64 HLt.out)
        have KB := HF.out.blk.later HB.out
        have hown2 := HOwn.out.kept (grown_of_below HB.out none) (by simp)
        have hkn : k < maxLen := by unfold maxLen; omega
        have hTz : T < wr.heap.size := KB.lt
        clear b0 b1 b3 bz
        have b3 := KB.cell (i := 3) rfl
        have hlaw := Maps.int_keyed Tryz.underlying57
        have HOwn2 := Lib.hid hown2
        clear KB hown2
        generalize hes : eff t s = es at *
        have HEs := Lib.hid hes
        clear hes
        go_wp2_with (at_mapUpdate; refine wpList_mapUpdate_own _ rfl _ _ _ 58 rfl 57 57 hlaw Tryz.underlying58 _ M k D rfl HOwn2.out hkn _ _ _ rfl rfl HKey.out _ [] (plainElem_int Tryz.underlying57 HWf.out) ?_; intro w1 hown1 hgrow1; have HO1 := Lib.hid hown1; have HG1 := Lib.hid hgrow1; clear hown1 hgrow1)
        go_ret
        have hes := HEs.out
        have HBB : BB w.heap.size M w w1 := (BB.of_below HB.out (Nat.le_refl _)).grown HG1.out (fun r e => by cases e; exact .inl rfl) HB.out.size
        refine ⟨ret_int (by rw [hes]), HF.out.move HBB ⟨_, HO1.out, ?_⟩, HBB⟩
        rw [← hes]
        exact KnownD.put ⟨HMap.out, HDall.out⟩
  · have HEq := Lib.hid (HD.out hh)
    go_enter Tryz.func25, Tryz.ntmps25
    go_wp2_with (at_lookup; refine wpList_lookup_own_ok_int _ rfl _ _ 58 rfl 57 57 .u64 hlaw Tryz.underlying58 Tryz.underlying57 (zeroS _) M k D rfl HOwn.out _ _ rfl HKey.out ?_; intro cc hat hwf; have HAt := Lib.hid hat; clear hat hwf)
    go_ret
    have h1 := HAt.out.symm.trans HEq.out
    injection h1 with h1
    injection h1 with _ h1
    exact ⟨ret_int h1, HF.out.move (BB.refl _ _ _) (HF.out.kn.mono (by omega)), BB.refl _ _ _⟩
end Go.Proofs.YtadldndpphdmpaaGreat
