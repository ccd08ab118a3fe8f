/- The walks of the peaks, where no history is above the limit and the plan is not to close. -/
import Derived.Test.YtjdaigffgfnhaaaGreatKj
import Derived.Test.YtjdaigffgfnhaaaGreatMt
import Derived.Deep.CutRange
namespace Go.Proofs.YtjdaigffgfnhaaaGreat
open Go.RowKit

set_option maxRecDepth 100000 in
set_option maxHeartbeats 2000000 in
theorem open_any (Bp Bs Br : Nat) (i : Int) (w : World) (xp : w.cell? ⟨Bp, 0, none⟩ = some (.int .i64 (-1))) (xq : w.cell? ⟨Bp, 1, none⟩ = some (.int .i64 (-1))) :
    Calls Tryz.prog 73 #[.int .i64 i, .pointer (some ⟨Bp, 0, none⟩), .pointer (some ⟨Bs, 0, none⟩), .pointer (some ⟨Br, 0, none⟩)] w fun e w' => e = .returned (.bool true) ∧ Below w.heap.size w w' := by
  go_enter Tryz.func73, Tryz.ntmps73
  go_wp2_with fail
  have z0 := later_cell xp
  have z1 := later_cell xq
  refine wp_region_later (by kernel_rfl) (by kernel_rfl) ?_
  repeat (first | go_big_quiet_skip | (go_big_quiet_want; go_big_quiet_op; first | go_big_quiet_on | (apply Exists.intro; refine ⟨fun _ => ?_, ?_⟩; (· go_at_call 27; with_reducible exact later_calls (never_any _)); go_big_quiet_on)))
  refine wpQuiet_nil ?_
  intro _ hw'
  obtain ⟨u, hu⟩ := hw'
  subst hu
  clear z0 z1
  go_wp2_with fail
  go_ret
  exact ⟨rfl, u.h⟩

theorem results_c1 {P : Program} {fn : Func} {p : Tmp} {tp : TypeId} (h : fn.results = #[.cell p tp]) {tmps : Array Value} {w : World} {a : Addr} {x : Value} (ha : tmps.getD p undef = .pointer (some a)) (h1 : (loadVar tp a).run P w = .ok x w) :
    (results fn tmps).run P w = .ok x w := by
  rw [Array.getD_eq_getD_getElem?] at ha
  simp only [results, h]
  simp [ha, asAddr, h1]
theorem loadPeak {w : World} {g : Nat} {x y : Value} (h : w.cell? ⟨g, 0, none⟩ = some x) (h' : w.cell? ⟨g, 1, none⟩ = some y) : (loadVar 138 ⟨g, 0, none⟩).run Tryz.prog w = .ok (.agg #[x, y]) w := by
  simp [loadVar, Tryz.isAgg138, Tryz.sizeOf138, go_sem, h, h']
theorem grown_set (w : World) (a : Addr) (v : Value) : w.grownBy (w.setCell a v) (some a.block) :=
  ⟨rfl, rfl, rfl, by simp [World.setCell], fun i _ hne => Below.heap_setCell w a v i (fun e => hne (by rw [e]))⟩

set_option maxRecDepth 100000 in
set_option maxHeartbeats 4000000 in
theorem peak_any (t : Clt) (m : ClM) (rb : Nat) (w : World) (hg : RlB w t m rb) (hr : ClR w t m) (hnh : m.nh ≤ 60) :
    Calls Tryz.prog 59 #[.pointer (some ⟨rb, 0, none⟩), .int .i64 0, .agg #[.int .i64 (-1), .int .i64 (-1)]] w fun e w' => (∃ a b : Int, e = .returned (.agg #[.int .i64 a, .int .i64 b])) ∧ Below w.heap.size w w' := by
  obtain ⟨gb, hR, hG⟩ := hg
  have HC : Hid (∀ W (i : Nat) (v : Int), Below w.heap.size w W → t.hv[i]? = some v → i < m.nh → Calls Tryz.prog 74 #[.pointer (some ⟨gb, 0, none⟩), .int .i64 0, .agg #[.int .i64 (-1), .int .i64 (-1)], .int .i64 i] W fun e w' => e = .returned (.tuple #[.agg #[.int .i64 v, .int .i64 v], .bool true]) ∧ Below W.heap.size W w') :=
    fun W i v hb hv hi => inside_any t m gb W (hG.later hb) (hr.below hb) i v hv hi
  have HV := Lib.hid hr.vals
  obtain ⟨mb, hG⟩ := hG
  have hgl := hG.lt
  have hrl := hR.lt
  have HG := Lib.hid hG; have HL := Lib.hid hR; clear hG hR hr
  obtain ⟨A, n, c, A', n', c', Af, nf, cf, hb, ch, Ah, nh, cv, Ar, cr⟩ := m
  obtain ⟨bas, filled, hv, out, limit, delay⟩ := t
  dsimp only [Clt.game] at *
  go_enter Tryz.func59, Tryz.ntmps59
  go_wp2_with fail
  obtain ⟨W1, hW1⟩ : ∃ W1, (((w.alloc (Obj.cells #[.pointer (some ⟨rb, 0, none⟩)] 87)).alloc (Obj.cells #[.int .i64 (-1), .int .i64 (-1)] 48)).alloc (Obj.cells #[.int .i64 0, .int .i64 0] 138)).alloc (Obj.cells #[.int .i64 0, .int .i64 0] 158) = W1 := ⟨_, rfl⟩
  have HB1 : Hid (Below w.heap.size w W1) := by rw [← hW1]; exact ((((Below.refl _ w).alloc (Nat.le_refl _) _).alloc (by simp) _).alloc (by simp; omega) _).alloc (by simp; omega) _
  have A1 : Hid (Blk W1 w.heap.size 87 #[.pointer (some ⟨rb, 0, none⟩)]) := by rw [← hW1]; exact (((Blk.new _ _ _ rfl).alloc _).alloc _).alloc _
  have P1 : Hid (Blk W1 (w.heap.size + 1) 48 #[.int .i64 (-1), .int .i64 (-1)]) := by rw [← hW1]; exact ((Blk.new _ _ _ (by simp)).alloc _).alloc _
  have Q1 : Hid (Blk W1 (w.heap.size + 1 + 1) 138 #[.int .i64 0, .int .i64 0]) := by rw [← hW1]; exact (Blk.new _ _ _ (by simp)).alloc _
  have S1 : Hid (Blk W1 (w.heap.size + 1 + 1 + 1) 158 #[.int .i64 0, .int .i64 0]) := by rw [← hW1]; exact Blk.new _ _ _ (by simp)
  rw [hW1]
  clear hW1
  have L1 := Lib.hid (HL.out.later HB1.out)
  have G1 := Lib.hid (HG.out.later HB1.out)
  have x0 := later_cell (A1.out.cell (i := 0) rfl)
  have x1 := later_cell (P1.out.cell (i := 0) rfl)
  have x2 := later_cell (L1.out.cell (i := 0) rfl)
  have x3 := later_cell (G1.out.cell (i := 11) rfl)
  have x4 := later_cell (G1.out.cell (i := 10) rfl)
  have HS0 : Hid ((fun w' => ∃ u : Later W1, w' = u.w) W1.drew) := ⟨⟨W1.drew, (Below.refl _ _).drew⟩, rfl⟩
  refine wp_region_tr (fun w' => ∃ u : Later W1, w' = u.w) 20 (.qu 0 (.qu 1 (.qu 2 (.qu 3 (.qu 4 (.qu 5 (.qu 6 (.qu 7 (.qu 8 (.qu 9 (.qu 10 (.qu 11 (.qu 12 (.qu 13 (.qu 14 (.qu 15 (.qu 16 (.qu 17 (.qu 18 (.on 19 (.on 20 .leaf))))))))))))))))))))) (by kernel_rfl) (by kernel_rfl) ?_
  simp only [TrN.fill, List.getElem?_cons_zero, List.getElem?_cons_succ]
  iterate 19 ((first | refine tr_quiet rfl rfl HS0.out ?_ | refine tr_valQ _ (run_nilCheckT _ _ rfl rfl) rfl HS0.out ?_); intro K hK; go_big_quiet_op; go_big_quiet_on)
  clear x0 x1 x2 x3 x4
  refine tr_on ?_
  go_wp2_with fail
  refine mix_post (fun _ => ⟨⟨_, (Below.refl _ _).drew.alloc (by simp) _⟩, rfl⟩) ?_
  refine tr_on ?_
  go_wp2_with fail
  refine mix_post (fun h => absurd h (by decide)) ?_
  refine tr_leaf (NoPanic.normal ?_)
  generalize wrap64 (-1 + delay) = sh
  obtain ⟨W2, hW2⟩ : ∃ W2, (W1.alloc (Obj.cells #[.int .i64 sh] 3)).drew = W2 := ⟨_, rfl⟩
  have hB12 : Below W1.heap.size W1 W2 := by rw [← hW2]; exact ((Below.refl _ _).alloc (Nat.le_refl _) _).drew
  rw [hW2]
  clear hW2 HS0
  have HB2 : Hid (Below w.heap.size w W2) := HB1.out.trans (hB12.mono HB1.out.size)
  have A2 := Lib.hid (A1.out.later hB12)
  have P2 := Lib.hid (P1.out.later hB12)
  have Q2 := Lib.hid (Q1.out.later hB12)
  have S2 := Lib.hid (S1.out.later hB12)
  have L2 := Lib.hid (L1.out.later hB12)
  have G2 := Lib.hid (G1.out.later hB12)
  clear hB12 A1 P1 Q1 S1 L1 G1 HB1 HL HG
  have y0 := A2.out.cell (i := 0) rfl
  have y1 := L2.out.cell (i := 0) rfl
  have y2 := G2.out.cell (i := 12) rfl
  go_wp2_with fail
  go_loopw [7, 44] (fun p q wr => ∃ (k mo : Nat) (a b : Int), k ≤ nh ∧ mo ≤ 60 ∧ p = .int .i64 mo ∧ q = .int .i64 k ∧ Blk wr (w.heap.size + 1 + 1 + 1) 158 #[.int .i64 a, .int .i64 b] ∧ W2.grownBy wr (some (w.heap.size + 1 + 1 + 1))) (fun _ q _ => nh - (intOf q).toNat)
  case atStart => exact ⟨0, 0, 0, 0, Nat.zero_le _, by omega, rfl, rfl, S2.out, grown_refl _ _⟩
  case round =>
    obtain ⟨k, mo, a, b, hk, hmo, rfl, rfl, hS, hG⟩ := hrel
    have SR := Lib.hid hS; clear hS
    have GRW := Lib.hid hG; clear hG
    have HBR : Hid (Below w.heap.size w wr) := below_grown HB2.out GRW.out (fun r e => by cases e; omega)
    have AR := Lib.hid (A2.out.grown GRW.out (by intro e; have := Option.some.inj e; omega))
    have PR := Lib.hid (P2.out.grown GRW.out (by intro e; have := Option.some.inj e; omega))
    have QR := Lib.hid (Q2.out.grown GRW.out (by intro e; have := Option.some.inj e; omega))
    have LR := Lib.hid (L2.out.grown GRW.out (by intro e; have := Option.some.inj e; omega))
    have GR := Lib.hid (G2.out.grown GRW.out (by intro e; have := Option.some.inj e; omega))
    by_cases hlt : k < nh
    · obtain ⟨v, ad, hv, _, _⟩ := rdI_get (HV.out.below HBR.out) hlt
      have HC1 : Hid (∀ W, Below wr.heap.size wr W → Calls Tryz.prog 74 #[.pointer (some ⟨gb, 0, none⟩), .int .i64 0, .agg #[.int .i64 (-1), .int .i64 (-1)], .int .i64 k] W fun e w' => e = .returned (.tuple #[.agg #[.int .i64 v, .int .i64 v], .bool true]) ∧ Below W.heap.size W w') := fun W hb => HC.out W k v (HBR.out.trans (hb.mono HBR.out.size)) hv hlt
      clear hv
      go_wp2_with fail
      go_cut [12] from 45 to 119 (fun v12 wx => ∃ b12, v12 = .pointer (some ⟨b12, 0, none⟩) ∧ Blk wx b12 158 #[.int .i64 v, .int .i64 v] ∧ Below wr.heap.size wr wx)
      case first =>
        have x0 := later_cell (AR.out.cell (i := 0) rfl)
        have x1 := later_cell (PR.out.cell (i := 0) rfl)
        have x2 := later_cell (PR.out.cell (i := 1) rfl)
        have x3 := later_cell (LR.out.cell (i := 0) rfl)
        have HS0 : Hid ((fun w' => ∃ u : Later wr, w' = u.w) wr.drew) := ⟨⟨wr.drew, (Below.refl _ _).drew⟩, rfl⟩
        refine wp_region_tr (fun w' => ∃ u : Later wr, w' = u.w) 13 (.qu 0 (.qu 1 (.qu 2 (.qu 3 (.qu 4 (.qu 5 (.qu 6 (.tw 7 (.qu 8 (.qu 9 (.qu 10 (.on 11 (.on 12 (.on 13 .leaf)))))) 11 (.on 7 (.qu 8 (.qu 9 (.qu 10 (.on 12 (.on 13 .leaf))))))))))))))  (by kernel_rfl) (by kernel_rfl) ?_
        simp only [TrN.fill, List.getElem?_cons_zero, List.getElem?_cons_succ]
        iterate 7 ((first | refine tr_quiet rfl rfl HS0.out ?_ | refine tr_valQ _ (run_nilCheckT _ _ rfl rfl) rfl HS0.out ?_); intro K hK; go_big_quiet_op; go_big_quiet_on)
        clear x0 x1 x2 x3
        refine tr_tw ?_ ?_
        · go_wp2_with (go_at_call 74; refine (HC1.out _ (Below.refl _ _).drew).mono ?_; rintro e W3 ⟨rfl, hb3⟩; have HB3 : Hid (Below wr.heap.size wr W3) := (Below.refl _ _).drew.trans hb3; clear hb3)
          have HS3 : Hid ((fun w' => ∃ u : Later wr, w' = u.w) W3) := ⟨⟨W3, HB3.out⟩, rfl⟩
          refine mix_post (fun _ => HS3.out) ?_
          iterate 3 (refine tr_quiet rfl rfl HS3.out ?_; intro K hK; go_big_quiet_op; go_big_quiet_on)
          refine tr_on ?_
          go_wp2_with fail
          refine mix_post (fun _ => ⟨⟨_, HB3.out.alloc HB3.out.size _⟩, rfl⟩) ?_
          refine tr_on ?_
          go_wp2_with fail
          refine mix_post (fun _ => ⟨⟨_, HB3.out.alloc HB3.out.size _⟩, rfl⟩) ?_
          refine tr_on ?_
          go_wp2_with fail
          refine mix_post (fun h => absurd h (by decide)) ?_
          refine tr_leaf (NoPanic.normal ?_)
          refine Met.intro ?_
          go_step
          go_meet
          case rel => exact ⟨_, rfl, Blk.new _ _ _ rfl, HB3.out.alloc HB3.out.size _⟩
        · go_wp2_with fail
          have hB3 : Below wr.heap.size wr (wr.alloc (Obj.cells #[.int .i64 0, .int .i64 0] 158)).drew := ((Below.refl _ _).alloc (Nat.le_refl _) _).drew
          have N3 : Hid (Blk (wr.alloc (Obj.cells #[.int .i64 0, .int .i64 0] 158)).drew wr.heap.size 158 #[.int .i64 0, .int .i64 0]) := (Blk.new _ _ _ rfl).drw
          obtain ⟨W3, hW3⟩ : ∃ W3, (wr.alloc (Obj.cells #[.int .i64 0, .int .i64 0] 158)).drew = W3 := ⟨_, rfl⟩
          rw [hW3] at hB3 N3 ⊢
          clear hW3
          have HB3 := Lib.hid hB3; clear hB3
          refine mix_post (fun _ => ⟨⟨W3, HB3.out⟩, rfl⟩) ?_
          refine tr_on ?_
          go_wp2_with (go_at_call 74; refine (HC1.out _ HB3.out).mono ?_; rintro e W4 ⟨rfl, hb4⟩; have HB4 : Hid (Below wr.heap.size wr W4) := HB3.out.trans (hb4.mono HB3.out.size); have N4 := Lib.hid (N3.out.later hb4); clear hb4)
          have HS4 : Hid ((fun w' => ∃ u : Later wr, w' = u.w) W4) := ⟨⟨W4, HB4.out⟩, rfl⟩
          refine mix_post (fun _ => HS4.out) ?_
          iterate 3 (refine tr_quiet rfl rfl HS4.out ?_; intro K hK; go_big_quiet_op; go_big_quiet_on)
          have f0 := N4.out.frozen 0
          have f1 := N4.out.frozen 1
          have c0 := N4.out.cell (i := 0) rfl
          have c1 := N4.out.cell (i := 1) rfl
          have hl4 := N4.out.lt
          refine tr_on ?_
          go_wp2_with fail
          have hB5 : Below wr.heap.size wr ((W4.setCell ⟨wr.heap.size, 0, none⟩ (.int .i64 v)).setCell ⟨wr.heap.size, 1, none⟩ (.int .i64 v)) := (HB4.out.setCell (by dsimp only; omega) _).setCell (by dsimp only; omega) _
          have N5 := (N4.out.set 0 (.int .i64 v)).set 1 (.int .i64 v)
          have HB5 := Lib.hid hB5; have HN5 := Lib.hid N5; clear hB5 N5
          refine mix_post (fun _ => ⟨⟨_, HB5.out⟩, rfl⟩) ?_
          refine tr_on ?_
          go_wp2_with fail
          refine mix_post (fun h => absurd h (by decide)) ?_
          refine tr_leaf (NoPanic.normal ?_)
          refine Met.intro ?_
          go_step
          go_meet
          case rel => exact ⟨_, rfl, HN5.out, HB5.out⟩
      case rest =>
        obtain ⟨b12, rfl, hT, hbx⟩ := hcut
        have TT := Lib.hid hT; have HBX := Lib.hid hbx; clear hT hbx
        have SX := Lib.hid (SR.out.later HBX.out)
        have t0 := TT.out.cell (i := 0) rfl
        have t1 := TT.out.cell (i := 1) rfl
        have s0 := SX.out.cell (i := 0) rfl
        have s1 := SX.out.cell (i := 1) rfl
        have HBX2 : Hid (Below w.heap.size w wc) := HBR.out.trans (HBX.out.mono HBR.out.size)
        have PX := Lib.hid (PR.out.later HBX.out)
        have HC2 := Lib.hid (open_any (w.heap.size + 1) W1.heap.size w.heap.size k wc (PX.out.cell (i := 0) rfl) (PX.out.cell (i := 1) rfl))
        go_upto_region 8 with (fail)
        go_cut [14] from 45 to 119 (fun v14 wx => (∃ g : Bool, v14 = .bool g) ∧ wc = wx)
        case first =>
          by_cases h1 : b < v
          · go_wp2_with fail
            go_meet
            case rel => exact ⟨⟨_, rfl⟩, rfl⟩
          · by_cases h2 : v = b
            · go_wp2_with fail
              go_meet
              case rel => exact ⟨⟨_, rfl⟩, rfl⟩
            · go_wp2_with fail
              go_meet
              case rel => exact ⟨⟨_, rfl⟩, rfl⟩
        case rest =>
          obtain ⟨⟨g, rfl⟩, rfl⟩ := hcut
          by_cases hk0 : 0 < k
          · cases g with
            | true =>
              go_wp2_with (go_at_call 73; refine HC2.out.mono ?_; rintro e W5 ⟨rfl, hb5⟩; have HB5 := Lib.hid hb5; clear hb5)
              have TX := Lib.hid (TT.out.later HB5.out)
              have SX5 := Lib.hid (SX.out.later HB5.out)
              have HX5 : Hid (Below wr.heap.size wr W5) := HBX.out.trans (HB5.out.mono HBX.out.size)
              have x0 := later_cell (TX.out.cell (i := 0) rfl)
              have x1 := later_cell (TX.out.cell (i := 1) rfl)
              have HS0 : Hid ((fun w' => ∃ u : Later W5, w' = u.w) (W5).drew) := ⟨⟨World.drew W5, (Below.refl _ _).drew⟩, rfl⟩
              refine wp_region_tr (fun w' => ∃ u : Later W5, w' = u.w) 3 (.qu 0 (.qu 1 (.on 2 (.on 3 .leaf)))) (by kernel_rfl) (by kernel_rfl) ?_
              simp only [TrN.fill, List.getElem?_cons_zero, List.getElem?_cons_succ]
              iterate 2 (refine tr_quiet rfl rfl HS0.out ?_; intro K hK; go_big_quiet_op; go_big_quiet_on)
              clear x0 x1
              refine tr_on ?_
              go_wp2_with fail
              refine mix_post (fun _ => HS0.out) ?_
              have N5 := SX5
              have f0 := N5.out.frozen 0
              have f1 := N5.out.frozen 1
              have c0 := N5.out.cell (i := 0) rfl
              have c1 := N5.out.cell (i := 1) rfl
              have hl5 := N5.out.lt
              refine tr_on ?_
              go_wp2_with fail
              refine mix_post (fun h => absurd h (by decide)) ?_
              refine tr_leaf (NoPanic.normal ?_)
              have N6 := Lib.hid ((N5.out.drw.set 0 (.int .i64 v)).set 1 (.int .i64 v))
              have G6 : Hid (W2.grownBy (((W5).drew.setCell ⟨w.heap.size + 1 + 1 + 1, 0, none⟩ (.int .i64 v)).setCell ⟨w.heap.size + 1 + 1 + 1, 1, none⟩ (.int .i64 v)) (some (w.heap.size + 1 + 1 + 1))) :=
                grown_tr (grown_tr (grown_tr GRW.out (grown_of_below HX5.out.drew none) (fun r e => by cases e)) (grown_set _ _ _) (fun r e => by cases e; exact .inl rfl)) (grown_set _ _ _) (fun r e => by cases e; exact .inl rfl)
              go_wp2_with fail
              go_roundw
              case rel => exact ⟨k + 1, k, v, v, by omega, by omega, by go_num, by go_num, N6.out, G6.out⟩
              case measure => simp [intOf]; omega
            | false =>
              go_wp2_with (go_at_call 73; refine HC2.out.mono ?_; rintro e W5 ⟨rfl, hb5⟩; have HB5 := Lib.hid hb5; clear hb5)
              have SX5 := Lib.hid (SX.out.later HB5.out)
              have HX5 : Hid (Below wr.heap.size wr W5) := HBX.out.trans (HB5.out.mono HBX.out.size)
              go_roundw
              case rel => exact ⟨k + 1, mo, a, b, by omega, by omega, by go_num, by go_num, SX5.out, grown_tr GRW.out (grown_of_below HX5.out none) (fun r e => by cases e)⟩
              case measure => simp [intOf]; omega
          · obtain rfl : k = 0 := by omega
            go_wp2_with fail
            have x0 := later_cell (TT.out.cell (i := 0) rfl)
            have x1 := later_cell (TT.out.cell (i := 1) rfl)
            have HS0 : Hid ((fun w' => ∃ u : Later wc, w' = u.w) (wc).drew) := ⟨⟨World.drew wc, (Below.refl _ _).drew⟩, rfl⟩
            refine wp_region_tr (fun w' => ∃ u : Later wc, w' = u.w) 3 (.qu 0 (.qu 1 (.on 2 (.on 3 .leaf)))) (by kernel_rfl) (by kernel_rfl) ?_
            simp only [TrN.fill, List.getElem?_cons_zero, List.getElem?_cons_succ]
            iterate 2 (refine tr_quiet rfl rfl HS0.out ?_; intro K hK; go_big_quiet_op; go_big_quiet_on)
            clear x0 x1
            refine tr_on ?_
            go_wp2_with fail
            refine mix_post (fun _ => HS0.out) ?_
            have N5 := SX
            have f0 := N5.out.frozen 0
            have f1 := N5.out.frozen 1
            have c0 := N5.out.cell (i := 0) rfl
            have c1 := N5.out.cell (i := 1) rfl
            have hl5 := N5.out.lt
            refine tr_on ?_
            go_wp2_with fail
            refine mix_post (fun h => absurd h (by decide)) ?_
            refine tr_leaf (NoPanic.normal ?_)
            have N6 := Lib.hid ((N5.out.drw.set 0 (.int .i64 v)).set 1 (.int .i64 v))
            have G6 : Hid (W2.grownBy (((wc).drew.setCell ⟨w.heap.size + 1 + 1 + 1, 0, none⟩ (.int .i64 v)).setCell ⟨w.heap.size + 1 + 1 + 1, 1, none⟩ (.int .i64 v)) (some (w.heap.size + 1 + 1 + 1))) :=
              grown_tr (grown_tr (grown_tr GRW.out (grown_of_below HBX.out.drew none) (fun r e => by cases e)) (grown_set _ _ _) (fun r e => by cases e; exact .inl rfl)) (grown_set _ _ _) (fun r e => by cases e; exact .inl rfl)
            go_wp2_with fail
            go_roundw
            case rel => exact ⟨0 + 1, 0, v, v, by omega, by omega, by go_num, by go_num, N6.out, G6.out⟩
            case measure => simp [intOf]; omega
    · obtain rfl : k = nh := by omega
      go_wp2_with fail
      have x0 := later_cell (AR.out.cell (i := 0) rfl)
      have x1 := later_cell (LR.out.cell (i := 0) rfl)
      have x2 := later_cell (GR.out.cell (i := 11) rfl)
      have x3 := later_cell (SR.out.cell (i := 1) rfl)
      have HS0 : Hid ((fun w' => ∃ u : Later wr, w' = u.w) wr.drew) := ⟨⟨wr.drew, (Below.refl _ _).drew⟩, rfl⟩
      refine wp_region_tr (fun w' => ∃ u : Later wr, w' = u.w) 12 (.qu 0 (.qu 1 (.qu 2 (.qu 3 (.qu 4 (.qu 5 (.qu 6 (.qu 7 (.qu 8 (.qu 9 (.qu 10 (.qu 11 (.on 12 .leaf))))))))))))) (by kernel_rfl) (by kernel_rfl) ?_
      simp only [TrN.fill, List.getElem?_cons_zero, List.getElem?_cons_succ]
      iterate 12 ((first | refine tr_quiet rfl rfl HS0.out ?_ | refine tr_valQ _ (run_nilCheckT _ _ rfl rfl) rfl HS0.out ?_); intro K hK; go_big_quiet_op; go_big_quiet_on)
      clear x0 x1 x2 x3
      have f0 := QR.out.frozen 0
      have f1 := QR.out.frozen 1
      have c0 := QR.out.cell (i := 0) rfl
      have c1 := QR.out.cell (i := 1) rfl
      have hl5 := QR.out.lt
      refine tr_on ?_
      go_wp2_with fail
      refine mix_post (fun h => absurd h (by decide)) ?_
      refine tr_leaf (NoPanic.normal ?_)
      go_wp2_with fail
      have Q6 := (QR.out.set 0 (.int .i64 mo)).set 1 (.int .i64 b)
      have HB6 : Below w.heap.size w (((wr.setCell ⟨w.heap.size + 1 + 1, 0, none⟩ (.int .i64 mo)).setCell ⟨w.heap.size + 1 + 1, 1, none⟩ (.int .i64 b)).drew) := ((HBR.out.setCell (by dsimp only; omega) _).setCell (by dsimp only; omega) _).drew
      exact bodyPost_ret (results_c1 rfl rfl (loadPeak (Q6.drw.cell (i := 0) rfl) (Q6.drw.cell (i := 1) rfl))) rfl ⟨⟨_, _, rfl⟩, HB6⟩
end Go.Proofs.YtjdaigffgfnhaaaGreat
