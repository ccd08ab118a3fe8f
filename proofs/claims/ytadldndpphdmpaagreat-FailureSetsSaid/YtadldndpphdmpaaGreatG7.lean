/- plant: the trees of a tree. -/
import Derived.Test.YtadldndpphdmpaaGreatFT
import Derived.Test.YtadldndpphdmpaaGreatQB
namespace Go.Proofs.YtadldndpphdmpaaGreat
open Go.RowKit Go.Shelf

theorem run_max1 (a : Act) (o : Oper) (w' : World) (x : Nat) (cn : Int) (ho : o.op = .call { callee := .builtin .max, args := #[.tmp x, .const (.int .i64 1)], argTypes := #[3, 3] }) (hx : a.tmps.getD x undef = .int .i64 cn) : (execOp a.eval o).run Tryz.prog w' = .ok (.value (.int .i64 (max cn 1))) w' := by
  unfold execOp
  rw [ho]
  have hx' : a.tmps[x]?.getD undef = .int .i64 cn := by simpa using hx
  simp [go_sem, resolve, invoke, hx']

/-- What plant returns. -/
def PlantPost (w : World) (t : List Nd) (A : Option Addr) (n c : Nat) (ms : List NdM) (e : Ending) (w' : World) : Prop :=
  ((chkT t).2 ≠ 0 ∧ e = .returned (.tuple #[.pointer none, .int .i64 (chkT t).2]) ∧ Below w.heap.size w w') ∨
  ((chkT t).2 = 0 ∧ ∃ (T M cr : Nat) (R : Option Addr), e = .returned (.tuple #[.pointer (some ⟨T, 0, none⟩), .int .i64 0]) ∧ FT w' T t A n c ms R cr M 0 ∧ Below w.heap.size w w' ∧ w.heap.size ≤ M ∧ w.heap.size ≤ T)

theorem grown_drew {a b : World} {r : Option Nat} (h : a.grownBy b r) : a.grownBy b.drew r := ⟨h.os, h.tape, h.output, h.size, h.block⟩
theorem grown_of_drew {a b : World} {r : Option Nat} (h : a.drew.grownBy b r) : a.grownBy b r := ⟨h.os, h.tape, h.output, h.size, h.block⟩
theorem rules_take {t : List Nd} {k : Nat} {x : Nd} (h : t[k]? = some x) : (t.take (k + 1)).map ruleV = (t.take k).map ruleV ++ [ruleV x] := by
  obtain ⟨hk, rfl⟩ := List.getElem?_eq_some_iff.1 h
  rw [List.take_succ_eq_append_getElem hk, List.map_append]
  rfl
theorem rules_flat (t : List Nd) : t.flatMap (fun x => [ruleV x]) = t.map ruleV := by induction t <;> simp_all
theorem basN_lt64 {t : List Nd} (h : t.length ≤ 40) (k : Nat) : basN t k < 18446744073709551616 := by
  have : basN t k < 2 ^ 40 := bits_lt fun j hj => by
    rw [basN_bit] at hj
    simp at hj
    have := isBas_lt hj.2
    omega
  omega

/-- What holds of the trees after some nodes. -/
structure PlInv (w wr : World) (t : List Nd) (A : Option Addr) (n c M T k : Nat) (v : Value) : Prop where
  tree : Blk wr w.heap.size 24 #[.slice A n c]
  tr : Blk wr T 60 #[.slice A n c, v, .int .u64 (basN t k), .map (some M)]
  row : wr.ownsRow w.heap.size 77 1 v k ((t.take k).map ruleV)
  kn : Known wr M 0 t
  bel : Below w.heap.size w wr

theorem PlInv.step {w wr w2 : World} {t : List Nd} {A : Option Addr} {n c M k c' : Nat} {v : Value} {A' : Option Addr} {x : Nd} {cs : Array Value} {tt : TypeId} (h : PlInv w wr t A n c M (M + 1) k v) (hM : w.heap.size ≤ M)
    (hg : (wr.alloc (.cells cs tt)).grownBy w2 v.ownBlock) (hown : w2.ownsRow w.heap.size 77 1 (.slice A' (k + 1) c') (k + 1) ((t.take k).map ruleV ++ [ruleV x])) (hr : (t.take (k + 1)).map ruleV = (t.take k).map ruleV ++ [ruleV x]) (hb : basN t (k + 1) = basN t k) :
    PlInv w (w2.setCell ⟨M + 1, 1, none⟩ (.slice A' (k + 1) c')) t A n c M (M + 1) (k + 1) (.slice A' (k + 1) c') := by
  have hG : wr.grownBy w2 v.ownBlock := (World.grownBy_alloc wr _ _).trans hg
  have k2 := h.tr.grown hG (own_ne h.row h.tr (by decide))
  have hMk : some M ≠ v.ownBlock := fun e => by
    obtain ⟨o, h1, h2⟩ := h.kn.noCells
    have := own_cells h.row M o e.symm h1
    rw [h2] at this
    cases this
  refine ⟨(h.tree.grown hG (own_ne h.row h.tree (by decide))).far (by show w.heap.size ≠ M + 1; omega) _, ?_, ?_, (h.kn.kept hG hMk).set (by show M ≠ M + 1; omega) _, ?_⟩
  · rw [hb]; exact k2.set 1 _
  · rw [hr]; exact own_far hown (grown_set _ _ _) (fun r e => by cases e; exact .inr ⟨_, k2, fun cs m e' => by cases e'⟩)
  · exact (h.bel.grown hG h.bel.size (fun r e => (h.row.lt r e).1)).setCell (by show w.heap.size ≤ M + 1; omega) _
theorem PlInv.step1 {w wr w2 : World} {t : List Nd} {A : Option Addr} {n c M k c' : Nat} {v : Value} {A' : Option Addr} {x : Nd} {cs : Array Value} {tt : TypeId} (h : PlInv w wr t A n c M (M + 1) k v) (hM : w.heap.size ≤ M)
    (hg : (wr.alloc (.cells cs tt)).grownBy w2 v.ownBlock) (hown : w2.ownsRow w.heap.size 77 1 (.slice A' (k + 1) c') (k + 1) ((t.take k).map ruleV ++ [ruleV x])) (hr : (t.take (k + 1)).map ruleV = (t.take k).map ruleV ++ [ruleV x]) :
    PlInv w ((w2.setCell ⟨M + 1, 1, none⟩ (.slice A' (k + 1) c')).setCell ⟨M + 1, 2, none⟩ (.int .u64 (basN t (k + 1)))) t A n c M (M + 1) (k + 1) (.slice A' (k + 1) c') := by
  have hG : wr.grownBy w2 v.ownBlock := (World.grownBy_alloc wr _ _).trans hg
  have k2 := h.tr.grown hG (own_ne h.row h.tr (by decide))
  have hMk : some M ≠ v.ownBlock := fun e => by
    obtain ⟨o, h1, h2⟩ := h.kn.noCells
    have := own_cells h.row M o e.symm h1
    rw [h2] at this
    cases this
  refine ⟨((h.tree.grown hG (own_ne h.row h.tree (by decide))).far (by show w.heap.size ≠ M + 1; omega) _).far (by show w.heap.size ≠ M + 1; omega) _, ?_, ?_, ((h.kn.kept hG hMk).set (by show M ≠ M + 1; omega) _).set (by show M ≠ M + 1; omega) _, ?_⟩
  · exact (k2.set 1 _).set 2 _
  · rw [hr]
    refine own_far (own_far hown (grown_set _ _ _) (fun r e => by cases e; exact .inr ⟨_, k2, fun cs m e' => by cases e'⟩)) (grown_set _ _ _) (fun r e => by cases e; exact .inr ⟨_, k2.set 1 _, fun cs m e' => by cases e'⟩)
  · exact ((h.bel.grown hG h.bel.size (fun r e => (h.row.lt r e).1)).setCell (by show w.heap.size ≤ M + 1; omega) _).setCell (by show w.heap.size ≤ M + 1; omega) _

set_option maxRecDepth 100000 in
set_option maxHeartbeats 4000000 in
theorem plant_any (t : List Nd) (A : Option Addr) (n c : Nat) (ms : List NdM) (w : World) (hT : TrM w t A n ms) (hc : n ≤ c) :
    Calls Tryz.prog 43 #[.agg #[.slice A n c]] w (PlantPost w t A n c ms) := by
  have HB0 : Hid (Below w.heap.size w (w.alloc (.cells #[.slice A n c] 24))) := (Below.refl _ _).alloc (Nat.le_refl _) _
  have HCk := Lib.hid (check_any t A n c ms (w.alloc (.cells #[.slice A n c] 24)) (hT.below HB0.out) hc)
  have HT := Lib.hid hT; clear hT
  by_cases h0 : (chkT t).2 = 0
  · have hok := chkT_ok.1 h0
    have hn := HT.out.len
    have n1 := hok.l1
    have n40 := hok.l40
    rw [hn] at n1 n40
    have HL40 := Lib.hid hok.l40
    have HOK := Lib.hid hok; clear hok
    have HN := Lib.hid hn; clear hn
    have hck : (chkT t).1 = 0 := by rw [chkT_fst h0]
    have HH0 := Lib.hid h0
    rw [h0, hck] at HCk
    clear h0 hck
    have hmm := @run_makeMap Tryz.prog
    obtain ⟨i0, hi, hz0, hz1, hz2⟩ := info_parts infoR
    go_enter Tryz.func43, Tryz.ntmps43
    go_wp2_with fail
    refine HCk.out.mono ?_
    rintro e W1 ⟨rfl, hb1⟩
    have K0 : Hid (Blk W1 w.heap.size 24 #[.slice A n c]) := (Blk.new w _ _ rfl).later hb1
    have HB1 : Hid (Below w.heap.size w W1) := HB0.out.trans (hb1.mono HB0.out.size)
    clear hb1 HCk
    have q0 := K0.out.cell (i := 0) rfl
    have qz := K0.out.lt
    go_wp2_with fail
    clear hmm
    obtain ⟨W2, hW2⟩ : ∃ W2, (W1.alloc (.map #[] 0)).alloc (.cells #[.slice A n c, .slice none 0 0, .int .u64 0, .map (some W1.heap.size)] 60) = W2 := ⟨_, rfl⟩
    have HI0 : Hid (PlInv w W2 t A n c W1.heap.size (W1.heap.size + 1) 0 (.slice none 0 0)) := by
      rw [← hW2]
      exact ⟨(K0.out.alloc _).alloc _, Blk.new _ _ _ (by simp), World.ownsRow_nil _ _ _ _, (Known.made W1 t).alloc _, (HB1.out.alloc HB1.out.size _).alloc (by have := HB1.out.size; simp; omega) _⟩
    have hzM : w.heap.size ≤ W1.heap.size := HB1.out.size
    rw [hW2]
    clear hW2 q0 qz K0 HB1 HB0
    generalize W1.heap.size = M at *
    go_loopw [25] (fun i wr => ∃ (k : Nat) (v : Value), k ≤ n ∧ i = .int .i64 k ∧ PlInv w wr t A n c M (M + 1) k v) (fun i _ => n - (intOf i).toNat)
    case atStart => exact ⟨0, _, Nat.zero_le _, rfl, HI0.out⟩
    case round =>
      obtain ⟨k, v, hk, rfl, hI⟩ := hrel
      have HI := Lib.hid hI; clear hI
      by_cases hlt : k < n
      · obtain ⟨m, ad, hm, hA, ha, hN⟩ := (HT.out.below HI.out.bel).get hlt
        have HRu := Lib.hid (rules_take hm)
        have HBk : Hid (basN t (k + 1) = if m.nd.kind = 1 then withN (basN t k) k else basN t k) := by
          show _ = _
          rw [basN, isBas_kind hm]
          by_cases e : m.nd.kind = 1 <;> simp [e]
        have HOk := Lib.hid (HOK.out.nd k m.nd hm)
        obtain ⟨c0, c1, c2, c3, c4⟩ := ha.five
        subst hA
        have HNR := Lib.hid hN
        have hll := HOk.out.l10
        have hh0 := HOk.out.h0
        have hh1 := HOk.out.h1
        clear hm ha hN
        obtain ⟨⟨na, ki, li, cn, ho⟩, A2, cc2⟩ := m
        dsimp only at *
        have q0 := HI.out.tree.cell (i := 0) rfl
        have qz := HI.out.tree.lt
        have qT := HI.out.tr.lt
        have t1 := HI.out.tr.cell (i := 1) rfl
        have t2 := HI.out.tr.cell (i := 2) rfl
        have hbs := basN_lt64 HL40.out k
        have hsw : w.heap.size ≤ wr.heap.size := HI.out.bel.size
        have HRow := Lib.hid HI.out.row
        by_cases hk1 : ki = 1
        · have hq1 : (ki == 1) = true := by simpa using hk1
          have HRv : Hid (ruleV ⟨na, ki, li, cn, ho⟩ = .iface 95 (.agg #[])) := by show ruleV _ = _; unfold ruleV; rw [if_pos hk1]
          have HBn : Hid (basN t (k + 1) = withN (basN t k) k) := by have := HBk.out; rw [if_pos hk1] at this; exact this
          have hmk := mkOne
          have HW := Lib.hid (fun W => with_any (basN t k) k W hbs (by omega))
          clear hk1 HBk hbs
          have hbs2 : w.heap.size ≤ (wr.alloc (.cells #[.string na, .int .i64 ki, .slice A2 li.length cc2, .int .i64 cn, .int .i64 ho] 40)).heap.size := by simp; omega
          have hbq : wr.heap.size + 1 = (wr.alloc (.cells #[.string na, .int .i64 ki, .slice A2 li.length cc2, .int .i64 cn, .int .i64 ho] 40)).heap.size := by simp
          have HS2 := Lib.hid hbs2; have HQ2 := Lib.hid hbq
          clear hbs2 hbq
          go_wp2_with (first | (go_at_call 38; refine (HW.out _).mono ?_; rintro e w' ⟨rfl, rfl⟩) | (at_builtin; refine wpList_append_one rfl _ _ 55 rfl w.heap.size 77 i0 Value.nilIface 16 Tryz.underlying55 hi hz0 hz1 hz2 rfl _ _ _ rfl (HRow.out.alloc _) (.iface 95 (.agg #[])) (wr.heap.size + 1) HQ2.out rfl (by simp [Value.oneCell']) (by unfold maxLen; omega) (by omega) HS2.out ?_; intro A' c' w2 hown' hgrow _; have K2 := Lib.hid ((HI.out.tr.alloc (.cells #[.string na, .int .i64 ki, .slice A2 li.length cc2, .int .i64 cn, .int .i64 ho] 40)).grown hgrow (own_ne HRow.out HI.out.tr (by decide))); clear t1 t2 q0 qz qT c0 c1 c2 c3 c4; have t1 := K2.out.cell (i := 1) rfl; have t1f := K2.out.frozen 1; have t2 := K2.out.cell (i := 2) rfl; have t2f := K2.out.frozen 2; have qT := K2.out.lt; have HO2 := Lib.hid hown'; have HG2 := Lib.hid hgrow; clear hown' hgrow; go_frame))
          go_roundw
          case rel => exact ⟨k + 1, _, by omega, by go_num, by have := HI.out.step1 hzM HG2.out (by rw [HRv.out]; exact HO2.out) HRu.out; rw [HBn.out] at this; exact this⟩
          case measure => simp [intOf]; omega
        · have hq1 : (ki == 1) = false := by simpa using hk1
          have HBn : Hid (basN t (k + 1) = basN t k) := by have := HBk.out; rw [if_neg hk1] at this; exact this
          have n1 : some (M + 1) ≠ v.ownBlock := own_ne HRow.out HI.out.tr (by decide)
          have n3 : some wr.heap.size ≠ v.ownBlock := fun e => by have := (HRow.out.lt _ e.symm).2; omega
          have hneed : Hid (need ⟨na, ki, li, cn, ho⟩ = if ki = 2 then (li.length : Int) else max cn 1) := by unfold need; show _ = _; rw [if_neg hk1]
          have HRv0 : Hid (ruleV ⟨na, ki, li, cn, ho⟩ = .iface 105 (.agg #[.int .i64 (need ⟨na, ki, li, cn, ho⟩), .int .i64 ho])) := by show ruleV _ = _; unfold ruleV; rw [if_neg hk1]
          clear hbs HBk hk1
          by_cases hk2 : ki = 2
          · have hq2 : (ki == 2) = true := by simpa using hk2
            have HRv : Hid (ruleV ⟨na, ki, li, cn, ho⟩ = .iface 105 (.agg #[.int .i64 li.length, .int .i64 ho])) := by have := HRv0.out; rw [hneed.out, if_pos hk2] at this; exact this
            clear hk2 hneed HRv0
            go_wp2_with fail
            clear t1 t2 q0 qz qT c0 c1 c2 c3 c4
            obtain ⟨W5, hW5⟩ : ∃ W5, wr.alloc (.cells #[.string na, .int .i64 ki, .slice A2 li.length cc2, .int .i64 cn, .int .i64 ho] 40) = W5 := ⟨_, rfl⟩
            have K5 : Hid (Blk W5 wr.heap.size 40 #[.string na, .int .i64 ki, .slice A2 li.length cc2, .int .i64 cn, .int .i64 ho]) := by rw [← hW5]; exact Blk.new _ _ _ rfl
            have T5 : Hid (Blk W5 (M + 1) 60 #[.slice (some ad) n c, v, .int .u64 (basN t k), .map (some M)]) := by rw [← hW5]; exact HI.out.tr.alloc _
            have R5 : Hid (W5.ownsRow w.heap.size 77 1 v k ((t.take k).map ruleV)) := by rw [← hW5]; exact HRow.out.alloc _
            have HH5 := Lib.hid hW5
            have hz5 : W5.heap.size = wr.heap.size + 1 := by rw [← hW5]; simp
            have HZ5 := Lib.hid hz5
            rw [hW5]
            clear hW5 hz5
            have t1 := laterBut_cell (T5.out.cell (i := 1) rfl) n1
            have x2 := laterBut_cell (K5.out.cell (i := 2) rfl) n3
            have x4 := laterBut_cell (K5.out.cell (i := 4) rfl) n3
            have N1 := Lib.hid n1; have N3 := Lib.hid n3
            clear n1 n3
            have HS0 : Hid ((fun w' => ∃ u : LaterBut W5 v.ownBlock, w' = u.w) W5.drew) := ⟨⟨W5.drew, ⟨rfl, rfl, rfl, Nat.le_refl _, fun _ _ _ => rfl⟩⟩, rfl⟩
            refine wp_region_noPanic ?_
            refine wp_region_ord (fun w' => ∃ u : LaterBut W5 v.ownBlock, w' = u.w) 16 (fun k => decide (k ≤ 11) || k == 14 || k == 15) (ordOf _ [0, 1, 2, 3, 4, 5, 6, 7, 8, 9, 10, 11, 12, 13, 14, 15, 16]) (by kernel_rfl) (by kernel_rfl) (ordOf_mem _ _) (fun _ _ _ _ _ h => h) ?_
            simp only [ordOf, List.filterMap_cons, List.filterMap_nil, List.getElem?_cons_zero, List.getElem?_cons_succ, Option.map_some]
            have hmk := mkSome
            iterate 12 ((first | refine ord_quiet rfl rfl rfl HS0.out ?_ | refine ord_valQ rfl _ (run_nilCheck _ _ rfl rfl) rfl HS0.out ?_ | refine ord_valQ rfl _ (run_len2 _ _ _ Tryz.underlying38 _ _ _ rfl rfl) rfl HS0.out ?_ | refine ord_valQ rfl _ (run_iface _ _ _ (mkSome _ _) rfl rfl) rfl HS0.out ?_); intro K hK; go_big_quiet_op; go_big_quiet_on)
            clear t1 x2 x4 hmk
            have HSz : Hid (w.heap.size ≤ W5.heap.size) := by have := HZ5.out; show _ ≤ _; omega
            refine ord_op rfl ?_
            go_wp2_with fail
            have HG6 : Hid (W5.grownBy (W5.alloc (.cells #[.iface 105 (.agg #[.int .i64 li.length, .int .i64 ho])] 77)).drew v.ownBlock) := grown_drew (World.grownBy_alloc W5 _ _)
            refine mix_post (fun _ => ⟨⟨_, HG6.out⟩, rfl⟩) ?_
            refine ord_op rfl ?_
            refine wpList_append_one (w0 := W5.drew) rfl _ _ 55 rfl w.heap.size 77 i0 Value.nilIface 16 Tryz.underlying55 hi hz0 hz1 hz2 rfl v k ((t.take k).map ruleV) rfl (show W5.drew.ownsRow w.heap.size 77 1 v k ((t.take k).map ruleV) from R5.out) (.iface 105 (.agg #[.int .i64 li.length, .int .i64 ho])) W5.heap.size rfl rfl (by simp [Value.oneCell']) (by unfold maxLen; omega) (by omega) HSz.out ?_
            intro A' c' w2 hown' hgrow _
            have HO2 := Lib.hid hown'; have HG2 := Lib.hid hgrow
            clear hown' hgrow
            go_wp2_with fail
            have HG7 : Hid (W5.grownBy w2 v.ownBlock) := grown_of_drew HG2.out
            have HS2 : Hid ((fun w' => ∃ u : LaterBut W5 v.ownBlock, w' = u.w) w2) := ⟨⟨w2, HG7.out⟩, rfl⟩
            refine mix_post (fun _ => HS2.out) ?_
            have K2 := Lib.hid (T5.out.grown HG7.out N1.out)
            iterate 2 ((first | refine ord_quiet rfl rfl rfl HS2.out ?_ | refine ord_valQ rfl _ (run_nilCheck _ _ rfl rfl) rfl HS2.out ?_); intro K hK; go_big_quiet_op; go_big_quiet_on)
            have t1 := K2.out.cell (i := 1) rfl
            have t1f := K2.out.frozen 1
            have qT := K2.out.lt
            refine ord_op rfl ?_
            go_wp2_with fail
            refine mix_post (fun h => absurd h (by decide)) ?_
            refine ord_nil ?_
            refine NoPanic.normal ?_
            clear t1 t1f qT
            go_wp2_with fail
            have HF : Hid ((wr.alloc (.cells #[.string na, .int .i64 ki, .slice A2 li.length cc2, .int .i64 cn, .int .i64 ho] 40)).grownBy w2 v.ownBlock) := by have := HG7.out; rw [← HH5.out] at this; exact this
            go_roundw
            case rel => exact ⟨k + 1, _, by omega, by go_num, HI.out.step hzM HF.out (by rw [HRv.out]; exact HO2.out) HRu.out HBn.out⟩
            case measure => simp [intOf]; omega
          · have hq2 : (ki == 2) = false := by simpa using hk2
            have HRv : Hid (ruleV ⟨na, ki, li, cn, ho⟩ = .iface 105 (.agg #[.int .i64 (max cn 1), .int .i64 ho])) := by have := HRv0.out; rw [hneed.out, if_neg hk2] at this; exact this
            clear hk2 hneed HRv0
            go_wp2_with fail
            clear t1 t2 q0 qz qT c0 c1 c2 c3 c4
            obtain ⟨W5, hW5⟩ : ∃ W5, wr.alloc (.cells #[.string na, .int .i64 ki, .slice A2 li.length cc2, .int .i64 cn, .int .i64 ho] 40) = W5 := ⟨_, rfl⟩
            have K5 : Hid (Blk W5 wr.heap.size 40 #[.string na, .int .i64 ki, .slice A2 li.length cc2, .int .i64 cn, .int .i64 ho]) := by rw [← hW5]; exact Blk.new _ _ _ rfl
            have T5 : Hid (Blk W5 (M + 1) 60 #[.slice (some ad) n c, v, .int .u64 (basN t k), .map (some M)]) := by rw [← hW5]; exact HI.out.tr.alloc _
            have R5 : Hid (W5.ownsRow w.heap.size 77 1 v k ((t.take k).map ruleV)) := by rw [← hW5]; exact HRow.out.alloc _
            have HH5 := Lib.hid hW5
            have hz5 : W5.heap.size = wr.heap.size + 1 := by rw [← hW5]; simp
            have HZ5 := Lib.hid hz5
            rw [hW5]
            clear hW5 hz5
            have t1 := laterBut_cell (T5.out.cell (i := 1) rfl) n1
            have x2 := laterBut_cell (K5.out.cell (i := 3) rfl) n3
            have x4 := laterBut_cell (K5.out.cell (i := 4) rfl) n3
            have N1 := Lib.hid n1; have N3 := Lib.hid n3
            clear n1 n3
            have HS0 : Hid ((fun w' => ∃ u : LaterBut W5 v.ownBlock, w' = u.w) W5.drew) := ⟨⟨W5.drew, ⟨rfl, rfl, rfl, Nat.le_refl _, fun _ _ _ => rfl⟩⟩, rfl⟩
            refine wp_region_noPanic ?_
            refine wp_region_ord (fun w' => ∃ u : LaterBut W5 v.ownBlock, w' = u.w) 16 (fun k => decide (k ≤ 11) || k == 14 || k == 15) (ordOf _ [0, 1, 2, 3, 4, 5, 6, 7, 8, 9, 10, 11, 12, 13, 14, 15, 16]) (by kernel_rfl) (by kernel_rfl) (ordOf_mem _ _) (fun _ _ _ _ _ h => h) ?_
            simp only [ordOf, List.filterMap_cons, List.filterMap_nil, List.getElem?_cons_zero, List.getElem?_cons_succ, Option.map_some]
            have hmk := mkSome
            iterate 12 ((first | refine ord_quiet rfl rfl rfl HS0.out ?_ | refine ord_valQ rfl _ (run_nilCheck _ _ rfl rfl) rfl HS0.out ?_ | refine ord_valQ rfl _ (fun w' => run_max1 _ _ w' _ _ rfl rfl) rfl HS0.out ?_ | refine ord_valQ rfl _ (run_iface _ _ _ (mkSome _ _) rfl rfl) rfl HS0.out ?_); intro K hK; go_big_quiet_op; go_big_quiet_on)
            clear t1 x2 x4 hmk
            have HSz : Hid (w.heap.size ≤ W5.heap.size) := by have := HZ5.out; show _ ≤ _; omega
            refine ord_op rfl ?_
            go_wp2_with fail
            have HG6 : Hid (W5.grownBy (W5.alloc (.cells #[.iface 105 (.agg #[.int .i64 (max cn 1), .int .i64 ho])] 77)).drew v.ownBlock) := grown_drew (World.grownBy_alloc W5 _ _)
            refine mix_post (fun _ => ⟨⟨_, HG6.out⟩, rfl⟩) ?_
            refine ord_op rfl ?_
            refine wpList_append_one (w0 := W5.drew) rfl _ _ 55 rfl w.heap.size 77 i0 Value.nilIface 16 Tryz.underlying55 hi hz0 hz1 hz2 rfl v k ((t.take k).map ruleV) rfl (show W5.drew.ownsRow w.heap.size 77 1 v k ((t.take k).map ruleV) from R5.out) (.iface 105 (.agg #[.int .i64 (max cn 1), .int .i64 ho])) W5.heap.size rfl rfl (by simp [Value.oneCell']) (by unfold maxLen; omega) (by omega) HSz.out ?_
            intro A' c' w2 hown' hgrow _
            have HO2 := Lib.hid hown'; have HG2 := Lib.hid hgrow
            clear hown' hgrow
            go_wp2_with fail
            have HG7 : Hid (W5.grownBy w2 v.ownBlock) := grown_of_drew HG2.out
            have HS2 : Hid ((fun w' => ∃ u : LaterBut W5 v.ownBlock, w' = u.w) w2) := ⟨⟨w2, HG7.out⟩, rfl⟩
            refine mix_post (fun _ => HS2.out) ?_
            have K2 := Lib.hid (T5.out.grown HG7.out N1.out)
            iterate 2 ((first | refine ord_quiet rfl rfl rfl HS2.out ?_ | refine ord_valQ rfl _ (run_nilCheck _ _ rfl rfl) rfl HS2.out ?_); intro K hK; go_big_quiet_op; go_big_quiet_on)
            have t1 := K2.out.cell (i := 1) rfl
            have t1f := K2.out.frozen 1
            have qT := K2.out.lt
            refine ord_op rfl ?_
            go_wp2_with fail
            refine mix_post (fun h => absurd h (by decide)) ?_
            refine ord_nil ?_
            refine NoPanic.normal ?_
            clear t1 t1f qT
            go_wp2_with fail
            have HF : Hid ((wr.alloc (.cells #[.string na, .int .i64 ki, .slice A2 li.length cc2, .int .i64 cn, .int .i64 ho] 40)).grownBy w2 v.ownBlock) := by have := HG7.out; rw [← HH5.out] at this; exact this
            go_roundw
            case rel => exact ⟨k + 1, _, by omega, by go_num, HI.out.step hzM HF.out (by rw [HRv.out]; exact HO2.out) HRu.out HBn.out⟩
            case measure => simp [intOf]; omega
      · obtain rfl : k = n := by omega
        have HTk : Hid (t.take k = t) := List.take_of_length_le (by have := HN.out; omega)
        go_wp2_with fail
        go_ret2
        refine .inr ⟨HH0.out, M + 1, M, ?_⟩
        have hrow := HI.out.row
        obtain ⟨A', c', rfl, _⟩ := own_slice hrow
        rw [HTk.out] at hrow
        rw [← rules_flat] at hrow
        obtain ⟨A'', c'', e, hrd, _, _⟩ := rd_of_own (k := 1) (fun _ => rfl) hrow HN.out
        cases e
        have htr := HI.out.tr
        rw [show basN t k = bas t from by unfold bas; rw [HN.out]] at htr
        exact ⟨c', A', rfl, ⟨htr, HT.out.below HI.out.bel, hrd, HI.out.kn, HOK.out⟩, HI.out.bel, hzM, by omega⟩
  · have hne : ((chkT t).2 != 0) = true := by simpa using h0
    have HF : Hid (∀ w', Below w.heap.size w w' → PlantPost w t A n c ms (.returned (.tuple #[.pointer none, .int .i64 (chkT t).2])) w') := fun w' hb => .inl ⟨h0, rfl, hb⟩
    have HZ0 : Hid (Blk (w.alloc (.cells #[.slice A n c] 24)) w.heap.size 24 #[.slice A n c]) := Blk.new w _ _ rfl
    clear h0
    generalize (chkT t).1 = c1 at *
    generalize (chkT t).2 = c2 at *
    generalize PlantPost w t A n c ms = PP at *
    go_enter Tryz.func43, Tryz.ntmps43
    go_wp2_with fail
    refine HCk.out.mono ?_
    rintro e W1 ⟨rfl, hb1⟩
    have HB1 : Hid (Below w.heap.size w W1) := HB0.out.trans (hb1.mono HB0.out.size)
    clear hb1 HCk
    go_wp2_with fail
    exact HF.out _ HB1.out
end Go.Proofs.YtadldndpphdmpaaGreat
