/- Weight: a walk. -/
import Derived.Test.YtadldndpphdmpaaGreatP8
import Derived.Test.YtadldndpphdmpaaGreatHoa
import Derived.Test.YtadldndpphdmpaaGreatP4
namespace Go.Proofs.YtadldndpphdmpaaGreat
open Go.RowKit Go.Shelf
attribute [local go_sem] Oper.semAt_some


theorem wpOpIn_of_wpOpW {P : Program} {ops : Array Oper} {Q : Exit → Act → World → Prop} {n i : Nat} (hQ : ¬ LetsOut Q) (hd : noDefer ops = true) {K : Act → World → Prop} {a : Act} {w : World} (h : wpOp P ops Q i K a w) :
    wpOpIn Fence.wide n P ops Q i K a w := by
  unfold wpOp at h
  unfold wpOpIn
  split
  · rename_i e
    simpa [e] using h
  · rename_i o ho
    simp only [ho] at h
    split
    · rename_i hw
      rw [if_pos hw] at h
      rcases h with h | ⟨_, h⟩
      · refine ⟨fun _ _ => trivial, ?_⟩
        rw [Oper.semAt_eq _ _ _ (noDefer_spec hd ho)]
        unfold Oper.wp at h
        generalize (execOp a.eval o).run P w = r at *
        cases r with
        | ok x w' =>
          cases x with
          | enter f args => exact ⟨fun h => (by cases h), callsIn_wide.2 h⟩
          | row row args => exact ⟨fun h => (by cases h), fun c cs _ => let ⟨v, w', r, s⟩ := h c cs; ⟨v, w', r, stepsIn_wide.2 s⟩⟩
          | _ => first | exact h | exact (h : False).elim
        | halt x w' => cases x <;> first | exact h | exact (h : False).elim
      · exact absurd h hQ
    · rename_i hw
      rw [if_neg hw] at h
      exact ⟨fun _ _ => trivial, h⟩
theorem wpAnyIn_of_wpAnyW {P : Program} {md : Region.Mode} {ops : Array Oper} {Q : Exit → Act → World → Prop} {n : Nat} (hQ : ¬ LetsOut Q) (hd : noDefer ops = true) : ∀ (f : Nat) (listed : Array Bool) (a : Act) (w : World),
    wpAny P md ops Q f listed a w → wpAnyIn Fence.wide n P md ops Q f listed a w
  | 0, _, _, _, h => h
  | f + 1, _, _, _, h => ⟨h.1, fun i hi => wpOpIn_mono (fun a' w' h' => wpAnyIn_of_wpAnyW hQ hd f _ a' w' h') (wpOpIn_of_wpOpW hQ hd (h.2 i hi))⟩
/-- As wpIn_region_ord, where no range-over-func is under way. -/
theorem wpIn_region_ordW {P : Program} {n : Nat} {id : Nat} {Q : Exit → Act → World → Prop} {a : Act} {w : World} {ol : List Oper} (S : World → Prop) (m : Nat) (q : Nat → Bool) (ord : List (Nat × Oper)) (hm : P.follows .mixedOrders = true)
    (hd : noDefer ol.toArray = true)
    (hB : (Region.noSelect ol.toArray && decide (m < ol.toArray.size) && Region.sinkB .any ol.toArray m && Region.chainB .any ol.toArray m && decide (ord.length = ol.length) && ordB .any ol.toArray m q (ord.map (·.1)) true (Array.replicate ol.toArray.size false)) = true)
    (hord : ∀ x ∈ ord, ol.toArray[x.1]? = some x.2) (h : wpOrd P ol.toArray (OnlyN Q) S m q ord a w.drew) : (Code.region id ol.toArray true).wpIn Fence.wide n P Q a w := by
  simp only [Bool.and_eq_true, decide_eq_true_eq] at hB
  obtain ⟨⟨⟨⟨⟨hsel, hn⟩, hs⟩, hc⟩, hlen⟩, hmix⟩ := hB
  have inv : HeadInv .any ol.toArray m (Array.replicate ol.toArray.size false) :=
    ⟨by simp, fun j oj _ hl => (by rw [getD_replicate_false] at hl; cases hl), fun t _ ht => getD_in (by simpa using ht) (getD_replicate_false _ _)⟩
  have H := anyT_of_ord (S := S) hsel hs hc hn (fun _ _ _ _ _ h => h) ord true _ a w.drew hord (fun _ => inv) hmix h
  have hA := any_of_anyT _ _ _ _ H
  rw [hlen] at hA
  refine wpIn_mono ?_ OnlyN.imp
  refine wpIn_region_any hm (wpAnyIn_of_wpAnyW OnlyN.letsOut hd _ _ _ _ ?_)
  simpa using hA

theorem weight_ok {t : List Nd} {node b : Int} (h : (aboutT t node []).1 = 0) (hb : basI t b = true) : weightT t node b = ((wtN t node.toNat b.toNat : Int), 0) := by
  rw [ask_about] at h
  unfold weightT
  rw [if_neg (fun c => c h), if_neg (by rw [hb]; decide)]
theorem weight_none {t : List Nd} {node b : Int} (h : (aboutT t node []).1 = 0) (hb : basI t b = false) : weightT t node b = (0, 4) := by
  rw [ask_about] at h
  unfold weightT
  rw [if_neg (fun c => c h), if_pos hb]
theorem weight_err {t : List Nd} {node b : Int} {x : Int} (h : (aboutT t node []).1 = x) (hx : x ≠ 0) : weightT t node b = (0, x) := by
  rw [ask_about] at h
  unfold weightT
  rw [h, if_pos hx]
theorem box3 (w : World) (cs ds es : Array Value) (t1 t2 t3 : TypeId) : ∀ W, ((w.alloc (.cells cs t1)).alloc (.cells ds t2)).alloc (.cells es t3) = W →
    Below w.heap.size w W ∧ Blk W w.heap.size t1 cs ∧ Blk W (w.heap.size + 1) t2 ds ∧ Blk W (w.heap.size + 1 + 1) t3 es ∧ W.heap.size = w.heap.size + 3 := by
  rintro W rfl
  exact ⟨(((Below.refl _ w).alloc (Nat.le_refl _) _).alloc (by simp) _).alloc (by simp; omega) _, ((Blk.new _ _ _ rfl).alloc _).alloc _, (Blk.new _ _ _ (by simp)).alloc _, Blk.new _ _ _ (by simp), by simp⟩

set_option maxRecDepth 100000 in
set_option maxHeartbeats 8000000 in
theorem Weight_any (t : List Nd) (node b : Int) (A : Option Addr) (n c : Nat) (ms : List NdM) (w : World) (hT : TrM w t A n ms) (hc : n ≤ c) :
    Calls Tryz.prog 14 #[.agg #[.slice A n c], .int .i64 node, .int .i64 b] w fun e w' => e = .returned (.tuple #[.int .i64 (weightT t node b).1, .int .i64 (weightT t node b).2]) ∧ Below w.heap.size w w' := by
  obtain ⟨W1, hW1⟩ : ∃ W1, ((w.alloc (.cells #[.slice A n c] 24)).alloc (.cells #[.int .i64 node] 3)).alloc (.cells #[.int .i64 b] 3) = W1 := ⟨_, rfl⟩
  obtain ⟨b1, b2, b3, b4, b5⟩ := box3 w _ _ _ _ _ _ W1 hW1
  have HB1 := Lib.hid b1; have K0 := Lib.hid b2; have K1 := Lib.hid b3; have K2 := Lib.hid b4; have HSz1 := Lib.hid b5
  have HAb := Lib.hid (about_any t node [] A n c ms none 0 0 [] W1 (hT.below HB1.out) hc (LsM.zero _ _) (by omega))
  have HW1 := Lib.hid hW1
  have HTl := Lib.hid hT.len
  have HC0 := Lib.hid (fun x h1 h2 => weight_err (t := t) (node := node) (b := b) (x := x) h1 h2)
  have HC1 := Lib.hid (fun h h' => weight_ok (t := t) (node := node) (b := b) h h')
  have HC2 := Lib.hid (fun h h' => weight_none (t := t) (node := node) (b := b) h h')
  generalize weightT t node b = CT at *
  clear hW1 hT b1 b2 b3 b4 b5
  refine (callsIn_wide (n := 9)).1 ?_
  refine callsIn_of_wp_marks Tryz.func14 rfl trivial ?_ rfl
  simp only [Tryz.ntmps14, List.size_toArray, List.length_cons, List.length_nil, Nat.reduceAdd, Nat.reduceSub, Array.replicate_succ, Array.replicate_zero, List.push_toArray, List.append_toArray, List.nil_append, List.cons_append]
  gi_wp2
  rw [HW1.out]
  refine ⟨trivial, CallsIn.mono (callsIn_wide.2 HAb.out) ?_⟩
  rintro e W2 (⟨h0, rfl, hb⟩ | ⟨h0, T, M, cr, R, v, rfl, hF, hrow, hb, hM, hTb⟩)
  · have HB2 := Lib.hid (HB1.out.trans (hb.mono HB1.out.size))
    have hne : ((aboutT t node []).1 != 0) = true := by simpa using h0
    have F := HC0.out _ rfl h0
    subst F
    generalize hxx : (aboutT t node []).1 = x at *
    clear h0 hb HAb HC0 HC1 HC2
    gi_wp2
    exact ⟨_, by simp [results, Tryz.results14, go_sem], rfl, HB2.out.alloc HB2.out.size _⟩
  · have HB2 := Lib.hid (HB1.out.trans (hb.mono HB1.out.size))
    obtain ⟨n0, n1, n40⟩ := about_node h0
    obtain ⟨nn, rfl⟩ : ∃ nn : Nat, node = (nn : Int) := ⟨node.toNat, by omega⟩
    have hok := hF.ok
    have HOk := Lib.hid hok
    have KN := Lib.hid (K1.out.later hb)
    have KQ := Lib.hid (K2.out.later hb)
    have KT := Lib.hid (K0.out.later hb)
    obtain ⟨W3, hW3⟩ : ∃ W3, W2.alloc (.cells #[.pointer (some ⟨T, 0, none⟩)] 47) = W3 := ⟨_, rfl⟩
    have HSz3 : Hid (W3.heap.size = W2.heap.size + 1) := by show _ = _; rw [← hW3]; simp
    have HB3 : Hid (Below W2.heap.size W2 W3) := by rw [← hW3]; exact (Below.refl _ _).alloc (Nat.le_refl _) _
    have KF : Hid (Blk W3 W2.heap.size 47 #[.pointer (some ⟨T, 0, none⟩)]) := by rw [← hW3]; exact Blk.new _ _ _ rfl
    have KN3 := Lib.hid (KN.out.later HB3.out)
    have KQ3 := Lib.hid (KQ.out.later HB3.out)
    have KT3 := Lib.hid (KT.out.later HB3.out)
    have HF2 := Lib.hid hF
    have HF3 := Lib.hid (hF.below HB3.out)
    have HW3 := Lib.hid hW3
    have HM2 : Hid (w.heap.size + 3 ≤ M) := by have := HSz1.out; show _ ≤ _; omega
    have H0 := Lib.hid h0
    clear hW3 hF hrow hb hM hTb HAb h0 HC0
    have HBa := Lib.hid (bas_lt64 hok)
    have HHas : Hid (∀ (i : Nat) (W : World), i ≤ 63 → Calls Tryz.prog 26 #[.int .u64 (bas t), .int .i64 i] W fun e w' => e = .returned (.bool ((bas t).testBit i)) ∧ W = w') := fun i W hi => has_any (bas t) i W HBa.out hi
    gi_wp2
    rw [HW3.out]
    have HBI : Hid (basI t b = (!outB b 0 ((t.length : Int) - 1) && isBas t b.toNat)) := rfl
    have HTn : Hid (t.length = n) := HTl.out
    have hw1 : IntKind.i64.wrap ((n : Int) - 1) = (n : Int) - 1 := IntWalk.i64_in _ ⟨by omega, by have := HTn.out; omega⟩
    have HB3d : Hid (Below W3.heap.size W3 W3.drew) := (Below.refl _ _).drew
    have HS0 : Hid ((fun w' => ∃ u : Later W3, w' = u.w) W3.drew) := ⟨⟨W3.drew, HB3d.out⟩, rfl⟩
    have x1 := later_cell (KF.out.cell (i := 0) rfl)
    have x2 := later_cell (KQ3.out.cell (i := 0) rfl)
    have x3 := later_cell (KT3.out.cell (i := 0) rfl)
    have x4 := later_cell (HF3.out.blk.cell (i := 2) rfl)
    cases ho : outB b 0 ((n : Int) - 1)
    · obtain ⟨o1, o2⟩ := outB_false ho
      obtain ⟨bn, rfl⟩ : ∃ bn : Nat, b = (bn : Int) := ⟨b.toNat, by omega⟩
      have hbn : bn ≤ 63 := by have := HTn.out; omega
      refine wpIn_region_ordW (fun w' => ∃ u : Later W3, w' = u.w) 12 (fun k => decide (k < 12) && !(k == 5)) (ordOf _ [0, 1, 2, 3, 4, 5, 6, 7, 8, 9, 10, 11, 12, 13, 14, 15]) (by kernel_rfl) (by kernel_rfl) (by kernel_rfl) (ordOf_mem _ _) ?_
      simp only [ordOf, List.filterMap_cons, List.filterMap_nil, List.getElem?_cons_zero, List.getElem?_cons_succ, Option.map_some]
      iterate 5 ((first | refine ord_quiet rfl rfl rfl HS0.out ?_ | refine ord_len rfl _ _ _ Tryz.underlying22 _ _ _ rfl rfl rfl HS0.out ?_); intro K hK; go_big_quiet_op; go_big_quiet_on)
      refine ord_op rfl ?_
      go_wp2_with (go_at_call 37; refine (out_any _ _ _ _).mono ?_; rintro e w' ⟨rfl, rfl⟩)
      refine mix_post (fun _ => HS0.out) ?_
      refine ord_quiet rfl rfl rfl HS0.out ?_; intro K hK; go_big_quiet_op; go_big_quiet_on
      iterate 5 ((first | refine ord_quiet rfl rfl rfl HS0.out ?_ | refine ord_valQ rfl _ (run_nilCheck _ _ rfl rfl) rfl HS0.out ?_); intro K hK; go_big_quiet_op; go_big_quiet_on)
      clear x1 x2 x3 x4 HS0
      refine ord_op rfl ?_
      go_wp2_with (go_at_call 26; refine (HHas.out bn _ hbn).mono ?_; rintro e w' ⟨rfl, rfl⟩)
      refine mix_post (fun h => absurd h (by decide)) ?_
      have hBi : basI t bn = (bas t).testBit bn := by rw [HBI.out, HTn.out, ho, bas_bit]; simp
      cases hq : (bas t).testBit bn
      · have F := HC2.out H0.out (hBi.trans hq)
        subst F
        iterate 3 (refine ord_op rfl ?_; go_wp2_with fail; refine mix_post (fun h => absurd h (by decide)) ?_)
        refine ord_nil ?_
        refine OnlyN.normal ?_
        gi_wp2
        exact ⟨_, by simp [results, Tryz.results14, go_sem], rfl, HB2.out.trans ((HB3.out.trans (HB3d.out.mono HB3.out.size)).mono HB2.out.size)⟩
      · have F := HC1.out H0.out (hBi.trans hq)
        subst F
        iterate 3 (refine ord_op rfl ?_; go_wp2_with fail; refine mix_post (fun h => absurd h (by decide)) ?_)
        refine ord_nil ?_
        refine OnlyN.normal ?_
        have HIb : Hid (isBas t bn = true) := by rw [← bas_bit]; exact hq
        clear HC1 HC2 HHas hq
        obtain ⟨W4, hW4⟩ : ∃ W4, (W3.alloc (.cells #[.int .i64 0] 3)).drew = W4 := ⟨_, rfl⟩
        have HSz4 : Hid (W4.heap.size = W2.heap.size + 2) := by show _ = _; rw [← hW4, show W2.heap.size + 2 = W3.heap.size + 1 by rw [HSz3.out]]; show (W3.alloc _).heap.size = _; simp
        have HB4 : Hid (Below W3.heap.size W3 W4) := by rw [← hW4]; exact ((Below.refl _ W3).alloc (Nat.le_refl _) _).drew
        have KM4 : Hid (Blk W4 W3.heap.size 3 #[.int .i64 0]) := by rw [← hW4]; exact (Blk.new W3 _ _ rfl)
        have KF4 := Lib.hid (KF.out.later HB4.out)
        have KN4 := Lib.hid (KN3.out.later HB4.out)
        have KQ4 := Lib.hid (KQ3.out.later HB4.out)
        have HF4 := Lib.hid (HF3.out.below HB4.out)
        have HW4 := Lib.hid hW4
        have HB24 : Hid (Below W2.heap.size W2 W4) := HB3.out.trans (HB4.out.mono HB3.out.size)
        clear hW4
        have hand : bits .andNot .u64 ((bas t : Nat) : Int) ((withN 0 bn : Nat) : Int) = ((othN t bn : Nat) : Int) := bits_andNot64 HBa.out
        have HWith : Hid (∀ W, Calls Tryz.prog 38 #[.int .u64 0, .int .i64 bn] W fun e w' => e = .returned (.int .u64 (withN 0 bn)) ∧ W = w') := fun W => with_any 0 bn W (by decide) hbn
        have HSu := Lib.hid (subsets_any (othN t bn) W4.drew)
        have HOl : Hid (othN t bn < 18446744073709551616) := by
          have := pow_40 HOk.out (Sub.lt (sub_bas t (withN 0 bn)))
          show diffN (bas t) (withN 0 bn) < _
          omega
        gi_wp2
        rw [HW4.out]
        have HS1 : Hid ((fun w' => ∃ u : Later W4, w' = u.w) W4.drew) := ⟨⟨W4.drew, (Below.refl _ _).drew⟩, rfl⟩
        have x1 := later_cell (KF4.out.cell (i := 0) rfl)
        have x2 := later_cell (KQ4.out.cell (i := 0) rfl)
        have x4 := later_cell (HF4.out.blk.cell (i := 2) rfl)
        refine wpIn_region_ordW (fun w' => ∃ u : Later W4, w' = u.w) 7 (fun k => decide (k < 7) && !(k == 5)) (ordOf _ [0, 1, 2, 3, 4, 5, 6, 7]) (by kernel_rfl) (by kernel_rfl) (by kernel_rfl) (ordOf_mem _ _) ?_
        simp only [ordOf, List.filterMap_cons, List.filterMap_nil, List.getElem?_cons_zero, List.getElem?_cons_succ, Option.map_some]
        iterate 5 ((first | refine ord_quiet rfl rfl rfl HS1.out ?_ | refine ord_valQ rfl _ (run_nilCheck _ _ rfl rfl) rfl HS1.out ?_); intro K hK; go_big_quiet_op; go_big_quiet_on)
        clear x1 x2 x4
        refine ord_op rfl ?_
        go_wp2_with (go_at_call 38; refine (HWith.out _).mono ?_; rintro e w' ⟨rfl, rfl⟩)
        refine mix_post (fun _ => HS1.out) ?_
        refine ord_quiet rfl rfl rfl HS1.out ?_; intro K hK; go_big_quiet_op; go_big_quiet_on
        clear HS1
        refine ord_op rfl ?_
        go_wp2_with fail
        refine HSu.out.mono ?_
        rintro e W5 ⟨rfl, hW5⟩
        have HB5 : Hid (Below W4.heap.size W4 W5) := by rw [← hW5]; exact ((Below.refl _ _).drew).alloc (Nat.le_refl _) _
        have KA : Hid (Blk W5 W4.heap.size 57 #[.int .u64 (othN t bn)]) := by rw [← hW5]; exact Blk.new _ _ _ rfl
        have HSz5 : Hid (W5.heap.size = W4.heap.size + 1) := by show _ = _; rw [← hW5]; show (W4.alloc _).heap.size = _; simp
        have KF5 := Lib.hid (KF4.out.later HB5.out)
        have KM5 := Lib.hid (KM4.out.later HB5.out)
        have KN5 := Lib.hid (KN4.out.later HB5.out)
        have KQ5 := Lib.hid (KQ4.out.later HB5.out)
        have HF5 := Lib.hid (HF4.out.below HB5.out)
        have HB25 : Hid (Below W2.heap.size W2 W5) := HB24.out.trans (HB5.out.mono HB24.out.size)
        clear hW5 HSu HWith hand
        go_wp2_with fail
        refine mix_post (fun h => absurd h (by decide)) ?_
        refine ord_nil ?_
        refine OnlyN.normal ?_
        gi_wp2
        have hsz3 := HSz3.out
        have hsz4 := HSz4.out
        have hsz5 := HSz5.out
        have HW := subsets1_stopsC 8 (by omega) W4.heap.size (othN t bn) W5 (KA.out.cell (i := 0) rfl) HOl.out
        have hML := HF2.out.kn.lt
        have HAl : Hid (Sub t (othN t bn)) := sub_bas t _
        refine wpIn_rangeFunc_ownH rfl (by omega) (gf := 50) (lb := #[.pointer (some ⟨W4.heap.size, 0, none⟩)]) rfl trivial (enters_of Tryz.func50 (by kernel_rfl) rfl)
          HW (fun h k => h.trans k) (fun W l o o' _ hl ho _ => KS.nonCells (grownBy_putObj' W l o') (fun r e => by cases e; exact ⟨o, hl, ho⟩)) (Below.refl _ _) (fun _ => rfl)
          (fun pre W => (∃ k, Known W M k t ∧ k ≤ 2 * pre.length) ∧ BB W2.heap.size M W2 W ∧ Blk W W2.heap.size 47 #[.pointer (some ⟨T, 0, none⟩)] ∧ Blk W W3.heap.size 3 #[.int .i64 (((pre.map (·.1)).filter (wtB t nn bn)).length : Int)])
          (fun _ _ _ => False)
          ?own
          (fun _ _ _ _ _ hs _ _ => hs)
          ⟨⟨0, HF5.out.kn, Nat.zero_le _⟩, BB.of_below HB25.out (Nat.le_refl _), KF5.out, KM5.out⟩
          (fun x a' W => a' = { tmps := #[.agg #[.slice A n c], .int .i64 nn, .int .i64 bn, .pointer (some ⟨w.heap.size, 0, none⟩), .pointer (some ⟨w.heap.size + 1, 0, none⟩), .pointer (some ⟨w.heap.size + 1 + 1, 0, none⟩), .int .i64 0, .int .i64 0, .pointer (some ⟨W2.heap.size, 0, none⟩), v, .int .i64 0, .pointer (some ⟨W3.heap.size, 0, none⟩), .int .u64 x.1, .tuple #[.pointer (some ⟨T, 0, none⟩), v, .int .i64 0], .agg #[.slice A n c], .int .i64 nn, .tuple #[.pointer (some ⟨T, 0, none⟩), v, .int .i64 0], .pointer (some ⟨T, 0, none⟩), v, .int .i64 0, .bool false, .int .i64 0, .bool false, undef, .bool false, .int .i64 bn, .pointer (some ⟨w.heap.size, 0, none⟩), .slice A n c, .int .i64 n, .int .i64 ((n : Int) - 1), .bool false, .bool false, .pointer (some ⟨T, 0, none⟩), .pointer (some ⟨T, 0, none⟩), .pointer (some ⟨T, 2, none⟩), .int .u64 (bas t), .int .i64 bn, .bool true, .bool false, .bool false, .pointer (some ⟨T, 0, none⟩), .pointer (some ⟨T, 0, none⟩), .pointer (some ⟨T, 2, none⟩), .int .u64 (bas t), .int .i64 bn, .int .u64 (withN 0 bn), .int .u64 (othN t bn), .func (.func 50) #[] #[.pointer (some ⟨W4.heap.size, 0, none⟩)], .int .u64 x.1, undef, undef, undef, undef, undef, undef, undef, undef, undef, undef, undef, undef, undef, undef, undef, undef, undef, undef], defers := [] })
          (fun x a' _ X Y row hs hg hr => hs)
          ?assign ?body ?done ?stop
        case own =>
          intro pre X Y row hs hg hr
          obtain ⟨⟨k, h1, h2⟩, h3, h4, h5⟩ := hs
          have hblk : ∀ B tt vs, Blk X B tt vs → Blk Y B tt vs := fun B tt vs hb => hb.grown hg (fun e => by
            obtain ⟨_, o, ho, hc⟩ := hr _ e.symm
            rw [show X.heap[B]? = _ from hb] at ho
            cases ho
            cases hc)
          exact ⟨⟨k, h1.kept hg (fun e => by have := (hr M e.symm).1; omega), h2⟩, h3.grown hg (fun r e => .inr (by have := (hr r e).1; omega)) h3.size, hblk _ _ _ h4, hblk _ _ _ h5⟩
        case assign =>
          rintro l pre x W K hI hK
          clear hsz3 hsz4 hsz5
          gi_wp2
          exact hK _ _ (KeepsFrom.refl _ _) (KS.refl _ _) hI rfl
        case body =>
          rintro l pre ⟨s, hs⟩ a' W hl ⟨r, hr'⟩ ⟨⟨k, h1, h2⟩, h3, h4, h5⟩ rfl hlt
          dsimp only at *
          generalize hQ : ownPostG W5.heap.size _ _ _ (pre ++ [(⟨s, hs⟩ : SubT (othN t bn))]) W = PP
          have HQ := Lib.hid hQ
          clear hQ
          have hok := HOk.out
          have hpl : pre.length < 1024 := Nat.lt_of_lt_of_le hlt (subL_short hok HAl.out HOl.out)
          have hsT : Sub t s := fun j hj => HAl.out j (hs j hj)
          have hsT2 : Sub t (withN s bn) := hsT.with HIb.out
          have hFW := HF2.out.move h3 h1
          have HF := Lib.hid (hFW.below ((Below.refl W.heap.size W).drew))
          have HE := Lib.hid (effects_any t (withN s bn) T A n c ms R cr M k W.drew HF.out hsT2 (by omega))
          have HE2 := Lib.hid (fun (X : World) (h : FT X T t A n c ms R cr M (k + 1)) => effects_any t s T A n c ms R cr M (k + 1) X h hsT (by omega))
          have HLt1 : Hid (eff t (withN s bn) < 18446744073709551616) := by have := pow_40 hok (eff_lt hok hsT2); show _ < _; omega
          have HLt2 : Hid (eff t s < 18446744073709551616) := by have := pow_40 hok (eff_lt hok hsT); show _ < _; omega
          have hsl : s < 18446744073709551616 := by have := pow_40 hok hsT.lt; omega
          have HWi : Hid (∀ W, Calls Tryz.prog 38 #[.int .u64 s, .int .i64 bn] W fun e w' => e = .returned (.int .u64 (withN s bn)) ∧ W = w') := fun W => with_any s bn W hsl hbn
          have HH1 : Hid (∀ W, Calls Tryz.prog 26 #[.int .u64 (eff t (withN s bn)), .int .i64 nn] W fun e w' => e = .returned (.bool ((eff t (withN s bn)).testBit nn)) ∧ W = w') := fun W => has_any (eff t (withN s bn)) nn W HLt1.out (by omega)
          have HH2 : Hid (∀ W, Calls Tryz.prog 26 #[.int .u64 (eff t s), .int .i64 nn] W fun e w' => e = .returned (.bool ((eff t s).testBit nn)) ∧ W = w') := fun W => has_any (eff t s) nn W HLt2.out (by omega)
          have HSn := Lib.hid (flt_snoc pre ⟨s, hs⟩ (wtB t nn bn))
          have HWb : Hid (wtB t nn bn s = ((eff t (withN s bn)).testBit nn && !(eff t s).testBit nn)) := rfl
          dsimp only at HSn
          have cf := h4.cell (i := 0) rfl
          have cn : W.cell? ⟨w.heap.size + 1, 0, none⟩ = some (.int .i64 nn) := h3.cell KN.out.lt HF2.out.kn.noCells (KN.out.cell (i := 0) rfl)
          have cq : W.cell? ⟨w.heap.size + 1 + 1, 0, none⟩ = some (.int .i64 bn) := h3.cell KQ.out.lt HF2.out.kn.noCells (KQ.out.cell (i := 0) rfl)
          have x1 := laterBut_cell (row := some M) cf (fun e => absurd (Option.some.inj e) (hFW.ne1 cf))
          have x2 := laterBut_cell (row := some M) cn (fun e => absurd (Option.some.inj e) (hFW.ne1 cn))
          have x3 := laterBut_cell (row := some M) cq (fun e => absurd (Option.some.inj e) (hFW.ne1 cq))
          have H1 := Lib.hid h1; have H3 := Lib.hid h3; have H4 := Lib.hid h4; have H5 := Lib.hid h5
          have hfl : ((pre.map (·.1)).filter (wtB t nn bn)).length ≤ pre.length := Nat.le_trans (List.length_filter_le _ _) (by simp)
          have hw3 := h3.size
          clear h1 h3 h4 h5 hFW hr' hsT hsT2 cf cn cq HW HLt1 HLt2 hsl hsz3 hsz4 hsz5
          gi_wp2
          have HS0 : Hid ((fun w' => ∃ u : LaterBut W (some M), w' = u.w) W.drew) := ⟨⟨W.drew, grown_of_below (Below.refl _ _).drew _⟩, rfl⟩
          refine wpIn_region_ord (fun w' => ∃ u : LaterBut W (some M), w' = u.w) 12 (fun k => decide (k < 12) && !(k == 3 || k == 4 || k == 6 || k == 10)) (ordOf _ [0, 1, 2, 5, 3, 4, 6, 7, 8, 9, 11, 10, 12, 13, 14]) (by kernel_rfl) (by kernel_rfl) (by kernel_rfl) (ordOf_mem _ _) ?_
          simp only [ordOf, List.filterMap_cons, List.filterMap_nil, List.getElem?_cons_zero, List.getElem?_cons_succ, Option.map_some]
          iterate 4 (refine ord_quiet rfl rfl rfl HS0.out ?_; intro K hK; go_big_quiet_op; go_big_quiet_on)
          refine ord_op rfl ?_
          go_wp2_with (go_at_call 38; refine (HWi.out _).mono ?_; rintro e w' ⟨rfl, rfl⟩)
          refine mix_post (fun _ => HS0.out) ?_
          refine ord_op rfl ?_
          go_wp2_with fail
          refine HE.out.mono ?_
          rintro e W6 ⟨rfl, hF6, hb6⟩
          have HF6 := Lib.hid hF6
          have HB6 : Hid (BB W.heap.size M W W6) := (BB.of_below (Below.refl W.heap.size W).drew (Nat.le_refl _)).trans hb6
          clear hF6 hb6
          have HS1 : Hid ((fun w' => ∃ u : LaterBut W (some M), w' = u.w) W6) := ⟨⟨W6, HB6.out.toGrown (Nat.le_refl _)⟩, rfl⟩
          go_wp2_with fail
          refine mix_post (fun _ => HS1.out) ?_
          refine ord_op rfl ?_
          go_wp2_with (go_at_call 26; refine (HH1.out _).mono ?_; rintro e w' ⟨rfl, rfl⟩)
          refine mix_post (fun _ => HS1.out) ?_
          have HEb := Lib.hid (HE2.out W6 HF6.out)
          clear HE HE2 HH1 HS0 HWi
          generalize (eff t (withN s bn)).testBit nn = b1 at *
          cases b1 with
          | false =>
            refine ord_quiet rfl rfl rfl HS1.out ?_; intro K hK; go_big_quiet_op; go_big_quiet_on
            iterate 3 (refine ord_skip rfl rfl HS1.out ?_; simp only [Act.put, List.setIfInBounds_toArray, List.set_cons_succ, List.set_cons_zero])
            refine ord_op rfl ?_
            go_wp2_with fail
            refine mix_post (fun _ => HS1.out) ?_
            clear HS1 x1 x2 x3
            iterate 3 (refine ord_op rfl ?_; go_wp2_with fail; refine mix_post (fun h => absurd h (by decide)) ?_)
            refine ord_nil ?_
            refine OnlyN.normal ?_
            have hsz3 := HSz3.out
            have hsz4 := HSz4.out
            have hsz5 := HSz5.out
            have hG := Lib.hid (HB6.out.toGrown (Nat.le_refl _))
            have K4 := Lib.hid (H4.out.grown hG.out (fun e => by have e' : W2.heap.size = M := Option.some.inj e; omega))
            have K5 := Lib.hid (H5.out.grown hG.out (fun e => by have e' : W3.heap.size = M := Option.some.inj e; omega))
            have H35 : Hid (BB W2.heap.size M W2 W6) := H3.out.trans (HB6.out.lower hw3)
            have hKs : Hid (KS W4.heap.size W W6) := KS.grown hG.out (fun r e => by cases e; omega)
            have HKn := Lib.hid HF6.out.kn
            have hw5 := HB6.out.size
            generalize hcc : ((pre.map (·.1)).filter (wtB t nn bn)).length = cc at K5 hfl
            have HCC := Lib.hid hcc
            clear hcc
            clear hsz3 hsz4
            have HS2 : Hid (((((pre ++ [(⟨s, hs⟩ : SubT (othN t bn))]).map (·.1)).filter (wtB t nn bn)).length : Int) = (cc : Int)) := by
              show _ = _
              rw [HSn.out, List.length_append, HCC.out, HWb.out]
              simp
            gi_wp2
            rw [← HQ.out]
            refine ⟨KeepsFrom.of_grownBy hG.out (fun j e => by cases e; have := HSz5.out; have := HSz4.out; omega), hKs.out, ⟨k + 1, HKn.out, by rw [List.length_append]; simp; omega⟩, H35.out, K4.out, ?_⟩
            rw [HS2.out]
            exact K5.out
          | true =>
            iterate 4 (refine ord_quiet rfl rfl rfl HS1.out ?_; intro K hK; go_big_quiet_op; go_big_quiet_on)
            refine ord_op rfl ?_
            go_wp2_with fail
            refine HEb.out.mono ?_
            rintro e W7 ⟨rfl, hF7, hb7⟩
            have HF7 := Lib.hid hF7
            have HB7 : Hid (BB W.heap.size M W W7) := HB6.out.trans (hb7.lower HB6.out.size)
            clear hF7 hb7
            have HS2 : Hid ((fun w' => ∃ u : LaterBut W (some M), w' = u.w) W7) := ⟨⟨W7, HB7.out.toGrown (Nat.le_refl _)⟩, rfl⟩
            go_wp2_with fail
            refine mix_post (fun _ => HS2.out) ?_
            clear HS1 HEb x1 x2 x3
            refine ord_op rfl ?_
            go_wp2_with (go_at_call 26; refine (HH2.out _).mono ?_; rintro e w' ⟨rfl, rfl⟩)
            refine mix_post (fun h => absurd h (by decide)) ?_
            iterate 2 (refine ord_op rfl ?_; go_wp2_with fail; refine mix_post (fun h => absurd h (by decide)) ?_)
            refine ord_nil ?_
            refine OnlyN.normal ?_
            clear HS2 HH2
            generalize (eff t s).testBit nn = b2 at *
            have hsz3 := HSz3.out
            have hsz4 := HSz4.out
            have hsz5 := HSz5.out
            have hG := Lib.hid (HB7.out.toGrown (Nat.le_refl _))
            have K4 := Lib.hid (H4.out.grown hG.out (fun e => by have e' : W2.heap.size = M := Option.some.inj e; omega))
            have K5 := Lib.hid (H5.out.grown hG.out (fun e => by have e' : W3.heap.size = M := Option.some.inj e; omega))
            have H35 : Hid (BB W2.heap.size M W2 W7) := H3.out.trans (HB7.out.lower hw3)
            have hKs : Hid (KS W4.heap.size W W7) := KS.grown hG.out (fun r e => by cases e; omega)
            have HKn := Lib.hid HF7.out.kn
            have hw5 := HB7.out.size
            generalize hcc : ((pre.map (·.1)).filter (wtB t nn bn)).length = cc at K5 hfl
            have HCC := Lib.hid hcc
            clear hcc
            cases b2 with
            | true =>
              clear hsz3 hsz4
              have HS2 : Hid (((((pre ++ [(⟨s, hs⟩ : SubT (othN t bn))]).map (·.1)).filter (wtB t nn bn)).length : Int) = (cc : Int)) := by
                show _ = _
                rw [HSn.out, List.length_append, HCC.out, HWb.out]
                simp
              gi_wp2
              rw [← HQ.out]
              refine ⟨KeepsFrom.of_grownBy hG.out (fun j e => by cases e; have := HSz5.out; have := HSz4.out; omega), hKs.out, ⟨k + 1 + 1, HKn.out, by rw [List.length_append]; simp; omega⟩, H35.out, K4.out, ?_⟩
              rw [HS2.out]
              exact K5.out
            | false =>
              have HS2 : Hid (((((pre ++ [(⟨s, hs⟩ : SubT (othN t bn))]).map (·.1)).filter (wtB t nn bn)).length : Int) = (cc : Int) + 1) := by
                show _ = _
                rw [HSn.out, List.length_append, HCC.out, HWb.out]
                simp
              have q0 := K5.out.cell (i := 0) rfl
              have qf := K5.out.frozen 0
              have qz := K5.out.lt
              have hgS := grown_set W7 ⟨W3.heap.size, 0, none⟩ (.int .i64 ((cc : Int) + 1))
              have K5b : Hid (Blk (W7.setCell ⟨W3.heap.size, 0, none⟩ (.int .i64 ((cc : Int) + 1))) W3.heap.size 3 #[.int .i64 ((cc : Int) + 1)]) := K5.out.one _
              have HKn2 : Hid (Known (W7.setCell ⟨W3.heap.size, 0, none⟩ (.int .i64 ((cc : Int) + 1))) M (k + 1 + 1) t) := HKn.out.kept hgS (fun e => by have e' : M = W3.heap.size := Option.some.inj e; omega)
              have H36 : Hid (BB W2.heap.size M W2 (W7.setCell ⟨W3.heap.size, 0, none⟩ (.int .i64 ((cc : Int) + 1)))) := H35.out.grown hgS (fun r e => by cases e; exact .inr (by show W2.heap.size ≤ W3.heap.size; omega)) (by omega)
              have K4b : Hid (Blk (W7.setCell ⟨W3.heap.size, 0, none⟩ (.int .i64 ((cc : Int) + 1))) W2.heap.size 47 #[.pointer (some ⟨T, 0, none⟩)]) := K4.out.grown hgS (fun e => by have e' : W2.heap.size = W3.heap.size := Option.some.inj e; omega)
              have hKs2 : Hid (KS W4.heap.size W (W7.setCell ⟨W3.heap.size, 0, none⟩ (.int .i64 ((cc : Int) + 1)))) := hKs.out.trans (KS.grown hgS (fun r e => by cases e; show W3.heap.size ≠ W4.heap.size; omega))
              clear hgS hsz3 hsz4 hsz5
              gi_wp2
              rw [← HQ.out]
              refine ⟨(KeepsFrom.of_grownBy hG.out (fun j e => by cases e; have := HSz5.out; have := HSz4.out; omega)).trans ((KeepsOthers.setCell _ _ _).from _), hKs2.out, ⟨k + 1 + 1, HKn2.out, by rw [List.length_append]; simp; omega⟩, H36.out, K4b.out, ?_⟩
              rw [HS2.out]
              exact K5b.out
        case done =>
          rintro D ys W hD hys ⟨⟨k, h1, h2⟩, h3, h4, h5⟩ hK
          rw [hys] at h5
          have HC : Hid ((((subL (othN t bn)).filter (wtB t nn bn)).length : Int) = (wtN t (nn : Int).toNat (bn : Int).toNat : Int)) := rfl
          have q0 := h5.cell (i := 0) rfl
          have qz := h5.lt
          rw [HC.out] at q0
          have HBf : Hid (Below w.heap.size w W) := HB2.out.trans (h3.below (by have := HM2.out; omega) HB2.out.size)
          have HK := Lib.hid hK
          have hDw : w.heap.size ≤ D := by have := HB2.out.size; omega
          clear h1 h2 h3 h4 h5 hK hys HW hsz3 hsz4 hsz5
          gi_wp2
          refine ⟨by simp, .inl ⟨_, _, rfl, run_takeDeferred HK.out, ?_⟩⟩
          refine ⟨_, by simp [results, Tryz.results14, go_sem], rfl, HBf.out.grown (grownBy_putObj' _ D _) HBf.out.size (fun r e => by cases e; omega)⟩
        case stop =>
          rintro D c pre W _ _ h _
          exact h.elim
    · have F := HC2.out H0.out (by rw [HBI.out, HTn.out, ho]; rfl)
      subst F
      refine wpIn_region_ordW (fun w' => ∃ u : Later W3, w' = u.w) 12 (fun k => decide (k < 12) && !(k == 5)) (ordOf _ [0, 1, 2, 3, 4, 5, 6, 7, 8, 9, 10, 11, 12, 13, 14, 15]) (by kernel_rfl) (by kernel_rfl) (by kernel_rfl) (ordOf_mem _ _) ?_
      simp only [ordOf, List.filterMap_cons, List.filterMap_nil, List.getElem?_cons_zero, List.getElem?_cons_succ, Option.map_some]
      iterate 5 ((first | refine ord_quiet rfl rfl rfl HS0.out ?_ | refine ord_len rfl _ _ _ Tryz.underlying22 _ _ _ rfl rfl rfl HS0.out ?_); intro K hK; go_big_quiet_op; go_big_quiet_on)
      refine ord_op rfl ?_
      go_wp2_with (go_at_call 37; refine (out_any _ _ _ _).mono ?_; rintro e w' ⟨rfl, rfl⟩)
      refine mix_post (fun _ => HS0.out) ?_
      refine ord_quiet rfl rfl rfl HS0.out ?_; intro K hK; go_big_quiet_op; go_big_quiet_on
      iterate 5 (refine ord_skip rfl rfl HS0.out ?_; simp only [Act.put, List.setIfInBounds_toArray, List.set_cons_succ, List.set_cons_zero])
      clear x1 x2 x3 x4 HS0
      iterate 4 (refine ord_op rfl ?_; go_wp2_with fail; refine mix_post (fun h => absurd h (by decide)) ?_)
      refine ord_nil ?_
      refine OnlyN.normal ?_
      gi_wp2
      exact ⟨_, by simp [results, Tryz.results14, go_sem], rfl, HB2.out.trans ((HB3.out.trans (HB3d.out.mono HB3.out.size)).mono HB2.out.size)⟩
end Go.Proofs.YtadldndpphdmpaaGreat
