/- Count: a walk. -/
import Derived.Test.YtadldndpphdmpaaGreatP8
import Derived.Test.YtadldndpphdmpaaGreatHoa
import Derived.Test.YtadldndpphdmpaaGreatP4
namespace Go.Proofs.YtadldndpphdmpaaGreat
open Go.RowKit Go.Shelf
attribute [local go_sem] Oper.semAt_some


theorem count_ok {t : List Nd} {node : Int} (h : (aboutT t node []).1 = 0) : countT t node = ((cntN t node.toNat : Int), 0) := by
  rw [ask_about] at h
  unfold countT
  rw [if_neg (fun c => c h)]
theorem count_err {t : List Nd} {node : Int} {x : Int} (h : (aboutT t node []).1 = x) (hx : x ≠ 0) : countT t node = (0, x) := by
  rw [ask_about] at h
  unfold countT
  rw [h, if_pos hx]

set_option maxRecDepth 100000 in
set_option maxHeartbeats 8000000 in
theorem Count_any (t : List Nd) (node : Int) (A : Option Addr) (n c : Nat) (ms : List NdM) (w : World) (hT : TrM w t A n ms) (hc : n ≤ c) :
    Calls Tryz.prog 12 #[.agg #[.slice A n c], .int .i64 node] w fun e w' => e = .returned (.tuple #[.int .i64 (countT t node).1, .int .i64 (countT t node).2]) ∧ Below w.heap.size w w' := by
  obtain ⟨W1, hW1⟩ : ∃ W1, (w.alloc (.cells #[.slice A n c] 24)).alloc (.cells #[.int .i64 node] 3) = W1 := ⟨_, rfl⟩
  have HB1 : Hid (Below w.heap.size w W1) := by rw [← hW1]; exact ((Below.refl _ w).alloc (Nat.le_refl _) _).alloc (by simp) _
  have K1 : Hid (Blk W1 (w.heap.size + 1) 3 #[.int .i64 node]) := by rw [← hW1]; exact Blk.new _ _ _ (by simp)
  have K0 : Hid (Blk W1 w.heap.size 24 #[.slice A n c]) := by rw [← hW1]; exact (Blk.new w _ _ rfl).alloc _
  have HAb := Lib.hid (about_any t node [] A n c ms none 0 0 [] W1 (hT.below HB1.out) hc (LsM.zero _ _) (by omega))
  have HW1 := Lib.hid hW1
  have HC0 := Lib.hid (fun x h1 h2 => count_err (t := t) (node := node) (x := x) h1 h2)
  have HC1 := Lib.hid (fun h => count_ok (t := t) (node := node) h)
  generalize countT t node = CT at *
  clear hW1 hT
  refine (callsIn_wide (n := 9)).1 ?_
  refine callsIn_of_wp_marks Tryz.func12 rfl trivial ?_ rfl
  simp only [Tryz.ntmps12, List.size_toArray, List.length_cons, List.length_nil, Nat.reduceAdd, Nat.reduceSub, Array.replicate_succ, Array.replicate_zero, List.push_toArray, List.append_toArray, List.nil_append, List.cons_append]
  gi_wp2
  rw [HW1.out]
  refine ⟨trivial, CallsIn.mono (callsIn_wide.2 HAb.out) ?_⟩
  rintro e W2 (⟨h0, rfl, hb⟩ | ⟨h0, T, M, cr, R, v, rfl, hF, hrow, hb, hM, hTb⟩)
  · have HB2 := Lib.hid (HB1.out.trans (hb.mono HB1.out.size))
    have hne : ((aboutT t node []).1 != 0) = true := by simpa using h0
    have F := HC0.out _ rfl h0
    subst F
    generalize hxx : (aboutT t node []).1 = x at *
    clear h0 hb HAb HC0 HC1
    gi_wp2
    exact ⟨_, by simp [results, Tryz.results12, go_sem], rfl, HB2.out.alloc HB2.out.size _⟩
  · have HB2 := Lib.hid (HB1.out.trans (hb.mono HB1.out.size))
    obtain ⟨n0, n1, n40⟩ := about_node h0
    obtain ⟨nn, rfl⟩ : ∃ nn : Nat, node = (nn : Int) := ⟨node.toNat, by omega⟩
    have F := HC1.out h0
    subst F
    have hok := hF.ok
    have KN := Lib.hid (K1.out.later hb)
    obtain ⟨W3, hW3⟩ : ∃ W3, (W2.alloc (.cells #[.pointer (some ⟨T, 0, none⟩)] 47)).alloc (.cells #[.int .i64 0] 3) = W3 := ⟨_, rfl⟩
    have HSz3 : Hid (W3.heap.size = W2.heap.size + 2) := by show _ = _; rw [← hW3]; simp
    have HB3 : Hid (Below W2.heap.size W2 W3) := by rw [← hW3]; exact ((Below.refl _ _).alloc (Nat.le_refl _) _).alloc (by simp) _
    have KF : Hid (Blk W3 W2.heap.size 47 #[.pointer (some ⟨T, 0, none⟩)]) := by rw [← hW3]; exact (Blk.new _ _ _ rfl).alloc _
    have KM : Hid (Blk W3 (W2.heap.size + 1) 3 #[.int .i64 0]) := by rw [← hW3]; exact Blk.new _ _ _ (by simp)
    have KN3 := Lib.hid (KN.out.later HB3.out)
    have HF2 := Lib.hid hF
    have HF3 := Lib.hid (hF.below HB3.out)
    have HW3 := Lib.hid hW3
    have HM2 : Hid (w.heap.size ≤ M) := by have := HB1.out.size; show _ ≤ _; omega
    have qb := HF2.out.blk.cell (i := 2) rfl
    have qbl := HF2.out.blk.lt
    clear hW3 hF hrow hb hM hTb HAb h0 HC0 HC1
    have HSu := Lib.hid (subsets_any (bas t) W3)
    have HBa := Lib.hid (bas_lt64 hok)
    gi_wp2
    rw [HW3.out]
    refine ⟨trivial, CallsIn.mono (callsIn_wide.2 HSu.out) ?_⟩
    rintro e W4 ⟨rfl, hW4⟩
    have HB4 : Hid (Below W3.heap.size W3 W4) := by rw [← hW4]; exact (Below.refl _ _).alloc (Nat.le_refl _) _
    have KA : Hid (Blk W4 W3.heap.size 57 #[.int .u64 (bas t)]) := by rw [← hW4]; exact Blk.new _ _ _ rfl
    have HSz4 : Hid (W4.heap.size = W3.heap.size + 1) := by show _ = _; rw [← hW4]; simp
    have KF4 := Lib.hid (KF.out.later HB4.out)
    have KM4 := Lib.hid (KM.out.later HB4.out)
    have KN4 := Lib.hid (KN3.out.later HB4.out)
    have HB24 : Hid (Below W2.heap.size W2 W4) := HB3.out.trans (HB4.out.mono HB3.out.size)
    clear hW4 qb qbl
    gi_wp2
    have hsz3 := HSz3.out
    have hsz4 := HSz4.out
    have HW := subsets1_stopsC 8 (by omega) W3.heap.size (bas t) W4 (KA.out.cell (i := 0) rfl) HBa.out
    have hML := HF2.out.kn.lt
    refine wpIn_rangeFunc_ownH rfl (by omega) (gf := 50) (lb := #[.pointer (some ⟨W3.heap.size, 0, none⟩)]) rfl trivial (enters_of Tryz.func50 (by kernel_rfl) rfl)
      HW (fun h k => h.trans k) (fun W l o o' _ hl ho _ => KS.nonCells (grownBy_putObj' W l o') (fun r e => by cases e; exact ⟨o, hl, ho⟩)) (Below.refl _ _) (fun _ => rfl)
      (fun pre W => (∃ k, Known W M k t ∧ k ≤ pre.length) ∧ BB W2.heap.size M W2 W ∧ Blk W W2.heap.size 47 #[.pointer (some ⟨T, 0, none⟩)] ∧ Blk W (W2.heap.size + 1) 3 #[.int .i64 (((pre.map (·.1)).filter fun s => (eff t s).testBit nn).length : Int)])
      (fun _ _ _ => False)
      ?own
      (fun _ _ _ _ _ hs _ _ => hs)
      ⟨⟨0, HF3.out.kn.below HB4.out, Nat.le_refl _⟩, BB.of_below HB24.out (Nat.le_refl _), KF4.out, KM4.out⟩
      (fun x a' W => a' = { tmps := #[.agg #[.slice A n c], .int .i64 nn, .pointer (some ⟨w.heap.size, 0, none⟩), .pointer (some ⟨w.heap.size + 1, 0, none⟩), .int .i64 0, .int .i64 0, .pointer (some ⟨W2.heap.size, 0, none⟩), v, .int .i64 0, .pointer (some ⟨W2.heap.size + 1, 0, none⟩), .int .u64 x.1, .tuple #[.pointer (some ⟨T, 0, none⟩), v, .int .i64 0], .agg #[.slice A n c], .int .i64 nn, .tuple #[.pointer (some ⟨T, 0, none⟩), v, .int .i64 0], .pointer (some ⟨T, 0, none⟩), v, .int .i64 0, .int .i64 0, .bool false, undef, .pointer (some ⟨T, 0, none⟩), .pointer (some ⟨T, 0, none⟩), .pointer (some ⟨T, 2, none⟩), .int .u64 (bas t), .func (.func 50) #[] #[.pointer (some ⟨W3.heap.size, 0, none⟩)], .int .u64 x.1, undef, undef, undef, undef, undef, undef, undef, undef], defers := [] })
      (fun x a' _ X Y row hs hg hr => hs)
      ?assign ?body ?done ?stop
    case own =>
      intro pre X Y row hs hg hr
      obtain ⟨⟨k, h1, h2⟩, h3, h4, h5⟩ := hs
      have hblk : ∀ B tt vs, Blk X B tt vs → Blk Y B tt vs := fun B tt vs hb => hb.grown hg (fun e => by
        obtain ⟨_, o, ho, hc⟩ := hr _ e.symm
        rw [show X.heap[B]? = _ from hb] at ho
        cases ho
        cases hc)
      exact ⟨⟨k, h1.kept hg (fun e => by have := (hr M e.symm).1; omega), h2⟩, h3.grown hg (fun r e => .inr (by have := (hr r e).1; omega)) h3.size, hblk _ _ _ h4, hblk _ _ _ h5⟩
    case assign =>
      rintro l pre x W K hI hK
      clear hsz3 hsz4
      gi_wp2
      exact hK _ _ (KeepsFrom.refl _ _) (KS.refl _ _) hI rfl
    case body =>
      rintro l pre ⟨s, hs⟩ a' W hl ⟨r, hr'⟩ ⟨⟨k, h1, h2⟩, h3, h4, h5⟩ rfl hlt
      dsimp only at *
      generalize hQ : ownPostG W4.heap.size _ _ _ (pre ++ [(⟨s, hs⟩ : SubT (bas t))]) W = PP
      have HQ := Lib.hid hQ
      clear hQ
      have hpl : pre.length < 1024 := Nat.lt_of_lt_of_le hlt (subL_short hok (sub_all t) HBa.out)
      have hsT : Sub t s := fun j hj => sub_all t j (hs j hj)
      have hFW := HF2.out.move h3 h1
      have HF := Lib.hid (hFW.below ((Below.refl W.heap.size W).drew))
      have HE := Lib.hid (effects_any t s T A n c ms R cr M k W.drew HF.out hsT (by omega))
      have HLt : Hid (eff t s < 18446744073709551616) := by have := pow_40 hok (eff_lt hok hsT); show _ < _; omega
      have HH : Hid (∀ W, Calls Tryz.prog 26 #[.int .u64 (eff t s), .int .i64 nn] W fun e w' => e = .returned (.bool ((eff t s).testBit nn)) ∧ W = w') := fun W => has_any (eff t s) nn W HLt.out (by omega)
      have HSn := Lib.hid (flt_snoc pre ⟨s, hs⟩ (fun s => (eff t s).testBit nn))
      dsimp only at HSn
      have cf := h4.cell (i := 0) rfl
      have cn : W.cell? ⟨w.heap.size + 1, 0, none⟩ = some (.int .i64 nn) := h3.cell KN.out.lt HF2.out.kn.noCells (KN.out.cell (i := 0) rfl)
      have x1 := laterBut_cell (row := some M) cf (fun e => absurd (Option.some.inj e) (hFW.ne1 cf))
      have x2 := laterBut_cell (row := some M) cn (fun e => absurd (Option.some.inj e) (hFW.ne1 cn))
      have H1 := Lib.hid h1; have H3 := Lib.hid h3; have H4 := Lib.hid h4; have H5 := Lib.hid h5
      have hfl : ((pre.map (·.1)).filter fun s => (eff t s).testBit nn).length ≤ pre.length := Nat.le_trans (List.length_filter_le _ _) (by simp)
      have hw3 := h3.size
      clear h1 h3 h4 h5 hFW hr' hsT cf cn HW HSu HLt hsz3 hsz4
      gi_wp2
      have HS0 : Hid ((fun w' => ∃ u : LaterBut W (some M), w' = u.w) W.drew) := ⟨⟨W.drew, grown_of_below (Below.refl _ _).drew _⟩, rfl⟩
      refine wpIn_region_ord (fun w' => ∃ u : LaterBut W (some M), w' = u.w) 4 (fun k => k == 0 || k == 1 || k == 3) (ordOf _ [0, 1, 3, 2, 4]) (by kernel_rfl) (by kernel_rfl) (by kernel_rfl) (ordOf_mem _ _) ?_
      simp only [ordOf, List.filterMap_cons, List.filterMap_nil, List.getElem?_cons_zero, List.getElem?_cons_succ, Option.map_some]
      iterate 3 (refine ord_quiet rfl rfl rfl HS0.out ?_; intro K hK; go_big_quiet_op; go_big_quiet_on)
      clear x1 x2
      refine ord_op rfl ?_
      go_wp2_with fail
      refine HE.out.mono ?_
      rintro e W5 ⟨rfl, hF5, hb5⟩
      have HF5 := Lib.hid hF5
      have HB5 : Hid (BB W.heap.size M W W5) := (BB.of_below (Below.refl W.heap.size W).drew (Nat.le_refl _)).trans hb5
      clear hF5 hb5
      have HS1 : Hid ((fun w' => ∃ u : LaterBut W (some M), w' = u.w) W5) := ⟨⟨W5, HB5.out.toGrown (Nat.le_refl _)⟩, rfl⟩
      go_wp2_with fail
      refine mix_post (fun _ => HS1.out) ?_
      refine ord_op rfl ?_
      go_wp2_with (go_at_call 26; refine (HH.out _).mono ?_; rintro e w' ⟨rfl, rfl⟩)
      refine mix_post (fun h => absurd h (by decide)) ?_
      refine ord_nil ?_
      refine OnlyN.normal ?_
      have hsz3 := HSz3.out
      have hsz4 := HSz4.out
      have hG := Lib.hid (HB5.out.toGrown (Nat.le_refl _))
      have K4 := Lib.hid (H4.out.grown hG.out (fun e => by have e' : W2.heap.size = M := Option.some.inj e; omega))
      have K5 := Lib.hid (H5.out.grown hG.out (fun e => by have e' : W2.heap.size + 1 = M := Option.some.inj e; omega))
      have H35 : Hid (BB W2.heap.size M W2 W5) := H3.out.trans (HB5.out.lower hw3)
      have hKs : Hid (KS W3.heap.size W W5) := KS.grown hG.out (fun r e => by cases e; omega)
      have hw5 := HB5.out.size
      clear HH HE HS0 HS1
      generalize (eff t s).testBit nn = bb at *
      generalize hcc : ((pre.map (·.1)).filter fun s => (eff t s).testBit nn).length = cc at K5 hfl
      have HCC := Lib.hid hcc
      clear hcc
      cases bb with
      | false =>
        have HS2 : Hid (((((pre ++ [(⟨s, hs⟩ : SubT (bas t))]).map (·.1)).filter fun s => (eff t s).testBit nn).length : Int) = (cc : Int)) := by
          show _ = _
          rw [HSn.out, List.length_append, HCC.out]
          simp
        gi_wp2
        rw [← HQ.out]
        refine ⟨KeepsFrom.of_grownBy hG.out (fun j e => by cases e; omega), hKs.out, ⟨k + 1, HF5.out.kn, by rw [List.length_append]; simp; omega⟩, H35.out, K4.out, ?_⟩
        rw [HS2.out]
        exact K5.out
      | true =>
        have HS2 : Hid (((((pre ++ [(⟨s, hs⟩ : SubT (bas t))]).map (·.1)).filter fun s => (eff t s).testBit nn).length : Int) = (cc : Int) + 1) := by
          show _ = _
          rw [HSn.out, List.length_append, HCC.out]
          simp
        have q0 := K5.out.cell (i := 0) rfl
        have qf := K5.out.frozen 0
        have qz := K5.out.lt
        have hgS := grown_set W5 ⟨W2.heap.size + 1, 0, none⟩ (.int .i64 ((cc : Int) + 1))
        have HGS := Lib.hid hgS
        have K5b : Hid (Blk (W5.setCell ⟨W2.heap.size + 1, 0, none⟩ (.int .i64 ((cc : Int) + 1))) (W2.heap.size + 1) 3 #[.int .i64 ((cc : Int) + 1)]) := K5.out.one _
        have HKn : Hid (Known (W5.setCell ⟨W2.heap.size + 1, 0, none⟩ (.int .i64 ((cc : Int) + 1))) M (k + 1) t) := HF5.out.kn.kept hgS (fun e => by have e' : M = W2.heap.size + 1 := Option.some.inj e; omega)
        have H36 : Hid (BB W2.heap.size M W2 (W5.setCell ⟨W2.heap.size + 1, 0, none⟩ (.int .i64 ((cc : Int) + 1)))) := H35.out.grown hgS (fun r e => by cases e; exact .inr (by show W2.heap.size ≤ W2.heap.size + 1; omega)) (by omega)
        have K4b : Hid (Blk (W5.setCell ⟨W2.heap.size + 1, 0, none⟩ (.int .i64 ((cc : Int) + 1))) W2.heap.size 47 #[.pointer (some ⟨T, 0, none⟩)]) := K4.out.grown hgS (fun e => by have e' : W2.heap.size = W2.heap.size + 1 := Option.some.inj e; omega)
        have hKs2 : Hid (KS W3.heap.size W (W5.setCell ⟨W2.heap.size + 1, 0, none⟩ (.int .i64 ((cc : Int) + 1)))) := hKs.out.trans (KS.grown hgS (fun r e => by cases e; show W2.heap.size + 1 ≠ W3.heap.size; omega))
        clear hgS hsz3 hsz4
        gi_wp2
        rw [← HQ.out]
        refine ⟨(KeepsFrom.of_grownBy hG.out (fun j e => by cases e; have := HSz4.out; have := HSz3.out; omega)).trans ((KeepsOthers.setCell _ _ _).from _), hKs2.out, ⟨k + 1, HKn.out, by rw [List.length_append]; simp; omega⟩, H36.out, K4b.out, ?_⟩
        rw [HS2.out]
        exact K5b.out
    case done =>
      rintro D ys W hD hys ⟨⟨k, h1, h2⟩, h3, h4, h5⟩ hK
      rw [hys] at h5
      have HC : Hid ((((subL (bas t)).filter fun s => (eff t s).testBit nn).length : Int) = (cntN t (nn : Int).toNat : Int)) := rfl
      have q0 := h5.cell (i := 0) rfl
      have qz := h5.lt
      rw [HC.out] at q0
      have HBf : Hid (Below w.heap.size w W) := HB2.out.trans (h3.below HM2.out HB2.out.size)
      have HK := Lib.hid hK
      have hDw : w.heap.size ≤ D := by have := HB2.out.size; omega
      clear h1 h2 h3 h4 h5 hK hys HW hsz3 hsz4
      gi_wp2
      refine ⟨by simp, .inl ⟨_, _, rfl, run_takeDeferred HK.out, ?_⟩⟩
      refine ⟨_, by simp [results, Tryz.results12, go_sem], rfl, HBf.out.grown (grownBy_putObj' _ D _) HBf.out.size (fun r e => by cases e; omega)⟩
    case stop =>
      rintro D c pre W _ _ h _
      exact h.elim
end Go.Proofs.YtadldndpphdmpaaGreat
