import Derived.Test.YtjdaigffgfnhaaaGreatBn
import Derived.Test.YtjdaigffgfnhaaaGreatMix2
namespace Go.Proofs.YtjdaigffgfnhaaaGreat
open Go.RowKit

structure Vars.Apart (V : Vars) : Prop where
  h1 : V.bn ≠ V.bf
  h2 : V.bn ≠ V.bl
  h3 : V.bn ≠ V.bs
  h4 : V.bn ≠ V.R
  h5 : V.bf ≠ V.bl
  h6 : V.bf ≠ V.bs
  h7 : V.bf ≠ V.R
  h8 : V.bl ≠ V.bs
  h9 : V.bl ≠ V.R
  h10 : V.bs ≠ V.R
  h11 : V.bt + 2 < V.bx

def NextPost (V : Vars) (n' : Nat) (ss : List Int) (acc' : Acc) (w : World) (e : Ending) (w' : World) : Prop :=
  e = .returned (.tuple #[]) ∧ KeepEx V.ex w w' ∧ NowM V w' n' ss ss.length ∧ AccM V w' acc'

theorem harmR_bounds {t : Task} (h : TaskOK t) (ss : List Int) : 0 ≤ (harmR t ss).1 ∧ (harmR t ss).1 ≤ 200 ∧ 1 ≤ (harmR t ss).2 ∧ (harmR t ss).2 ≤ 200 := by
  have h1 := ofF_bounds (harmW (ss.zip t.works)) h.rd.y0 h.rd.y1
  have h2 := yearsL_len t.rd.first (ofF t.rd.years (harmW (ss.zip t.works))) (harmP t.rd.highs (ss.zip t.works))
  unfold harmR harmL
  dsimp only
  omega
theorem cmp_le {a b : Int × Int} : decide (cmpF a b ≤ 0) = !gtB a b := by
  have := cmp_gt (a := a) (b := b)
  rw [← this]
  by_cases h : 0 < cmpF a b
  · simp [h]
  · have h' : cmpF a b ≤ 0 := by omega
    simp [h, h']
theorem cmp_lt {a b : Int × Int} : decide (cmpF a b < 0) = gtB b a := by
  unfold cmpF gtB Lib.compareInt
  by_cases h1 : a.1 * b.2 < b.1 * a.2
  · rw [if_pos h1]; simp [h1]
  · rw [if_neg h1]
    by_cases h2 : a.1 * b.2 > b.1 * a.2
    · rw [if_pos h2]; simp; omega
    · rw [if_neg h2]; simp; omega

theorem acc_gt {t : Task} {acc : Acc} {ss : List Int} (h : gtB (harmR t ss) t.plan = true) : accStep t acc ss = acc := by unfold accStep; rw [if_pos h]
theorem acc_none {t : Task} {ss : List Int} (h : gtB (harmR t ss) t.plan = false) : accStep t none ss = some (ss, harmR t ss) := by unfold accStep; rw [if_neg (by rw [h]; simp)]
theorem acc_yes {t : Task} {q : List Int × (Int × Int)} {ss : List Int} (h : gtB (harmR t ss) t.plan = false) (h2 : gtB q.2 (harmR t ss) = true) : accStep t (some q) ss = some (ss, harmR t ss) := by unfold accStep; rw [if_neg (by rw [h]; simp)]; dsimp only; rw [if_pos h2]
theorem acc_no {t : Task} {q : List Int × (Int × Int)} {ss : List Int} (h : gtB (harmR t ss) t.plan = false) (h2 : gtB q.2 (harmR t ss) = false) : accStep t (some q) ss = some q := by unfold accStep; rw [if_neg (by rw [h]; simp)]; dsimp only; rw [if_neg (by rw [h2]; simp)]

theorem own_far {w : World} {base : Nat} {e : TypeId} {size g n cap : Nat} {xs : List Value} (h : w.ownsRow base e size (.slice (some ⟨g, 0, none⟩) n cap) n xs) {p : Addr} (hp : g ≠ p.block) (u : Value) : (w.setCell p u).ownsRow base e size (.slice (some ⟨g, 0, none⟩) n cap) n xs := by
  refine ⟨h.1, ?_⟩
  rcases h.2 with ⟨h0, _⟩ | ⟨g', cap', cur, h1, h2, h3, h4⟩
  · cases h0
  · cases h1
    exact .inr ⟨g, cap, cur, rfl, h2, (Below.heap_setCell w p u g hp).trans h3, h4⟩
theorem now_keep {V : Vars} {n' j : Nat} {ss : List Int} {w w' : World} (h : NowM V w n' ss j) (hb : Below w.heap.size w w') : NowM V w' n' ss j :=
  ⟨h.1.later hb, h.2.kept (grown_of_below hb none) (by simp [Value.ownBlock])⟩
theorem acc_keep {V : Vars} {acc : Acc} {w w' : World} (h : AccM V w acc) (hb : Below w.heap.size w w') : AccM V w' acc := by
  cases acc with
  | none =>
    obtain ⟨h1, ⟨x, y, h2, h3⟩, v, h4⟩ := h
    exact ⟨h1.later hb, ⟨x, y, h2.later hb, h3⟩, v, h4.later hb⟩
  | some q =>
    obtain ⟨h1, h2, h3, A, c, h4, h5, h6⟩ := h
    exact ⟨h1.later hb, h2.later hb, h3, A, c, h4.later hb, h5.keep (.of_below hb), h6⟩

set_option maxRecDepth 100000 in
set_option maxHeartbeats 1000000 in
theorem leaf_gt (V : Vars) (t : Task) (p : Nat) (A : Option Addr) (n c : Nat) (A' : Option Addr) (n' c' : Nat) (Ac : Option Addr) (cc : Nat) (ss : List Int) (acc : Acc) (w : World) (hF : Fix V w t p A n c A' n' c' Ac cc) (hok : TaskOK t) (ha : Ask t ss n') (hl : ss.length = n') (hN : NowM V w n' ss ss.length) (hA : AccM V w acc) (hg : gtB (harmR t ss) t.plan = true) :
    Calls Tryz.prog 47 V.ptrs w (NextPost V n' ss acc w) := by
  have hd : decide (cmpF (harmR t ss) t.plan ≤ 0) = false := by rw [cmp_le, hg]; rfl
  clear hg
  obtain ⟨rb1, rb2, rb3, rb4⟩ := harmR_bounds hok ss
  obtain ⟨⟨pl1, pl2⟩, pl3, pl4⟩ := hok.plan
  have hrd := rdI_of_own hN.2 rfl
  obtain ⟨A2, c2, e2, hrd, _⟩ := hrd
  cases e2
  have n0 := hN.1.cell (i := 0) rfl
  have t3 := hF.tb.cell (i := 3) rfl
  have t8 := hF.tb.cell (i := 8) rfl
  have t9 := hF.tb.cell (i := 9) rfl
  have p0 := hF.pb.cell (i := 0) rfl
  have x1 : V.bn < w.heap.size := hN.1.lt
  have x2 : V.bt < w.heap.size := hF.tb.lt
  have x3 : V.bp < w.heap.size := hF.pb.lt
  have heq : ((ss.length : Int) == (n' : Int)) = true := by simp [hl]
  have HF := Lib.hid hF; clear hF
  have HN := Lib.hid hN; clear hN
  have HA := Lib.hid hA; clear hA
  have HRd := Lib.hid hrd; clear hrd
  have HL := Lib.hid hl; clear hl
  have HHarm : ∀ W, Below w.heap.size w W → Calls Tryz.prog 48 #[.pointer (some ⟨p, 0, none⟩), .slice (some ⟨V.R, 0, none⟩) ss.length n'] W (HarmPost t ss W) := fun W hW =>
    harm_any t p A n c A' n' c' _ _ _ ss W ((HF.out.pl.pl).below hW) hok (HRd.out.below hW) HL.out ha.day
  unfold HarmPost at HHarm
  have HHm := Lib.hid HHarm; clear HHarm
  clear hok ha
  generalize harmL t ss = hL at HHm
  generalize harmR t ss = r at *
  obtain ⟨r1, r2⟩ := r
  dsimp only at rb1 rb2 rb3 rb4
  unfold Vars.ptrs
  go_enter Tryz.func47, Tryz.ntmps47
  go_wp2_with fail
  refine (HHm.out _ ((Below.refl _ _).alloc (Nat.le_refl _) _)).mono ?_
  rintro e W2 ⟨v, rfl, hov, hb2⟩
  have HB2 : Hid (Below w.heap.size w W2) := ((Below.refl _ w).alloc (Nat.le_refl _) _).trans (hb2.mono (by simp))
  have u8 := cell_below HB2.out t8
  have u9 := cell_below HB2.out t9
  clear hov hb2 t8 t9 t3 n0 p0
  have hszz : V.bt < W2.heap.size := Nat.lt_of_lt_of_le x2 HB2.out.size
  go_wp2_with (go_at_call 49; refine (compare_any _ _ _ _ _ (by omega) (by omega) (by omega) (by omega) (by omega) (by omega) (by omega) (by omega)).mono ?_; rintro e W3 ⟨rfl, hb3⟩; have HB3 : Hid (Below w.heap.size w W3) := (HB2.out.alloc HB2.out.size _).trans (hb3.mono (by have := HB2.out.size; simp; omega)); skip; clear hb3)
  refine bodyPost_ret (results_none rfl _ _ _) rfl ⟨rfl, .of_below HB3.out, now_keep HN.out HB3.out, acc_keep HA.out HB3.out⟩

set_option maxRecDepth 100000 in
set_option maxHeartbeats 1000000 in
theorem leaf_no (V : Vars) (t : Task) (p : Nat) (A : Option Addr) (n c : Nat) (A' : Option Addr) (n' c' : Nat) (Ac : Option Addr) (cc : Nat) (ss : List Int) (q : List Int × (Int × Int)) (w : World) (hF : Fix V w t p A n c A' n' c' Ac cc) (hok : TaskOK t) (ha : Ask t ss n') (hl : ss.length = n') (hN : NowM V w n' ss ss.length) (hA : AccM V w (some q)) (hg : gtB (harmR t ss) t.plan = false) (hg2 : gtB q.2 (harmR t ss) = false) :
    Calls Tryz.prog 47 V.ptrs w (NextPost V n' ss (some q) w) := by
  have hd : decide (cmpF (harmR t ss) t.plan ≤ 0) = true := by rw [cmp_le, hg]; rfl
  have hd2 : decide (cmpF (harmR t ss) q.2 < 0) = false := by rw [cmp_lt, hg2]
  clear hg hg2
  obtain ⟨af, al, ⟨⟨l0, l1⟩, l2, l3⟩, _⟩ := id hA
  have y1 : V.bf < w.heap.size := af.lt
  have y2 : V.bl < w.heap.size := al.lt
  have HAf := Lib.hid af; clear af
  have HAl := Lib.hid al; clear al
  obtain ⟨rb1, rb2, rb3, rb4⟩ := harmR_bounds hok ss
  obtain ⟨⟨pl1, pl2⟩, pl3, pl4⟩ := hok.plan
  have hrd := rdI_of_own hN.2 rfl
  obtain ⟨A2, c2, e2, hrd, _⟩ := hrd
  cases e2
  have n0 := hN.1.cell (i := 0) rfl
  have t3 := hF.tb.cell (i := 3) rfl
  have t8 := hF.tb.cell (i := 8) rfl
  have t9 := hF.tb.cell (i := 9) rfl
  have p0 := hF.pb.cell (i := 0) rfl
  have x1 : V.bn < w.heap.size := hN.1.lt
  have x2 : V.bt < w.heap.size := hF.tb.lt
  have x3 : V.bp < w.heap.size := hF.pb.lt
  have heq : ((ss.length : Int) == (n' : Int)) = true := by simp [hl]
  have HF := Lib.hid hF; clear hF
  have HN := Lib.hid hN; clear hN
  have HA := Lib.hid hA; clear hA
  have HRd := Lib.hid hrd; clear hrd
  have HL := Lib.hid hl; clear hl
  have HHarm : ∀ W, Below w.heap.size w W → Calls Tryz.prog 48 #[.pointer (some ⟨p, 0, none⟩), .slice (some ⟨V.R, 0, none⟩) ss.length n'] W (HarmPost t ss W) := fun W hW =>
    harm_any t p A n c A' n' c' _ _ _ ss W ((HF.out.pl.pl).below hW) hok (HRd.out.below hW) HL.out ha.day
  unfold HarmPost at HHarm
  have HHm := Lib.hid HHarm; clear HHarm
  clear hok ha
  generalize harmL t ss = hL at HHm
  generalize harmR t ss = r at *
  obtain ⟨r1, r2⟩ := r
  dsimp only at rb1 rb2 rb3 rb4
  unfold Vars.ptrs
  go_enter Tryz.func47, Tryz.ntmps47
  go_wp2_with fail
  refine (HHm.out _ ((Below.refl _ _).alloc (Nat.le_refl _) _)).mono ?_
  rintro e W2 ⟨v, rfl, hov, hb2⟩
  have HB2 : Hid (Below w.heap.size w W2) := ((Below.refl _ w).alloc (Nat.le_refl _) _).trans (hb2.mono (by simp))
  have u8 := cell_below HB2.out t8
  have u9 := cell_below HB2.out t9
  clear hov hb2 t8 t9 t3 n0 p0
  have hszz : V.bt < W2.heap.size := Nat.lt_of_lt_of_le x2 HB2.out.size
  go_wp2_with fail
  refine (compare_any _ _ _ _ _ (by omega) (by omega) (by omega) (by omega) (by omega) (by omega) (by omega) (by omega)).mono ?_
  rintro e W3 ⟨rfl, hb3⟩
  have HB3 : Hid (Below w.heap.size w W3) := (HB2.out.alloc HB2.out.size _).trans (hb3.mono (by have := HB2.out.size; simp; omega))
  have e0 : W3.cell? ⟨W2.heap.size, 0, none⟩ = some (.int .i64 r1) := cell_below hb3 (by simp)
  have e1 : W3.cell? ⟨W2.heap.size, 1, none⟩ = some (.int .i64 r2) := cell_below hb3 (by simp)
  have e2 := (HAf.out.later HB3.out).cell (i := 0) rfl
  have e3 := (HAl.out.later HB3.out).cell (i := 0) rfl
  have e4 := (HAl.out.later HB3.out).cell (i := 1) rfl
  clear hb3 u8 u9
  go_wp2_with fail
  refine (compare_any _ _ _ _ _ (by omega) (by omega) (by omega) (by omega) (by omega) (by omega) (by omega) (by omega)).mono ?_
  rintro e W4 ⟨rfl, hb4⟩
  have HB4 : Hid (Below w.heap.size w W4) := HB3.out.trans (hb4.mono HB3.out.size)
  clear hb4 e0 e1 e2 e3 e4
  go_wp2
  refine bodyPost_ret (results_none rfl _ _ _) rfl ⟨rfl, .of_below HB4.out, now_keep HN.out HB4.out, acc_keep HA.out HB4.out⟩

set_option maxRecDepth 100000 in
set_option maxHeartbeats 1000000 in
theorem leaf_none (V : Vars) (hV : V.Apart) (t : Task) (p : Nat) (A : Option Addr) (n c : Nat) (A' : Option Addr) (n' c' : Nat) (Ac : Option Addr) (cc : Nat) (ss : List Int)  (w : World) (hF : Fix V w t p A n c A' n' c' Ac cc) (hok : TaskOK t) (ha : Ask t ss n') (hl : ss.length = n') (hN : NowM V w n' ss ss.length) (hA : AccM V w none) (hg : gtB (harmR t ss) t.plan = false) :
    Calls Tryz.prog 47 V.ptrs w (NextPost V n' ss (some (ss, harmR t ss)) w) := by
  have hd : decide (cmpF (harmR t ss) t.plan ≤ 0) = true := by rw [cmp_le, hg]; rfl
  clear hg
  have hn4 : ss.length ≤ 4 := by have := hok.len; have := ha.len; have := hF.pl.works.1.1; omega
  obtain ⟨af, ⟨lx, ly, al, ⟨l0, l1⟩, l2, l3⟩, vs, asb⟩ := id hA
  have y1 : V.bf < w.heap.size := af.lt
  have y2 : V.bl < w.heap.size := al.lt
  have y3 : V.bs < w.heap.size := asb.lt
  have HAf := Lib.hid af; clear af
  have HAl := Lib.hid al; clear al
  have HAs := Lib.hid asb; clear asb
  obtain ⟨rb1, rb2, rb3, rb4⟩ := harmR_bounds hok ss
  obtain ⟨⟨pl1, pl2⟩, pl3, pl4⟩ := hok.plan
  have hrd := rdI_of_own hN.2 rfl
  obtain ⟨A2, c2, e2, hrd, _⟩ := hrd
  cases e2
  have n0 := hN.1.cell (i := 0) rfl
  have t3 := hF.tb.cell (i := 3) rfl
  have t8 := hF.tb.cell (i := 8) rfl
  have t9 := hF.tb.cell (i := 9) rfl
  have p0 := hF.pb.cell (i := 0) rfl
  have x1 : V.bn < w.heap.size := hN.1.lt
  have x2 : V.bt < w.heap.size := hF.tb.lt
  have x3 : V.bp < w.heap.size := hF.pb.lt
  have heq : ((ss.length : Int) == (n' : Int)) = true := by simp [hl]
  have HF := Lib.hid hF; clear hF
  have HN := Lib.hid hN; clear hN
  have HA := Lib.hid hA; clear hA
  have HRd := Lib.hid hrd; clear hrd
  have HL := Lib.hid hl; clear hl
  have HHarm : ∀ W, Below w.heap.size w W → Calls Tryz.prog 48 #[.pointer (some ⟨p, 0, none⟩), .slice (some ⟨V.R, 0, none⟩) ss.length n'] W (HarmPost t ss W) := fun W hW =>
    harm_any t p A n c A' n' c' _ _ _ ss W ((HF.out.pl.pl).below hW) hok (HRd.out.below hW) HL.out ha.day
  unfold HarmPost at HHarm
  have HHm := Lib.hid HHarm; clear HHarm
  clear hok ha
  generalize harmL t ss = hL at HHm
  generalize harmR t ss = r at *
  obtain ⟨r1, r2⟩ := r
  dsimp only at rb1 rb2 rb3 rb4
  unfold Vars.ptrs
  go_enter Tryz.func47, Tryz.ntmps47
  go_wp2_with fail
  refine (HHm.out _ ((Below.refl _ _).alloc (Nat.le_refl _) _)).mono ?_
  rintro e W2 ⟨v, rfl, hov, hb2⟩
  have HB2 : Hid (Below w.heap.size w W2) := ((Below.refl _ w).alloc (Nat.le_refl _) _).trans (hb2.mono (by simp))
  have u8 := cell_below HB2.out t8
  have u9 := cell_below HB2.out t9
  clear hov hb2 t8 t9 t3 n0 p0
  have hszz : V.bt < W2.heap.size := Nat.lt_of_lt_of_le x2 HB2.out.size
  go_wp2_with fail
  refine (compare_any _ _ _ _ _ (by omega) (by omega) (by omega) (by omega) (by omega) (by omega) (by omega) (by omega)).mono ?_
  rintro e WX ⟨rfl, hb3⟩
  have HBX : Hid (Below w.heap.size w WX) := (HB2.out.alloc HB2.out.size _).trans (hb3.mono (by have := HB2.out.size; simp; omega))
  have f0 : WX.cell? ⟨W2.heap.size, 0, none⟩ = some (.int .i64 r1) := cell_below hb3 (by simp)
  have f1 : WX.cell? ⟨W2.heap.size, 1, none⟩ = some (.int .i64 r2) := cell_below hb3 (by simp)
  have e2 := (HAf.out.later HBX.out).cell (i := 0) rfl
  clear hb3 u8 u9
  go_wp2_with fail
  clear e2
  have hnn := HN.out.1.later HBX.out
  have hx2 : V.bs < W2.heap.size := Nat.lt_of_lt_of_le y3 HB2.out.size
  have w0 := laterBut_cell (row := some V.bs) (hnn.cell (i := 0) rfl) (by intro e; injection e with e; exact hV.h3 e)
  have w1 := laterBut_cell (row := some V.bs) f0 (by intro e; simp at e; omega)
  have w2 := laterBut_cell (row := some V.bs) f1 (by intro e; simp at e; omega)
  have hcl : ∀ j, j < ss.length → WX.drew.cell? ⟨V.R, 0 + j, none⟩ = some (.int .i64 (ss.getD j 0)) := fun j hj => by
    have h1 := HN.out.2.cellAt j (by omega)
    have h2 : (ss.map (Value.int .i64))[j]? = some (.int .i64 (ss.getD j 0)) := by simp [List.getElem?_eq_getElem hj, List.getD_eq_getElem?_getD]
    rw [h2] at h1
    rw [Nat.zero_add]
    show WX.cell? _ = _
    exact cell_below HBX.out h1
  have HCl := Lib.hid (Tryz.slices_Clone_int V.R 0 ss.length n' ss WX.drew (Nat.le_refl _) (by omega) hcl)
  clear hcl hnn f0 f1
  have xx1 : V.bn < WX.heap.size := Nat.lt_of_lt_of_le x1 HBX.out.size
  have HS0 : Hid ((fun w' => ∃ u : LaterBut WX (some V.bs), w' = u.w) WX.drew) := ⟨⟨WX.drew, ⟨rfl, rfl, rfl, Nat.le_refl _, fun _ _ _ => rfl⟩⟩, rfl⟩
  refine wp_region_noPanic ?_
  refine wp_region_ord (fun w' => ∃ u : LaterBut WX (some V.bs), w' = u.w) 4 (fun k => k == 0 || k == 2) (ordOf _ [0, 2, 1, 3, 4, 5]) (by kernel_rfl) (by kernel_rfl) (ordOf_mem _ _) (fun _ _ _ _ _ h => h) ?_
  simp only [ordOf, List.filterMap_cons, List.filterMap_nil, List.getElem?_cons_zero, List.getElem?_cons_succ, Option.map_some]
  iterate 2 (refine ord_quiet rfl rfl rfl HS0.out ?_; intro K hK; go_big_quiet_op; go_big_quiet_on)
  clear w0 w1 w2
  refine ord_op rfl ?_
  go_wp2_with (go_at_call 50; refine HCl.out.mono ?_; rintro e WY ⟨v', rfl, hov, hnv, hby⟩; have HBY : Hid (Below WX.heap.size WX WY) := below_of_drew hby; have HOV := Lib.hid hov; clear hby hov hnv)
  refine mix_post (fun _ => ⟨⟨WY, grown_of_below HBY.out _⟩, rfl⟩) ?_
  have HBT : Hid (Below w.heap.size w WY) := HBX.out.trans (HBY.out.mono HBX.out.size)
  have hov := HOV.out
  rw [List.take_length] at hov
  obtain ⟨Av, cv, hve, hrv, hcv, _⟩ := rdI_of_own hov rfl
  have HCV := Lib.hid hcv; clear hcv
  have HOV2 := Lib.hid hov
  clear hov HOV
  have HRV := Lib.hid hrv; clear hrv
  subst hve
  have BS := HAs.out.later HBT.out
  have BL := HAl.out.later HBT.out
  have BF := HAf.out.later HBT.out
  have s0 := BS.cell (i := 0) rfl
  have s1 := BS.frozen 0
  have s2 := BL.cell (i := 0) rfl
  have s3 := BL.frozen 0
  have s4 := BL.cell (i := 1) rfl
  have s5 := BL.frozen 1
  have s6 := BF.cell (i := 0) rfl
  have s7 := BF.frozen 0
  have HBS := Lib.hid BS; have HBL := Lib.hid BL; have HBF := Lib.hid BF
  clear BS BL BF
  obtain ⟨v1, v2, v3, v4, v5, v6, v7, v8, v9, v10, v11⟩ := hV
  have HGY : Hid (WX.grownBy (WY.setCell ⟨V.bs, 0, none⟩ (.slice Av ss.length cv)) (some V.bs)) := by
    have h1 := grown_of_below HBY.out (some V.bs)
    exact ⟨h1.os, h1.tape, h1.output, by simpa [World.setCell] using h1.size, fun i hi hne => (Below.heap_setCell WY _ _ i (fun e => hne (by rw [e]))).trans (h1.block i hi hne)⟩
  refine ord_op rfl ?_
  go_wp2
  refine mix_post (fun _ => ⟨⟨_, HGY.out⟩, rfl⟩) ?_
  refine ord_op rfl ?_
  go_wp2
  refine mix_post (fun h => absurd h (by decide)) ?_
  refine ord_op rfl ?_
  go_wp2
  refine mix_post (fun h => absurd h (by decide)) ?_
  refine ord_nil ?_
  refine NoPanic.normal ?_
  clear s0 s1 s2 s3 s4 s5 s6 s7
  obtain ⟨WZ, hWZ⟩ : ∃ WZ, ((((WY.setCell ⟨V.bs, 0, none⟩ (.slice Av ss.length cv)).setCell ⟨V.bl, 0, none⟩ (.int .i64 r1)).setCell ⟨V.bl, 1, none⟩ (.int .i64 r2)).setCell ⟨V.bf, 0, none⟩ (.bool true)) = WZ := ⟨_, rfl⟩
  have Z1 : Blk WZ V.bf 4 #[.bool true] := by rw [← hWZ]; exact (((HBF.out.far (p := ⟨V.bs, 0, none⟩) v6 _).far (p := ⟨V.bl, 0, none⟩) v5 _).far (p := ⟨V.bl, 1, none⟩) v5 _).set 0 _
  have Z2 : Blk WZ V.bl 66 #[.int .i64 r1, .int .i64 r2] := by rw [← hWZ]; exact (((HBL.out.far (p := ⟨V.bs, 0, none⟩) v8 _).set 0 _).set 1 _).far (p := ⟨V.bf, 0, none⟩) (Ne.symm v5) _
  have Z3 : Blk WZ V.bs 31 #[.slice Av ss.length cv] := by rw [← hWZ]; exact (((HBS.out.set 0 _).far (p := ⟨V.bl, 0, none⟩) (Ne.symm v8) _).far (p := ⟨V.bl, 1, none⟩) (Ne.symm v8) _).far (p := ⟨V.bf, 0, none⟩) (Ne.symm v6) _
  have Z4 : KeepEx V.ex w WZ := by rw [← hWZ]; exact ((((KeepEx.of_below HBT.out).setCell (p := ⟨V.bs, 0, none⟩) (.inr (.inr (.inr (.inl rfl)))) _).setCell (p := ⟨V.bl, 0, none⟩) (.inr (.inr (.inl rfl))) _).setCell (p := ⟨V.bl, 1, none⟩) (.inr (.inr (.inl rfl))) _).setCell (p := ⟨V.bf, 0, none⟩) (.inr (.inl rfl)) _
  have hRl : V.R < w.heap.size := (HN.out.2.lt V.R rfl).2
  have Z5 : NowM V WZ n' ss ss.length := by
    have h1 := now_keep HN.out HBT.out
    rw [← hWZ]
    refine ⟨(((h1.1.far (p := ⟨V.bs, 0, none⟩) v3 _).far (p := ⟨V.bl, 0, none⟩) v2 _).far (p := ⟨V.bl, 1, none⟩) v2 _).far (p := ⟨V.bf, 0, none⟩) v1 _, ?_⟩
    exact own_far (own_far (own_far (own_far h1.2 (p := ⟨V.bs, 0, none⟩) (Ne.symm v10) _) (p := ⟨V.bl, 0, none⟩) (Ne.symm v9) _) (p := ⟨V.bl, 1, none⟩) (Ne.symm v9) _) (p := ⟨V.bf, 0, none⟩) (Ne.symm v7) _
  have hlow : V.bt + 2 < w.heap.size := Nat.lt_trans v11 HF.out.xb.lt
  have Z6 : RdX V.exL (fun z : Int => [Value.int .i64 z]) 1 WZ Av ss.length ss := by
    have hge : ∀ ad, 0 < ss.length → Av = some ad → w.heap.size ≤ ad.block := fun ad hn e => by
      subst e
      have h1 := (HOV2.out.form hn)
      obtain ⟨g, cap, hv, hb, _⟩ := h1
      injection hv with hv
      injection hv with hv
      rw [hv]
      exact Nat.le_trans HBX.out.size hb
    have hout : ∀ ad, 0 < ss.length → Av = some ad → ¬ V.exL ad.block := fun ad hn e => by
      have := hge ad hn e
      rintro ((h | h | h | h | h) | h) <;> omega
    refine ⟨⟨rfl, fun i x hx => ?_⟩, hout⟩
    obtain ⟨ad, e, ha⟩ := HRV.out.2 i x hx
    refine ⟨ad, e, fun j v hj => ?_⟩
    have hn : 0 < ss.length := by have := (List.getElem?_eq_some_iff.1 hx).1; omega
    have hg := hge ad hn e
    rw [← hWZ]
    have hbk : ((ad.add (i * 1)).add j).block = ad.block := by rw [block_add, block_add]
    exact cell_far (by rw [hbk]; dsimp only; omega) (cell_far (by rw [hbk]; dsimp only; omega) (cell_far (by rw [hbk]; dsimp only; omega) (cell_far (by rw [hbk]; dsimp only; omega) (ha j v hj))))
  have HZ : Hid (NextPost V n' ss (some (ss, (r1, r2))) w (.returned (.tuple #[])) WZ) := ⟨rfl, Z4, Z5, Z1, Z2, ⟨⟨rb1, Int.le_trans rb2 (by decide)⟩, Int.le_trans (by decide) rb3, Int.le_trans rb4 (by decide)⟩, Av, cv, Z3, Z6, HCV.out⟩
  rw [hWZ]
  clear Z1 Z2 Z3 Z4 Z5 Z6 hWZ
  go_wp2
  refine bodyPost_ret (results_none rfl _ _ _) rfl HZ.out

set_option maxRecDepth 100000 in
set_option maxHeartbeats 1000000 in
theorem leaf_yes (V : Vars) (hV : V.Apart) (t : Task) (p : Nat) (A : Option Addr) (n c : Nat) (A' : Option Addr) (n' c' : Nat) (Ac : Option Addr) (cc : Nat) (ss : List Int) (q : List Int × (Int × Int)) (w : World) (hF : Fix V w t p A n c A' n' c' Ac cc) (hok : TaskOK t) (ha : Ask t ss n') (hl : ss.length = n') (hN : NowM V w n' ss ss.length) (hA : AccM V w (some q)) (hg : gtB (harmR t ss) t.plan = false) (hg2 : gtB q.2 (harmR t ss) = true) :
    Calls Tryz.prog 47 V.ptrs w (NextPost V n' ss (some (ss, harmR t ss)) w) := by
  have hd : decide (cmpF (harmR t ss) t.plan ≤ 0) = true := by rw [cmp_le, hg]; rfl
  have hd2 : decide (cmpF (harmR t ss) q.2 < 0) = true := by rw [cmp_lt, hg2]
  clear hg hg2
  have hn4 : ss.length ≤ 4 := by have := hok.len; have := ha.len; have := hF.pl.works.1.1; omega
  obtain ⟨af, al, ⟨⟨l0, l1⟩, l2, l3⟩, Aq, cq, asb, _⟩ := id hA
  have y1 : V.bf < w.heap.size := af.lt
  have y2 : V.bl < w.heap.size := al.lt
  have y3 : V.bs < w.heap.size := asb.lt
  have HAf := Lib.hid af; clear af
  have HAl := Lib.hid al; clear al
  have HAs := Lib.hid asb; clear asb
  obtain ⟨rb1, rb2, rb3, rb4⟩ := harmR_bounds hok ss
  obtain ⟨⟨pl1, pl2⟩, pl3, pl4⟩ := hok.plan
  have hrd := rdI_of_own hN.2 rfl
  obtain ⟨A2, c2, e2, hrd, _⟩ := hrd
  cases e2
  have n0 := hN.1.cell (i := 0) rfl
  have t3 := hF.tb.cell (i := 3) rfl
  have t8 := hF.tb.cell (i := 8) rfl
  have t9 := hF.tb.cell (i := 9) rfl
  have p0 := hF.pb.cell (i := 0) rfl
  have x1 : V.bn < w.heap.size := hN.1.lt
  have x2 : V.bt < w.heap.size := hF.tb.lt
  have x3 : V.bp < w.heap.size := hF.pb.lt
  have heq : ((ss.length : Int) == (n' : Int)) = true := by simp [hl]
  have HF := Lib.hid hF; clear hF
  have HN := Lib.hid hN; clear hN
  have HA := Lib.hid hA; clear hA
  have HRd := Lib.hid hrd; clear hrd
  have HL := Lib.hid hl; clear hl
  have HHarm : ∀ W, Below w.heap.size w W → Calls Tryz.prog 48 #[.pointer (some ⟨p, 0, none⟩), .slice (some ⟨V.R, 0, none⟩) ss.length n'] W (HarmPost t ss W) := fun W hW =>
    harm_any t p A n c A' n' c' _ _ _ ss W ((HF.out.pl.pl).below hW) hok (HRd.out.below hW) HL.out ha.day
  unfold HarmPost at HHarm
  have HHm := Lib.hid HHarm; clear HHarm
  clear hok ha
  generalize harmL t ss = hL at HHm
  generalize harmR t ss = r at *
  obtain ⟨r1, r2⟩ := r
  dsimp only at rb1 rb2 rb3 rb4
  unfold Vars.ptrs
  go_enter Tryz.func47, Tryz.ntmps47
  go_wp2_with fail
  refine (HHm.out _ ((Below.refl _ _).alloc (Nat.le_refl _) _)).mono ?_
  rintro e W2 ⟨v, rfl, hov, hb2⟩
  have HB2 : Hid (Below w.heap.size w W2) := ((Below.refl _ w).alloc (Nat.le_refl _) _).trans (hb2.mono (by simp))
  have u8 := cell_below HB2.out t8
  have u9 := cell_below HB2.out t9
  clear hov hb2 t8 t9 t3 n0 p0
  have hszz : V.bt < W2.heap.size := Nat.lt_of_lt_of_le x2 HB2.out.size
  go_wp2_with fail
  refine (compare_any _ _ _ _ _ (by omega) (by omega) (by omega) (by omega) (by omega) (by omega) (by omega) (by omega)).mono ?_
  rintro e W3 ⟨rfl, hb3⟩
  have HB3 : Hid (Below w.heap.size w W3) := (HB2.out.alloc HB2.out.size _).trans (hb3.mono (by have := HB2.out.size; simp; omega))
  have e0 : W3.cell? ⟨W2.heap.size, 0, none⟩ = some (.int .i64 r1) := cell_below hb3 (by simp)
  have e1 : W3.cell? ⟨W2.heap.size, 1, none⟩ = some (.int .i64 r2) := cell_below hb3 (by simp)
  have e2 := (HAf.out.later HB3.out).cell (i := 0) rfl
  have e3 := (HAl.out.later HB3.out).cell (i := 0) rfl
  have e4 := (HAl.out.later HB3.out).cell (i := 1) rfl
  clear hb3 u8 u9
  go_wp2_with fail
  refine (compare_any _ _ _ _ _ (by omega) (by omega) (by omega) (by omega) (by omega) (by omega) (by omega) (by omega)).mono ?_
  rintro e WX ⟨rfl, hb4⟩
  have HBX : Hid (Below w.heap.size w WX) := HB3.out.trans (hb4.mono HB3.out.size)
  have f0 := cell_below hb4 e0
  have f1 := cell_below hb4 e1
  clear hb4 e0 e1 e2 e3 e4
  go_wp2_with fail
  have hnn := HN.out.1.later HBX.out
  have hx2 : V.bs < W2.heap.size := Nat.lt_of_lt_of_le y3 HB2.out.size
  have w0 := laterBut_cell (row := some V.bs) (hnn.cell (i := 0) rfl) (by intro e; injection e with e; exact hV.h3 e)
  have w1 := laterBut_cell (row := some V.bs) f0 (by intro e; simp at e; omega)
  have w2 := laterBut_cell (row := some V.bs) f1 (by intro e; simp at e; omega)
  have hcl : ∀ j, j < ss.length → WX.drew.cell? ⟨V.R, 0 + j, none⟩ = some (.int .i64 (ss.getD j 0)) := fun j hj => by
    have h1 := HN.out.2.cellAt j (by omega)
    have h2 : (ss.map (Value.int .i64))[j]? = some (.int .i64 (ss.getD j 0)) := by simp [List.getElem?_eq_getElem hj, List.getD_eq_getElem?_getD]
    rw [h2] at h1
    rw [Nat.zero_add]
    show WX.cell? _ = _
    exact cell_below HBX.out h1
  have HCl := Lib.hid (Tryz.slices_Clone_int V.R 0 ss.length n' ss WX.drew (Nat.le_refl _) (by omega) hcl)
  clear hcl hnn f0 f1
  have xx1 : V.bn < WX.heap.size := Nat.lt_of_lt_of_le x1 HBX.out.size
  have HS0 : Hid ((fun w' => ∃ u : LaterBut WX (some V.bs), w' = u.w) WX.drew) := ⟨⟨WX.drew, ⟨rfl, rfl, rfl, Nat.le_refl _, fun _ _ _ => rfl⟩⟩, rfl⟩
  refine wp_region_noPanic ?_
  refine wp_region_ord (fun w' => ∃ u : LaterBut WX (some V.bs), w' = u.w) 4 (fun k => k == 0 || k == 2) (ordOf _ [0, 2, 1, 3, 4, 5]) (by kernel_rfl) (by kernel_rfl) (ordOf_mem _ _) (fun _ _ _ _ _ h => h) ?_
  simp only [ordOf, List.filterMap_cons, List.filterMap_nil, List.getElem?_cons_zero, List.getElem?_cons_succ, Option.map_some]
  iterate 2 (refine ord_quiet rfl rfl rfl HS0.out ?_; intro K hK; go_big_quiet_op; go_big_quiet_on)
  clear w0 w1 w2
  refine ord_op rfl ?_
  go_wp2_with (go_at_call 50; refine HCl.out.mono ?_; rintro e WY ⟨v', rfl, hov, hnv, hby⟩; have HBY : Hid (Below WX.heap.size WX WY) := below_of_drew hby; have HOV := Lib.hid hov; clear hby hov hnv)
  refine mix_post (fun _ => ⟨⟨WY, grown_of_below HBY.out _⟩, rfl⟩) ?_
  have HBT : Hid (Below w.heap.size w WY) := HBX.out.trans (HBY.out.mono HBX.out.size)
  have hov := HOV.out
  rw [List.take_length] at hov
  obtain ⟨Av, cv, hve, hrv, hcv, _⟩ := rdI_of_own hov rfl
  have HCV := Lib.hid hcv; clear hcv
  have HOV2 := Lib.hid hov
  clear hov HOV
  have HRV := Lib.hid hrv; clear hrv
  subst hve
  have BS := HAs.out.later HBT.out
  have BL := HAl.out.later HBT.out
  have BF := HAf.out.later HBT.out
  have s0 := BS.cell (i := 0) rfl
  have s1 := BS.frozen 0
  have s2 := BL.cell (i := 0) rfl
  have s3 := BL.frozen 0
  have s4 := BL.cell (i := 1) rfl
  have s5 := BL.frozen 1
  have s6 := BF.cell (i := 0) rfl
  have s7 := BF.frozen 0
  have HBS := Lib.hid BS; have HBL := Lib.hid BL; have HBF := Lib.hid BF
  clear BS BL BF
  obtain ⟨v1, v2, v3, v4, v5, v6, v7, v8, v9, v10, v11⟩ := hV
  have HGY : Hid (WX.grownBy (WY.setCell ⟨V.bs, 0, none⟩ (.slice Av ss.length cv)) (some V.bs)) := by
    have h1 := grown_of_below HBY.out (some V.bs)
    exact ⟨h1.os, h1.tape, h1.output, by simpa [World.setCell] using h1.size, fun i hi hne => (Below.heap_setCell WY _ _ i (fun e => hne (by rw [e]))).trans (h1.block i hi hne)⟩
  refine ord_op rfl ?_
  go_wp2
  refine mix_post (fun _ => ⟨⟨_, HGY.out⟩, rfl⟩) ?_
  refine ord_op rfl ?_
  go_wp2
  refine mix_post (fun h => absurd h (by decide)) ?_
  refine ord_op rfl ?_
  go_wp2
  refine mix_post (fun h => absurd h (by decide)) ?_
  refine ord_nil ?_
  refine NoPanic.normal ?_
  clear s0 s1 s2 s3 s4 s5 s6 s7
  obtain ⟨WZ, hWZ⟩ : ∃ WZ, ((((WY.setCell ⟨V.bs, 0, none⟩ (.slice Av ss.length cv)).setCell ⟨V.bl, 0, none⟩ (.int .i64 r1)).setCell ⟨V.bl, 1, none⟩ (.int .i64 r2)).setCell ⟨V.bf, 0, none⟩ (.bool true)) = WZ := ⟨_, rfl⟩
  have Z1 : Blk WZ V.bf 4 #[.bool true] := by rw [← hWZ]; exact (((HBF.out.far (p := ⟨V.bs, 0, none⟩) v6 _).far (p := ⟨V.bl, 0, none⟩) v5 _).far (p := ⟨V.bl, 1, none⟩) v5 _).set 0 _
  have Z2 : Blk WZ V.bl 66 #[.int .i64 r1, .int .i64 r2] := by rw [← hWZ]; exact (((HBL.out.far (p := ⟨V.bs, 0, none⟩) v8 _).set 0 _).set 1 _).far (p := ⟨V.bf, 0, none⟩) (Ne.symm v5) _
  have Z3 : Blk WZ V.bs 31 #[.slice Av ss.length cv] := by rw [← hWZ]; exact (((HBS.out.set 0 _).far (p := ⟨V.bl, 0, none⟩) (Ne.symm v8) _).far (p := ⟨V.bl, 1, none⟩) (Ne.symm v8) _).far (p := ⟨V.bf, 0, none⟩) (Ne.symm v6) _
  have Z4 : KeepEx V.ex w WZ := by rw [← hWZ]; exact ((((KeepEx.of_below HBT.out).setCell (p := ⟨V.bs, 0, none⟩) (.inr (.inr (.inr (.inl rfl)))) _).setCell (p := ⟨V.bl, 0, none⟩) (.inr (.inr (.inl rfl))) _).setCell (p := ⟨V.bl, 1, none⟩) (.inr (.inr (.inl rfl))) _).setCell (p := ⟨V.bf, 0, none⟩) (.inr (.inl rfl)) _
  have hRl : V.R < w.heap.size := (HN.out.2.lt V.R rfl).2
  have Z5 : NowM V WZ n' ss ss.length := by
    have h1 := now_keep HN.out HBT.out
    rw [← hWZ]
    refine ⟨(((h1.1.far (p := ⟨V.bs, 0, none⟩) v3 _).far (p := ⟨V.bl, 0, none⟩) v2 _).far (p := ⟨V.bl, 1, none⟩) v2 _).far (p := ⟨V.bf, 0, none⟩) v1 _, ?_⟩
    exact own_far (own_far (own_far (own_far h1.2 (p := ⟨V.bs, 0, none⟩) (Ne.symm v10) _) (p := ⟨V.bl, 0, none⟩) (Ne.symm v9) _) (p := ⟨V.bl, 1, none⟩) (Ne.symm v9) _) (p := ⟨V.bf, 0, none⟩) (Ne.symm v7) _
  have hlow : V.bt + 2 < w.heap.size := Nat.lt_trans v11 HF.out.xb.lt
  have Z6 : RdX V.exL (fun z : Int => [Value.int .i64 z]) 1 WZ Av ss.length ss := by
    have hge : ∀ ad, 0 < ss.length → Av = some ad → w.heap.size ≤ ad.block := fun ad hn e => by
      subst e
      have h1 := (HOV2.out.form hn)
      obtain ⟨g, cap, hv, hb, _⟩ := h1
      injection hv with hv
      injection hv with hv
      rw [hv]
      exact Nat.le_trans HBX.out.size hb
    have hout : ∀ ad, 0 < ss.length → Av = some ad → ¬ V.exL ad.block := fun ad hn e => by
      have := hge ad hn e
      rintro ((h | h | h | h | h) | h) <;> omega
    refine ⟨⟨rfl, fun i x hx => ?_⟩, hout⟩
    obtain ⟨ad, e, ha⟩ := HRV.out.2 i x hx
    refine ⟨ad, e, fun j v hj => ?_⟩
    have hn : 0 < ss.length := by have := (List.getElem?_eq_some_iff.1 hx).1; omega
    have hg := hge ad hn e
    rw [← hWZ]
    have hbk : ((ad.add (i * 1)).add j).block = ad.block := by rw [block_add, block_add]
    exact cell_far (by rw [hbk]; dsimp only; omega) (cell_far (by rw [hbk]; dsimp only; omega) (cell_far (by rw [hbk]; dsimp only; omega) (cell_far (by rw [hbk]; dsimp only; omega) (ha j v hj))))
  have HZ : Hid (NextPost V n' ss (some (ss, (r1, r2))) w (.returned (.tuple #[])) WZ) := ⟨rfl, Z4, Z5, Z1, Z2, ⟨⟨rb1, Int.le_trans rb2 (by decide)⟩, Int.le_trans (by decide) rb3, Int.le_trans rb4 (by decide)⟩, Av, cv, Z3, Z6, HCV.out⟩
  rw [hWZ]
  clear Z1 Z2 Z3 Z4 Z5 Z6 hWZ
  go_wp2
  refine bodyPost_ret (results_none rfl _ _ _) rfl HZ.out

theorem next_zero (V : Vars) (hV : V.Apart) (t : Task) (p : Nat) (A : Option Addr) (n c : Nat) (A' : Option Addr) (n' c' : Nat) (Ac : Option Addr) (cc : Nat) (ss : List Int) (acc : Acc) (w : World) (hF : Fix V w t p A n c A' n' c' Ac cc) (hok : TaskOK t) (ha : Ask t ss n') (hl : ss.length = n') (hN : NowM V w n' ss ss.length) (hA : AccM V w acc)  :
    Calls Tryz.prog 47 V.ptrs w (NextPost V n' ss (accStep t acc ss) w) := by
  cases hg : gtB (harmR t ss) t.plan with
  | true => rw [acc_gt hg]; exact leaf_gt V t p A n c A' n' c' Ac cc ss acc w hF hok ha hl hN hA hg
  | false =>
    cases acc with
    | none => rw [acc_none hg]; exact leaf_none V hV t p A n c A' n' c' Ac cc ss w hF hok ha hl hN hA hg
    | some q =>
      cases hg2 : gtB q.2 (harmR t ss) with
      | true => rw [acc_yes hg hg2]; exact leaf_yes V hV t p A n c A' n' c' Ac cc ss q w hF hok ha hl hN hA hg hg2
      | false => rw [acc_no hg hg2]; exact leaf_no V t p A n c A' n' c' Ac cc ss q w hF hok ha hl hN hA hg hg2
end Go.Proofs.YtjdaigffgfnhaaaGreat
