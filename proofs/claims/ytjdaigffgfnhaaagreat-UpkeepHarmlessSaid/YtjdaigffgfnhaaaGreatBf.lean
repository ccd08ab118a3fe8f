import Derived.Test.YtjdaigffgfnhaaaGreatBd
namespace Go.Proofs.YtjdaigffgfnhaaaGreat
open Go.RowKit

/-- What Best returns, with room for what it holds. -/
def BestPostC (t : Task) (w : World) (e : Ending) (w' : World) : Prop :=
  Below w.heap.size w w' ∧ match bestF t with
    | none => e = .returned (.tuple #[.slice none 0 0, .agg #[.int .i64 0, .int .i64 0], .int .i64 9])
    | some q => ∃ A c, e = .returned (.tuple #[.slice A q.1.length c, .agg #[.int .i64 q.2.1, .int .i64 q.2.2], .int .i64 0]) ∧ RdI w' A q.1.length q.1 ∧ q.1.length ≤ c
theorem bestPostC {t : Task} {w : World} {e : Ending} {w' : World} (h : BestPostC t w e w') : BestPost t w e w' := by
  obtain ⟨hb, h⟩ := h
  refine ⟨hb, ?_⟩
  revert h
  cases bestF t with
  | none => exact fun h => h
  | some q => exact fun ⟨A, c, h1, h2, _⟩ => ⟨A, c, h1, h2⟩

set_option maxRecDepth 100000 in
set_option maxHeartbeats 2000000 in
theorem best_okc (t : Task) (A : Option Addr) (n c : Nat) (A' : Option Addr) (n' c' : Nat) (w : World) (hr : RdH w A n t.rd.highs) (hr' : RdW w A' n' t.works) (hc' : n' ≤ c') (hnm : ∀ (i : Nat) (v : Work), t.works[i]? = some v → v.name.size ≤ 9223372036854775807) (he : (chkTask t).2.2 = 0) :
    Calls Tryz.prog 14 #[.agg (t.val A n c A' n' c')] w (BestPostC t w) := by
  have HOK := Lib.hid (taskOK_of he)
  have hn4 : n' ≤ 4 := by have := HOK.out.len; have := hr'.1; omega
  have HC : Hid (∀ W, Below w.heap.size w W → Calls Tryz.prog 45 #[.agg (t.val A n c A' n' c')] W fun e w' => ∃ p, e = .returned (.tuple #[.pointer (some ⟨p, 0, none⟩), .int .i64 0]) ∧ Pl w' p t A n c A' n' c' ∧ Below W.heap.size W w') := fun W hW => begin_ok t A n c A' n' c' W (hr.below hW) (hr'.below hW) hc' hnm he
  have HR := Lib.hid hr; have HR' := Lib.hid hr'
  clear hr hr' hnm he
  unfold Task.val at *
  go_enter Tryz.func14, Tryz.ntmps14
  go_wp2_with fail
  obtain ⟨b1, b2, b3, b4⟩ := three w (t.val A n c A' n' c') #[.slice none 0 0] #[.int .i64 0, .int .i64 0] 73 31 36
  refine (HC.out _ b1).mono ?_
  rintro e W2 ⟨p, rfl, hP, hb2⟩
  have hs := b1.size
  have B2 := b2.later hb2
  have B3 := b3.later hb2
  have B4 := b4.later hb2
  have HB2 : Hid (Below w.heap.size w W2) := b1.trans (hb2.mono hs)
  have hsz : w.heap.size + 1 + 1 < W2.heap.size := B4.lt
  have hsz1 : w.heap.size + 1 < W2.heap.size := B3.lt
  have hsz0 : w.heap.size < W2.heap.size := B2.lt
  have t3 := B2.cell (i := 3) rfl
  have HP := Lib.hid hP
  have HB2' := Lib.hid B2; have HB3' := Lib.hid B3; have HB4' := Lib.hid B4
  clear b1 b2 b3 b4 B2 B3 B4 hs hb2 hP
  go_wp2_with fail
  obtain ⟨W3, hW3⟩ : ∃ W3, W2.alloc (Obj.cells #[.pointer (some ⟨p, 0, none⟩)] 118) = W3 := ⟨_, rfl⟩
  obtain ⟨W4, hW4⟩ : ∃ W4, W3.alloc (Obj.cells #[.slice none 0 0] 121) = W4 := ⟨_, rfl⟩
  have hz3 : W3.heap.size = W2.heap.size + 1 := by rw [← hW3]; simp
  have KP : Hid (Blk W3 W2.heap.size 118 #[.pointer (some ⟨p, 0, none⟩)]) := by rw [← hW3]; exact Blk.new _ _ _ rfl
  have KC : Hid (Blk W4 (W2.heap.size + 1) 121 #[.slice none 0 0]) := by rw [← hW4]; exact Blk.new _ _ _ hz3.symm
  have HB3 : Hid (Below W2.heap.size W2 W3) := by rw [← hW3]; exact (Below.refl _ _).alloc (Nat.le_refl _) _
  have HB4 : Hid (Below W3.heap.size W3 W4) := by rw [← hW4]; exact (Below.refl _ _).alloc (Nat.le_refl _) _
  have HZ3 := Lib.hid hz3; clear hz3
  rw [hW3, hW4]
  clear hW3 hW4 t3
  obtain ⟨i0, hi, hz0, hz1, hz2⟩ := info_parts info33
  go_loopw [24] (fun i wr => ∃ (k : Nat) (v : Value) (vs : List Value), k ≤ n' ∧ i = .int .i64 k ∧ Below W3.heap.size W3 wr ∧ Blk wr (W2.heap.size + 1) 121 #[v] ∧ vs.length = k ∧ wr.ownsRow (W2.heap.size + 1 + 1) 31 1 v k vs ∧ CanL t wr (W2.heap.size + 1 + 1) vs) (fun i _ => n' - (intOf i).toNat)
  case atStart => exact ⟨0, _, [], Nat.zero_le _, rfl, HB4.out, KC.out, rfl, World.ownsRow_nil _ _ _ _, fun i x u _ hu => by simp at hu⟩
  case round =>
    obtain ⟨k, v, vs, hk, rfl, hB, hC, hvs, hO, hCan⟩ := hrel
    have HB := Lib.hid hB; clear hB
    have HC := Lib.hid hC; clear hC
    have HO := Lib.hid hO; clear hO
    have HCan := Lib.hid hCan; clear hCan
    have HVs := Lib.hid hvs; clear hvs
    have HBw : Hid (Below W2.heap.size W2 wr) := HB3.out.trans (HB.out.mono HB3.out.size)
    have hzc : W2.heap.size + 1 < wr.heap.size := HC.out.lt
    by_cases hlt : k < n'
    · have hxe : ∃ x, t.works[k]? = some x := by
        have := HR'.out.1
        exact ⟨_, List.getElem?_eq_getElem (by omega)⟩
      obtain ⟨x, hx⟩ := hxe
      have hwk := workOK_of (HOK.out.rows k x hx).2.2.1
      have HX := Lib.hid hx; clear hx
      have HWk := Lib.hid hwk; clear hwk
      have n1 : some (W2.heap.size + 1) ≠ v.ownBlock := fun e => by have := (HO.out.lt _ e.symm).1; omega
      have n2 : some W2.heap.size ≠ v.ownBlock := fun e => by have := (HO.out.lt _ e.symm).1; omega
      have c0 := laterBut_cell (HC.out.cell (i := 0) rfl) n1
      have p0 := laterBut_cell ((KP.out.below HB.out (by have := HZ3.out; omega)).cell (i := 0) rfl) n2
      have N1 := Lib.hid n1; have N2 := Lib.hid n2
      clear n1 n2
      have hkl : (k : Int) < (n' : Int) := by omega
      go_wp2_with fail
      have HS0 : Hid ((fun w' => ∃ u : LaterBut wr v.ownBlock, w' = u.w) wr.drew) := ⟨⟨wr.drew, ⟨rfl, rfl, rfl, Nat.le_refl _, fun _ _ _ => rfl⟩⟩, rfl⟩
      refine wp_region_noPanic ?_
      refine wp_region_mix (fun w' => ∃ u : LaterBut wr v.ownBlock, w' = u.w) 6 (fun k => decide (k < 3)) (by kernel_rfl) (by kernel_rfl) (fun _ _ _ _ _ h => h) ?_
      iterate 3 ((first | refine mix_quiet rfl rfl rfl HS0.out ?_ | refine mix_nilCheck rfl _ _ rfl rfl rfl HS0.out ?_); intro K hK; go_big_quiet_op; go_big_quiet_on)
      clear c0 p0
      have HPr : Hid (Pl wr.drew p t A n c A' n' c') := HP.out.below HBw.out.drew
      have HCS := Lib.hid (starts_any t p A n c A' n' c' k x wr.drew HPr.out HX.out HWk.out)
      refine mix_op rfl ?_
      go_wp2_with (go_at_call 46; refine HCS.out.mono ?_; rintro e W5 ⟨u, rfl, hou, hb5⟩; have HB5 := Lib.hid (below_of_drew hb5); obtain ⟨Au, cu, rfl, _, _⟩ := rdI_of_own hou rfl; have HOu := Lib.hid hou; clear hb5 hou)
      refine mix_post (fun _ => ⟨⟨W5, grown_of_below HB5.out _⟩, rfl⟩) ?_
      refine mix_op rfl ?_
      go_wp2
      have HG6 : Hid (wr.grownBy (W5.alloc (.cells #[.slice Au (startsF t x).length cu] 31)) v.ownBlock) := grown_of_below (HB5.out.alloc HB5.out.size _) _
      refine mix_post (fun _ => ⟨⟨_, HG6.out⟩, rfl⟩) ?_
      have HO5 : Hid ((W5.alloc (.cells #[.slice Au (startsF t x).length cu] 31)).ownsRow (W2.heap.size + 1 + 1) 31 1 v k vs) := (HO.out.kept (grown_of_below HB5.out none) (by cases v.ownBlock <;> simp)).alloc _
      have HOu5 : Hid ((W5.alloc (.cells #[.slice Au (startsF t x).length cu] 31)).ownsRow (W2.heap.size + 1 + 1) 3 1 (.slice Au (startsF t x).length cu) (startsF t x).length ((startsF t x).map (Value.int .i64))) := own_lower (HOu.out.alloc _) (by show _ ≤ wr.heap.size; omega)
      have HCan5 : Hid (CanL t (W5.alloc (.cells #[.slice Au (startsF t x).length cu] 31)) (W2.heap.size + 1 + 1) vs) := canL_keep HCan.out (grown_of_below (HB5.out.alloc HB5.out.size _) none) (fun u _ => by cases u.ownBlock <;> simp)
      have hz5 : wr.heap.size ≤ W5.heap.size := HB5.out.size
      refine mix_op rfl ?_
      refine wpList_append_lies _ rfl _ _ 121 rfl (W2.heap.size + 1 + 1) 31 i0 (.slice none 0 0) 1 24 Tryz.underlying121 hi hz0 hz1 hz2 (by kernel_rfl) (by decide) v k _ rfl HO5.out ⟨W5.heap.size, 0, none⟩ 1 1 [.slice Au (startsF t x).length cu] rfl rfl (cell_one_new _ _ _) (by simp [Value.oneCell']) (by omega) (by unfold maxLen; omega) (by omega) (by simp; omega) (W5.heap.size + 1) (by simp) ?_
      intro g cap w7 hown7 hgrow7 hat7 hlt7
      have HCan7 : Hid (CanL t w7 (W2.heap.size + 1 + 1) (vs ++ [.slice Au (startsF t x).length cu])) := by
        have h1 : CanL t w7 (W2.heap.size + 1 + 1) vs := canL_keep HCan5.out hgrow7 (fun u ⟨_, _, hu⟩ => own_apart hu HO5.out (by decide))
        exact canL_snoc h1 (by rw [HVs.out]; exact HX.out) (HOu5.out.kept hgrow7 (own_apart HOu5.out HO5.out (by decide)))
      have HW7 := Lib.hid hown7; clear hown7
      have HR7 := Lib.hid hgrow7; clear hgrow7
      go_wp2
      have HG7 : Hid (wr.grownBy w7 v.ownBlock) := grown_row HG6.out HR7.out
      refine mix_post (fun _ => ⟨⟨w7, HG7.out⟩, rfl⟩) ?_
      have HC7 := Lib.hid (HC.out.grown HG7.out N1.out)
      have c7 := HC7.out.cell (i := 0) rfl
      have f7 := HC7.out.frozen 0
      refine mix_op rfl ?_
      go_wp2
      refine mix_post (fun h => absurd h (by decide)) ?_
      refine mix_nil ?_
      refine NoPanic.normal ?_
      have HC8 : Hid (Blk (w7.setCell ⟨W2.heap.size + 1, 0, none⟩ (.slice (some ⟨g, 0, none⟩) (k + 1) cap)) (W2.heap.size + 1) 121 #[.slice (some ⟨g, 0, none⟩) (k + 1) cap]) := HC7.out.set 0 _
      have HO8 : Hid ((w7.setCell ⟨W2.heap.size + 1, 0, none⟩ (.slice (some ⟨g, 0, none⟩) (k + 1) cap)).ownsRow (W2.heap.size + 1 + 1) 31 1 (.slice (some ⟨g, 0, none⟩) (k + 1) cap) (k + 1) (vs ++ [.slice Au (startsF t x).length cu])) := ownsRow_setCell_below HW7.out (a := ⟨W2.heap.size + 1, 0, none⟩) (by dsimp only; omega) _
      have HCan8 : Hid (CanL t (w7.setCell ⟨W2.heap.size + 1, 0, none⟩ (.slice (some ⟨g, 0, none⟩) (k + 1) cap)) (W2.heap.size + 1 + 1) (vs ++ [.slice Au (startsF t x).length cu])) := fun i y u hy hu => ownsRow_setCell_below (HCan7.out i y u hy hu) (a := ⟨W2.heap.size + 1, 0, none⟩) (by dsimp only; omega) _
      have HB8 : Hid (Below W3.heap.size W3 (w7.setCell ⟨W2.heap.size + 1, 0, none⟩ (.slice (some ⟨g, 0, none⟩) (k + 1) cap))) := (HB.out.grown HG7.out HB.out.size (fun j e => by have := (HO.out.lt j e).1; have := HZ3.out; omega)).setCell (p := ⟨W2.heap.size + 1, 0, none⟩) (by have := HZ3.out; dsimp only; omega) _
      have HVs8 : Hid ((vs ++ [Value.slice Au (startsF t x).length cu]).length = k + 1) := by have := HVs.out; rw [List.length_append]; simp; omega
      clear c7 f7
      generalize w7.setCell ⟨W2.heap.size + 1, 0, none⟩ (.slice (some ⟨g, 0, none⟩) (k + 1) cap) = w8 at *
      go_wp2
      go_roundw
      case rel => exact ⟨k + 1, _, _, by omega, by go_num, HB8.out, HC8.out, HVs8.out, HO8.out, HCan8.out⟩
      case measure => simp [intOf]; omega
    · obtain rfl : k = n' := by omega
      have u3 := (HB2'.out.later HBw.out).cell (i := 3) rfl
      have hsr0 : w.heap.size < wr.heap.size := by omega
      have hsr1 : w.heap.size + 1 < wr.heap.size := by omega
      obtain ⟨j0, ji, jz0, jz1, jz2⟩ := info_parts info3
      have hmk := fun W => run_make (P := Tryz.prog) W 31 3 j0 (.int .i64 0) Tryz.underlying31 ji jz0 .i64 .i64 0 (k : Int) (by omega) (by omega) (by rw [jz2]; omega) (by omega)
      simp only [Int.toNat_zero, Int.toNat_natCast, jz1, Nat.mul_one] at hmk
      have hv : ∃ Ac cc, v = .slice Ac k cc := by
        rcases HO.out.2 with ⟨h0, h1⟩ | ⟨g, cap, cur, h1, _⟩
        · subst h1; exact ⟨_, _, h0⟩
        · exact ⟨_, _, h1⟩
      obtain ⟨Ac, cc, rfl⟩ := hv
      go_wp2_with fail
      obtain ⟨W9, hW9⟩ : ∃ W9, ((((wr.alloc (.cells #[.bool false] 4)).alloc (.cells #[.int .i64 0, .int .i64 0] 66)).alloc (.cells (madeCells #[.int .i64 0] k) 3)).alloc (.cells #[.slice (some ⟨wr.heap.size + 1 + 1, 0, none⟩) 0 k] 31)).alloc (.cells #[.func (.func 47) #[] (bestV w.heap.size W2.heap.size wr.heap.size).ptrs] 1) = W9 := ⟨_, rfl⟩
      obtain ⟨g1, g2, g3, g4, g5⟩ := best_start w W2 wr W9 t p A n c A' k c' Ac cc vs hn4 HR.out HR'.out HP.out HB2'.out HB3'.out HBw.out (KP.out.below HB.out (by have := HZ3.out; omega)) HC.out HVs.out HO.out HCan.out hW9.symm
      have hNx := next_any _ g1 t p A n c A' k c' Ac cc HOK.out k [] none W9 (by simp) g2 ⟨by simp, fun z hz => by simp at hz⟩ g3 g4
      have hbf : dfs t k none [] = bestF t := by unfold bestF; rw [HR'.out.1]
      rw [hbf] at hNx
      clear hbf hmk
      change Calls Tryz.prog 47 (bestV w.heap.size W2.heap.size wr.heap.size).ptrs _ _
      simp only [show (#[Value.pointer (some ⟨wr.heap.size + 1 + 1 + 1, 0, none⟩), .pointer (some ⟨w.heap.size, 0, none⟩), .pointer (some ⟨W2.heap.size, 0, none⟩), .pointer (some ⟨wr.heap.size, 0, none⟩), .pointer (some ⟨wr.heap.size + 1, 0, none⟩), .pointer (some ⟨w.heap.size + 1, 0, none⟩), .pointer (some ⟨W2.heap.size + 1, 0, none⟩), .pointer (some ⟨wr.heap.size + 1 + 1 + 1 + 1, 0, none⟩)] : Array Value) = (bestV w.heap.size W2.heap.size wr.heap.size).ptrs from rfl]
      rw [hW9]
      refine hNx.mono ?_
      rintro e W10 ⟨rfl, hK10, hN10, hA10⟩
      have HB10 : Hid (Below w.heap.size w W10) := by
        have h9 : Below w.heap.size w W9 := (HB2.out.trans (HBw.out.mono (by omega))).trans (g5.mono (by omega))
        exact hK10.toBelow h9 h9.size (fun q hq => by rcases hq with h | h | h | h | h <;> simp only [bestV] at h <;> omega)
      have HB10' : Hid (Blk W10 (w.heap.size + 1 + 1) 36 #[.int .i64 0, .int .i64 0]) := hK10.blk ((HB4'.out.later HBw.out).later g5) (bestV_out (by omega) (by omega))
      have HA10 := Lib.hid hA10
      clear hK10 hN10 hA10 hNx g1 g2 g3 g4 g5 hW9
      have hq1 : w.heap.size + 1 < W10.heap.size := by have := HB10'.out.lt; omega
      have hq2 : w.heap.size + 1 + 1 < W10.heap.size := HB10'.out.lt
      cases hX : bestF t with
      | none =>
        rw [hX] at HA10
        have HX := Lib.hid hX; clear hX
        obtain ⟨a1, _, vv, a3⟩ := HA10.out
        change Blk W10 wr.heap.size 4 #[.bool false] at a1
        change Blk W10 (w.heap.size + 1) 31 #[vv] at a3
        have z0 := a1.cell (i := 0) rfl
        have z1 := a3.cell (i := 0) rfl
        have y1 := a3.frozen 0
        have z2 := HB10'.out.cell (i := 0) rfl
        have z3 := HB10'.out.cell (i := 1) rfl
        have y2 := HB10'.out.frozen 0
        have y3 := HB10'.out.frozen 1
        have HOt := Lib.hid (best_out (by omega) a3 HB10'.out (.slice none 0 0) (.int .i64 0) (.int .i64 0))
        clear a1 a3
        go_wp2_with fail
        refine bodyPost_ret (results_cct rfl rfl rfl rfl (load33 (v := .slice none 0 0) ?_) (load27 (u := .int .i64 0) (v := .int .i64 0) ?_ ?_)) rfl ⟨?_, ?_⟩
        · exact HOt.out.1.cell rfl
        · exact HOt.out.2.cell rfl
        · exact HOt.out.2.cell rfl
        · exact ((HB10.out.setCell (p := ⟨w.heap.size + 1, 0, none⟩) (by simp) _).setCell (p := ⟨w.heap.size + 1 + 1, 0, none⟩) (by simp; omega) _).setCell (p := ⟨w.heap.size + 1 + 1, 1, none⟩) (by simp; omega) _
        · rw [HX.out]
          rfl
      | some q =>
        rw [hX] at HA10
        have HX := Lib.hid hX; clear hX
        obtain ⟨a1, a2, _, A3, c3, a3, a4, a5⟩ := HA10.out
        have HC5 := Lib.hid a5; clear a5
        change Blk W10 wr.heap.size 4 #[.bool true] at a1
        change Blk W10 (wr.heap.size + 1) 66 #[.int .i64 q.2.1, .int .i64 q.2.2] at a2
        change Blk W10 (w.heap.size + 1) 31 #[.slice A3 q.1.length c3] at a3
        have z0 := a1.cell (i := 0) rfl
        have v0 := a2.cell (i := 0) rfl
        have v1 := a2.cell (i := 1) rfl
        have z1 := a3.cell (i := 0) rfl
        have y1 := a3.frozen 0
        have z2 := HB10'.out.cell (i := 0) rfl
        have z3 := HB10'.out.cell (i := 1) rfl
        have y2 := HB10'.out.frozen 0
        have y3 := HB10'.out.frozen 1
        have HOt := Lib.hid (best_out (by omega) a3 HB10'.out (.slice A3 q.1.length c3) (.int .i64 q.2.1) (.int .i64 q.2.2))
        clear a1 a2 a3
        go_wp2_with fail
        have HRx := Lib.hid a4; clear a4
        go_region
        have HRd : Hid (RdI (((W10.setCell ⟨w.heap.size + 1, 0, none⟩ (.slice A3 q.1.length c3)).setCell ⟨w.heap.size + 1 + 1, 0, none⟩ (.int .i64 q.2.1)).setCell ⟨w.heap.size + 1 + 1, 1, none⟩ (.int .i64 q.2.2)).drew A3 q.1.length q.1) := by
          refine ⟨rfl, fun i x hx => ?_⟩
          obtain ⟨ad, e, ha⟩ := HRx.out.1.2 i x hx
          refine ⟨ad, e, fun j v hj => ?_⟩
          have hn : 0 < q.1.length := by have := (List.getElem?_eq_some_iff.1 hx).1; omega
          have hg := HRx.out.2 ad hn e
          have hbk : ((ad.add (i * 1)).add j).block = ad.block := by rw [block_add, block_add]
          have hlo : ¬ ad.block ≤ w.heap.size + 2 := fun h => hg (.inr h)
          exact cell_far (by rw [hbk]; dsimp only; omega) (cell_far (by rw [hbk]; dsimp only; omega) (cell_far (by rw [hbk]; dsimp only; omega) (ha j v hj)))
        have HBf : Hid (Below w.heap.size w (((W10.setCell ⟨w.heap.size + 1, 0, none⟩ (.slice A3 q.1.length c3)).setCell ⟨w.heap.size + 1 + 1, 0, none⟩ (.int .i64 q.2.1)).setCell ⟨w.heap.size + 1 + 1, 1, none⟩ (.int .i64 q.2.2)).drew) := (((HB10.out.setCell (p := ⟨w.heap.size + 1, 0, none⟩) (by simp) _).setCell (p := ⟨w.heap.size + 1 + 1, 0, none⟩) (by simp; omega) _).setCell (p := ⟨w.heap.size + 1 + 1, 1, none⟩) (by simp; omega) _).drew
        have k1 : (((W10.setCell ⟨w.heap.size + 1, 0, none⟩ (.slice A3 q.1.length c3)).setCell ⟨w.heap.size + 1 + 1, 0, none⟩ (.int .i64 q.2.1)).setCell ⟨w.heap.size + 1 + 1, 1, none⟩ (.int .i64 q.2.2)).drew.cell? ⟨w.heap.size + 1, 0, none⟩ = some (.slice A3 q.1.length c3) := HOt.out.1.cell rfl
        have k2 : (((W10.setCell ⟨w.heap.size + 1, 0, none⟩ (.slice A3 q.1.length c3)).setCell ⟨w.heap.size + 1 + 1, 0, none⟩ (.int .i64 q.2.1)).setCell ⟨w.heap.size + 1 + 1, 1, none⟩ (.int .i64 q.2.2)).drew.cell? ⟨w.heap.size + 1 + 1, 0, none⟩ = some (.int .i64 q.2.1) := HOt.out.2.cell rfl
        have k3 : (((W10.setCell ⟨w.heap.size + 1, 0, none⟩ (.slice A3 q.1.length c3)).setCell ⟨w.heap.size + 1 + 1, 0, none⟩ (.int .i64 q.2.1)).setCell ⟨w.heap.size + 1 + 1, 1, none⟩ (.int .i64 q.2.2)).drew.cell? ⟨w.heap.size + 1 + 1, 1, none⟩ = some (.int .i64 q.2.2) := HOt.out.2.cell rfl
        have K1 := Lib.hid k1; have K2 := Lib.hid k2; have K3 := Lib.hid k3
        clear k1 k2 k3 z0 v0 v1 z1 y1 z2 z3 y2 y3 HOt
        generalize (((W10.setCell ⟨w.heap.size + 1, 0, none⟩ (.slice A3 q.1.length c3)).setCell ⟨w.heap.size + 1 + 1, 0, none⟩ (.int .i64 q.2.1)).setCell ⟨w.heap.size + 1 + 1, 1, none⟩ (.int .i64 q.2.2)).drew = WZ at *
        go_wp2_with fail
        refine bodyPost_ret (results_cct rfl rfl rfl rfl (load33 K1.out) (load27 K2.out K3.out)) rfl ⟨HBf.out, ?_⟩
        rw [HX.out]
        exact ⟨_, _, rfl, HRd.out, HC5.out⟩
theorem best_ok (t : Task) (A : Option Addr) (n c : Nat) (A' : Option Addr) (n' c' : Nat) (w : World) (hr : RdH w A n t.rd.highs) (hr' : RdW w A' n' t.works) (hc' : n' ≤ c') (hnm : ∀ (i : Nat) (v : Work), t.works[i]? = some v → v.name.size ≤ 9223372036854775807) (he : (chkTask t).2.2 = 0) :
    Calls Tryz.prog 14 #[.agg (t.val A n c A' n' c')] w (BestPost t w) := (best_okc t A n c A' n' c' w hr hr' hc' hnm he).mono fun _ _ h => bestPostC h
end Go.Proofs.YtjdaigffgfnhaaaGreat
