import Derived.Test.YtjdaigffgfnhaaaGreatBa
namespace Go.Proofs.YtjdaigffgfnhaaaGreat
open Go.RowKit

/-- What the set holds after some works. -/
def hSet (f : Int) (hs : List High) (ps : List (Int × Work)) (z : Int) : Prop := ∃ p ∈ ps, yhS f p.1 p.2.days p.2.level hs z

theorem zip_take_succ {α β : Type} {l : List α} {m : List β} {k : Nat} {a : α} {b : β} (ha : l[k]? = some a) (hb : m[k]? = some b) : (l.zip m).take (k + 1) = (l.zip m).take k ++ [(a, b)] := by
  have hz : (l.zip m)[k]? = some (a, b) := by rw [List.getElem?_zip_eq_some]; exact ⟨ha, hb⟩
  have hl : k < (l.zip m).length := (List.getElem?_eq_some_iff.1 hz).1
  rw [List.take_succ_eq_append_getElem hl, (List.getElem?_eq_some_iff.1 hz).2]

def HarmPost (t : Task) (ss : List Int) (w : World) (e : Ending) (w' : World) : Prop :=
  ∃ v, e = .returned (.tuple #[v, .agg #[.int .i64 (harmR t ss).1, .int .i64 (harmR t ss).2]]) ∧ w'.ownsRow w.heap.size 3 1 v (harmL t ss).length ((harmL t ss).map (Value.int .i64)) ∧ Below w.heap.size w w'

set_option maxRecDepth 100000 in
set_option maxHeartbeats 2000000 in
theorem harm_any (t : Task) (p : Nat) (A : Option Addr) (n c : Nat) (A' : Option Addr) (n' c' : Nat) (As : Option Addr) (m cs : Nat) (ss : List Int) (w : World) (hP : Pl w p t A n c A' n' c') (hok : TaskOK t) (hs : RdI w As m ss) (hm : m = n') (hss : ∀ s ∈ ss, 0 ≤ s ∧ s ≤ 364) :
    Calls Tryz.prog 48 #[.pointer (some ⟨p, 0, none⟩), .slice As m cs] w (HarmPost t ss w) := by
  obtain ⟨f0, f1, y0, y1, hlen, hrows⟩ := hok.rd
  have hw4 := hok.len
  have hwl := hP.works.1
  have hhl := hP.highs.1
  have hsl := hs.1
  have hm4 : m ≤ 4 := by omega
  have hn3 : n ≤ 300 := by omega
  have HWs : Hid (∀ (i : Nat) (v : Work), t.works[i]? = some v → WorkOK v) := fun i v hv => workOK_of (hok.rows i v hv).2.2.1
  have HRows := Lib.hid hrows
  have HP := Lib.hid hP; clear hP
  have HSs := Lib.hid hs; clear hs
  have HSr := Lib.hid hss; clear hss
  clear hok hrows hlen hw4
  have HL : Hid (t.works.length = n' ∧ ss.length = m ∧ m = n') := ⟨hwl, hsl, hm⟩
  clear hwl hsl hm hhl
  have hmm := @run_makeMap Tryz.prog
  go_enter Tryz.func48, Tryz.ntmps48
  go_wp2_with fail
  obtain ⟨W1, hW1⟩ : ∃ W1, (w.alloc (Obj.cells #[Value.int IntKind.i64 0, Value.int IntKind.i64 0] 66)).alloc (Obj.map #[] 0) = W1 := ⟨_, rfl⟩
  have HB1 : Hid (Below w.heap.size w W1) := by rw [← hW1]; exact ((Below.refl _ _).alloc (Nat.le_refl _) _).alloc (by simp) _
  have K1 : Hid (Blk W1 w.heap.size 66 #[.int .i64 0, .int .i64 0]) := by rw [← hW1]; exact (Blk.new _ _ _ rfl).alloc _
  have Y1 : Hid (Yset W1 (w.heap.size + 1) 0 (fun _ => False)) := by rw [← hW1]; have := Yset.made (w.alloc (Obj.cells #[Value.int IntKind.i64 0, Value.int IntKind.i64 0] 66)); simp only [World.size_alloc] at this; exact this
  rw [hW1]
  clear hW1 hmm
  go_loopw [7, 17] (fun b i wr => ∃ k : Nat, k ≤ m ∧ i = .int .i64 k ∧ b = .bool (harmW ((ss.zip t.works).take k)) ∧ W1.grownBy wr (some (w.heap.size + 1)) ∧ Yset wr (w.heap.size + 1) (600 * k) (hSet t.rd.first t.rd.highs ((ss.zip t.works).take k))) (fun _ i _ => m - (intOf i).toNat)
  case atStart => exact ⟨0, Nat.zero_le _, rfl, rfl, grown_refl _ _, Y1.out.mono (by omega) (fun y => by simp [hSet])⟩
  case round =>
    obtain ⟨k, hk, rfl, rfl, hG, hY⟩ := hrel
    have HG := Lib.hid hG; clear hG
    have HY := Lib.hid hY; clear hY
    have HBw : Hid (Below w.heap.size w wr) := HB1.out.grown HG.out HB1.out.size (fun j e => by cases e; omega)
    by_cases hlt : k < m
    · obtain ⟨x, ad, hx, rfl, ha⟩ := (HP.out.below HBw.out).works.get (i := k) (by have := HL.out.2.2; omega)
      obtain ⟨s, sd, hs, rfl, cs0⟩ := rdI_get (HSs.out.below HBw.out) hlt
      obtain ⟨c0, c1, c2, c3, c4, c5, c6⟩ := ha.seven
      obtain ⟨Sx, cap, hb, hsea⟩ := (HP.out.below HBw.out).blk
      have p0 := hb.cell (i := 0) rfl
      have p1 := hb.cell (i := 1) rfl
      have p2 := hb.cell (i := 2) rfl
      have p3 := hb.cell (i := 3) rfl
      have hx1 := HWs.out k x hx
      obtain ⟨d0, d1, u0, u1, _, _, _, _, _, _⟩ := hx1
      have hsr := HSr.out s (List.mem_of_getElem? hs)
      obtain ⟨s0, s1⟩ := hsr
      have HZ := Lib.hid (zip_take_succ hs hx)
      have hkn : k < n' := by have := HL.out.2.2; omega
      have hki : (k : Int) < (n' : Int) := by omega
      have hpl : p < wr.heap.size := hb.lt
      have HBlk := Lib.hid hb
      clear hsea hb ha hx hs
      generalize hbk : harmW ((ss.zip t.works).take k) = bk at *
      have HBK := Lib.hid hbk; clear hbk
      have HHd : Hid (RdH wr A n t.rd.highs) := (HP.out.below HBw.out).highs
      have HWI : Hid (harmW ((ss.zip t.works).take (k + 1)) = (bk || wrapsB s x.days)) := by
        rw [HZ.out]
        unfold harmW at HBK ⊢
        rw [List.any_append, HBK.out]
        simp [Hid]
      cases bk with
      | true =>
        go_wp2_with fail
        obtain ⟨W2, hW2⟩ : ∃ W2, wr.alloc (Obj.cells #[Value.int IntKind.i64 s, Value.int IntKind.i64 x.days] 64) = W2 := ⟨_, rfl⟩
        rw [hW2]
        have HB2 : Hid (Below (wr.alloc (Obj.cells #[Value.int IntKind.i64 s, Value.int IntKind.i64 x.days] 64)).heap.size (wr.alloc (Obj.cells #[Value.int IntKind.i64 s, Value.int IntKind.i64 x.days] 64)) W2) := by rw [← hW2]; exact Below.refl _ _
        clear hW2
        have BX : Blk W2 wr.heap.size 64 #[.int .i64 s, .int .i64 x.days] := (Blk.new _ _ _ rfl).later HB2.out
        have HB2' : Hid (Below wr.heap.size wr W2) := ((Below.refl _ wr).alloc (Nat.le_refl _) _).trans (HB2.out.mono (by simp))
        have PB := HBlk.out.later HB2'.out
        have r0 := later_cell (BX.cell (i := 0) rfl)
        have r1 := later_cell (BX.cell (i := 1) rfl)
        have r2 := later_cell (PB.cell (i := 0) rfl)
        have r3 := later_cell (PB.cell (i := 1) rfl)
        have r4 := later_cell (PB.cell (i := 2) rfl)
        have r5 := later_cell (PB.cell (i := 3) rfl)
        have r6 := later_cell (cell_below HB2'.out c6)
        clear BX PB c0 c1 c2 c3 c4 c5 c6 cs0 p0 p1 p2 p3
        refine wp_region_later_tail 17 (by kernel_rfl) (by kernel_rfl) ?_
        simp only [List.take_succ_cons, List.take_zero]
        iterate 17 (go_big_quiet_want; go_big_quiet_op; go_big_quiet_on)
        refine wpQuiet_nil ?_
        intro _ hw'
        obtain ⟨u, hu⟩ := hw'
        subst hu
        clear r0 r1 r2 r3 r4 r5 r6
        have HBu : Hid (Below wr.heap.size wr u.w) := HB2'.out.trans (u.h.mono HB2'.out.size)
        have HEx := Lib.hid (exceeded_any (w.heap.size + 1) (600 * k) _ t.rd.first t.rd.years s x.days x.level A n c t.rd.highs u.w (HY.out.kept (grown_of_below HBu.out none) (by simp)) (by omega) (HHd.out.below HBu.out) hn3 HRows.out f0 f1 s0 s1 d0 (by omega))
        simp only [List.drop_succ_cons, List.drop_zero]
        go_wp2_with (go_at_call 40; refine HEx.out.mono ?_; rintro e w3 ⟨rfl, hY3, hG3⟩; have HY3 := Lib.hid hY3; have HG3 := Lib.hid hG3; clear hY3 hG3)
        go_roundw
        case rel => exact ⟨k + 1, by omega, by go_num, by rw [HWI.out]; simp, grown_tr (grown_tr HG.out (grown_of_below HBu.out none) (fun r e => by cases e)) HG3.out (fun r e => by cases e; exact .inl rfl), HY3.out.mono (by omega) (fun z => by unfold hSet; rw [HZ.out]; simp only [List.mem_append, List.mem_singleton]; constructor; rintro (⟨q, h1, h2⟩ | h); exact ⟨q, .inl h1, h2⟩; exact ⟨_, .inr rfl, h⟩; rintro ⟨q, h1 | rfl, h2⟩; exact .inl ⟨q, h1, h2⟩; exact .inr h2)⟩
        case measure => simp [intOf]; omega
      | false =>
        go_wp2_with fail
        refine (wraps_any _ _ _ (by omega) (by omega) (by omega) (by omega)).mono ?_
        rintro e W2 ⟨rfl, hb2⟩
        have HB2 := Lib.hid hb2
        have e0 : W2.cell? ⟨wr.heap.size, 0, none⟩ = some (.int .i64 s) := cell_below hb2 (by simp)
        have e1 : W2.cell? ⟨wr.heap.size, 1, none⟩ = some (.int .i64 x.days) := cell_below hb2 (by simp)
        clear hb2
        generalize wrapsB s x.days = wb at *
        go_wp2_with fail
        clear e0 e1
        have BX : Blk W2 wr.heap.size 64 #[.int .i64 s, .int .i64 x.days] := (Blk.new _ _ _ rfl).later HB2.out
        have HB2' : Hid (Below wr.heap.size wr W2) := ((Below.refl _ wr).alloc (Nat.le_refl _) _).trans (HB2.out.mono (by simp))
        have PB := HBlk.out.later HB2'.out
        have r0 := later_cell (BX.cell (i := 0) rfl)
        have r1 := later_cell (BX.cell (i := 1) rfl)
        have r2 := later_cell (PB.cell (i := 0) rfl)
        have r3 := later_cell (PB.cell (i := 1) rfl)
        have r4 := later_cell (PB.cell (i := 2) rfl)
        have r5 := later_cell (PB.cell (i := 3) rfl)
        have r6 := later_cell (cell_below HB2'.out c6)
        clear BX PB c0 c1 c2 c3 c4 c5 c6 cs0 p0 p1 p2 p3
        refine wp_region_later_tail 17 (by kernel_rfl) (by kernel_rfl) ?_
        simp only [List.take_succ_cons, List.take_zero]
        iterate 17 (go_big_quiet_want; go_big_quiet_op; go_big_quiet_on)
        refine wpQuiet_nil ?_
        intro _ hw'
        obtain ⟨u, hu⟩ := hw'
        subst hu
        clear r0 r1 r2 r3 r4 r5 r6
        have HBu : Hid (Below wr.heap.size wr u.w) := HB2'.out.trans (u.h.mono HB2'.out.size)
        have HEx := Lib.hid (exceeded_any (w.heap.size + 1) (600 * k) _ t.rd.first t.rd.years s x.days x.level A n c t.rd.highs u.w (HY.out.kept (grown_of_below HBu.out none) (by simp)) (by omega) (HHd.out.below HBu.out) hn3 HRows.out f0 f1 s0 s1 d0 (by omega))
        simp only [List.drop_succ_cons, List.drop_zero]
        go_wp2_with (go_at_call 40; refine HEx.out.mono ?_; rintro e w3 ⟨rfl, hY3, hG3⟩; have HY3 := Lib.hid hY3; have HG3 := Lib.hid hG3; clear hY3 hG3)
        go_roundw
        case rel => exact ⟨k + 1, by omega, by go_num, by rw [HWI.out]; simp, grown_tr (grown_tr HG.out (grown_of_below HBu.out none) (fun r e => by cases e)) HG3.out (fun r e => by cases e; exact .inl rfl), HY3.out.mono (by omega) (fun z => by unfold hSet; rw [HZ.out]; simp only [List.mem_append, List.mem_singleton]; constructor; rintro (⟨q, h1, h2⟩ | h); exact ⟨q, .inl h1, h2⟩; exact ⟨_, .inr rfl, h⟩; rintro ⟨q, h1 | rfl, h2⟩; exact .inl ⟨q, h1, h2⟩; exact .inr h2)⟩
        case measure => simp [intOf]; omega
    · have hkm : k = m := by omega
      have hful : (ss.zip t.works).take k = ss.zip t.works := List.take_of_length_le (by rw [List.length_zip]; have := HL.out; omega)
      rw [hful] at HY ⊢
      clear hful
      obtain ⟨Sx, cap, hb, hsea⟩ := (HP.out.below HBw.out).blk
      have p0 := hb.cell (i := 0) rfl
      have p1 := hb.cell (i := 1) rfl
      have p2 := hb.cell (i := 2) rfl
      have HKm := Lib.hid hkm
      clear hsea hb hkm
      have KB := Lib.hid (K1.out.grown HG.out (by simp))
      have HOF := Lib.hid (ofF_bounds (harmW (ss.zip t.works)) y0 y1)
      go_wp2_with (go_at_call 42; refine (last_any _ _ _ _ _ f0 f1 y0 y1).mono ?_; rintro e W2 ⟨rfl, hb2⟩; have HB2 := Lib.hid hb2; clear hb2)
      have HL2 := Lib.hid (list_any (w.heap.size + 1) (600 * k) _ (t.rd.first + ofF t.rd.years (harmW (ss.zip t.works)) - 1) W2 (HY.out.kept (grown_of_below HB2.out none) (by simp)) (by omega))
      refine HL2.out.mono ?_
      rintro e W4 ⟨l, A2, c2, rfl, hs4, hm4, ho4, hk4, hb4⟩
      have hl4 : l = harmL t ss := by
        refine list_years hs4 hm4 (fun y => ?_) rfl
        unfold hSet harmP
        rw [List.any_eq_true]
        constructor
        · rintro ⟨q, hq, hy⟩
          have hq2 := List.of_mem_zip hq
          have hsq := HSr.out q.1 hq2.1
          obtain ⟨i, hi⟩ := List.getElem?_of_mem hq2.2
          have hwq := HWs.out i q.2 hi
          have := (yhS_iff HRows.out hsq.1 hsq.2 (by have := hwq.d1; omega) y).1 hy
          exact ⟨this.1, q, hq, this.2⟩
        · rintro ⟨hy, q, hq, he⟩
          have hq2 := List.of_mem_zip hq
          have hsq := HSr.out q.1 hq2.1
          obtain ⟨i, hi⟩ := List.getElem?_of_mem hq2.2
          have hwq := HWs.out i q.2 hi
          exact ⟨q, hq, (yhS_iff HRows.out hsq.1 hsq.2 (by have := hwq.d1; omega) y).2 ⟨hy, he⟩⟩
      have HL4 := Lib.hid hl4; clear hl4 hs4 hm4
      have HO4 := Lib.hid ho4; clear ho4
      have J4 := (KB.out.later HB2.out).later hb4
      have z0 := J4.cell (i := 0) rfl
      have z1 := J4.cell (i := 1) rfl
      have z2 := J4.frozen 0
      have z3 := J4.frozen 1
      have HJ4 := Lib.hid J4
      have HB4 : Hid (Below w.heap.size w W4) := (HBw.out.trans (HB2.out.mono HBw.out.size)).trans (hb4.mono (Nat.le_trans HBw.out.size HB2.out.size))
      have hsz2 : w.heap.size < W2.heap.size := (KB.out.later HB2.out).lt
      clear J4 hb4 p0 p1 p2
      have HRR : Hid (harmR t ss = ((l.length : Int), ofF t.rd.years (harmW (ss.zip t.works)))) := by unfold harmR; rw [HL4.out]; rfl
      generalize ofF t.rd.years (harmW (ss.zip t.works)) = ofv at *
      go_wp2
      have JK := (HJ4.out.set 0 (.int .i64 (l.length : Int))).set 1 (.int .i64 ofv)
      have c0 := JK.cell (i := 0) rfl
      have c1 := JK.cell (i := 1) rfl
      refine bodyPost_ret (v := .tuple #[.slice A2 l.length c2, .agg #[.int .i64 (l.length : Int), .int .i64 ofv]]) (by simp [results, Tryz.results48, go_sem, c0, c1]) rfl ⟨.slice A2 l.length c2, by rw [HRR.out], ?_, ?_⟩
      · rw [← HL4.out]
        have h1 := ownsRow_setCell_below HO4.out (a := ⟨w.heap.size, 0, none⟩) hsz2 (.int .i64 (l.length : Int))
        have h2 := ownsRow_setCell_below h1 (a := ⟨w.heap.size, 1, none⟩) hsz2 (.int .i64 ofv)
        exact own_lower h2 (Nat.le_of_lt hsz2)
      · exact (HB4.out.setCell (p := ⟨w.heap.size, 0, none⟩) (Nat.le_refl _) _).setCell (p := ⟨w.heap.size, 1, none⟩) (Nat.le_refl _) _
end Go.Proofs.YtjdaigffgfnhaaaGreat
