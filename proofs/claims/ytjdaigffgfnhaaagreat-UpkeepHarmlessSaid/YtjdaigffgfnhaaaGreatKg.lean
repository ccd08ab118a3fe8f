/- begin: the game of a task of closing. -/
import Derived.Test.YtjdaigffgfnhaaaGreatKd
import Derived.Test.YtjdaigffgfnhaaaGreatKc
import Derived.Test.YtjdaigffgfnhaaaGreatKf
import Derived.Test.YtjdaigffgfnhaaaGreatMr
import Derived.Sort.CutIn
import Derived.LoopNIn
namespace Go.Proofs.YtjdaigffgfnhaaaGreat
open Go.RowKit Go.Shelf
attribute [local go_sem] Oper.semAt_some

theorem Blk.drw {w : World} {g : Nat} {t : TypeId} {cs : Array Value} (h : Blk w g t cs) : Blk w.drew g t cs := h
theorem backward_stops (n : Nat) (hn : 1 ≤ n) (Bx : Nat) (A : Option Addr) (len c : Nat) (hv : List Int) (w : World) (hx : w.cell? ⟨Bx, 0, none⟩ = some (.slice A len c)) (hr : RdI w A len hv) (hlen : len ≤ 60) :
    SeqStopsK Fence.wide n Tryz.prog 76 #[.pointer (some ⟨Bx, 0, none⟩)] Bk.encs KeepsCells (fun ys : List (Bk hv) => ys.length = len) (fun _ => True) len w :=
  fun l J Jx W hW _ _ hY h0 => backward1_in Fence.wide n rfl hn l Bx A len c hv J Jx W hY (cell_below hW hx) (hr.below hW) hlen h0
theorem below_grown {B : Nat} {a b c : World} {row : Option Nat} (h : Below B a b) (k : b.grownBy c row) (hr : ∀ r, row = some r → B ≤ r) (hB : B ≤ b.heap.size := by exact Below.size (by assumption)) : Below B a c :=
  ⟨k.os.trans h.os, k.tape.trans h.tape, k.output.trans h.output, Nat.le_trans h.size k.size, fun i hi => (k.block i (Nat.lt_of_lt_of_le hi hB) (fun e => by have := hr i e.symm; omega)).trans (h.block i hi)⟩
def BeginPost (t : Clt) (m : ClM) (w : World) (e : Ending) (w' : World) : Prop := ∃ gb, e = .returned (.tuple #[.pointer (some ⟨gb, 0, none⟩), .int .i64 0]) ∧ GmB w' t m gb ∧ Below w.heap.size w w'

set_option maxRecDepth 100000 in
set_option maxHeartbeats 4000000 in
theorem begin_any (t : Clt) (m : ClM) (w : World) (hr : ClR w t m) (hok : t.err = 0) (hlim : ∀ v ∈ t.hv, v ≤ t.limit) (hnh : m.nh ≤ 60) :
    Calls Tryz.prog 34 #[.agg (t.val m)] w (BeginPost t m w) := by
  refine (callsIn_wide (n := 9)).1 ?_
  have HR := Lib.hid hr; clear hr
  have HC : Hid (∀ W, Below w.heap.size w W → Calls Tryz.prog 6 #[.agg (t.val m)] W (BPost 0 W)) := fun W hb => by
    have := ccheck_any t m W (HR.out.below hb)
    rw [hok] at this
    exact this
  have HL := Lib.hid hlim; clear hlim hok
  obtain ⟨A, n, c, A', n', c', Af, nf, cf, hb, ch, Ah, nh, cv, Ar, cr⟩ := m
  obtain ⟨bas, filled, hv, out, limit, delay⟩ := t
  dsimp only [Clt.val] at *
  refine callsIn_of_wp_marks Tryz.func34 rfl trivial ?_ rfl
  simp only [Tryz.ntmps34, List.size_toArray, List.length_cons, List.length_nil, Nat.reduceAdd, Nat.reduceSub, Array.replicate_succ, Array.replicate_zero, List.push_toArray, List.append_toArray, List.nil_append, List.cons_append]
  gi_wp2
  refine ⟨trivial, ?_⟩
  refine (callsIn_wide.2 (HC.out _ ((Below.refl _ w).alloc (Nat.le_refl _) _))).mono ?_
  rintro e W2 ⟨⟨pa, pb, rfl⟩, hb2⟩
  have K1 := Blk.new w 34 #[.slice A n c, .int .i64 bas.leak, .int .i64 bas.crest, .int .i64 bas.over, .slice A' n' c', .slice Af nf cf, .slice (some ⟨hb, 0, none⟩) 1 ch, .slice Ar nh cr, .int .i64 out, .int .i64 limit, .int .i64 delay] rfl
  have K2 := Lib.hid (K1.later hb2)
  have HB2 : Hid (Below w.heap.size w W2) := ((Below.refl _ w).alloc (Nat.le_refl _) _).trans (hb2.mono (by simp))
  clear K1 hb2 HC
  have hszW : w.heap.size < W2.heap.size := K2.out.lt
  have q0 := K2.out.cell (i := 0) rfl
  have q6 := K2.out.cell (i := 6) rfl
  gi_wp2
  have hh0 : W2.cell? ⟨hb, 0, none⟩ = some (.int .i64 0) := cell_below HB2.out HR.out.h0
  gi_cut [7] from 20 (fun v7 wx => ∃ vb gb mb : Nat, v7 = .pointer (some ⟨vb, 0, none⟩) ∧ Blk wx vb 97 #[.pointer (some ⟨gb, 0, none⟩)] ∧
    Blk wx gb 136 #[.slice A n c, .int .i64 bas.leak, .int .i64 bas.crest, .int .i64 bas.over, .slice A' n' c', .slice Af nf cf, .slice (some ⟨hb, 0, none⟩) 1 ch, .slice Ar nh cr, .int .i64 out, .int .i64 limit, .int .i64 delay, .int .i64 0, .int .i64 nh, .int .i64 0, .map (some mb)] ∧ Below W2.heap.size W2 wx)
  case first =>
    have hmm := @run_makeMap Tryz.prog
    have x0 := later_cell q0
    have x1 := later_cell (K2.out.cell (i := 1) rfl)
    have x2 := later_cell (K2.out.cell (i := 2) rfl)
    have x3 := later_cell (K2.out.cell (i := 3) rfl)
    have x4 := later_cell (K2.out.cell (i := 4) rfl)
    have x5 := later_cell (K2.out.cell (i := 5) rfl)
    have x6 := later_cell q6
    have x7 := later_cell (K2.out.cell (i := 7) rfl)
    have x8 := later_cell (K2.out.cell (i := 8) rfl)
    have x9 := later_cell (K2.out.cell (i := 9) rfl)
    have x10 := later_cell (K2.out.cell (i := 10) rfl)
    have xh := later_cell hh0
    have HS0 : Hid ((fun w' => ∃ u : Later W2, w' = u.w) W2.drew) := ⟨⟨W2.drew, (Below.refl _ _).drew⟩, rfl⟩
    refine wpIn_region_trW (fun w' => ∃ u : Later W2, w' = u.w) 13 (.qu 0 (.qu 1 (.qu 2 (.qu 3 (.qu 4 (.qu 5 (.qu 6 (.qu 7 (.qu 8 (.tw 9 (.qu 10 (.tw 11 (.on 12 (.on 13 .leaf)) 12 (.on 11 (.on 13 .leaf)))) 12 (.on 9 (.on 10 (.on 11 (.on 13 .leaf)))))))))))))) (by kernel_rfl) (by kernel_rfl) (by kernel_rfl) ?_
    simp only [TrN.fill, List.getElem?_cons_zero, List.getElem?_cons_succ]
    iterate 9 ((first | refine tr_quiet rfl rfl HS0.out ?_ | refine tr_valQ _ (run_lenT _ _ _ Tryz.underlying31 _ _ _ rfl rfl) rfl HS0.out ?_); intro K hK; go_big_quiet_op; go_big_quiet_on)
    refine tr_tw ?_ ?_
    · go_wp2_with fail
      have HB3 : Hid (Below W2.heap.size W2 (W2.drew.alloc (Obj.map #[] 0))) := (Below.refl _ _).drew.alloc (by simp) _
      refine mix_post (fun _ => ⟨⟨_, HB3.out⟩, rfl⟩) ?_
      refine tr_quiet rfl rfl ⟨⟨_, HB3.out⟩, rfl⟩ ?_
      intro K hK; go_big_quiet_op; go_big_quiet_on
      refine tr_tw ?_ ?_
      · go_wp2_with fail
        refine mix_post (fun _ => ⟨⟨_, HB3.out.alloc (by simp) _⟩, rfl⟩) ?_
        refine tr_on ?_
        go_wp2_with fail
        refine mix_post (fun _ => ⟨⟨_, (HB3.out.alloc (by simp) _).alloc (by simp; omega) _⟩, rfl⟩) ?_
        refine tr_on ?_
        go_wp2_with fail
        refine mix_post (fun h => absurd h (by decide)) ?_
        refine tr_leaf (OnlyN.normal ?_)
        refine Met.intro ?_
        gi_step
        gi_meet
        case rel => exact ⟨_, _, _, rfl, (Blk.new _ _ _ (by simp)).drw, ((Blk.new _ _ _ (by simp)).alloc _).drw, ((((Below.refl _ _).alloc (by simp) _).alloc (by simp) _).alloc (by simp; omega) _).drew⟩
      · go_wp2_with fail
        refine mix_post (fun _ => ⟨⟨_, HB3.out.alloc (by simp) _⟩, rfl⟩) ?_
        refine tr_on ?_
        go_wp2_with fail
        refine mix_post (fun _ => ⟨⟨_, (HB3.out.alloc (by simp) _).alloc (by simp; omega) _⟩, rfl⟩) ?_
        refine tr_on ?_
        go_wp2_with fail
        refine mix_post (fun h => absurd h (by decide)) ?_
        refine tr_leaf (OnlyN.normal ?_)
        refine Met.intro ?_
        gi_step
        gi_meet
        case rel => exact ⟨_, _, _, rfl, ((Blk.new _ _ _ (by simp)).alloc _).drw, (Blk.new _ _ _ (by simp)).drw, ((((Below.refl _ _).alloc (by simp) _).alloc (by simp) _).alloc (by simp; omega) _).drew⟩
    · go_wp2_with fail
      have HB3 : Hid (Below W2.heap.size W2 (W2.drew.alloc (Obj.cells #[.pointer none] 97))) := (Below.refl _ _).drew.alloc (by simp) _
      refine mix_post (fun _ => ⟨⟨_, HB3.out⟩, rfl⟩) ?_
      refine tr_on ?_
      go_wp2_with fail
      refine mix_post (fun _ => ⟨⟨_, HB3.out.alloc (by simp) _⟩, rfl⟩) ?_
      refine tr_on ?_
      go_wp2_with fail
      refine mix_post (fun _ => ⟨⟨_, HB3.out.alloc (by simp) _⟩, rfl⟩) ?_
      refine tr_on ?_
      go_wp2_with fail
      refine mix_post (fun _ => ⟨⟨_, (HB3.out.alloc (by simp) _).alloc (by simp; omega) _⟩, rfl⟩) ?_
      refine tr_on ?_
      go_wp2_with fail
      refine mix_post (fun h => absurd h (by decide)) ?_
      refine tr_leaf (OnlyN.normal ?_)
      refine Met.intro ?_
      gi_step
      gi_meet
      case rel => exact ⟨_, _, _, rfl, (((Blk.new _ _ _ (by simp)).alloc _).alloc _).drw, (Blk.new _ _ _ (by simp)).drw, ((((Below.refl _ _).alloc (by simp) _).alloc (by simp) _).alloc (by simp; omega) _).drew⟩
  case rest =>
    obtain ⟨vb, gb, mb, rfl, hV, hG, hbx⟩ := hcut
    have HV := Lib.hid hV; clear hV
    have HG := Lib.hid hG; clear hG
    have HBX : Hid (Below w.heap.size w wc) := HB2.out.trans (hbx.mono HB2.out.size)
    have KX := Lib.hid (K2.out.later hbx)
    clear hbx K2 HB2 q0 q6 hh0
    have r6 := KX.out.cell (i := 6) rfl
    have rv := HV.out.cell (i := 0) rfl
    gi_wp2
    have s0 : wc.cell? ⟨hb, 0, none⟩ = some (.int .i64 0) := cell_below HBX.out HR.out.h0
    have s1 : wc.cell? ⟨hb, 1, none⟩ = some (.slice Ah nh cv) := cell_below HBX.out HR.out.h1
    refine wpIn_loop_rounds 2 ?_
    rw [roundsIn_succ]
    gi_wp2_with (refine ⟨trivial, ?_⟩; gi_at_call 62; refine (backward_in _ _ _ _ _).mono ?_; rintro e w' ⟨rfl, rfl⟩)
    have HBY : Below wc.heap.size wc ((wc.alloc (Obj.cells #[.int .i64 0, .slice Ah nh cv] 42)).alloc (Obj.cells #[.slice Ah nh cv] 31)) := ((Below.refl _ _).alloc (Nat.le_refl _) _).alloc (by simp) _
    have SB : Hid (Blk ((wc.alloc (Obj.cells #[.int .i64 0, .slice Ah nh cv] 42)).alloc (Obj.cells #[.slice Ah nh cv] 31)) wc.heap.size 42 #[.int .i64 0, .slice Ah nh cv]) := (Blk.new _ _ _ rfl).alloc _
    have BB : Hid (Blk ((wc.alloc (Obj.cells #[.int .i64 0, .slice Ah nh cv] 42)).alloc (Obj.cells #[.slice Ah nh cv] 31)) (wc.heap.size + 1) 31 #[.slice Ah nh cv]) := Blk.new _ _ _ (by simp)
    obtain ⟨W5, hW5⟩ : ∃ W5, (wc.alloc (Obj.cells #[.int .i64 0, .slice Ah nh cv] 42)).alloc (Obj.cells #[.slice Ah nh cv] 31) = W5 := ⟨_, rfl⟩
    have hsz5 : W5.heap.size = wc.heap.size + 2 := by rw [← hW5]; simp
    rw [hW5] at HBY SB BB ⊢
    clear hW5
    have HB5 : Hid (Below w.heap.size w W5) := HBX.out.trans (HBY.mono HBX.out.size)
    have VR := Lib.hid (HV.out.later HBY)
    have GR := Lib.hid (HG.out.later HBY)
    have KR := Lib.hid (KX.out.later HBY)
    have HSZ5 := Lib.hid hsz5; clear hsz5
    have HW := backward_stops 8 (by omega) (wc.heap.size + 1) Ah nh cv hv W5 (BB.out.cell (i := 0) rfl) (HR.out.vals.below HB5.out) hnh
    refine wpIn_rangeFunc_ownH rfl (by omega) (gf := 76) (lb := #[.pointer (some ⟨wc.heap.size + 1, 0, none⟩)]) rfl trivial (enters_of Tryz.func76 (by kernel_rfl) rfl)
      HW (fun h k => h.trans k) (fun W l o o' _ hl ho _ => KeepsCells.putObj o' hl ho) (Below.refl _ _) (fun _ => rfl)
      (fun _ W => Below W5.heap.size W5 W)
      (fun _ _ _ => False)
      (fun s X Y row hs hg hr => ?keep)
      (fun _ _ _ _ _ hs _ _ => hs)
      (Below.refl _ _)
      (fun x a' W => ∃ u43 : Value, a' = { tmps := #[.agg #[.slice A n c, .int .i64 bas.leak, .int .i64 bas.crest, .int .i64 bas.over, .slice A' n' c', .slice Af nf cf, .slice (some ⟨hb, 0, none⟩) 1 ch, .slice Ar nh cr, .int .i64 out, .int .i64 limit, .int .i64 delay], .pointer (some ⟨w.heap.size, 0, none⟩), .pointer none, .int .i64 0, .int .i64 pa, .int .i64 pb, .int .i64 0, .pointer (some ⟨vb, 0, none⟩), undef, .pointer (some ⟨wc.heap.size, 0, none⟩), .int .i64 x.i, .tuple #[.int .i64 pa, .int .i64 pb, .int .i64 0], .agg #[.slice A n c, .int .i64 bas.leak, .int .i64 bas.crest, .int .i64 bas.over, .slice A' n' c', .slice Af nf cf, .slice (some ⟨hb, 0, none⟩) 1 ch, .slice Ar nh cr, .int .i64 out, .int .i64 limit, .int .i64 delay], .tuple #[.int .i64 pa, .int .i64 pb, .int .i64 0], .int .i64 pa, .int .i64 pb, .int .i64 0, .int .i64 0, .bool false, undef, u20, u21, u22, u23, u24, u25, u26, u27, u28, u29, u30, u31, .pointer (some ⟨w.heap.size, 6, none⟩), .slice (some ⟨hb, 0, none⟩) 1 ch, .int .i64 1, .int .i64 0, .bool true, .pointer (some ⟨hb, 0, none⟩), .agg #[.int .i64 0, .slice Ah nh cv], .pointer (some ⟨wc.heap.size, 1, none⟩), .slice Ah nh cv, .func (.func 76) #[] #[.pointer (some ⟨wc.heap.size + 1, 0, none⟩)], .int .i64 x.i, u43, u44, u45, u46, u47, u48, u49, u50, u51, u52, u53, u54, u55, u56, u57, u58, u59, u60, u61, u62, u63], defers := [] })
      (fun x a' _ X Y row hs hg hr => hs)
      ?assign ?body ?done ?stop
    case keep => exact below_grown hs hg (fun r e => (hr r e).1)
    case assign =>
      rintro l pre x W K i1 hK
      gi_wp2
      exact hK _ _ (KeepsFrom.refl _ _) (KeepsCells.refl _) i1 ⟨_, rfl⟩
    case body =>
      rintro l pre x a' W hl ⟨r, hr'⟩ i1 ⟨u43, rfl⟩ hlt
      have hxl : x.i < nh := by
        have h1 := (List.getElem?_eq_some_iff.1 x.at_).1
        have h2 := HR.out.vals.1
        dsimp only at h2
        omega
      obtain ⟨v, ad, hvk, hA, c0⟩ := rdI_get ((HR.out.vals.below HB5.out).below i1) hxl
      rw [x.at_] at hvk
      cases hvk
      dsimp only at hA
      subst hA
      have hle : x.v ≤ limit := HL.out _ (List.mem_of_getElem? x.at_)
      have q9 := (SB.out.later i1).cell (i := 1) rfl
      have q5 := (KR.out.later i1).cell (i := 9) rfl
      have I1 := Lib.hid i1; clear i1 hr'
      generalize hPP : ownPostG _ _ _ _ _ _ = PP
      have HPP := Lib.hid hPP; clear hPP
      gi_wp2
      have x9 := later_cell q9
      have x5 := later_cell q5
      have xe := later_cell c0
      have HS0 : Hid ((fun w' => ∃ u : Later W, w' = u.w) W.drew) := ⟨⟨W.drew, (Below.refl _ _).drew⟩, rfl⟩
      refine wpIn_region_trR (fun w' => ∃ u : Later W, w' = u.w) 7 (.qu 0 (.qu 1 (.qu 2 (.qu 3 (.qu 4 (.qu 5 (.qu 6 (.on 7 .leaf)))))))) (by kernel_rfl) (by kernel_rfl) (by kernel_rfl) ?_
      simp only [TrN.fill, List.getElem?_cons_zero, List.getElem?_cons_succ]
      iterate 7 (refine tr_quiet rfl rfl HS0.out ?_; intro K hK; go_big_quiet_op; go_big_quiet_on)
      refine tr_on ?_
      go_wp2_with fail
      refine mix_post (fun h => absurd h (by decide)) ?_
      refine tr_leaf (OnlyN.normal ?_)
      clear x9 x5 xe
      gi_wp2
      rw [← HPP.out]
      exact ⟨KeepsFrom.of_grownBy (grown_of_below (Below.refl _ _).drew none) (fun _ e => by cases e), ⟨Nat.le_refl _, fun _ _ h _ => h⟩, I1.out.drew⟩
    case done =>
      rintro D ys W hD hys i1 hK
      have HK := Lib.hid hK
      have I1 := Lib.hid i1
      have rv := (VR.out.later i1).cell (i := 0) rfl
      gi_wp2
      rw [roundsIn_succ]
      gi_wp2
      refine ⟨by simp, .inl ⟨_, _, rfl, run_takeDeferred HK.out, ?_⟩⟩
      have hp : W.grownBy (W.putObj D (.deferred none)) (some D) := grownBy_putObj' _ D _
      have hf : Below W5.heap.size W5 (W.putObj D (.deferred none)) := below_grown I1.out hp (fun r e => by cases e; exact hD)
      exact ⟨_, by simp [results, Tryz.results34, go_sem], ⟨gb, rfl, ⟨mb, GR.out.later hf⟩, HB5.out.trans (hf.mono HB5.out.size)⟩⟩
    case stop =>
      rintro D c pre W _ _ h _
      exact h.elim
end Go.Proofs.YtjdaigffgfnhaaaGreat
