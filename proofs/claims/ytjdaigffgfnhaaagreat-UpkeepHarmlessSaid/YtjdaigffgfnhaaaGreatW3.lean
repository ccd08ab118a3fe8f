import Derived.Test.YtjdaigffgfnhaaaGreatLi
import Derived.Test.YtjdaigffgfnhaaaGreatPlain2
namespace Go.Proofs.YtjdaigffgfnhaaaGreat
open Go.RowKit Go.Shelf

set_option maxHeartbeats 400000 in
theorem wraps_any (d n : Int) (w : World) (h0 : -1000000 ≤ d) (h1 : d ≤ 1000000) (h2 : -1000000 ≤ n) (h3 : n ≤ 1000000) :
    Calls Tryz.prog 43 #[.agg #[.int .i64 d, .int .i64 n]] w fun e w' => e = .returned (.bool (wrapsB d n)) ∧ Below w.heap.size w w' := by
  go_enter Tryz.func43, Tryz.ntmps43
  go_wp2
  go_ret
  exact ⟨rfl, (Below.refl _ _).alloc (Nat.le_refl _) _⟩

set_option maxHeartbeats 400000 in
theorem none_any (d n : Int) (w : World) :
    Calls Tryz.prog 10 #[.agg #[.int .i64 d, .int .i64 n]] w fun e w' => e = .returned (.bool (lateB d || outB n 1 365)) ∧ Below w.heap.size w w' := by
  go_enter Tryz.func10, Tryz.ntmps10
  go_wp2_with (first | (go_at_call 37; refine (out_any _ _ _ _).mono ?_; rintro e w' ⟨rfl, rfl⟩) | (go_at_call 38; refine (late_any _ _).mono ?_; rintro e w' ⟨rfl, rfl⟩))
  all_goals go_ret
  all_goals exact ⟨by simp [*], (Below.refl _ _).alloc (Nat.le_refl _) _⟩

set_option maxHeartbeats 400000 in
theorem last_any (f y : Int) (S : Value) (b : Bool) (w : World) (f0 : 0 ≤ f) (f1 : f ≤ 9999) (y0 : 2 ≤ y) (y1 : y ≤ 200) :
    Calls Tryz.prog 42 #[.agg #[.int .i64 f, .int .i64 y, S], .bool b] w fun e w' => e = .returned (.tuple #[.int .i64 (f + ofF y b - 1), .int .i64 (ofF y b)]) ∧ Below w.heap.size w w' := by
  cases b
  all_goals
    go_enter Tryz.func42, Tryz.ntmps42
    go_wp2
    go_ret2
    exact ⟨rfl, (Below.refl _ _).alloc (Nat.le_refl _) _⟩

set_option maxHeartbeats 400000 in
theorem wild_any (a b : Int) (w : World) :
    Calls Tryz.prog 82 #[.agg #[.int .i64 a, .int .i64 b]] w fun e w' => e = .returned (.bool (wildB (a, b))) ∧ Below w.heap.size w w' := by
  go_enter Tryz.func82, Tryz.ntmps82
  go_wp2_with (first | (go_at_call 37; refine (out_any _ _ _ _).mono ?_; rintro e w' ⟨rfl, rfl⟩))
  all_goals go_ret
  all_goals exact ⟨by simp [wildB, *], (Below.refl _ _).alloc (Nat.le_refl _) _⟩

def cmpF (a b : Int × Int) : Int := Lib.compareInt (a.1 * b.2) (b.1 * a.2)

set_option maxHeartbeats 400000 in
theorem compare_any (a b c d : Int) (w : World) (a0 : 0 ≤ a) (a1 : a ≤ 1000) (b0 : 0 ≤ b) (b1 : b ≤ 1000) (c0 : 0 ≤ c) (c1 : c ≤ 1000) (d0 : 0 ≤ d) (d1 : d ≤ 1000) :
    Calls Tryz.prog 49 #[.agg #[.int .i64 a, .int .i64 b], .agg #[.int .i64 c, .int .i64 d]] w fun e w' => e = .returned (.int .i64 (cmpF (a, b) (c, d))) ∧ Below w.heap.size w w' := by
  have e1 : 0 ≤ a * d := Int.mul_nonneg a0 d0
  have e2 : a * d ≤ 1000 * 1000 := Int.mul_le_mul a1 d1 d0 (by omega)
  have e3 : 0 ≤ c * b := Int.mul_nonneg c0 b0
  have e4 : c * b ≤ 1000 * 1000 := Int.mul_le_mul c1 b1 b0 (by omega)
  go_enter Tryz.func49, Tryz.ntmps49
  go_wp2_with (go_at_call 70; refine (Tryz.cmp_Compare_int _ _ _).mono ?_; rintro e w' ⟨rfl, rfl⟩)
  go_ret
  exact ⟨rfl, ((Below.refl _ _).alloc (Nat.le_refl _) _).alloc (by simp) _⟩

theorem yhAll_mem (f d m : Int) (hs : List High) (y : Int) (h : High) : (y, h) ∈ yhAll f d m hs ↔ h ∈ hs ∧ (y = h.year - 1 ∨ y = h.year) ∧ f ≤ y ∧ winB d m h y = true := by
  unfold yhAll
  simp only [List.mem_flatMap]
  constructor
  · rintro ⟨g, hg, hy⟩
    unfold yhL at hy
    simp only [List.mem_map, List.mem_filter, Prod.mk.injEq, yhIn, Bool.and_eq_true, decide_eq_true_eq] at hy
    obtain ⟨z, ⟨h1, h2, h3⟩, rfl, rfl⟩ := hy
    exact ⟨hg, by simpa using h1, h2, h3⟩
  · rintro ⟨hg, h1, h2, h3⟩
    refine ⟨h, hg, ?_⟩
    unfold yhL
    simp [yhIn, h1, h2]
    simpa [winB] using h3

theorem win_year {d n : Int} {h : High} {y : Int} (d0 : 0 ≤ d) (d1 : d ≤ 364) (n1 : n ≤ 365) (h0 : 0 ≤ h.day) (h1 : h.day ≤ 364) (hw : winB d n h y = true) : y = h.year - 1 ∨ y = h.year := by
  unfold winB at hw
  simp at hw
  have := outB_false hw
  omega

/-- What the set holds, as the document says it. -/
theorem yhS_iff {f d m lvl : Int} {hs : List High} (hok : RowsOK f hs) (d0 : 0 ≤ d) (d1 : d ≤ 364) (m1 : m ≤ 365) (y : Int) : yhS f d m lvl hs y ↔ f ≤ y ∧ excB hs d m lvl y = true := by
  unfold yhS excB
  rw [List.any_eq_true]
  constructor
  · rintro ⟨h, hm, hl⟩
    obtain ⟨h1, h2, h3, h4⟩ := (yhAll_mem f d m hs y h).1 hm
    exact ⟨h3, h, h1, by simp [hl, h4]⟩
  · rintro ⟨h3, h, h1, h2⟩
    simp only [Bool.and_eq_true, decide_eq_true_eq] at h2
    obtain ⟨i, hi⟩ := List.getElem?_of_mem h1
    have hr := hok i h hi
    exact ⟨h, (yhAll_mem f d m hs y h).2 ⟨h1, win_year d0 d1 m1 hr.2.2.1 hr.2.2.2.1 h2.2, h3, h2.2⟩, h2.1⟩

theorem list_years {l : List Int} {f cnt last : Int} {S : Int → Prop} {P : Int → Bool} (hs : l.Pairwise (· < ·)) (hm : ∀ y, y ∈ l ↔ S y ∧ y ≤ last) (hS : ∀ y, S y ↔ f ≤ y ∧ P y = true) (hl : last = f + cnt - 1) : l = yearsL f cnt P := by
  refine sorted_ext hs (yearsL_sorted _ _ _) fun y => ?_
  rw [hm, hS, mem_yearsL]
  constructor
  · rintro ⟨⟨h1, h2⟩, h3⟩; exact ⟨by omega, h2⟩
  · rintro ⟨⟨h1, h2⟩, h3⟩; exact ⟨⟨h1, h3⟩, by omega⟩

set_option maxHeartbeats 1000000 in
theorem risk_any (r : Rec) (d n lvl : Int) (A : Option Addr) (len c : Nat) (w : World) (hR : RecOK r) (hr : RdH w A len r.highs) (d0 : 0 ≤ d) (d1 : d ≤ 364) (n0 : 1 ≤ n) (n1 : n ≤ 365) :
    Calls Tryz.prog 12 #[.agg #[.int .i64 d, .int .i64 n], .agg #[.int .i64 r.first, .int .i64 r.years, .slice A len c], .int .i64 lvl] w fun e w' => e = .returned (.agg #[.int .i64 (riskF r d n lvl).1, .int .i64 (riskF r d n lvl).2]) ∧ Below w.heap.size w w' := by
  obtain ⟨f0, f1, y0, y1, hlen, hrows⟩ := hR
  have hl := hr.1
  have hlen' : len ≤ 300 := by omega
  have hmm := @run_makeMap Tryz.prog
  have HR := Lib.hid hr; clear hr
  have HRows := Lib.hid hrows; clear hrows
  clear hl hlen
  go_enter Tryz.func12, Tryz.ntmps12
  go_wp2_with fail
  obtain ⟨W1, hW1⟩ : ∃ W1, ((((w.alloc (Obj.cells #[Value.int IntKind.i64 d, Value.int IntKind.i64 n] 64)).alloc (Obj.cells #[Value.int IntKind.i64 r.first, Value.int IntKind.i64 r.years, Value.slice A len c] 24)).alloc (Obj.cells #[Value.int IntKind.i64 0, Value.int IntKind.i64 0] 66)).alloc (Obj.map #[] 0)) = W1 := ⟨_, rfl⟩
  have hB1 : Below w.heap.size w W1 := by
    rw [← hW1]
    exact ((((Below.refl _ w).alloc (Nat.le_refl _) _).alloc (by simp) _).alloc (by simp; omega) _).alloc (by simp; omega) _
  have k0 : Blk W1 w.heap.size 64 #[.int .i64 d, .int .i64 n] := by rw [← hW1]; exact (((Blk.new _ _ _ rfl).alloc _).alloc _).alloc _
  have k1 : Blk W1 (w.heap.size + 1) 24 #[.int .i64 r.first, .int .i64 r.years, .slice A len c] := by rw [← hW1]; exact ((Blk.new _ _ _ (by simp)).alloc _).alloc _
  have k2 : Blk W1 (w.heap.size + 1 + 1) 66 #[.int .i64 0, .int .i64 0] := by rw [← hW1]; exact (Blk.new _ _ _ (by simp)).alloc _
  have kY : Yset W1 (w.heap.size + 1 + 1 + 1) 0 (fun _ => False) := by
    rw [← hW1]
    have := Yset.made (((w.alloc (Obj.cells #[Value.int IntKind.i64 d, Value.int IntKind.i64 n] 64)).alloc (Obj.cells #[Value.int IntKind.i64 r.first, Value.int IntKind.i64 r.years, Value.slice A len c] 24)).alloc (Obj.cells #[Value.int IntKind.i64 0, Value.int IntKind.i64 0] 66))
    simpa using this
  rw [hW1]
  clear hW1
  refine (exceeded_any _ 0 _ r.first r.years d n lvl A len c r.highs W1 kY (by omega) (HR.out.below hB1) hlen' HRows.out f0 f1 d0 d1 n0 n1).mono ?_
  rintro e W2 ⟨rfl, hY2, hg2⟩
  have HB2 : Hid (Below w.heap.size w W2) := hB1.grown hg2 hB1.size (fun k e => by cases e; omega)
  have j0 := k0.grown hg2 (by simp; omega)
  have j1 := k1.grown hg2 (by simp)
  have j2 := k2.grown hg2 (by simp)
  have HY2 := Lib.hid hY2; clear hY2
  clear hB1 k0 k1 k2 kY hg2
  have q0 := later_cell (j0.cell (i := 0) rfl)
  have q1 := later_cell (j0.cell (i := 1) rfl)
  have q2 := later_cell (j1.cell (i := 0) rfl)
  have q3 := later_cell (j1.cell (i := 1) rfl)
  have q4 := later_cell (j1.cell (i := 2) rfl)
  have J2 := Lib.hid j2; clear j2 j0 j1
  go_wp2_with fail
  refine wp_region_later (by kernel_rfl) (by kernel_rfl) ?_
  repeat (first | go_big_quiet_skip | (go_big_quiet_want; go_big_quiet_op; first | go_big_quiet_on | (apply Exists.intro; refine ⟨fun _ => ?_, ?_⟩; (· (first | (go_at_call 43; exact later_calls (wraps_any _ _ _ (by omega) (by omega) (by omega) (by omega))) | (go_at_call 42; exact later_calls (last_any _ _ _ _ _ (by omega) (by omega) (by omega) (by omega))))); go_big_quiet_on)))
  refine wpQuiet_nil ?_
  intro _ hw'
  obtain ⟨u, hu⟩ := hw'
  subst hu
  clear q0 q1 q2 q3 q4
  have HY3 : Hid (Yset u.w (w.heap.size + 1 + 1 + 1) (0 + 2 * len) (fun z => False ∨ yhS r.first d n lvl r.highs z)) := HY2.out.kept (grown_of_below u.h none) (by simp)
  have J3 : Hid (Blk u.w (w.heap.size + 1 + 1) 66 #[.int .i64 0, .int .i64 0]) := J2.out.later u.h
  have HB3 : Hid (Below w.heap.size w u.w) := HB2.out.trans (u.h.mono HB2.out.size)
  go_wp2_with fail
  refine (list_any _ _ _ _ _ HY3.out (by omega)).mono ?_
  rintro e W4 ⟨l, A', c', rfl, hs4, hm4, ho4, hk4, hb4⟩
  have hl4 : l = yearsL r.first (ofF r.years (wrapsB d n)) (excB r.highs d n lvl) := list_years hs4 hm4 (fun y => by simp only [false_or]; exact yhS_iff HRows.out d0 d1 n1 y) rfl
  have hr4 : (riskF r d n lvl).1 = (l.length : Int) := by rw [hl4]; rfl
  have HR4 := Lib.hid hr4
  clear hr4 hl4 hs4 hm4 ho4
  have J4 := J3.out.later hb4
  have p0 := J4.cell (i := 0) rfl
  have p1 := J4.cell (i := 1) rfl
  have z0 := J4.frozen 0
  have z1 := J4.frozen 1
  have HB4 : Hid (Below w.heap.size w W4) := HB3.out.trans (hb4.mono HB3.out.size)
  have JJ := Lib.hid J4; clear J4 hb4
  go_wp2
  have JK := (JJ.out.set 0 (.int .i64 (l.length : Int))).set 1 (.int .i64 (ofF r.years (wrapsB d n)))
  have c0 := JK.cell (i := 0) rfl
  have c1 := JK.cell (i := 1) rfl
  refine bodyPost_ret (v := .agg #[.int .i64 (l.length : Int), .int .i64 (ofF r.years (wrapsB d n))]) (by simp [results, Tryz.results12, go_sem, c0, c1]) rfl ⟨by rw [HR4.out]; rfl, ?_⟩
  exact (HB4.out.setCell (p := ⟨w.heap.size + 1 + 1, 0, none⟩) (by simp; omega) _).setCell (p := ⟨w.heap.size + 1 + 1, 1, none⟩) (by simp; omega) _

theorem checkRecord_rec (r : Rec) (A : Option Addr) (n c : Nat) (w : World) (hr : RdH w A n r.highs) :
    Calls Tryz.prog 9 #[.agg #[.int .i64 r.first, .int .i64 r.years, .slice A n c]] w fun e w' => e = .returned (.tuple #[.int .i64 (chkRec r).1, .int .i64 (chkRec r).2]) ∧ Below w.heap.size w w' := checkRecord_any r.first r.years A n c r.highs w hr

set_option maxHeartbeats 1000000 in
theorem Risk_any (r : Rec) (d n lvl : Int) (A : Option Addr) (len c : Nat) (w : World) (hr : RdH w A len r.highs) :
    Calls Tryz.prog 4 #[.agg #[.int .i64 r.first, .int .i64 r.years, .slice A len c], .int .i64 d, .int .i64 n, .int .i64 lvl] w fun e w' => e = .returned (.tuple #[.agg #[.int .i64 (riskTop r d n lvl).1.1, .int .i64 (riskTop r d n lvl).1.2], .int .i64 (riskTop r d n lvl).2]) ∧ Below w.heap.size w w' := by
  have HR := Lib.hid hr; clear hr
  go_enter Tryz.func4, Tryz.ntmps4
  go_wp2_with fail
  obtain ⟨W1, hW1⟩ : ∃ W1, ((w.alloc (Obj.cells #[Value.int IntKind.i64 r.first, Value.int IntKind.i64 r.years, Value.slice A len c] 24)).alloc (Obj.cells #[Value.int IntKind.i64 0, Value.int IntKind.i64 0] 36)) = W1 := ⟨_, rfl⟩
  have hB1 : Below w.heap.size w W1 := by
    rw [← hW1]
    exact ((Below.refl _ w).alloc (Nat.le_refl _) _).alloc (by simp) _
  have k0 : Blk W1 w.heap.size 24 #[.int .i64 r.first, .int .i64 r.years, .slice A len c] := by rw [← hW1]; exact (Blk.new _ _ _ rfl).alloc _
  have k1 : Blk W1 (w.heap.size + 1) 36 #[.int .i64 0, .int .i64 0] := by rw [← hW1]; exact Blk.new _ _ _ (by simp)
  rw [hW1]
  clear hW1
  refine (checkRecord_rec r _ _ _ _ (HR.out.below hB1)).mono ?_
  rintro e W2 ⟨rfl, hb2⟩
  have j0 := k0.later hb2
  have j1 := k1.later hb2
  have HB2 : Hid (Below w.heap.size w W2) := hB1.trans (hb2.mono hB1.size)
  have hsz : w.heap.size < W2.heap.size := j0.lt
  have hsz1 : w.heap.size + 1 < W2.heap.size := j1.lt
  have q0 := j0.cell (i := 0) rfl
  have q1 := j0.cell (i := 1) rfl
  have q2 := j0.cell (i := 2) rfl
  have p0 := j1.cell (i := 0) rfl
  have p1 := j1.cell (i := 1) rfl
  have z0 := j1.frozen 0
  have z1 := j1.frozen 1
  have J1 := Lib.hid j1; clear j1 j0 k0 k1 hb2 hB1
  by_cases he : ((chkRec r).2 != 0) = true
  · have HT : Hid (((0, 0), (chkRec r).2) = riskTop r d n lvl) := by unfold riskTop; rw [if_pos he]; rfl
    generalize (chkRec r).1 = a at *
    generalize (chkRec r).2 = b at *
    go_wp2
    have JK := ((J1.out.set 0 (.int .i64 0)).set 1 (.int .i64 0)).alloc (Obj.cells #[Value.int IntKind.i64 d, Value.int IntKind.i64 n] 64)
    have c0 := JK.cell (i := 0) rfl
    have c1 := JK.cell (i := 1) rfl
    refine bodyPost_ret (v := .tuple #[.agg #[.int .i64 0, .int .i64 0], .int .i64 b]) (by simp [results, Tryz.results4, go_sem, c0, c1]) rfl ⟨by rw [← HT.out], ?_⟩
    exact ((HB2.out.setCell (p := ⟨w.heap.size + 1, 0, none⟩) (by simp) _).setCell (p := ⟨w.heap.size + 1, 1, none⟩) (by simp) _).alloc (by simp [World.setCell] <;> omega) _
  · have he' : ((chkRec r).2 != 0) = false := by simpa using he
    have hz : (chkRec r).2 = 0 := by simpa using he'
    have hok := recOK_of hz
    by_cases g : (lateB d || outB n 1 365 || highB lvl) = true
    · have HT : Hid (((0, 0), 7) = riskTop r d n lvl) := by unfold riskTop; rw [if_neg he, if_pos g]; rfl
      generalize (chkRec r).1 = a at *
      generalize (chkRec r).2 = b at *
      clear hz he hok
      by_cases g1 : (lateB d || outB n 1 365) = true
      · clear g
        go_wp2_with (first | (go_at_call 10; refine (none_any _ _ _).mono ?_; rintro e W3 ⟨rfl, hb3⟩; have HB3 := Lib.hid hb3; clear hb3; have J3 := ((J1.out.alloc (Obj.cells #[Value.int IntKind.i64 d, Value.int IntKind.i64 n] 64)).later HB3.out); have p0' := J3.cell (i := 0) rfl; have p1' := J3.cell (i := 1) rfl; have z0' := J3.frozen 0; have z1' := J3.frozen 1; have JJ := Lib.hid J3; clear J3) | (go_at_call 11; refine (high_any _ _).mono ?_; rintro e w' ⟨rfl, rfl⟩))
        have JK := (JJ.out.set 0 (.int .i64 0)).set 1 (.int .i64 0)
        have c0 := JK.cell (i := 0) rfl
        have c1 := JK.cell (i := 1) rfl
        refine bodyPost_ret (v := .tuple #[.agg #[.int .i64 0, .int .i64 0], .int .i64 7]) (by simp [results, Tryz.results4, go_sem, c0, c1]) rfl ⟨by rw [← HT.out], ?_⟩
        exact (((HB2.out.alloc HB2.out.size _).trans (HB3.out.mono (by simp <;> omega))).setCell (p := ⟨w.heap.size + 1, 0, none⟩) (by simp) _).setCell (p := ⟨w.heap.size + 1, 1, none⟩) (by simp) _
      · have g1' : (lateB d || outB n 1 365) = false := by simpa using g1
        have g2 : highB lvl = true := by simpa [g1'] using g
        clear g g1
        go_wp2_with (first | (go_at_call 10; refine (none_any _ _ _).mono ?_; rintro e W3 ⟨rfl, hb3⟩; have HB3 := Lib.hid hb3; clear hb3; have J3 := ((J1.out.alloc (Obj.cells #[Value.int IntKind.i64 d, Value.int IntKind.i64 n] 64)).later HB3.out); have p0' := J3.cell (i := 0) rfl; have p1' := J3.cell (i := 1) rfl; have z0' := J3.frozen 0; have z1' := J3.frozen 1; have JJ := Lib.hid J3; clear J3) | (go_at_call 11; refine (high_any _ _).mono ?_; rintro e w' ⟨rfl, rfl⟩))
        have JK := (JJ.out.set 0 (.int .i64 0)).set 1 (.int .i64 0)
        have c0 := JK.cell (i := 0) rfl
        have c1 := JK.cell (i := 1) rfl
        refine bodyPost_ret (v := .tuple #[.agg #[.int .i64 0, .int .i64 0], .int .i64 7]) (by simp [results, Tryz.results4, go_sem, c0, c1]) rfl ⟨by rw [← HT.out], ?_⟩
        exact (((HB2.out.alloc HB2.out.size _).trans (HB3.out.mono (by simp <;> omega))).setCell (p := ⟨w.heap.size + 1, 0, none⟩) (by simp) _).setCell (p := ⟨w.heap.size + 1, 1, none⟩) (by simp) _
    · have HT : Hid ((riskF r d n lvl, 0) = riskTop r d n lvl) := by unfold riskTop; rw [if_neg he, if_neg g]; rfl
      have g' : (lateB d || outB n 1 365 || highB lvl) = false := by simpa using g
      simp only [Bool.or_eq_false_iff] at g'
      obtain ⟨⟨g1, g2⟩, g3⟩ := g'
      have g12 : (lateB d || outB n 1 365) = false := by simp [g1, g2]
      obtain ⟨d0, d1⟩ := outB_false g1
      obtain ⟨n0, n1⟩ := outB_false g2
      generalize (chkRec r).1 = a at *
      generalize (chkRec r).2 = b at *
      clear hz he g g1 g2
      have HOK := Lib.hid hok; clear hok
      go_wp2_with fail
      refine (none_any _ _ _).mono ?_
      rintro e W3 ⟨rfl, hb3⟩
      have HB3 : Hid (Below w.heap.size w W3) := (HB2.out.alloc HB2.out.size _).trans (hb3.mono (by simp <;> omega))
      have J3 : Blk W3 (w.heap.size + 1) 36 #[.int .i64 0, .int .i64 0] := ((J1.out.alloc _).later hb3)
      have e0 := cell_below hb3 (cell_alloc q0 _)
      have e1 := cell_below hb3 (cell_alloc q1 _)
      have e2 := cell_below hb3 (cell_alloc q2 _)
      have e3 : W3.cell? ⟨W2.heap.size, 0, none⟩ = some (.int .i64 d) := cell_below hb3 (by simp)
      have e4 : W3.cell? ⟨W2.heap.size, 1, none⟩ = some (.int .i64 n) := cell_below hb3 (by simp)
      clear hb3 q0 q1 q2 p0 p1 z0 z1
      have J3' := Lib.hid J3; clear J3
      go_wp2_with (go_at_call 11; refine (high_any _ _).mono ?_; rintro e w' ⟨rfl, rfl⟩)
      refine (risk_any r _ _ _ _ _ _ _ HOK.out (HR.out.below HB3.out) d0 d1 n0 n1).mono ?_
      rintro e W4 ⟨rfl, hb4⟩
      have J4 := J3'.out.later hb4
      have HB4 : Hid (Below w.heap.size w W4) := HB3.out.trans (hb4.mono HB3.out.size)
      have p0 := J4.cell (i := 0) rfl
      have p1 := J4.cell (i := 1) rfl
      have z0 := J4.frozen 0
      have z1 := J4.frozen 1
      have JJ := Lib.hid J4
      clear J4 hb4 e0 e1 e2 e3 e4
      generalize riskF r d n lvl = rk at *
      obtain ⟨ra, rb⟩ := rk
      go_wp2
      have JK := (JJ.out.set 0 (.int .i64 ra)).set 1 (.int .i64 rb)
      have c0 := JK.cell (i := 0) rfl
      have c1 := JK.cell (i := 1) rfl
      refine bodyPost_ret (v := .tuple #[.agg #[.int .i64 ra, .int .i64 rb], .int .i64 0]) (by simp [results, Tryz.results4, go_sem, c0, c1]) rfl ⟨by rw [← HT.out], ?_⟩
      exact (HB4.out.setCell (p := ⟨w.heap.size + 1, 0, none⟩) (by simp) _).setCell (p := ⟨w.heap.size + 1, 1, none⟩) (by simp) _
end Go.Proofs.YtjdaigffgfnhaaaGreat
