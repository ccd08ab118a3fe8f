/- The walk of the closure's Check. -/
import Derived.Test.YtjdaigffgfnhaaaGreatKb
import Derived.Test.YtjdaigffgfnhaaaGreatKc
namespace Go.Proofs.YtjdaigffgfnhaaaGreat
open Go.RowKit

abbrev Clt.err (t : Clt) : Int := clErr t.bas t.filled t.hv t.out t.limit t.delay
theorem cout_is {n lo hi : Int} {b : Bool} (h : outB n lo hi = b) (w : World) :
    Calls Tryz.prog 19 #[.int .i64 n, .int .i64 lo, .int .i64 hi] w fun e w' => e = .returned (.bool b) ∧ w = w' := by
  rw [← h]; exact cout_any n lo hi w
theorem chk2_is {n : Int} {b : Bool} (h : flowB n = b) (w : World) :
    Calls Tryz.prog 22 #[.int .i64 n] w fun e w' => e = .returned (.bool b) ∧ w = w' := by
  rw [← h]; exact chk2_any n w
theorem any_zero (n : Nat) : (List.replicate n (0 : Int)).any flowB = false := by
  rw [List.any_eq_false]
  intro x hx
  rw [(List.mem_replicate.1 hx).2]
  decide

theorem bas_rows {B : Bas} (h : basErr B = 0) : 2 ≤ B.rows.length ∧ B.rows.length ≤ 12 := by
  unfold basErr at h
  by_cases g : outB B.rows.length 2 12 = true
  · rw [if_pos g] at h; exact absurd h (by decide)
  · have := outB_false (show outB B.rows.length 2 12 = false by simpa using g)
    omega
theorem bas_pols {B : Bas} (h : basErr B = 0) : B.pols.length ≤ 6 := by
  unfold basErr at h
  by_cases g : outB B.rows.length 2 12 = true
  · rw [if_pos g] at h; exact absurd h (by decide)
  rw [if_neg g] at h
  by_cases g2 : (firstErr (rowErr B.rows) 0 (B.rows.length - 0)).2 ≠ 0
  · rw [if_pos g2] at h; exact absurd h g2
  rw [if_neg g2] at h
  by_cases g3 : parErr B ≠ 0
  · rw [if_pos g3] at h; exact absurd h g3
  have g4 : parErr B = 0 := by simpa using g3
  unfold parErr at g4
  by_cases g5 : (outB B.leak 0 10000 || outB B.over 0 10000 || lvlB B.crest) = true
  · rw [if_pos g5] at g4; exact absurd g4 (by decide)
  rw [if_neg g5] at g4
  by_cases g6 : 6 < B.pols.length
  · rw [if_pos g6] at g4; exact absurd g4 (by decide)
  omega
theorem Clt.err_eq (t : Clt) : t.err = (if basErr t.bas ≠ 0 then basErr t.bas
    else if outB t.hv.length 1 60 = true then 3
    else if (outB 0 0 (200000 - (t.hv.length : Int) + 1) || t.hv.any lvlB) = true then 7
    else if t.filled.length ≠ t.bas.pols.length then 2
    else if (outB t.out 0 10000000 || outB t.limit (row0 t.bas) 20000 || outB t.delay 0 30) = true then 7
    else if decide (0 ≤ idxF (fullP t) 0 (t.filled.length - 0)) = true then 7
    else 0) := by rw [← fullP_any]; rfl

set_option maxRecDepth 100000 in
set_option maxHeartbeats 4000000 in
theorem ccheck_any (t : Clt) (m : ClM) (w : World) (hr : ClR w t m) :
    Calls Tryz.prog 6 #[.agg (t.val m)] w (BPost t.err w) := by
  generalize hX : t.err = X
  have HX := Lib.hid hX; clear hX
  have HR := Lib.hid hr; clear hr
  obtain ⟨A, n, c, A', n', c', Af, nf, cf, hb, ch, Ah, nh, cv, Ar, cr⟩ := m
  obtain ⟨bas, filled, hv, out, limit, delay⟩ := t
  dsimp only [Clt.val] at *
  go_enter Tryz.func6, Tryz.ntmps6
  go_wp2_with fail
  obtain ⟨W1, hW1⟩ : ∃ W1, w.alloc (Obj.cells #[.slice A n c, .int .i64 bas.leak, .int .i64 bas.crest, .int .i64 bas.over, .slice A' n' c', .slice Af nf cf, .slice (some ⟨hb, 0, none⟩) 1 ch, .slice Ar nh cr, .int .i64 out, .int .i64 limit, .int .i64 delay] 34) = W1 := ⟨_, rfl⟩
  have hB1 : Below w.heap.size w W1 := by rw [← hW1]; exact (Below.refl _ w).alloc (Nat.le_refl _) _
  have k0 : Blk W1 w.heap.size 34 #[.slice A n c, .int .i64 bas.leak, .int .i64 bas.crest, .int .i64 bas.over, .slice A' n' c', .slice Af nf cf, .slice (some ⟨hb, 0, none⟩) 1 ch, .slice Ar nh cr, .int .i64 out, .int .i64 limit, .int .i64 delay] := by rw [← hW1]; exact Blk.new _ _ _ rfl
  rw [hW1]
  clear hW1
  refine (bcheck_any bas _ _ _ _ _ _ _ (HR.out.rows.below hB1) (HR.out.pols.below hB1) HR.out.cap HR.out.nms).mono ?_
  rintro e W2 ⟨⟨pa, pb, rfl⟩, hb2⟩
  have K2 := Lib.hid (k0.later hb2)
  have HB2 : Hid (Below w.heap.size w W2) := hB1.trans (hb2.mono hB1.size)
  clear k0 hB1 hb2
  have q6 := K2.out.cell (i := 6) rfl
  have hsz2 : w.heap.size < W2.heap.size := K2.out.lt
  by_cases he : basErr bas ≠ 0
  · have F : Hid (basErr bas = X) := by have := HX.out; rw [Clt.err_eq] at this; dsimp only at this; rw [if_pos he] at this; exact this
    have he' : (basErr bas != 0) = true := by simpa using he
    generalize basErr bas = be at *
    clear he
    go_wp2
    go_ret3
    exact BPost.mk' F.out HB2.out
  have he' : (basErr bas != 0) = false := by simpa using he
  have o18 : outB 1 1 8 = false := by decide
  have s1 := HR.out.h1
  have hlv := HR.out.vals.1
  dsimp only at s1 hlv
  have s1 := cell_below HB2.out s1
  by_cases g1 : outB nh 1 60 = true
  · have F : Hid ((3 : Int) = X) := by have := HX.out; rw [Clt.err_eq] at this; dsimp only at this; rw [if_neg he, hlv, if_pos g1] at this; exact this
    generalize basErr bas = be at *
    clear he hlv
    go_wp2_with (go_at_call 19; refine (cout_any _ _ _ _).mono ?_; rintro e w' ⟨rfl, rfl⟩)
    go_ret3
    exact BPost.mk' F.out HB2.out
  have g1' : outB nh 1 60 = false := by simpa using g1
  obtain ⟨nh0, nh1⟩ := outB_false g1'
  have s0 := HR.out.h0
  dsimp only at s0
  have s0 := cell_below HB2.out s0
  have HT : Hid ((if (outB 0 0 (200000 - (nh : Int) + 1) || hv.any lvlB) = true then 7
    else if nf ≠ n' then 2
    else if (outB out 0 10000000 || outB limit (row0 bas) 20000 || outB delay 0 30) = true then 7
    else if decide (0 ≤ idxF (fullP ⟨bas, filled, hv, out, limit, delay⟩) 0 (nf - 0)) = true then 7
    else 0) = X) := by
    have := HX.out
    have e1 := HR.out.filled.1
    have e2 := HR.out.pols.1
    dsimp only at e1 e2
    rw [Clt.err_eq] at this; dsimp only at this; rw [if_neg he, hlv, if_neg g1, e1, e2] at this; exact this
  clear HX
  have hn2 := bas_rows (show basErr bas = 0 by simpa using he)
  rw [HR.out.rows.1] at hn2
  have hp6 := bas_pols (show basErr bas = 0 by simpa using he)
  rw [HR.out.pols.1] at hp6
  dsimp only at hn2
  obtain ⟨r0, ad0, hr0, hA, ha0⟩ := HR.out.rows.get (i := 0) (by dsimp only; omega)
  dsimp only at hA
  subst hA
  have hrw : w.cell? ad0 = some (.int .i64 (row0 bas)) := by
    have e := ha0 0 _ rfl
    rw [Nat.zero_mul, add_zero', add_zero'] at e
    have : row0 bas = r0.1 := by unfold row0; cases hq : bas.rows with
      | nil => rw [hq] at hr0; simp at hr0
      | cons a b => rw [hq] at hr0; simp at hr0; simp [hr0]
    rw [this]; exact e
  have HRW := Lib.hid hrw
  obtain ⟨hn2, hn2'⟩ := hn2
  clear hr0 ha0 hrw
  generalize basErr bas = be at *
  clear he hlv g1
  have ofr : outB 0 0 (200000 - (nh : Int) + 1) = false := by unfold outB; simp; omega
  go_wp2_with (go_at_call 19; refine (cout_any _ _ _ _).mono ?_; rintro e w' ⟨rfl, rfl⟩)
  obtain ⟨W3, hW3⟩ : ∃ W3, W2.alloc (Obj.cells #[.int .i64 0, .slice Ah nh cv] 42) = W3 := ⟨_, rfl⟩
  have HB3 : Hid (Below W2.heap.size W2 W3) := by rw [← hW3]; exact (Below.refl _ _).alloc (Nat.le_refl _) _
  have S3 : Hid (Blk W3 W2.heap.size 42 #[.int .i64 0, .slice Ah nh cv]) := by rw [← hW3]; exact Blk.new _ _ _ rfl
  have K3 : Hid (Blk W3 w.heap.size 34 #[.slice (some ad0) n c, .int .i64 bas.leak, .int .i64 bas.crest, .int .i64 bas.over, .slice A' n' c', .slice Af nf cf, .slice (some ⟨hb, 0, none⟩) 1 ch, .slice Ar nh cr, .int .i64 out, .int .i64 limit, .int .i64 delay]) := K2.out.later HB3.out
  have HBW3 : Hid (Below w.heap.size w W3) := HB2.out.trans (HB3.out.mono HB2.out.size)
  have t0 := Lib.hid (cell_below HB3.out s0)
  have t1 := Lib.hid (cell_below HB3.out s1)
  rw [hW3]
  have hf : ∃ fb, W2.heap.size = fb := ⟨_, rfl⟩
  obtain ⟨fb, hf⟩ := hf
  rw [hf] at S3 hsz2 ⊢
  clear hW3 q6 s0 s1 hf
  go_wp2
  go_loopw [44] (fun i wr => ∃ k : Nat, k ≤ 1 ∧ i = .int .i64 k ∧ Below W3.heap.size W3 wr ∧ (k = 1 → hv.any lvlB = false)) (fun i _ => 1 - (intOf i).toNat)
  case atStart => exact ⟨0, by omega, rfl, Below.refl _ _, fun h => by cases h⟩
  case round =>
    obtain ⟨k, hk, rfl, hB, hE⟩ := hrel
    have HB := Lib.hid hB; clear hB
    have HBW : Hid (Below w.heap.size w wr) := HBW3.out.trans (HB.out.mono HBW3.out.size)
    have KR := Lib.hid (K3.out.later HB.out)
    have SR := Lib.hid (S3.out.later HB.out)
    have hszw : w.heap.size < wr.heap.size := KR.out.lt
    have hszf : fb < wr.heap.size := SR.out.lt
    by_cases hlt : k < 1
    · obtain rfl : k = 0 := by omega
      clear hE
      have s0 := cell_below HB.out t0.out
      have s1 := cell_below HB.out t1.out
      have f0 := SR.out.cell (i := 0) rfl
      have HCL := Lib.hid (containsL_any hv Ah nh cv (wr.alloc (Obj.cells #[.int .i64 0, .slice Ah nh cv] 42)) ((HR.out.vals.below HBW.out).below ((Below.refl _ _).alloc (Nat.le_refl _) _)) (by omega))
      cases hl : hv.any lvlB with
      | true =>
        have F : Hid ((7 : Int) = X) := by have := HT.out; rw [hl, if_pos (by simp)] at this; exact this
        rw [hl] at HCL
        clear hl
        go_wp2_with (first | (go_at_call 19; refine (cout_any _ _ _ _).mono ?_; rintro e w' ⟨rfl, rfl⟩) | (go_at_call 21; refine HCL.out.mono ?_; rintro e w7 ⟨rfl, hb7⟩; have HB7 := Lib.hid hb7; clear hb7))
        go_ret3
        exact BPost.mk' F.out ((HBW.out.alloc HBW.out.size _).trans (HB7.out.mono (by simp; omega)))
      | false =>
        rw [hl] at HCL
        have HL := Lib.hid hl
        clear hl
        go_wp2_with (first | (go_at_call 19; refine (cout_any _ _ _ _).mono ?_; rintro e w' ⟨rfl, rfl⟩) | (go_at_call 21; refine HCL.out.mono ?_; rintro e w7 ⟨rfl, hb7⟩; have HB7 := Lib.hid hb7; clear hb7))
        go_roundw
        case rel => exact ⟨1, by omega, by go_num, (HB.out.alloc HB.out.size _).trans (HB7.out.mono (by have := HB.out.size; simp; omega)), fun _ => by first | trivial | rfl | exact HL.out⟩
        case measure => simp [intOf]
    · obtain rfl : k = 1 := by omega
      have hl := hE rfl
      clear hE hlt
      have HT1 : Hid ((if nf ≠ n' then 2
        else if (outB out 0 10000000 || outB limit (row0 bas) 20000 || outB delay 0 30) = true then 7
        else if decide (0 ≤ idxF (fullP ⟨bas, filled, hv, out, limit, delay⟩) 0 (nf - 0)) = true then 7
        else 0) = X) := by
        have := HT.out; rw [hl, ofr, if_neg (by simp)] at this; exact this
      clear HT hl
      have p4 := KR.out.cell (i := 4) rfl
      have p5 := KR.out.cell (i := 5) rfl
      have p7 := KR.out.cell (i := 7) rfl
      have HCQ := containsQ_any _ Ar nh cr wr (HR.out.river.below HBW.out) (by omega)
      rw [any_zero] at HCQ
      have HCQ := Lib.hid HCQ
      have hneq : ((nh : Int) != (nh : Int)) = false := by simp
      by_cases g2 : nf ≠ n'
      · have F : Hid ((2 : Int) = X) := by have := HT1.out; rw [if_pos g2] at this; exact this
        have g2' : ((nf : Int) != (n' : Int)) = true := by simp; omega
        clear g2
        go_wp2_with (first | (go_at_call 21; refine HCQ.out.mono ?_; rintro e w7 ⟨rfl, hb7⟩; have HB7 := Lib.hid hb7; have p4' := cell_below hb7 p4; have p5' := cell_below hb7 p5; have hsw := hb7.size; clear hb7))
        go_ret3
        exact BPost.mk' F.out (HBW.out.trans (HB7.out.mono HBW.out.size))
      obtain rfl : nf = n' := by simpa using g2
      have hneq2 : ((nf : Int) != (nf : Int)) = false := by simp
      clear g2
      have HT2 : Hid ((if (flowB out || outB limit (row0 bas) 20000 || outB delay 0 30) = true then 7
        else if decide (0 ≤ idxF (fullP ⟨bas, filled, hv, out, limit, delay⟩) 0 (nf - 0)) = true then 7
        else 0) = X) := by
        have := HT1.out; rw [if_neg (by simp)] at this; exact this
      clear HT1
      by_cases g3 : (flowB out || outB limit (row0 bas) 20000 || outB delay 0 30) = true
      · have F : Hid ((7 : Int) = X) := by have := HT2.out; rw [if_pos g3] at this; exact this
        clear HT2
        rcases or3_cases g3 with h1 | ⟨h1, h2⟩ | ⟨h1, h2, h3⟩
        all_goals
          clear g3
          go_wp2_with (first | (go_at_call 21; refine HCQ.out.mono ?_; rintro e w7 ⟨rfl, hb7⟩; have HB7 := Lib.hid hb7; have KS := Lib.hid (KR.out.later hb7); have p5' := KS.out.cell (i := 5) rfl; have p4' := KS.out.cell (i := 4) rfl; have hsw := hb7.size; clear hb7))
          have HBW7 : Hid (Below w.heap.size w w7) := HBW.out.trans (HB7.out.mono HBW.out.size)
          clear p4 p5 p7 p4' p5'
          have z4 := later_cell (KS.out.cell (i := 8) rfl)
          have z5 := later_cell (KS.out.cell (i := 9) rfl)
          have z6 := later_cell (KS.out.cell (i := 10) rfl)
          have z0 := later_cell (KS.out.cell (i := 0) rfl)
          have zr : ∀ u : Later w7, u.w.cell? ad0 = some (.int .i64 (row0 bas)) := later_cell (cell_below HBW7.out HRW.out)
          refine wp_region_later (by kernel_rfl) (by kernel_rfl) ?_
          repeat (first | go_big_quiet_skip | (go_big_quiet_want; go_big_quiet_op; first | go_big_quiet_on | (apply Exists.intro; refine ⟨fun _ => ?_, ?_⟩; (· first | (go_at_call 19; first | with_reducible exact later_same (cout_is h1 _) | with_reducible exact later_same (cout_is h2 _) | with_reducible exact later_same (cout_is h3 _)) | (go_at_call 22; with_reducible exact later_same (chk2_is h1 _))); go_big_quiet_on)))
          refine wpQuiet_nil ?_
          intro _ hw'
          obtain ⟨u, hu⟩ := hw'
          subst hu
          clear z4 z5 z6 z0 zr
          go_wp2
          go_ret3
          exact BPost.mk' F.out (HBW7.out.trans (u.h.mono HBW7.out.size))
      have HT3 : Hid ((if decide (0 ≤ idxF (fullP ⟨bas, filled, hv, out, limit, delay⟩) 0 (nf - 0)) = true then 7 else 0) = X) := by
        have := HT2.out; rw [if_neg g3] at this; exact this
      clear HT2
      have g3' : (flowB out || outB limit (row0 bas) 20000 || outB delay 0 30) = false := by simpa using g3
      simp only [Bool.or_eq_false_iff] at g3'
      obtain ⟨⟨h1, h2⟩, h3⟩ := g3'
      clear g3
      go_wp2_with (first | (go_at_call 21; refine HCQ.out.mono ?_; rintro e w7 ⟨rfl, hb7⟩; have HB7 := Lib.hid hb7; have KS := Lib.hid (KR.out.later hb7); have p5' := KS.out.cell (i := 5) rfl; have p4' := KS.out.cell (i := 4) rfl; have hsw := hb7.size; clear hb7))
      have HBW7 : Hid (Below w.heap.size w w7) := HBW.out.trans (HB7.out.mono HBW.out.size)
      clear p4 p5 p7 p4' p5'
      have z4 := later_cell (KS.out.cell (i := 8) rfl)
      have z5 := later_cell (KS.out.cell (i := 9) rfl)
      have z6 := later_cell (KS.out.cell (i := 10) rfl)
      have z0 := later_cell (KS.out.cell (i := 0) rfl)
      have zr : ∀ u : Later w7, u.w.cell? ad0 = some (.int .i64 (row0 bas)) := later_cell (cell_below HBW7.out HRW.out)
      refine wp_region_later (by kernel_rfl) (by kernel_rfl) ?_
      repeat (first | go_big_quiet_skip | (go_big_quiet_want; go_big_quiet_op; first | go_big_quiet_on | (apply Exists.intro; refine ⟨fun _ => ?_, ?_⟩; (· first | (go_at_call 19; first | with_reducible exact later_same (cout_is h1 _) | with_reducible exact later_same (cout_is h2 _) | with_reducible exact later_same (cout_is h3 _)) | (go_at_call 22; with_reducible exact later_same (chk2_is h1 _))); go_big_quiet_on)))
      refine wpQuiet_nil ?_
      intro _ hw'
      obtain ⟨u, hu⟩ := hw'
      subst hu
      clear z4 z5 z6 z0 zr
      have HBU : Hid (Below w.heap.size w u.w) := HBW7.out.trans (u.h.mono HBW7.out.size)
      have KU := Lib.hid (KS.out.later u.h)
      have y5 := KU.out.cell (i := 5) rfl
      have HC := Lib.hid (whereF_any ⟨bas, filled, hv, out, limit, delay⟩ Af nf cf A' c' w.heap.size u.w (HR.out.filled.below HBU.out) (HR.out.pols.below HBU.out) (Nat.le_trans hp6 (by decide)) (KU.out.cell (i := 4) rfl))
      generalize idxF (fullP ⟨bas, filled, hv, out, limit, delay⟩) 0 (nf - 0) = ix at *
      by_cases g4 : 0 ≤ ix
      · have F : Hid ((7 : Int) = X) := by have := HT3.out; rw [if_pos (by simpa using g4)] at this; exact this
        go_wp2_with (go_at_call 23; refine HC.out.mono ?_; rintro e w8 ⟨rfl, hb8⟩; have HB8 := Lib.hid hb8; clear hb8)
        go_ret3
        exact BPost.mk' F.out (HBU.out.trans (HB8.out.mono HBU.out.size))
      · have F : Hid ((0 : Int) = X) := by have := HT3.out; rw [if_neg (by simpa using g4)] at this; exact this
        go_wp2_with (go_at_call 23; refine HC.out.mono ?_; rintro e w8 ⟨rfl, hb8⟩; have HB8 := Lib.hid hb8; clear hb8)
        go_ret3
        exact BPost.mk' F.out (HBU.out.trans (HB8.out.mono HBU.out.size))
end Go.Proofs.YtjdaigffgfnhaaaGreat
