/- The document's Rank and Risk, for whatever arguments. -/
import Derived.Test.YtkkajemahehoaaaRr
namespace Go.Proofs.Ytkkajemahehoaaa
open Go.RowKit

set_option maxRecDepth 100000 in
set_option maxHeartbeats 2000000 in
theorem refRank_err (r : Rec) (d m many : Int) (A : Option Addr) (len c : Nat) (w : World) (hr : RdH w A len r.highs) (he : rkErr r d m many ≠ 0) :
    Calls Try.prog 42 #[.agg #[.int .i64 r.first, .int .i64 r.years, .slice A len c], .int .i64 d, .int .i64 m, .int .i64 many] w fun e w' => e = .returned (.tuple #[.int .i64 0, .int .i64 (rkErr r d m many)]) ∧ Below w.heap.size w w' := by
  have HB1 : Hid (Below w.heap.size w (w.alloc (.cells #[.int .i64 r.first, .int .i64 r.years, .slice A len c] 24))) := (Below.refl _ _).alloc (Nat.le_refl _) _
  have HC := Lib.hid (refCheckRecord_any r A len c _ (hr.below HB1.out))
  have HWd := Lib.hid (fun W : World => window_any d m W)
  clear hr
  unfold rkErr at *
  generalize (chkRec r).1 = ce at *
  generalize (chkRec r).2 = X at *
  by_cases h1 : (X != 0) = true
  · rw [if_pos h1] at he ⊢
    have h1' : (X == 0) = false := by simpa using h1
    clear he
    go_enter Try.func42, Try.ntmps42
    go_wp2_with fail
    refine HC.out.mono ?_
    rintro e W2 ⟨rfl, hb2⟩
    have HB2 : Hid (Below w.heap.size w W2) := HB1.out.trans (hb2.mono HB1.out.size)
    clear hb2
    go_wp2_with fail
    go_ret2
    exact ⟨rfl, HB2.out⟩
  · rw [if_neg h1] at he ⊢
    have hX : X = 0 := by simpa using h1
    subst hX
    by_cases h2 : ((lateB d || outB m 1 365) || decide (many < 0)) = true
    · rw [if_pos h2]
      clear he h1
      cases hl : (lateB d || outB m 1 365)
      · rw [hl] at h2 HWd
        have h3 : many < 0 := by simpa using h2
        clear h2 hl
        go_enter Try.func42, Try.ntmps42
        go_wp2_with fail
        refine HC.out.mono ?_
        rintro e W2 ⟨rfl, hb2⟩
        have HB2 : Hid (Below w.heap.size w W2) := HB1.out.trans (hb2.mono HB1.out.size)
        clear hb2
        go_wp2_with fail
        refine (HWd.out _).mono ?_
        rintro e _ ⟨rfl, rfl⟩
        go_wp2_with fail
        go_ret2
        exact ⟨rfl, HB2.out⟩
      · rw [hl] at HWd
        clear h2 hl
        go_enter Try.func42, Try.ntmps42
        go_wp2_with fail
        refine HC.out.mono ?_
        rintro e W2 ⟨rfl, hb2⟩
        have HB2 : Hid (Below w.heap.size w W2) := HB1.out.trans (hb2.mono HB1.out.size)
        clear hb2
        go_wp2_with fail
        refine (HWd.out _).mono ?_
        rintro e _ ⟨rfl, rfl⟩
        go_wp2_with fail
        go_ret2
        exact ⟨rfl, HB2.out⟩
    · rw [if_neg h2] at he; exact absurd rfl he
theorem refRank_any (r : Rec) (d m many : Int) (A : Option Addr) (len c : Nat) (w : World) (hr : RdH w A len r.highs) :
    Calls Try.prog 42 #[.agg #[.int .i64 r.first, .int .i64 r.years, .slice A len c], .int .i64 d, .int .i64 m, .int .i64 many] w (RankPost r d m many w) := by
  by_cases he : rkErr r d m many = 0
  · refine (refRank_ok r d m many A len c w hr (rankOK_of he)).mono fun e w' ⟨⟨v, h1, h2⟩, h3⟩ => ⟨⟨v, ?_, .inr ⟨he, h2⟩⟩, h3⟩
    rw [he]; exact h1
  · exact (refRank_err r d m many A len c w hr he).mono fun e w' ⟨h1, h2⟩ => ⟨⟨0, h1, .inl ⟨he, rfl⟩⟩, h2⟩

set_option maxRecDepth 100000 in
set_option maxHeartbeats 2000000 in
theorem refRiskTop_any (r : Rec) (d m lvl : Int) (A : Option Addr) (len c : Nat) (w : World) (hr : RdH w A len r.highs) :
    Calls Try.prog 40 #[.agg #[.int .i64 r.first, .int .i64 r.years, .slice A len c], .int .i64 d, .int .i64 m, .int .i64 lvl] w fun e w' => e = .returned (.tuple #[.agg #[.int .i64 (riskTop r d m lvl).1.1, .int .i64 (riskTop r d m lvl).1.2], .int .i64 (riskTop r d m lvl).2]) ∧ Below w.heap.size w w' := by
  obtain ⟨hb1, hk1, hk2⟩ := two w #[.int .i64 r.first, .int .i64 r.years, .slice A len c] #[.int .i64 0, .int .i64 0] 24 27
  have HB1 := Lib.hid hb1; have KT := Lib.hid hk1; have KK := Lib.hid hk2
  have HC := Lib.hid (refCheckRecord_any r A len c _ (hr.below hb1))
  have HWd := Lib.hid (fun W : World => window_any d m W)
  have HLv := Lib.hid (fun W : World => level_any lvl W)
  have HRk : Hid (∀ W, (chkRec r).2 = 0 → (lateB d || outB m 1 365) = false → Below w.heap.size w W → Calls Try.prog 86 #[.agg #[.int .i64 r.first, .int .i64 r.years, .slice A len c], .int .i64 d, .int .i64 m, .int .i64 lvl] W fun e w' => e = .returned (.agg #[.int .i64 (riskF r d m lvl).1, .int .i64 (riskF r d m lvl).2]) ∧ Below W.heap.size W w') := fun W h1 h2 h => by
    rw [Bool.or_eq_false_iff] at h2
    have a := outB_eq_false.1 (show outB d 0 364 = false from h2.1)
    have b := outB_eq_false.1 h2.2
    exact refRisk_any r d m lvl A len c W (recOK_of h1) (hr.below h) a.1 a.2 b.1 b.2
  clear hr hb1 hk1 hk2
  have HDef : Hid (riskTop r d m lvl = if (chkRec r).2 != 0 then ((0, 0), (chkRec r).2) else if lateB d || outB m 1 365 || highB lvl then ((0, 0), 7) else (riskF r d m lvl, 0)) := rfl
  generalize riskTop r d m lvl = RT at *
  generalize (chkRec r).1 = ce at *
  generalize (chkRec r).2 = X at *
  generalize (lateB d || outB m 1 365) = wb at *
  generalize highB lvl = hb at *
  by_cases h1 : (X != 0) = true
  · have hRT : RT = ((0, 0), X) := by rw [HDef.out, if_pos h1]
    subst hRT
    have h1' : (X == 0) = false := by simpa using h1
    clear HRk HDef
    go_enter Try.func40, Try.ntmps40
    go_wp2_with fail
    refine HC.out.mono ?_
    rintro e W2 ⟨rfl, hb2⟩
    have HB2 : Hid (Below w.heap.size w W2) := HB1.out.trans (hb2.mono HB1.out.size)
    have k2 := KK.out.later hb2
    clear hb2
    have p0 := k2.cell (i := 0) rfl
    have p1 := k2.cell (i := 1) rfl
    have z0 := k2.frozen 0
    have z1 := k2.frozen 1
    have hz := k2.lt
    have K2 := Lib.hid k2; clear k2
    go_wp2_with fail
    have JK := (K2.out.set 0 (.int .i64 0)).set 1 (.int .i64 0)
    have c0 := JK.cell (i := 0) rfl
    have c1 := JK.cell (i := 1) rfl
    refine bodyPost_ret (v := .tuple #[.agg #[.int .i64 0, .int .i64 0], .int .i64 X]) (by simp [results, Try.results40, go_sem, c0, c1]) rfl ⟨rfl, ?_⟩
    exact (HB2.out.setCell (p := ⟨w.heap.size + 1, 0, none⟩) (by simp) _).setCell (p := ⟨w.heap.size + 1, 1, none⟩) (by simp) _
  · have hX : X = 0 := by simpa using h1
    subst hX
    rw [if_neg h1] at HDef
    clear h1
    go_enter Try.func40, Try.ntmps40
    go_wp2_with fail
    refine HC.out.mono ?_
    rintro e W2 ⟨rfl, hb2⟩
    have HB2 : Hid (Below w.heap.size w W2) := HB1.out.trans (hb2.mono HB1.out.size)
    have k2 := KK.out.later hb2
    have t2 := KT.out.later hb2
    clear hb2
    have p0 := k2.cell (i := 0) rfl
    have p1 := k2.cell (i := 1) rfl
    have z0 := k2.frozen 0
    have z1 := k2.frozen 1
    have hz := k2.lt
    have q0 := t2.cell (i := 0) rfl
    have q1 := t2.cell (i := 1) rfl
    have q2 := t2.cell (i := 2) rfl
    have hz2 := t2.lt
    have K2 := Lib.hid k2; clear k2 t2
    go_wp2_with fail
    refine (HWd.out _).mono ?_
    rintro e _ ⟨rfl, rfl⟩
    cases wb
    · go_wp2_with fail
      refine (HLv.out _).mono ?_
      rintro e _ ⟨rfl, rfl⟩
      cases hb
      · have hRT : RT = (riskF r d m lvl, 0) := by rw [HDef.out]; rfl
        subst hRT
        clear p0 p1 z0 z1
        go_wp2_with fail
        refine (HRk.out W2 (by simp) (by simp) HB2.out).mono ?_
        rintro e W3 ⟨rfl, hb3⟩
        have HB3 : Hid (Below w.heap.size w W3) := HB2.out.trans (hb3.mono HB2.out.size)
        have k3 := K2.out.later hb3
        clear hb3
        have p0 := k3.cell (i := 0) rfl
        have p1 := k3.cell (i := 1) rfl
        have z0 := k3.frozen 0
        have z1 := k3.frozen 1
        have hz3 := k3.lt
        have K3 := Lib.hid k3; clear k3
        go_wp2_with fail
        have JK := (K3.out.set 0 (.int .i64 (riskF r d m lvl).1)).set 1 (.int .i64 (riskF r d m lvl).2)
        have c0 := JK.cell (i := 0) rfl
        have c1 := JK.cell (i := 1) rfl
        refine bodyPost_ret (v := .tuple #[.agg #[.int .i64 (riskF r d m lvl).1, .int .i64 (riskF r d m lvl).2], .int .i64 0]) (by simp [results, Try.results40, go_sem, c0, c1]) rfl ⟨rfl, ?_⟩
        exact (HB3.out.setCell (p := ⟨w.heap.size + 1, 0, none⟩) (by simp) _).setCell (p := ⟨w.heap.size + 1, 1, none⟩) (by simp) _
      · have hRT : RT = ((0, 0), 7) := by rw [HDef.out]; rfl
        subst hRT
        go_wp2_with fail
        have JK := (K2.out.set 0 (.int .i64 0)).set 1 (.int .i64 0)
        have c0 := JK.cell (i := 0) rfl
        have c1 := JK.cell (i := 1) rfl
        refine bodyPost_ret (v := .tuple #[.agg #[.int .i64 0, .int .i64 0], .int .i64 7]) (by simp [results, Try.results40, go_sem, c0, c1]) rfl ⟨rfl, ?_⟩
        exact (HB2.out.setCell (p := ⟨w.heap.size + 1, 0, none⟩) (by simp) _).setCell (p := ⟨w.heap.size + 1, 1, none⟩) (by simp) _
    · have hRT : RT = ((0, 0), 7) := by rw [HDef.out]; rfl
      subst hRT
      go_wp2_with fail
      have JK := (K2.out.set 0 (.int .i64 0)).set 1 (.int .i64 0)
      have c0 := JK.cell (i := 0) rfl
      have c1 := JK.cell (i := 1) rfl
      refine bodyPost_ret (v := .tuple #[.agg #[.int .i64 0, .int .i64 0], .int .i64 7]) (by simp [results, Try.results40, go_sem, c0, c1]) rfl ⟨rfl, ?_⟩
      exact (HB2.out.setCell (p := ⟨w.heap.size + 1, 0, none⟩) (by simp) _).setCell (p := ⟨w.heap.size + 1, 1, none⟩) (by simp) _
end Go.Proofs.Ytkkajemahehoaaa
