/- UpkeepJudges returns true. -/
import Derived.Test.YtkkajemahehoaaaR7
namespace Go.Proofs.Ytkkajemahehoaaa
open Go.RowKit

/-- What Years returns, and what Judge returns. -/
def yTop (t : Task) (ss : List Int) : List Int × (Int × Int) × Int := if shErr t ss = 0 then (harmL t ss, harmR t ss, 0) else ([], (0, 0), shErr t ss)
def jTop (t : Task) (ss : List Int) : List Reason × Int := if shErr t ss = 0 then (judgeL t ss, 0) else ([], shErr t ss)
theorem years_top {t : Task} {ss : List Int} {w : World} {e : Ending} {w' : World} (h : YearsPost t ss w e w') :
    ∃ A c, e = .returned (.tuple #[.slice A (yTop t ss).1.length c, .agg #[.int .i64 (yTop t ss).2.1.1, .int .i64 (yTop t ss).2.1.2], .int .i64 (yTop t ss).2.2]) ∧ RdI w' A (yTop t ss).1.length (yTop t ss).1 ∧ Below w.heap.size w w' := by
  obtain ⟨hb, ⟨h1, rfl⟩ | ⟨h1, v, rfl, ho⟩⟩ := h
  · have e : yTop t ss = ([], (0, 0), shErr t ss) := if_neg h1
    rw [e]
    exact ⟨none, 0, rfl, Rd.nil, hb⟩
  · have e : yTop t ss = (harmL t ss, harmR t ss, 0) := if_pos h1
    rw [e]
    obtain ⟨A, c, rfl, hr, _, _⟩ := rdI_of_own ho rfl
    exact ⟨A, c, rfl, hr, hb⟩
theorem judge_top {t : Task} {ss : List Int} {w : World} {e : Ending} {w' : World} (h : JudgePost t ss w e w') :
    ∃ A c, e = .returned (.tuple #[.slice A (jTop t ss).1.length c, .int .i64 (jTop t ss).2]) ∧ RdR w' A (jTop t ss).1.length (jTop t ss).1 ∧ Below w.heap.size w w' := by
  obtain ⟨hb, ⟨h1, rfl⟩ | ⟨h1, v, rfl, ho⟩⟩ := h
  · have e : jTop t ss = ([], shErr t ss) := if_neg h1
    rw [e]
    exact ⟨none, 0, rfl, Rd.nil, hb⟩
  · have e : jTop t ss = (judgeL t ss, 0) := if_pos h1
    rw [e]
    obtain ⟨A, c, rfl, hr, _, _⟩ := rd_of_own reason_len ho rfl
    exact ⟨A, c, rfl, hr, hb⟩
theorem yTop_len (t : Task) (ss : List Int) : (yTop t ss).1.length ≤ 1000 := by
  unfold yTop
  split
  · rename_i h
    have hok := taskOK_of (planOK_of h).chk
    have := (harmR_bounds hok ss).2.1
    unfold harmR at this
    dsimp only at *
    omega
  · simp
theorem jTop_len (t : Task) (ss : List Int) : (jTop t ss).1.length ≤ 1000 := by
  unfold jTop
  split
  · rename_i h
    have hok := taskOK_of (planOK_of h).chk
    have h4 : ss.length ≤ 4 := by have := (planOK_of h).len; have := hok.len; omega
    dsimp only
    rw [← judge_upTo]
    have := upTo_len (part_len t ss h4) 4
    omega
  · simp

set_option maxRecDepth 100000 in
set_option maxHeartbeats 2000000 in
theorem UpkeepJudges_any (t : Task) (ss : List Int) (A : Option Addr) (n c : Nat) (A' : Option Addr) (n' c' : Nat) (As : Option Addr) (m cs : Nat) (w : World) (hT : TkM w t A n c A' n' c') (hs : RdI w As m ss) :
    Calls Try.prog 11 #[.agg (t.val A n c A' n' c'), .slice As m cs] w fun e w' => e = .returned (.bool true) ∧ Below w.heap.size w w' := by
  have HB1 : Hid (Below w.heap.size w (w.alloc (.cells (t.val A n c A' n' c') 29))) := (Below.refl _ _).alloc (Nat.le_refl _) _
  have K1 : Hid (Blk (w.alloc (.cells (t.val A n c A' n' c') 29)) w.heap.size 29 (t.val A n c A' n' c')) := Blk.new _ _ _ rfl
  have C1 := Lib.hid (fun (W : World) (h : Below w.heap.size w W) => (Years_any t ss A n c A' n' c' As m cs W (hT.below h) (hs.below h)).mono fun e w' h => years_top h)
  have C2 := Lib.hid (fun (W : World) (h : Below w.heap.size w W) => (refYears_any t ss A n c A' n' c' As m cs W (hT.below h) (hs.below h)).mono fun e w' h => years_top h)
  have C3 := Lib.hid (fun (W : World) (h : Below w.heap.size w W) => (Judge_any t ss A n c A' n' c' As m cs W (hT.below h) (hs.below h)).mono fun e w' h => judge_top h)
  have C4 := Lib.hid (fun (W : World) (h : Below w.heap.size w W) => (refJudge_any t ss A n c A' n' c' As m cs W (hT.below h) (hs.below h)).mono fun e w' h => judge_top h)
  have hly := yTop_len t ss
  have hlj := jTop_len t ss
  clear hT hs
  generalize yTop t ss = Y at *
  generalize jTop t ss = J at *
  obtain ⟨L, ⟨y1, y2⟩, ye⟩ := Y
  obtain ⟨R, je⟩ := J
  unfold Task.val at *
  dsimp only at *
  have e1 : (y1 != y1) = false := by simp
  have e2 : (y2 != y2) = false := by simp
  have e3 : (ye != ye) = false := by simp
  have e4 : (je == je) = true := by simp
  go_enter Try.func11, Try.ntmps11
  go_wp2_with fail
  refine (C1.out _ HB1.out).mono ?_
  rintro e W2 ⟨Al, cl, rfl, hl, hb2⟩
  have HB2 : Hid (Below w.heap.size w W2) := HB1.out.trans (hb2.mono HB1.out.size)
  have K2 := Lib.hid (K1.out.later hb2)
  have HL2 := Lib.hid hl
  clear hb2 hl
  have q0 := K2.out.cell (i := 0) rfl
  have q1 := K2.out.cell (i := 1) rfl
  have q2 := K2.out.cell (i := 2) rfl
  have q3 := K2.out.cell (i := 3) rfl
  have q4 := K2.out.cell (i := 4) rfl
  have q5 := K2.out.cell (i := 5) rfl
  have q6 := K2.out.cell (i := 6) rfl
  have q7 := K2.out.cell (i := 7) rfl
  have q8 := K2.out.cell (i := 8) rfl
  have q9 := K2.out.cell (i := 9) rfl
  have hz := K2.out.lt
  go_wp2_with fail
  obtain ⟨W3, hW3⟩ : ∃ W3, W2.alloc (Obj.cells #[.int .i64 y1, .int .i64 y2] 27) = W3 := ⟨_, rfl⟩
  have hb3 : Below W2.heap.size W2 W3 := by rw [← hW3]; exact (Below.refl _ _).alloc (Nat.le_refl _) _
  have KA : Hid (Blk W3 W2.heap.size 27 #[.int .i64 y1, .int .i64 y2]) := by rw [← hW3]; exact Blk.new _ _ _ rfl
  rw [hW3]
  have HB3 : Hid (Below w.heap.size w W3) := HB2.out.trans (hb3.mono HB2.out.size)
  have K3 := Lib.hid (K2.out.later hb3)
  have HL3 := Lib.hid (HL2.out.below hb3)
  clear hW3 hb3 q0 q1 q2 q3 q4 q5 q6 q7 q8 q9 hz
  refine (C2.out _ HB3.out).mono ?_
  rintro e W4 ⟨Am, cm, rfl, hm, hb4⟩
  have HB4 : Hid (Below w.heap.size w W4) := HB3.out.trans (hb4.mono HB3.out.size)
  have K4 := Lib.hid (K3.out.later hb4)
  have KA4 := Lib.hid (KA.out.later hb4)
  have HL4 := Lib.hid (HL3.out.below hb4)
  have HM4 := Lib.hid hm
  clear hb4 hm
  go_wp2_with fail
  obtain ⟨W5, hW5⟩ : ∃ W5, W4.alloc (Obj.cells #[.int .i64 y1, .int .i64 y2] 27) = W5 := ⟨_, rfl⟩
  have hb5 : Below W4.heap.size W4 W5 := by rw [← hW5]; exact (Below.refl _ _).alloc (Nat.le_refl _) _
  have KB : Hid (Blk W5 W4.heap.size 27 #[.int .i64 y1, .int .i64 y2]) := by rw [← hW5]; exact Blk.new _ _ _ rfl
  rw [hW5]
  have HB5 : Hid (Below w.heap.size w W5) := HB4.out.trans (hb5.mono HB4.out.size)
  have K5 := Lib.hid (K4.out.later hb5)
  have KA5 := Lib.hid (KA4.out.later hb5)
  refine (ints_any L L Al L.length cl Am L.length cm W5 (HL4.out.below hb5) (HM4.out.below hb5) (by omega)).mono ?_
  clear hW5 hb5
  rintro e W6 ⟨rfl, hb6⟩
  have HB6 : Hid (Below w.heap.size w W6) := HB5.out.trans (hb6.mono HB5.out.size)
  have K6 := Lib.hid (K5.out.later hb6)
  have KA6 := KA5.out.later hb6
  have KB6 := KB.out.later hb6
  have a0 := KA6.cell (i := 0) rfl
  have a1 := KA6.cell (i := 1) rfl
  have c0 := KB6.cell (i := 0) rfl
  have c1 := KB6.cell (i := 1) rfl
  clear hb6 KA6 KB6
  have q0 := K6.out.cell (i := 0) rfl
  have q1 := K6.out.cell (i := 1) rfl
  have q2 := K6.out.cell (i := 2) rfl
  have q3 := K6.out.cell (i := 3) rfl
  have q4 := K6.out.cell (i := 4) rfl
  have q5 := K6.out.cell (i := 5) rfl
  have q6 := K6.out.cell (i := 6) rfl
  have q7 := K6.out.cell (i := 7) rfl
  have q8 := K6.out.cell (i := 8) rfl
  have q9 := K6.out.cell (i := 9) rfl
  have hd : decide (L = L) = true := by simp
  rw [hd]
  go_wp2_with fail
  refine (C3.out _ HB6.out).mono ?_
  rintro e W7 ⟨An, cn, rfl, hr, hb7⟩
  have HB7 : Hid (Below w.heap.size w W7) := HB6.out.trans (hb7.mono HB6.out.size)
  have K7 := Lib.hid (K6.out.later hb7)
  have HR7 := Lib.hid hr
  clear hb7 hr a0 a1 c0 c1 q0 q1 q2 q3 q4 q5 q6 q7 q8 q9
  have q0 := K7.out.cell (i := 0) rfl
  have q1 := K7.out.cell (i := 1) rfl
  have q2 := K7.out.cell (i := 2) rfl
  have q3 := K7.out.cell (i := 3) rfl
  have q4 := K7.out.cell (i := 4) rfl
  have q5 := K7.out.cell (i := 5) rfl
  have q6 := K7.out.cell (i := 6) rfl
  have q7 := K7.out.cell (i := 7) rfl
  have q8 := K7.out.cell (i := 8) rfl
  have q9 := K7.out.cell (i := 9) rfl
  go_wp2_with fail
  refine (C4.out _ HB7.out).mono ?_
  rintro e W8 ⟨Ap, cp, rfl, hr, hb8⟩
  have HB8 : Hid (Below w.heap.size w W8) := HB7.out.trans (hb8.mono HB7.out.size)
  have HS := sameReasons_any R An R.length cn Ap cp W8 (HR7.out.below hb8) hr (by omega)
  have HSH := Lib.hid HS
  clear hb8 hr HS q0 q1 q2 q3 q4 q5 q6 q7 q8 q9
  go_wp2_with fail
  refine HSH.out.mono ?_
  rintro e W9 ⟨rfl, hb9⟩
  have HB9 : Hid (Below w.heap.size w W9) := HB8.out.trans (hb9.mono HB8.out.size)
  clear hb9
  go_wp2_with fail
  refine (Awake_any _).mono ?_
  rintro e W10 ⟨rfl, hb10⟩
  have HB10 := Lib.hid (HB9.out.trans (hb10.mono HB9.out.size))
  clear hb10
  go_wp2_with fail
  go_ret
  exact ⟨rfl, HB10.out⟩
end Go.Proofs.Ytkkajemahehoaaa
