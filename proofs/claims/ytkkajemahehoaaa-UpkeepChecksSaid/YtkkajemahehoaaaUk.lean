/- UpkeepChecks returns true. -/
import Derived.Test.YtkkajemahehoaaaR5
namespace Go.Proofs.Ytkkajemahehoaaa
open Go.RowKit

theorem startsTop_len (t : Task) (i : Int) : (startsTop t i).1.length ≤ 400 := by
  unfold startsTop
  split
  · simp
  · split
    · simp
    · split
      · simp
      · exact Nat.le_trans (List.length_filter_le _ _) (triesG_len 400 _)

set_option maxRecDepth 100000 in
set_option maxHeartbeats 2000000 in
theorem UpkeepChecks_any (t : Task) (i : Int) (A : Option Addr) (n c : Nat) (A' : Option Addr) (n' c' : Nat) (w : World) (hT : TkM w t A n c A' n' c') :
    Calls Try.prog 3 #[.agg (t.val A n c A' n' c'), .int .i64 i] w fun e w' => e = .returned (.bool true) ∧ Below w.heap.size w w' := by
  have HB1 : Hid (Below w.heap.size w (w.alloc (.cells (t.val A n c A' n' c') 29))) := (Below.refl _ _).alloc (Nat.le_refl _) _
  have K1 : Hid (Blk (w.alloc (.cells (t.val A n c A' n' c') 29)) w.heap.size 29 (t.val A n c A' n' c')) := Blk.new _ _ _ rfl
  have C1 := Lib.hid (fun (W : World) (h : Below w.heap.size w W) => check_any t A n c A' n' c' W (hT.hr.below h) (hT.hw.below h) hT.hc hT.nm)
  have C2 := Lib.hid (fun (W : World) (h : Below w.heap.size w W) => refCheck_any t A n c A' n' c' W (hT.below h))
  have C3 := Lib.hid (fun (W : World) (h : Below w.heap.size w W) => Starts_any t A n c A' n' c' i W (hT.below h))
  have C4 := Lib.hid (fun (W : World) (h : Below w.heap.size w W) => refStarts_any t A n c A' n' c' i W (hT.below h))
  have hlen := startsTop_len t i
  clear hT
  generalize startsTop t i = X at *
  generalize chkTask t = Y at *
  obtain ⟨L, x⟩ := X
  obtain ⟨y1, y2, y3⟩ := Y
  unfold Task.val at *
  dsimp only at *
  have e1 : (y1 != y1) = false := by simp
  have e2 : (y2 != y2) = false := by simp
  have e3 : (y3 != y3) = false := by simp
  have e4 : (x == x) = true := by simp
  go_enter Try.func3, Try.ntmps3
  go_wp2_with fail
  refine (C1.out _ HB1.out).mono ?_
  rintro e W2 ⟨rfl, hb2⟩
  have HB2 : Hid (Below w.heap.size w W2) := HB1.out.trans (hb2.mono HB1.out.size)
  have K2 := Lib.hid (K1.out.later hb2)
  clear hb2
  have q0 := K2.out.cell (i := 0) rfl
  have q1 := K2.out.cell (i := 1) rfl
  have q2 := K2.out.cell (i := 2) rfl
  have q3 := K2.out.cell (i := 3) rfl
  have q4 := K2.out.cell (i := 4) rfl
  have q5 := K2.out.cell (i := 5) rfl
  have q6 := K2.out.cell (i := 6) rfl
  have q7 := K2.out.cell (i := 7) rfl
  have q8 := K2.out.cell (i := 8) rfl
  have q9 := K2.out.cell (i := 9) rfl
  have hz := K2.out.lt
  go_wp2_with fail
  refine (C2.out _ HB2.out).mono ?_
  rintro e W3 ⟨rfl, hb3⟩
  have HB3 : Hid (Below w.heap.size w W3) := HB2.out.trans (hb3.mono HB2.out.size)
  have K3 := Lib.hid (K2.out.later hb3)
  clear hb3 q0 q1 q2 q3 q4 q5 q6 q7 q8 q9 hz
  have q0 := K3.out.cell (i := 0) rfl
  have q1 := K3.out.cell (i := 1) rfl
  have q2 := K3.out.cell (i := 2) rfl
  have q3 := K3.out.cell (i := 3) rfl
  have q4 := K3.out.cell (i := 4) rfl
  have q5 := K3.out.cell (i := 5) rfl
  have q6 := K3.out.cell (i := 6) rfl
  have q7 := K3.out.cell (i := 7) rfl
  have q8 := K3.out.cell (i := 8) rfl
  have q9 := K3.out.cell (i := 9) rfl
  have hz := K3.out.lt
  go_wp2_with fail
  refine (C3.out _ HB3.out).mono ?_
  rintro e W4 ⟨v, rfl, hown, hb4⟩
  have HB4 : Hid (Below w.heap.size w W4) := HB3.out.trans (hb4.mono HB3.out.size)
  obtain ⟨Al, cl, rfl, hl, _, _⟩ := rdI_of_own hown rfl
  have HL := Lib.hid hl
  have K4 := Lib.hid (K3.out.later hb4)
  clear hb4 q0 q1 q2 q3 q4 q5 q6 q7 q8 q9 hz hown hl
  have q0 := K4.out.cell (i := 0) rfl
  have q1 := K4.out.cell (i := 1) rfl
  have q2 := K4.out.cell (i := 2) rfl
  have q3 := K4.out.cell (i := 3) rfl
  have q4 := K4.out.cell (i := 4) rfl
  have q5 := K4.out.cell (i := 5) rfl
  have q6 := K4.out.cell (i := 6) rfl
  have q7 := K4.out.cell (i := 7) rfl
  have q8 := K4.out.cell (i := 8) rfl
  have q9 := K4.out.cell (i := 9) rfl
  have hz := K4.out.lt
  go_wp2_with fail
  refine (C4.out _ HB4.out).mono ?_
  rintro e W5 ⟨v, rfl, hown, hb5⟩
  have HB5 : Hid (Below w.heap.size w W5) := HB4.out.trans (hb5.mono HB4.out.size)
  obtain ⟨Am, cm, rfl, hm, _, _⟩ := rdI_of_own hown rfl
  have HL5 := Lib.hid (HL.out.below hb5)
  have HM := Lib.hid hm
  clear hown hb5 hm q0 q1 q2 q3 q4 q5 q6 q7 q8 q9 hz
  go_wp2_with fail
  refine (ints_any L L Al L.length cl Am L.length cm _ HL5.out HM.out (by omega)).mono ?_
  rintro e W6 ⟨rfl, hb6⟩
  have HB6 : Hid (Below w.heap.size w W6) := HB5.out.trans (hb6.mono HB5.out.size)
  clear hb6
  have hd : decide (L = L) = true := by simp
  rw [hd]
  go_wp2_with fail
  refine (Awake_any _).mono ?_
  rintro e W7 ⟨rfl, hb7⟩
  have HB7 := Lib.hid (HB6.out.trans (hb7.mono HB6.out.size))
  clear hb7
  go_wp2_with fail
  go_ret
  exact ⟨rfl, HB7.out⟩
end Go.Proofs.Ytkkajemahehoaaa
