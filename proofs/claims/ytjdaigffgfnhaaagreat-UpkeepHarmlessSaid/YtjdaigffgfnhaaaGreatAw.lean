import Derived.Test.YtjdaigffgfnhaaaGreatEx3
namespace Go.Proofs.YtjdaigffgfnhaaaGreat
open Go.RowKit
theorem ex_risk : riskTop exRec 340 40 2400 = ((1, 3), 0) := by decide +kernel
theorem ex_chk : (chkTask exTask).2.2 = 0 := by decide +kernel
theorem ex_best : ((bestF exTask).map (·.1)) = some [105, 130] := by decide +kernel
theorem ex_name (i : Nat) (v : Work) (h : exTask.works[i]? = some v) : v.name.size ≤ 9223372036854775807 := by
  match i, h with
  | 0, h => cases h; decide
  | 1, h => cases h; decide

set_option maxRecDepth 100000 in
set_option maxHeartbeats 2000000 in
theorem Awake_any (w : World) : Calls Tryz.prog 5 #[] w fun e w' => e = .returned (.bool true) ∧ Below w.heap.size w w' := by
  go_enter Tryz.func5, Tryz.ntmps5
  go_wp2_with fail
  refine (Record_any _).mono ?_
  rintro e W1 ⟨rfl, hr1, hb1⟩
  go_wp2_with fail
  have hR := Risk_any exRec 340 40 2400 _ 5 5 W1 hr1
  rw [ex_risk] at hR
  refine hR.mono ?_
  rintro e W2 ⟨rfl, hb2⟩
  have HB2 : Hid (Below w.heap.size w W2) := hb1.trans (hb2.mono hb1.size)
  clear hR hr1 hb1 hb2
  go_wp2_with fail
  refine (Task_any _).mono ?_
  rintro e W3 ⟨A, B, rfl, hh, hw, hb3⟩
  go_wp2_with fail
  have hB := best_ok exTask A 5 5 B 2 2 W3 hh hw (by omega) ex_name ex_chk
  refine hB.mono ?_
  rintro e W4 ⟨hb4, hm⟩
  have hbe := ex_best
  cases hX : bestF exTask with
  | none => rw [hX] at hbe; cases hbe
  | some q =>
  rw [hX] at hm hbe
  obtain ⟨A4, c4, rfl, hr4⟩ := hm
  have hq : q.1 = [105, 130] := by simpa using hbe
  rw [hq] at hr4
  have hql : q.1.length = 2 := by rw [hq]; rfl
  rw [hql]
  change RdI W4 A4 2 [105, 130] at hr4
  have k1 : Blk (W2.alloc (Obj.cells #[.int .i64 1, .int .i64 3] 36)) W2.heap.size 36 #[.int .i64 1, .int .i64 3] := Blk.new _ _ _ rfl
  have k3 := (k1.later hb3).later hb4
  have hs2 := HB2.out.size
  have HB4 : Hid (Below w.heap.size w W4) := by
    have h1 : Below w.heap.size w (W2.alloc (Obj.cells #[.int .i64 1, .int .i64 3] 36)) := HB2.out.alloc hs2 _
    have h2 := h1.trans (hb3.mono h1.size)
    exact h2.trans (hb4.mono h2.size)
  have HR4 := Lib.hid hr4
  have HK3 := Lib.hid k3
  clear hbe hq hql hX hB hh hw hb3 hb4 k1 k3 hr4
  go_wp2_with fail
  refine (Task_any _).mono ?_
  rintro e W5 ⟨A5, B5, rfl, hh, hw, hb5⟩
  go_wp2_with fail
  refine (Starts_out exTask A5 5 5 B5 2 2 2 W5 hh hw (by omega) ex_name ex_chk rfl).mono ?_
  rintro e W6 ⟨rfl, hb6⟩
  have hs4 := HB4.out.size
  have h4 : Below w.heap.size w (W4.alloc (Obj.cells #[.int .i64 q.2.1, .int .i64 q.2.2] 36)) := HB4.out.alloc hs4 _
  have h5 := h4.trans (hb5.mono h4.size)
  have h6 := h5.trans (hb6.mono h5.size)
  have HB6 := Lib.hid h6
  have b6 := ((HK3.out.alloc (Obj.cells #[.int .i64 q.2.1, .int .i64 q.2.2] 36)).later hb5).later hb6
  have r0 := b6.cell (i := 0) rfl
  have r1 := b6.cell (i := 1) rfl
  have HR6 : Hid (RdI W6 A4 2 [105, 130]) := ((HR4.out.below ((Below.refl _ _).alloc (Nat.le_refl _) _)).below hb5).below hb6
  have hsz6 : W2.heap.size < W6.heap.size := b6.lt
  clear hh hw hb5 hb6 h4 h5 h6 b6
  go_wp2_with fail
  have ho := World.ownsRow_lit (base := 0) (e := 3) (size := 1) W6 #[.int .i64 105, .int .i64 130] 2 (Nat.zero_le _) (by unfold maxLen; omega) rfl
  obtain ⟨B6, c6, e6, hr6, _⟩ := rdI_of_own (xs := [105, 130]) ho rfl
  injection e6 with e61 e62 e63
  subst e61
  refine (ints_any [105, 130] [105, 130] A4 2 c4 _ 2 2 _ (HR6.out.below ((Below.refl _ _).alloc (Nat.le_refl _) _)) hr6 (by omega)).mono ?_
  rintro e W7 ⟨rfl, hb7⟩
  have hs6 := HB6.out.size
  have h7 : Below w.heap.size w (W6.alloc (Obj.cells #[.int .i64 105, .int .i64 130] 3)) := HB6.out.alloc hs6 _
  have HB7 := Lib.hid (h7.trans (hb7.mono h7.size))
  clear ho hr6 hb7 h7
  have hdec : decide (([105, 130] : List Int) = [105, 130]) = true := rfl
  rw [hdec]
  go_wp2_with fail
  go_ret
  exact ⟨rfl, HB7.out⟩
end Go.Proofs.YtjdaigffgfnhaaaGreat
