import Derived.Test.YtjdaigffgfnhaaaGreatProg
import Derived.Test.YtjdaigffgfnhaaaGreatBase
import Derived.Test.YtjdaigffgfnhaaaGreatPlain
namespace Go.Proofs.YtjdaigffgfnhaaaGreat
open Go.RowKit

abbrev High.enc (h : High) : List Value := [.int .i64 h.year, .int .i64 h.day, .int .i64 h.level]
abbrev RdH := @Rd High High.enc 3

set_option maxHeartbeats 400000 in
theorem out_any (n lo hi : Int) (w : World) :
    Calls Tryz.prog 37 #[.int .i64 n, .int .i64 lo, .int .i64 hi] w fun e w' => e = .returned (.bool (outB n lo hi)) ∧ w = w' := by
  go_enter Tryz.func37, Tryz.ntmps37
  go_wp2
  all_goals go_ret
  all_goals exact ⟨by unfold outB; simp; try omega, rfl⟩
set_option maxHeartbeats 400000 in
theorem late_any (n : Int) (w : World) :
    Calls Tryz.prog 38 #[.int .i64 n] w fun e w' => e = .returned (.bool (lateB n)) ∧ w = w' := by
  go_enter Tryz.func38, Tryz.ntmps38
  go_wp2_with (go_at_call 37; refine (out_any _ _ _ _).mono ?_; rintro e w' ⟨rfl, rfl⟩)
  go_ret
  exact ⟨rfl, rfl⟩
set_option maxHeartbeats 400000 in
theorem high_any (n : Int) (w : World) :
    Calls Tryz.prog 11 #[.int .i64 n] w fun e w' => e = .returned (.bool (highB n)) ∧ w = w' := by
  go_enter Tryz.func11, Tryz.ntmps11
  go_wp2_with (go_at_call 37; refine (out_any _ _ _ _).mono ?_; rintro e w' ⟨rfl, rfl⟩)
  go_ret
  exact ⟨rfl, rfl⟩
set_option maxHeartbeats 400000 in
theorem number_any (f y : Int) (S : Value) (hy hd hl : Int) (w : World) (b1 : 0 ≤ f) (b2 : f ≤ 9999) (b3 : 0 ≤ hy) (b4 : hy ≤ 20000) (b5 : 0 ≤ hd) (b6 : hd ≤ 364) :
    Calls Tryz.prog 39 #[.agg #[.int .i64 f, .int .i64 y, S], .agg #[.int .i64 hy, .int .i64 hd, .int .i64 hl]] w fun e w' => e = .returned (.int .i64 (numF f ⟨hy, hd, hl⟩)) ∧ Below w.heap.size w w' := by
  go_enter Tryz.func39, Tryz.ntmps39
  go_wp2
  go_ret
  exact ⟨rfl, ((Below.refl _ _).alloc (Nat.le_refl _) _).alloc (by simp) _⟩
end Go.Proofs.YtjdaigffgfnhaaaGreat
