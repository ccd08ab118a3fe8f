import Derived.Test.YtkkajemahehoaaaProg
import Derived.Test.YtkkajemahehoaaaBase
import Derived.Test.YtkkajemahehoaaaPlain
namespace Go.Proofs.Ytkkajemahehoaaa
open Go.RowKit

abbrev High.enc (h : High) : List Value := [.int .i64 h.year, .int .i64 h.day, .int .i64 h.level]
abbrev RdH := @Rd High High.enc 3

set_option maxHeartbeats 400000 in
theorem out_any (n lo hi : Int) (w : World) :
    Calls Try.prog 48 #[.int .i64 n, .int .i64 lo, .int .i64 hi] w fun e w' => e = .returned (.bool (outB n lo hi)) ∧ w = w' := by
  go_enter Try.func48, Try.ntmps48
  go_wp2
  all_goals go_ret
  all_goals exact ⟨by unfold outB; simp; try omega, rfl⟩
set_option maxHeartbeats 400000 in
theorem late_any (n : Int) (w : World) :
    Calls Try.prog 49 #[.int .i64 n] w fun e w' => e = .returned (.bool (lateB n)) ∧ w = w' := by
  go_enter Try.func49, Try.ntmps49
  go_wp2_with (go_at_call 48; refine (out_any _ _ _ _).mono ?_; rintro e w' ⟨rfl, rfl⟩)
  go_ret
  exact ⟨rfl, rfl⟩
set_option maxHeartbeats 400000 in
theorem high_any (n : Int) (w : World) :
    Calls Try.prog 50 #[.int .i64 n] w fun e w' => e = .returned (.bool (highB n)) ∧ w = w' := by
  go_enter Try.func50, Try.ntmps50
  go_wp2_with (go_at_call 48; refine (out_any _ _ _ _).mono ?_; rintro e w' ⟨rfl, rfl⟩)
  go_ret
  exact ⟨rfl, rfl⟩
set_option maxHeartbeats 400000 in
theorem number_any (f y : Int) (S : Value) (hy hd hl : Int) (w : World) (b1 : 0 ≤ f) (b2 : f ≤ 9999) (b3 : 0 ≤ hy) (b4 : hy ≤ 20000) (b5 : 0 ≤ hd) (b6 : hd ≤ 364) :
    Calls Try.prog 83 #[.agg #[.int .i64 f, .int .i64 y, S], .agg #[.int .i64 hy, .int .i64 hd, .int .i64 hl]] w fun e w' => e = .returned (.int .i64 (numF f ⟨hy, hd, hl⟩)) ∧ Below w.heap.size w w' := by
  go_enter Try.func83, Try.ntmps83
  go_wp2
  go_ret
  exact ⟨rfl, ((Below.refl _ _).alloc (Nat.le_refl _) _).alloc (by simp) _⟩
end Go.Proofs.Ytkkajemahehoaaa
