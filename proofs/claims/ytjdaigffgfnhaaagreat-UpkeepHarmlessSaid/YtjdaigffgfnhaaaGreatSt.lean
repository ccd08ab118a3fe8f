import Derived.Test.YtjdaigffgfnhaaaGreatBf
namespace Go.Proofs.YtjdaigffgfnhaaaGreat
open Go.RowKit

set_option maxRecDepth 100000 in
set_option maxHeartbeats 1000000 in
theorem Starts_err (t : Task) (A : Option Addr) (n c : Nat) (A' : Option Addr) (n' c' : Nat) (i : Int) (w : World) (hr : RdH w A n t.rd.highs) (hr' : RdW w A' n' t.works) (hc' : n' ≤ c') (hnm : ∀ (i : Nat) (v : Work), t.works[i]? = some v → v.name.size ≤ 9223372036854775807) (he : ((chkTask t).2.2 != 0) = true) :
    Calls Tryz.prog 16 #[.agg (t.val A n c A' n' c'), .int .i64 i] w fun e w' => e = .returned (.tuple #[.slice none 0 0, .int .i64 (chkTask t).2.2]) ∧ Below w.heap.size w w' := by
  have HB1 : Hid (Below w.heap.size w (w.alloc (.cells (t.val A n c A' n' c') 73))) := (Below.refl _ _).alloc (Nat.le_refl _) _
  have HC := Lib.hid (begin_err t A n c A' n' c' _ (hr.below HB1.out) (hr'.below HB1.out) hc' hnm he)
  clear hr hr' hnm
  generalize (chkTask t).2.2 = X at *
  have he' : (X != 0) = true := he
  unfold Task.val at *
  go_enter Tryz.func16, Tryz.ntmps16
  go_wp2_with (go_at_call 45; refine HC.out.mono ?_; rintro e w2 ⟨rfl, hb2⟩; have HB2 := Lib.hid hb2; clear hb2)
  go_ret2
  exact ⟨rfl, HB1.out.trans (HB2.out.mono (by simp))⟩

set_option maxRecDepth 100000 in
set_option maxHeartbeats 1000000 in
theorem Starts_out (t : Task) (A : Option Addr) (n c : Nat) (A' : Option Addr) (n' c' : Nat) (i : Int) (w : World) (hr : RdH w A n t.rd.highs) (hr' : RdW w A' n' t.works) (hc' : n' ≤ c') (hnm : ∀ (i : Nat) (v : Work), t.works[i]? = some v → v.name.size ≤ 9223372036854775807) (he : (chkTask t).2.2 = 0) (ho : outB i 0 ((n' : Int) - 1) = true) :
    Calls Tryz.prog 16 #[.agg (t.val A n c A' n' c'), .int .i64 i] w fun e w' => e = .returned (.tuple #[.slice none 0 0, .int .i64 4]) ∧ Below w.heap.size w w' := by
  have hn4 : n' ≤ 4 := by have := (taskOK_of he).len; have := hr'.1; omega
  have HB1 : Hid (Below w.heap.size w (w.alloc (.cells (t.val A n c A' n' c') 73))) := (Below.refl _ _).alloc (Nat.le_refl _) _
  have KK : Hid (Blk (w.alloc (.cells (t.val A n c A' n' c') 73)) w.heap.size 73 (t.val A n c A' n' c')) := Blk.new _ _ _ rfl
  have HC := Lib.hid (begin_ok t A n c A' n' c' _ (hr.below HB1.out) (hr'.below HB1.out) hc' hnm he)
  clear hr hr' hnm he
  have HOt := Lib.hid ho; clear ho
  unfold Task.val at *
  go_enter Tryz.func16, Tryz.ntmps16
  go_wp2_with fail
  refine HC.out.mono ?_
  rintro e w2 ⟨p, rfl, hP, hb2⟩
  have k3 := (KK.out.later hb2).cell (i := 3) rfl
  have HB2 := Lib.hid hb2; clear hb2 hP
  go_wp2_with (go_at_call 37; refine (out_any _ _ _ _).mono ?_; rintro e w3 ⟨rfl, rfl⟩; rw [HOt.out])
  go_ret2
  exact ⟨rfl, HB1.out.trans (HB2.out.mono (by simp))⟩
end Go.Proofs.YtjdaigffgfnhaaaGreat
