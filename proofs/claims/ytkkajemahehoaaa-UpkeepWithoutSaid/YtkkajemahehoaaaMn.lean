/- Many. -/
import Derived.Test.YtkkajemahehoaaaYr
namespace Go.Proofs.Ytkkajemahehoaaa
open Go.RowKit

def BoolPost (w : World) (e : Ending) (w' : World) : Prop := ∃ b : Bool, e = .returned (.bool b) ∧ Below w.heap.size w w'

set_option maxRecDepth 100000 in
set_option maxHeartbeats 2000000 in
theorem Many_any (t : Task) (A : Option Addr) (n c : Nat) (A' : Option Addr) (n' c' : Nat) (w : World) (hT : TkM w t A n c A' n' c') :
    Calls Try.prog 24 #[.agg (t.val A n c A' n' c')] w (BoolPost w) := by
  have HB1 : Hid (Below w.heap.size w (w.alloc (.cells (t.val A n c A' n' c') 29))) := (Below.refl _ _).alloc (Nat.le_refl _) _
  have KK : Hid (Blk (w.alloc (.cells (t.val A n c A' n' c') 29)) w.heap.size 29 (t.val A n c A' n' c')) := Blk.new _ _ _ rfl
  have HWk := Lib.hid hT.hw
  clear hT
  unfold Task.val at *
  go_enter Try.func24, Try.ntmps24
  go_wp2
  obtain ⟨W1, hW1⟩ : ∃ W1, w.alloc (Obj.cells #[.int .i64 t.rd.first, .int .i64 t.rd.years, .slice A n c, .slice A' n' c', .int .i64 t.gap, .int .i64 t.width, .int .i64 t.day.1, .int .i64 t.day.2, .int .i64 t.plan.1, .int .i64 t.plan.2] 29) = W1 := ⟨_, rfl⟩
  rw [hW1] at HB1 KK ⊢
  clear hW1
  go_loopw [3, 4] (fun q i wr => ∃ (k : Nat) (z : Int), k ≤ n' ∧ q = .int .i64 z ∧ i = .int .i64 k ∧ Below W1.heap.size W1 wr) (fun _ i _ => n' - (intOf i).toNat)
  case atStart => exact ⟨0, 1, Nat.zero_le _, rfl, rfl, Below.refl _ _⟩
  case round =>
    obtain ⟨k, z, hk, rfl, rfl, hB⟩ := hrel
    have HB := Lib.hid hB; clear hB
    have HBw : Hid (Below w.heap.size w wr) := HB1.out.trans (HB.out.mono HB1.out.size)
    have k3 := (KK.out.later HB.out).cell (i := 3) rfl
    have hz := (KK.out.later HB.out).lt
    by_cases h4 : n' ≤ 4
    · have h4' : decide ((n' : Int) ≤ 4) = true := by simp; omega
      by_cases hlt : k < n'
      · obtain ⟨x, ad, hx, rfl, ha⟩ := (HWk.out.below HBw.out).get hlt
        obtain ⟨c0, c1, c2, c3, c4, c5, c6⟩ := ha.seven
        have hki : (k : Int) < (n' : Int) := by omega
        have HBa : Hid (Below W1.heap.size W1 (wr.alloc (Obj.cells #[.string x.name, .int .i64 x.gate, .int .i64 x.days, .int .i64 x.frm, .int .i64 x.til, .int .i64 x.step, .int .i64 x.level] 61))) := HB.out.alloc HB.out.size _
        have HBb : Hid (Below w.heap.size w (wr.alloc (Obj.cells #[.string x.name, .int .i64 x.gate, .int .i64 x.days, .int .i64 x.frm, .int .i64 x.til, .int .i64 x.step, .int .i64 x.level] 61))) := HBw.out.alloc HBw.out.size _
        clear ha hx
        by_cases hst : 0 < x.step
        · have d1 : decide (0 < x.step) = true := by simpa using hst
          have d1' : ¬ x.step = 0 := by omega
          by_cases htf : x.frm ≤ x.til
          · have d2 : decide (x.frm ≤ x.til) = true := by simpa using htf
            go_wp2
            all_goals first
              | (go_ret; exact ⟨_, rfl, HBb.out⟩)
              | (go_roundw
                 case rel => exact ⟨k + 1, _, by omega, rfl, by go_num, HBa.out⟩
                 case measure => simp [intOf]; omega)
          · have d2 : decide (x.frm ≤ x.til) = false := by simpa using htf
            go_wp2
            all_goals first
              | (go_ret; exact ⟨_, rfl, HBb.out⟩)
              | (go_roundw
                 case rel => exact ⟨k + 1, _, by omega, rfl, by go_num, HBa.out⟩
                 case measure => simp [intOf]; omega)
        · have d1 : decide (0 < x.step) = false := by simpa using hst
          go_wp2
          all_goals first
            | (go_ret; exact ⟨_, rfl, HBb.out⟩)
            | (go_roundw
               case rel => exact ⟨k + 1, _, by omega, rfl, by go_num, HBa.out⟩
               case measure => simp [intOf]; omega)
      · obtain rfl : n' = k := by omega
        have hki : ¬ (n' : Int) < (n' : Int) := by omega
        go_wp2
        go_ret
        exact ⟨_, rfl, HBw.out⟩
    · have h4' : decide ((n' : Int) ≤ 4) = false := by simp; omega
      go_wp2
      all_goals go_ret
      all_goals exact ⟨_, rfl, HBw.out⟩
end Go.Proofs.Ytkkajemahehoaaa
