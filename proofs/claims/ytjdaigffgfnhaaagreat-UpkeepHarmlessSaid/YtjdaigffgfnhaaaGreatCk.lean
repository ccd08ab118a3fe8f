import Derived.Test.YtjdaigffgfnhaaaGreatNm
import Derived.Test.YtjdaigffgfnhaaaGreatPlain3
import Derived.Test.YtjdaigffgfnhaaaGreatW3
namespace Go.Proofs.YtjdaigffgfnhaaaGreat
open Go.RowKit

abbrev Work.enc (v : Work) : List Value := [.string v.name, .int .i64 v.gate, .int .i64 v.days, .int .i64 v.frm, .int .i64 v.til, .int .i64 v.step, .int .i64 v.level]
abbrev RdW := @Rd Work Work.enc 7

theorem At.seven {w : World} {p : Addr} {a b c d e f g : Value} (h : At w p [a, b, c, d, e, f, g]) :
    w.cell? p = some a ∧ w.cell? ⟨p.block, p.off + 1, none⟩ = some b ∧ w.cell? ⟨p.block, p.off + 2, none⟩ = some c ∧ w.cell? ⟨p.block, p.off + 3, none⟩ = some d ∧ w.cell? ⟨p.block, p.off + 4, none⟩ = some e ∧ w.cell? ⟨p.block, p.off + 5, none⟩ = some f ∧ w.cell? ⟨p.block, p.off + 6, none⟩ = some g :=
  ⟨h 0 a rfl, h 1 b rfl, h 2 c rfl, h 3 d rfl, h 4 e rfl, h 5 f rfl, h 6 g rfl⟩

set_option maxHeartbeats 1000000 in
theorem check1_any (v : Work) (Bx : Nat) (nm : ByteArray) (w : World) (hx : w.cell? ⟨Bx, 0, none⟩ = some (.string nm)) :
    Calls Tryz.prog 81 #[.agg #[.string v.name, .int .i64 v.gate, .int .i64 v.days, .int .i64 v.frm, .int .i64 v.til, .int .i64 v.step, .int .i64 v.level], .pointer (some ⟨Bx, 0, none⟩)] w fun e w' => e = .returned (.bool (v.name.toList == nm.toList)) ∧ Below w.heap.size w w' := by
  have hlt : Bx < w.heap.size := cell_lt hx
  go_enter Tryz.func81, Tryz.ntmps81
  go_wp2
  go_ret
  exact ⟨rfl, (Below.refl _ _).alloc (Nat.le_refl _) _⟩

theorem ret_int {k : IntKind} {a b : Int} (h : a = b) : Ending.returned (.int k a) = .returned (.int k b) := by rw [h]

set_option maxHeartbeats 1000000 in
theorem indexWork_any (ws : List Work) (A : Option Addr) (n c : Nat) (Bx : Nat) (nm : ByteArray) (w : World) (hr : RdW w A n ws) (hn : n ≤ 100000) (hx : w.cell? ⟨Bx, 0, none⟩ = some (.string nm)) :
    Calls Tryz.prog 98 #[.slice A n c, .func (.func 81) #[] #[.pointer (some ⟨Bx, 0, none⟩)]] w fun e w' => e = .returned (.int .i64 (idxF (sameB ws nm) 0 (n - 0))) ∧ Below w.heap.size w w' := by
  generalize hX : idxF (sameB ws nm) 0 (n - 0) = X
  have HX := Lib.hid hX; clear hX
  have HR := Lib.hid hr; clear hr
  go_enter Tryz.func98, Tryz.ntmps98
  go_wp2
  go_loopw [8] (fun i wr => ∃ k : Nat, k ≤ n ∧ i = .int .i64 k ∧ Below w.heap.size w wr ∧ idxF (sameB ws nm) k (n - k) = X) (fun i _ => n - (intOf i).toNat)
  case atStart => exact ⟨0, Nat.zero_le _, rfl, Below.refl _ _, HX.out⟩
  case round =>
    obtain ⟨k, hk, rfl, hB, hE⟩ := hrel
    have HE := Lib.hid hE; clear hE
    have HB := Lib.hid hB; clear hB
    by_cases hlt : k < n
    · obtain ⟨v, ad, hv, rfl, ha⟩ := (HR.out.below HB.out).get hlt
      obtain ⟨c0, c1, c2, c3, c4, c5, c6⟩ := ha.seven
      have hx2 := cell_below HB.out hx
      have hs : sameB ws nm k = (v.name.toList == nm.toList) := by unfold sameB; rw [hv]
      have HS := Lib.hid hs
      have hc := check1_any v Bx nm wr hx2
      have HC := Lib.hid hc
      clear hs hc hv ha
      cases hb : (v.name.toList == nm.toList) with
      | true =>
        rw [hb] at HS HC
        have FIN := Lib.hid (idxF_yes hlt HS.out)
        go_wp2_with (go_at_call 81; refine HC.out.mono ?_; rintro e w2 ⟨rfl, hb2⟩; have HB2 := Lib.hid hb2; clear hb2)
        go_ret
        exact ⟨ret_int (FIN.out.symm.trans HE.out), HB.out.trans (HB2.out.mono HB.out.size)⟩
      | false =>
        rw [hb] at HS HC
        have FIN := Lib.hid (idxF_no hlt HS.out)
        go_wp2_with (go_at_call 81; refine HC.out.mono ?_; rintro e w2 ⟨rfl, hb2⟩; have HB2 := Lib.hid hb2; clear hb2)
        go_roundw
        case rel => exact ⟨k + 1, by omega, by go_num, HB.out.trans (HB2.out.mono HB.out.size), FIN.out.symm.trans HE.out⟩
        case measure => simp [intOf]; omega
    · have FIN := Lib.hid (idxF_end (p := sameB ws nm) (Nat.le_of_not_lt hlt))
      go_wp2
      go_ret
      exact ⟨ret_int (FIN.out.symm.trans HE.out), HB.out⟩
set_option maxHeartbeats 1000000 in
theorem containsWork_any (ws : List Work) (A : Option Addr) (n c : Nat) (Bx : Nat) (nm : ByteArray) (w : World) (hr : RdW w A n ws) (hn : n ≤ 100000) (hx : w.cell? ⟨Bx, 0, none⟩ = some (.string nm)) :
    Calls Tryz.prog 80 #[.slice A n c, .func (.func 81) #[] #[.pointer (some ⟨Bx, 0, none⟩)]] w fun e w' => e = .returned (.bool (anyB ws nm n)) ∧ Below w.heap.size w w' := by
  have HC := Lib.hid (indexWork_any ws A n c Bx nm w hr hn hx)
  have e0 : anyB ws nm n = decide (0 ≤ idxF (sameB ws nm) 0 (n - 0)) := rfl
  rw [e0]
  clear hr e0
  generalize idxF (sameB ws nm) 0 (n - 0) = X at *
  go_enter Tryz.func80, Tryz.ntmps80
  go_wp2_with (go_at_call 98; refine HC.out.mono ?_; rintro e w2 ⟨rfl, hb2⟩; have HB2 := Lib.hid hb2; clear hb2)
  go_ret
  exact ⟨rfl, HB2.out⟩
end Go.Proofs.YtjdaigffgfnhaaaGreat
