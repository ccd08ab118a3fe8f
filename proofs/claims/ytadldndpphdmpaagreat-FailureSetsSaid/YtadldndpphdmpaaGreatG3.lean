/- The walks of the look for a name, and for an input that is not there. -/
import Derived.Test.YtadldndpphdmpaaGreatQC
import Derived.Test.YtadldndpphdmpaaGreatG2
namespace Go.Proofs.YtadldndpphdmpaaGreat
open Go.RowKit

set_option maxHeartbeats 1000000 in
theorem node1_any (m : NdM) (Bx : Nat) (nm : ByteArray) (w : World) (hx : w.cell? ⟨Bx, 0, none⟩ = some (.string nm)) :
    Calls Tryz.prog 93 #[.agg m.val, .pointer (some ⟨Bx, 0, none⟩)] w fun e w' => e = .returned (.bool (m.nd.name.toList == nm.toList)) ∧ Below w.heap.size w w' := by
  have hlt : Bx < w.heap.size := cell_lt hx
  go_enter Tryz.func93, Tryz.ntmps93
  go_wp2
  go_ret
  exact ⟨rfl, (Below.refl _ _).alloc (Nat.le_refl _) _⟩

set_option maxHeartbeats 1000000 in
theorem indexN_any (t : List Nd) (A : Option Addr) (n c : Nat) (ms : List NdM) (Bx : Nat) (nm : ByteArray) (w : World) (hr : TrM w t A n ms) (hx : w.cell? ⟨Bx, 0, none⟩ = some (.string nm)) :
    Calls Tryz.prog 104 #[.slice A n c, .func (.func 93) #[] #[.pointer (some ⟨Bx, 0, none⟩)]] w fun e w' => e = .returned (.int .i64 (idxF (sameB t nm) 0 (n - 0))) ∧ Below w.heap.size w w' := by
  generalize hX : idxF (sameB t nm) 0 (n - 0) = X
  have HX := Lib.hid hX; clear hX
  have hn := hr.big
  have HR := Lib.hid hr; clear hr
  go_enter Tryz.func104, Tryz.ntmps104
  go_wp2
  go_loopw [8] (fun i wr => ∃ k : Nat, k ≤ n ∧ i = .int .i64 k ∧ Below w.heap.size w wr ∧ idxF (sameB t nm) k (n - k) = X) (fun i _ => n - (intOf i).toNat)
  case atStart => exact ⟨0, Nat.zero_le _, rfl, Below.refl _ _, HX.out⟩
  case round =>
    obtain ⟨k, hk, rfl, hB, hE⟩ := hrel
    have HE := Lib.hid hE; clear hE
    have HB := Lib.hid hB; clear hB
    by_cases hlt : k < n
    · obtain ⟨m, ad, hv, rfl, ha, hm⟩ := (HR.out.below HB.out).get hlt
      obtain ⟨c0, c1, c2, c3, c4⟩ := ha.five
      have hx2 := cell_below HB.out hx
      have hs : sameB t nm k = (m.nd.name.toList == nm.toList) := by unfold sameB; rw [hv]
      have HS := Lib.hid hs
      have hc := node1_any m Bx nm wr hx2
      have HC := Lib.hid hc
      clear hs hc hv ha hm
      obtain ⟨⟨na, ki, li, cn, ho⟩, Ai, ci⟩ := m
      unfold NdM.val at HC
      dsimp only at *
      cases hb : (na.toList == nm.toList) with
      | true =>
        rw [hb] at HS HC
        have FIN := Lib.hid (idxF_yes hlt HS.out)
        go_wp2_with (go_at_call 93; refine HC.out.mono ?_; rintro e w2 ⟨rfl, hb2⟩; have HB2 := Lib.hid hb2; clear hb2)
        go_ret
        exact ⟨ret_int (FIN.out.symm.trans HE.out), HB.out.trans (HB2.out.mono HB.out.size)⟩
      | false =>
        rw [hb] at HS HC
        have FIN := Lib.hid (idxF_no hlt HS.out)
        go_wp2_with (go_at_call 93; refine HC.out.mono ?_; rintro e w2 ⟨rfl, hb2⟩; have HB2 := Lib.hid hb2; clear hb2)
        go_roundw
        case rel => exact ⟨k + 1, by omega, by go_num, HB.out.trans (HB2.out.mono HB.out.size), FIN.out.symm.trans HE.out⟩
        case measure => simp [intOf]; omega
    · have FIN := Lib.hid (idxF_end (p := sameB t nm) (Nat.le_of_not_lt hlt))
      go_wp2
      go_ret
      exact ⟨ret_int (FIN.out.symm.trans HE.out), HB.out⟩
set_option maxHeartbeats 1000000 in
theorem containsN_any (t : List Nd) (A : Option Addr) (n c : Nat) (ms : List NdM) (Bx : Nat) (nm : ByteArray) (w : World) (hr : TrM w t A n ms) (hx : w.cell? ⟨Bx, 0, none⟩ = some (.string nm)) :
    Calls Tryz.prog 92 #[.slice A n c, .func (.func 93) #[] #[.pointer (some ⟨Bx, 0, none⟩)]] w fun e w' => e = .returned (.bool (anyB t nm n)) ∧ Below w.heap.size w w' := by
  have HC := Lib.hid (indexN_any t A n c ms Bx nm w hr hx)
  have e0 : anyB t nm n = decide (0 ≤ idxF (sameB t nm) 0 (n - 0)) := rfl
  rw [e0]
  clear hr e0
  generalize idxF (sameB t nm) 0 (n - 0) = X at *
  go_enter Tryz.func92, Tryz.ntmps92
  go_wp2_with (go_at_call 104; refine HC.out.mono ?_; rintro e w2 ⟨rfl, hb2⟩; have HB2 := Lib.hid hb2; clear hb2)
  go_ret
  exact ⟨rfl, HB2.out⟩

/-- Is input j no node before node i? -/
def insP (l : List Int) (i : Int) (j : Nat) : Bool := outB (l.getD j 0) 0 (i - 1)
theorem insP_any (l : List Int) (i : Nat) (x : Nd) (hx : x.ins = l) : insBad i x = decide (0 ≤ idxF (insP l i) 0 (l.length - 0)) := by
  unfold insBad
  rw [hx, Bool.eq_iff_iff, decide_eq_true_eq, idxF_neg, List.any_eq_true]
  constructor
  · rintro ⟨n, hn, h⟩
    obtain ⟨j, hj, rfl⟩ := List.getElem_of_mem hn
    refine ⟨j, Nat.zero_le _, by omega, ?_⟩
    unfold insP
    rw [List.getD_eq_getElem?_getD, List.getElem?_eq_getElem hj]
    exact h
  · rintro ⟨j, _, hj, h⟩
    have hj' : j < l.length := by omega
    refine ⟨l[j], List.getElem_mem hj', ?_⟩
    unfold insP at h
    rw [List.getD_eq_getElem?_getD, List.getElem?_eq_getElem hj'] at h
    exact h
set_option maxHeartbeats 1000000 in
theorem node2_any (n i : Int) (Bx : Nat) (w : World) (hx : w.cell? ⟨Bx, 0, none⟩ = some (.int .i64 i)) (i0 : 0 ≤ i) (i1 : i ≤ 1000000000000000) :
    Calls Tryz.prog 95 #[.int .i64 n, .pointer (some ⟨Bx, 0, none⟩)] w fun e w' => e = .returned (.bool (outB n 0 (i - 1))) ∧ w = w' := by
  go_enter Tryz.func95, Tryz.ntmps95
  go_wp2_with (go_at_call 37; refine (out_any _ _ _ _).mono ?_; rintro e w' ⟨rfl, rfl⟩)
  go_ret
  exact ⟨rfl, rfl⟩
set_option maxHeartbeats 1000000 in
theorem indexI_any (l : List Int) (i : Int) (A : Option Addr) (n c : Nat) (Bx : Nat) (w : World) (hs : RdI w A n l) (hn : n ≤ 1000000000000000) (hx : w.cell? ⟨Bx, 0, none⟩ = some (.int .i64 i)) (i0 : 0 ≤ i) (i1 : i ≤ 1000000000000000) :
    Calls Tryz.prog 105 #[.slice A n c, .func (.func 95) #[] #[.pointer (some ⟨Bx, 0, none⟩)]] w fun e w' => e = .returned (.int .i64 (idxF (insP l i) 0 (n - 0))) ∧ Below w.heap.size w w' := by
  generalize hX : idxF (insP l i) 0 (n - 0) = X
  have HX := Lib.hid hX; clear hX
  have HS := Lib.hid hs; clear hs
  go_enter Tryz.func105, Tryz.ntmps105
  go_wp2
  go_loopw [8] (fun q wr => ∃ k : Nat, k ≤ n ∧ q = .int .i64 k ∧ Below w.heap.size w wr ∧ idxF (insP l i) k (n - k) = X) (fun q _ => n - (intOf q).toNat)
  case atStart => exact ⟨0, Nat.zero_le _, rfl, Below.refl _ _, HX.out⟩
  case round =>
    obtain ⟨k, hk, rfl, hB, hE⟩ := hrel
    have HE := Lib.hid hE; clear hE
    have HB := Lib.hid hB; clear hB
    by_cases hlt : k < n
    · obtain ⟨v, ad, hv, rfl, c0⟩ := rdI_get (HS.out.below HB.out) hlt
      have hp : insP l i k = outB v 0 (i - 1) := by unfold insP; rw [List.getD_eq_getElem?_getD, hv]; rfl
      have HP := Lib.hid hp
      clear hv hp
      have HC := Lib.hid (node2_any v i Bx wr (cell_below HB.out hx) i0 i1)
      cases hb : outB v 0 (i - 1) with
      | true =>
        rw [hb] at HC
        have FIN := Lib.hid (idxF_yes hlt (HP.out.trans hb))
        clear hb
        go_wp2_with (go_at_call 95; refine HC.out.mono ?_; rintro e w2 ⟨rfl, rfl⟩)
        go_ret
        exact ⟨ret_int (FIN.out.symm.trans HE.out), HB.out⟩
      | false =>
        rw [hb] at HC
        have FIN := Lib.hid (idxF_no hlt (HP.out.trans hb))
        clear hb
        go_wp2_with (go_at_call 95; refine HC.out.mono ?_; rintro e w2 ⟨rfl, rfl⟩)
        go_roundw
        case rel => exact ⟨k + 1, by omega, by go_num, HB.out, FIN.out.symm.trans HE.out⟩
        case measure => simp [intOf]; omega
    · have FIN := Lib.hid (idxF_end (p := insP l i) (Nat.le_of_not_lt hlt))
      go_wp2
      go_ret
      exact ⟨ret_int (FIN.out.symm.trans HE.out), HB.out⟩
set_option maxHeartbeats 1000000 in
theorem containsI_any (l : List Int) (i : Int) (A : Option Addr) (n c : Nat) (Bx : Nat) (w : World) (hs : RdI w A n l) (hn : n ≤ 1000000000000000) (hx : w.cell? ⟨Bx, 0, none⟩ = some (.int .i64 i)) (i0 : 0 ≤ i) (i1 : i ≤ 1000000000000000) :
    Calls Tryz.prog 94 #[.slice A n c, .func (.func 95) #[] #[.pointer (some ⟨Bx, 0, none⟩)]] w fun e w' => e = .returned (.bool (decide (0 ≤ idxF (insP l i) 0 (n - 0)))) ∧ Below w.heap.size w w' := by
  have HC := Lib.hid (indexI_any l i A n c Bx w hs hn hx i0 i1)
  clear hs
  generalize idxF (insP l i) 0 (n - 0) = X at *
  go_enter Tryz.func94, Tryz.ntmps94
  go_wp2_with (go_at_call 105; refine HC.out.mono ?_; rintro e w2 ⟨rfl, hb2⟩; have HB2 := Lib.hid hb2; clear hb2)
  go_ret
  exact ⟨rfl, HB2.out⟩
end Go.Proofs.YtadldndpphdmpaaGreat
