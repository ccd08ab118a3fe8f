/- The document's Check and asked: walks. -/
import Derived.Test.YtadldndpphdmpaaGreatI4
import Derived.Test.YtadldndpphdmpaaGreatG6
namespace Go.Proofs.YtadldndpphdmpaaGreat
open Go.RowKit

set_option maxRecDepth 100000 in
set_option maxHeartbeats 4000000 in
theorem rcheck_any (t : List Nd) (A : Option Addr) (n c : Nat) (ms : List NdM) (w : World) (hT : TrM w t A n ms) :
    Calls Tryz.prog 51 #[.agg #[.slice A n c]] w fun e w' => e = .returned (.tuple #[.int .i64 (chkT t).1, .int .i64 (chkT t).2]) ∧ Below w.heap.size w w' := by
  generalize hX : chkT t = X
  have HX := Lib.hid hX; clear hX
  have hbig := hT.big
  have hlen := hT.len
  have HT := Lib.hid hT; clear hT
  by_cases h1 : outB (n : Int) 1 40 = true
  · have F : Hid (((-1 : Int), (3 : Int)) = X) := by have := HX.out; unfold chkT at this; rw [hlen, if_pos h1] at this; exact this
    clear hlen
    go_enter Tryz.func51, Tryz.ntmps51
    go_wp2_with (go_at_call 52; refine (in_any _ _ _ _).mono ?_; rintro e w' ⟨rfl, rfl⟩)
    go_ret2
    exact ⟨by rw [← F.out]; rfl, (Below.refl _ _).alloc (Nat.le_refl _) _⟩
  · have h1' : outB (n : Int) 1 40 = false := by simpa using h1
    obtain ⟨n1, n40⟩ := outB_false h1'
    have HE0 : Hid ((if (firstErr (nErr t) 0 (n - 0)).2 = 0 then (if outB (nBas t) 1 10 = true then ((-1 : Int), (3 : Int)) else (0, 0)) else firstErr (nErr t) 0 (n - 0)) = X) := by have := HX.out; unfold chkT at this; rw [hlen, if_neg h1] at this; exact this
    have HL := Lib.hid hlen
    have HBl : Hid ((basL t).length = nBas t) := basL_len t
    have hbn := nBas_le t
    rw [hlen] at hbn
    clear hlen h1 HX
    generalize hY : firstErr (nErr t) 0 (n - 0) = Y at *
    have HY := Lib.hid hY; clear hY
    go_enter Tryz.func51, Tryz.ntmps51
    go_wp2_with (go_at_call 52; refine (in_any _ _ _ _).mono ?_; rintro e w' ⟨rfl, rfl⟩)
    obtain ⟨W1, hW1⟩ : ∃ W1, w.alloc (.cells #[.slice A n c] 24) = W1 := ⟨_, rfl⟩
    have HB1 : Hid (Below w.heap.size w W1) := by rw [← hW1]; exact (Below.refl _ _).alloc (Nat.le_refl _) _
    have K1 : Hid (Blk W1 w.heap.size 24 #[.slice A n c]) := by rw [← hW1]; exact Blk.new _ _ _ rfl
    rw [hW1]
    clear hW1
    go_loopw [4, 5] (fun i _ wr => ∃ k : Nat, k ≤ n ∧ i = .int .i64 k ∧ Below W1.heap.size W1 wr ∧ firstErr (nErr t) k (n - k) = Y) (fun i _ _ => n - (intOf i).toNat)
    case atStart => exact ⟨0, Nat.zero_le _, rfl, Below.refl _ _, HY.out⟩
    case round =>
      obtain ⟨k, hk, rfl, hB, hE⟩ := hrel
      have HE := Lib.hid hE; clear hE
      have HB := Lib.hid hB; clear hB
      have HBW : Hid (Below w.heap.size w wr) := HB1.out.trans (HB.out.mono HB1.out.size)
      have K1r := K1.out.later HB.out
      have q0 := K1r.cell (i := 0) rfl
      have qz := K1r.lt
      clear K1r
      by_cases hlt : k < n
      · have hTr : TrM wr t A n ms := HT.out.below HBW.out
        obtain ⟨m, ad, hm, hA, ha, hN⟩ := hTr.get hlt
        have HNo := Lib.hid (rnode_any t A n c ms k m.nd wr hTr hm)
        have HS : Hid (nErr t k = ndErr t k m.nd) := by unfold nErr; rw [hm]; exact rfl
        have hkn : (k : Int) < (n : Int) := by omega
        clear hm ha hN hTr hA
        generalize ndErr t k m.nd = ne at *
        have HFIN : Hid (ne ≠ 0 → ((k : Int), ne) = X) := fun hne => by
          have h1 := firstErr_not hlt (show nErr t k ≠ 0 by rw [HS.out]; exact hne)
          rw [HS.out] at h1
          have h2 := h1.symm.trans HE.out
          have h3 := HE0.out
          rw [← h2] at h3
          dsimp only at h3
          rw [if_neg hne] at h3
          exact h3
        go_wp2_with fail
        refine HNo.out.mono ?_
        rintro e W3 ⟨rfl, hb3⟩
        have HB3 : Hid (Below wr.heap.size wr W3) := hb3
        have HBW3 : Hid (Below w.heap.size w W3) := HBW.out.trans (HB3.out.mono HBW.out.size)
        clear hb3 HNo q0 qz
        by_cases hne : ne = 0
        · have hne' : (ne != 0) = false := by simpa using hne
          have F : Hid (firstErr (nErr t) (k + 1) (n - (k + 1)) = Y) := (firstErr_zero hlt (show nErr t k = 0 by rw [HS.out]; exact hne)).symm.trans HE.out
          clear hne
          go_wp2_with fail
          go_roundw
          case rel => exact ⟨k + 1, by omega, by go_num, HB.out.trans (HB3.out.mono HB.out.size), F.out⟩
          case measure => simp [intOf]; omega
        · have hne' : (ne != 0) = true := by simpa using hne
          have F := Lib.hid (HFIN.out hne)
          clear hne
          go_wp2_with fail
          go_ret2
          exact ⟨by rw [← F.out]; rfl, HBW3.out⟩
      · obtain rfl : k = n := by omega
        have hy0 : ((0 : Int), (0 : Int)) = Y := (firstErr_end (Nat.le_refl _)).symm.trans HE.out
        have HX2 : Hid ((if outB (nBas t) 1 10 = true then ((-1 : Int), (3 : Int)) else (0, 0)) = X) := by have := HE0.out; rw [← hy0] at this; exact this
        have HBas := Lib.hid (basics_any t A k c ms wr (HT.out.below HBW.out) (by omega))
        clear hy0
        go_wp2_with fail
        refine HBas.out.mono ?_
        rintro e W3 ⟨v, rfl, hrw, hb3⟩
        have HB3 : Hid (Below w.heap.size w W3) := HBW.out.trans (hb3.mono HBW.out.size)
        obtain ⟨Ab, cb, rfl, _⟩ := own_slice hrw
        clear hrw hb3 HBas q0 qz
        have hbl := HBl.out
        have HBl2 := Lib.hid hbl
        rw [← hbl] at HX2 hbn
        clear hbl HBl
        generalize (basL t).length = b at *
        cases hb : outB (b : Int) 1 10
        · have F : Hid (((0 : Int), (0 : Int)) = X) := by have := HX2.out; rw [hb] at this; exact this
          go_wp2_with (go_at_call 52; refine (in_any _ _ _ _).mono ?_; rintro e w' ⟨rfl, rfl⟩)
          go_ret2
          exact ⟨by rw [← F.out]; rfl, HB3.out⟩
        · have F : Hid (((-1 : Int), (3 : Int)) = X) := by have := HX2.out; rw [hb] at this; exact this
          go_wp2_with (go_at_call 52; refine (in_any _ _ _ _).mono ?_; rintro e w' ⟨rfl, rfl⟩)
          go_ret2
          exact ⟨by rw [← F.out]; rfl, HB3.out⟩

set_option maxRecDepth 100000 in
set_option maxHeartbeats 4000000 in
theorem rasked_any (t : List Nd) (node : Int) (A : Option Addr) (n c : Nat) (ms : List NdM) (w : World) (hT : TrM w t A n ms) :
    Calls Tryz.prog 28 #[.agg #[.slice A n c], .int .i64 node] w fun e w' => e = .returned (.int .i64 (askT t node)) ∧ Below w.heap.size w w' := by
  have HX : Hid (askT t node = if (chkT t).2 ≠ 0 then (chkT t).2 else if outB node 0 ((t.length : Int) - 1) = true then 4 else 0) := rfl
  have hbig := hT.big
  rw [hT.len] at HX
  obtain ⟨W1, hW1⟩ : ∃ W1, w.alloc (.cells #[.slice A n c] 24) = W1 := ⟨_, rfl⟩
  have HB1 : Hid (Below w.heap.size w W1) := by rw [← hW1]; exact (Below.refl _ _).alloc (Nat.le_refl _) _
  have K1 : Hid (Blk W1 w.heap.size 24 #[.slice A n c]) := by rw [← hW1]; exact Blk.new _ _ _ rfl
  have HC := Lib.hid (rcheck_any t A n c ms W1 (hT.below HB1.out))
  have HW1 := Lib.hid hW1
  clear hW1 hT
  generalize askT t node = X at *
  generalize chkT t = Y at *
  obtain ⟨y1, y2⟩ := Y
  dsimp only at *
  go_enter Tryz.func28, Tryz.ntmps28
  go_wp2_with fail
  rw [HW1.out]
  refine HC.out.mono ?_
  rintro e W2 ⟨rfl, hb2⟩
  have HB2 := Lib.hid (HB1.out.trans (hb2.mono HB1.out.size))
  have K2 := K1.out.later hb2
  have q0 := K2.cell (i := 0) rfl
  have qz := K2.lt
  clear hb2 K2 HC HW1
  by_cases hy : y2 = 0
  · have hy' : (y2 == 0) = true := by simpa using hy
    have HX2 : Hid ((if outB node 0 ((n : Int) - 1) = true then 4 else 0) = X) := by have := HX.out; rw [if_neg (fun c => c hy)] at this; exact this.symm
    cases g : outB node 0 ((n : Int) - 1)
    · have F : Hid (0 = X) := by have := HX2.out; rw [g, if_neg (by decide)] at this; exact this
      subst hy
      go_wp2_with (go_at_call 52; refine (in_any _ _ _ _).mono ?_; rintro e w' ⟨rfl, rfl⟩)
      go_ret
      exact ⟨ret_int F.out, HB2.out⟩
    · have F : Hid (4 = X) := by have := HX2.out; rw [g, if_pos rfl] at this; exact this
      subst hy
      go_wp2_with (go_at_call 52; refine (in_any _ _ _ _).mono ?_; rintro e w' ⟨rfl, rfl⟩)
      go_ret
      exact ⟨ret_int F.out, HB2.out⟩
  · have hy' : (y2 == 0) = false := by simpa using hy
    have F : Hid (y2 = X) := by have := HX.out; rw [if_pos hy] at this; exact this.symm
    clear hy
    go_wp2_with fail
    go_ret
    exact ⟨ret_int F.out, HB2.out⟩
end Go.Proofs.YtadldndpphdmpaaGreat
