/- Check, by the program. -/
import Derived.Test.YtadldndpphdmpaaGreatG5
namespace Go.Proofs.YtadldndpphdmpaaGreat
open Go.RowKit

theorem nBas_take {t : List Nd} {k : Nat} {x : Nd} (h : t[k]? = some x) : nBas (t.take (k + 1)) = nBas (t.take k) + if x.kind = 1 then 1 else 0 := by
  obtain ⟨hk, rfl⟩ := List.getElem?_eq_some_iff.1 h
  unfold nBas
  rw [List.take_succ_eq_append_getElem hk, List.filter_append, List.length_append]
  by_cases e : t[k].kind = 1 <;> simp [e]
theorem nBas_le (t : List Nd) : nBas t ≤ t.length := List.length_filter_le _ _

set_option maxRecDepth 100000 in
set_option maxHeartbeats 4000000 in
theorem check_any (t : List Nd) (A : Option Addr) (n c : Nat) (ms : List NdM) (w : World) (hT : TrM w t A n ms) (hc : n ≤ c) :
    Calls Tryz.prog 59 #[.agg #[.slice A n c]] w fun e w' => e = .returned (.tuple #[.int .i64 (chkT t).1, .int .i64 (chkT t).2]) ∧ Below w.heap.size w w' := by
  generalize hX : chkT t = X
  have HX := Lib.hid hX; clear hX
  have hbig := hT.big
  have hlen := hT.len
  have HT := Lib.hid hT; clear hT
  by_cases h1 : outB (n : Int) 1 40 = true
  · have F : Hid (((-1 : Int), (3 : Int)) = X) := by have := HX.out; unfold chkT at this; rw [hlen, if_pos h1] at this; exact this
    clear hlen
    go_enter Tryz.func59, Tryz.ntmps59
    go_wp2_with (go_at_call 37; refine (out_any _ _ _ _).mono ?_; rintro e w' ⟨rfl, rfl⟩)
    go_ret2
    exact ⟨by rw [← F.out]; rfl, (Below.refl _ _).alloc (Nat.le_refl _) _⟩
  · have h1' : outB (n : Int) 1 40 = false := by simpa using h1
    obtain ⟨n1, n40⟩ := outB_false h1'
    have HE0 : Hid ((if (firstErr (nErr t) 0 (n - 0)).2 = 0 then (if outB (nBas t) 1 10 = true then ((-1 : Int), (3 : Int)) else (0, 0)) else firstErr (nErr t) 0 (n - 0)) = X) := by have := HX.out; unfold chkT at this; rw [hlen, if_neg h1] at this; exact this
    have HL := Lib.hid hlen
    clear hlen h1 HX
    generalize hY : firstErr (nErr t) 0 (n - 0) = Y at *
    have HY := Lib.hid hY; clear hY
    go_enter Tryz.func59, Tryz.ntmps59
    go_wp2_with (go_at_call 37; refine (out_any _ _ _ _).mono ?_; rintro e w' ⟨rfl, rfl⟩)
    obtain ⟨W1, hW1⟩ : ∃ W1, w.alloc (.cells #[.slice A n c] 24) = W1 := ⟨_, rfl⟩
    have HB1 : Hid (Below w.heap.size w W1) := by rw [← hW1]; exact (Below.refl _ _).alloc (Nat.le_refl _) _
    have K1 : Hid (Blk W1 w.heap.size 24 #[.slice A n c]) := by rw [← hW1]; exact Blk.new _ _ _ rfl
    rw [hW1]
    clear hW1
    go_loopw [4, 14] (fun b i wr => ∃ k : Nat, k ≤ n ∧ i = .int .i64 k ∧ b = .int .i64 (nBas (t.take k)) ∧ Below W1.heap.size W1 wr ∧ firstErr (nErr t) k (n - k) = Y) (fun _ i _ => n - (intOf i).toNat)
    case atStart => exact ⟨0, Nat.zero_le _, rfl, rfl, Below.refl _ _, HY.out⟩
    case round =>
      obtain ⟨k, hk, rfl, rfl, hB, hE⟩ := hrel
      have HE := Lib.hid hE; clear hE
      have HB := Lib.hid hB; clear hB
      have HBW : Hid (Below w.heap.size w wr) := HB1.out.trans (HB.out.mono HB1.out.size)
      have hnb : nBas (t.take k) ≤ 40 := by have := nBas_le (t.take k); rw [List.length_take] at this; omega
      by_cases hlt : k < n
      · have hTr : TrM wr t A n ms := HT.out.below HBW.out
        obtain ⟨m, ad, hm, hA, ha, hN⟩ := hTr.get hlt
        have hnt := nBas_take hm
        have HNo := Lib.hid (fun W (h : Below wr.heap.size wr W) => node_any t A n c ms k m.nd W (hTr.below h) hc hm)
        have HS : Hid (nErr t k = ndErr t k m.nd) := by unfold nErr; rw [hm]; exact rfl
        have K1r := K1.out.later HB.out
        have q0 := K1r.cell (i := 0) rfl
        have qz := K1r.lt
        have L1 := Lib.hid K1r
        obtain ⟨c0, c1, c2, c3, c4⟩ := ha.five
        subst hA
        have HNt := Lib.hid hnt
        clear hm ha hN hTr hnt K1r
        obtain ⟨⟨na, ki, li, cn, ho⟩, A2, cc2⟩ := m
        dsimp only at *
        generalize ndErr t k ⟨na, ki, li, cn, ho⟩ = ne at *
        have HFIN : Hid (ne ≠ 0 → ((k : Int), ne) = X) := fun hne => by
          have h1 := firstErr_not hlt (show nErr t k ≠ 0 by rw [HS.out]; exact hne)
          rw [HS.out] at h1
          have h2 := h1.symm.trans HE.out
          have h3 := HE0.out
          rw [← h2] at h3
          dsimp only at h3
          rw [if_neg hne] at h3
          exact h3
        go_wp2_with fail
        obtain ⟨W2, hW2⟩ : ∃ W2, wr.alloc (.cells #[.string na, .int .i64 ki, .slice A2 li.length cc2, .int .i64 cn, .int .i64 ho] 40) = W2 := ⟨_, rfl⟩
        have HB2 : Hid (Below wr.heap.size wr W2) := by rw [← hW2]; exact (Below.refl _ _).alloc (Nat.le_refl _) _
        have K2 : Hid (Blk W2 wr.heap.size 40 #[.string na, .int .i64 ki, .slice A2 li.length cc2, .int .i64 cn, .int .i64 ho]) := by rw [← hW2]; exact Blk.new _ _ _ rfl
        rw [hW2]
        clear hW2 c0 c1 c2 c3 c4
        refine (HNo.out W2 HB2.out).mono ?_
        rintro e W3 ⟨rfl, hb3⟩
        have HB3 : Hid (Below wr.heap.size wr W3) := HB2.out.trans (hb3.mono HB2.out.size)
        have K3 := Lib.hid (K2.out.later hb3)
        clear hb3 K2 HNo q0 qz
        have q1 := K3.out.cell (i := 1) rfl
        have HBW3 : Hid (Below w.heap.size w W3) := HBW.out.trans (HB3.out.mono HBW.out.size)
        by_cases hne : ne = 0
        · have hne' : (ne != 0) = false := by simpa using hne
          have F : Hid (firstErr (nErr t) (k + 1) (n - (k + 1)) = Y) := (firstErr_zero hlt (show nErr t k = 0 by rw [HS.out]; exact hne)).symm.trans HE.out
          clear hne
          by_cases hk : ki = 1
          · have hk' : (ki == 1) = true := by simpa using hk
            have HNk : Hid (nBas (t.take (k + 1)) = nBas (t.take k) + 1) := by have := HNt.out; rw [if_pos hk] at this; exact this
            clear hk
            go_wp2_with fail
            go_roundw
            case rel => exact ⟨k + 1, by omega, by go_num, by rw [HNk.out]; go_num, HB.out.trans (HB3.out.mono HB.out.size), F.out⟩
            case measure => simp [intOf]; omega
          · have hk' : (ki == 1) = false := by simpa using hk
            have HNk : Hid (nBas (t.take (k + 1)) = nBas (t.take k)) := by have := HNt.out; rw [if_neg hk] at this; exact this
            clear hk
            go_wp2_with fail
            go_roundw
            case rel => exact ⟨k + 1, by omega, by go_num, by rw [HNk.out], HB.out.trans (HB3.out.mono HB.out.size), F.out⟩
            case measure => simp [intOf]; omega
        · have hne' : (ne != 0) = true := by simpa using hne
          have F := Lib.hid (HFIN.out hne)
          clear hne
          go_wp2_with fail
          go_ret2
          exact ⟨by rw [← F.out]; rfl, HBW3.out⟩
      · obtain rfl : k = n := by omega
        have hy0 : ((0 : Int), (0 : Int)) = Y := (firstErr_end (Nat.le_refl _)).symm.trans HE.out
        have HX2 : Hid ((if outB (nBas t) 1 10 = true then ((-1 : Int), (3 : Int)) else (0, 0)) = X) := by have := HE0.out; rw [← hy0] at this; exact this
        have HTk : Hid (t.take k = t) := List.take_of_length_le (by have := HL.out; omega)
        rw [HTk.out] at hnb ⊢
        clear hy0
        generalize nBas t = b at *
        cases hb : outB (b : Int) 1 10
        · have F : Hid (((0 : Int), (0 : Int)) = X) := by have := HX2.out; rw [hb] at this; exact this
          go_wp2_with (go_at_call 37; refine (out_any _ _ _ _).mono ?_; rintro e w' ⟨rfl, rfl⟩)
          go_ret2
          exact ⟨by rw [← F.out]; rfl, HBW.out⟩
        · have F : Hid (((-1 : Int), (3 : Int)) = X) := by have := HX2.out; rw [hb] at this; exact this
          go_wp2_with (go_at_call 37; refine (out_any _ _ _ _).mono ?_; rintro e w' ⟨rfl, rfl⟩)
          go_ret2
          exact ⟨by rw [← F.out]; rfl, HBW.out⟩
end Go.Proofs.YtadldndpphdmpaaGreat
