/- The document's causes, the law's Great, the document's order of sets. -/
import Derived.Test.YtadldndpphdmpaaGreatI6
import Derived.Test.YtadldndpphdmpaaGreatHs
namespace Go.Proofs.YtadldndpphdmpaaGreat
open Go.RowKit Go.Shelf

set_option maxRecDepth 100000 in
set_option maxHeartbeats 4000000 in
theorem rcauses_any (t : List Nd) (nn : Nat) (g : List Int) (A : Option Addr) (n c : Nat) (ms : List NdM) (L : Option Addr) (cl : Nat) (w : World) (hT : TrM w t A n ms) (hO : TrOk t) (hL : RdI w L g.length g) (hl : g.length ≤ 1000000000000000) (hnn : nn < n) :
    Calls Tryz.prog 31 #[.agg #[.slice A n c], .int .i64 (nn : Int), .slice L g.length cl] w fun e w' => e = .returned (.bool (ef t (fun j => decide ((j : Int) ∈ g)) nn)) ∧ Below w.heap.size w w' := by
  have hln := hT.len
  have hn := hO.l40
  rw [hln] at hn
  obtain ⟨W1, hW1⟩ : ∃ W1, w.alloc (.cells #[.slice A n c] 24) = W1 := ⟨_, rfl⟩
  have HB1 : Hid (Below w.heap.size w W1) := by rw [← hW1]; exact (Below.refl _ w).alloc (Nat.le_refl _) _
  have K1 : Hid (Blk W1 w.heap.size 24 #[.slice A n c]) := by rw [← hW1]; exact Blk.new w _ _ rfl
  have HE := Lib.hid (reffects_any t g A n c ms L cl W1 (hT.below HB1.out) hO (hL.below HB1.out) hl)
  have HLn := Lib.hid hln
  have HW1 := Lib.hid hW1
  have q0 := K1.out.cell (i := 0) rfl
  have qz := K1.out.lt
  clear hW1 hT hO hL hln
  go_enter Tryz.func31, Tryz.ntmps31
  go_wp2_with fail
  rw [HW1.out]
  go_wp2_with fail
  refine HE.out.mono ?_
  rintro e W3 ⟨v, rfl, hrw, hb3⟩
  have HB3 : Hid (Below w.heap.size w W3) := HB1.out.trans (hb3.mono HB1.out.size)
  obtain ⟨A3, c3, rfl, hr3, _, _⟩ := rdB_of_own hrw rfl
  rw [List.length_map, List.length_range, HLn.out] at hr3 ⊢
  obtain ⟨b, bd, hbv, rfl, hcb⟩ := rdB_get hr3 hnn
  have hbe : b = ef t (fun j => decide ((j : Int) ∈ g)) nn := by
    rw [List.getElem?_map, List.getElem?_range (by have := HLn.out; omega)] at hbv
    exact (Option.some.inj hbv).symm
  have HBe := Lib.hid hbe
  have hnn' : (nn : Int) < (n : Int) := by omega
  clear hrw hb3 hr3 hbv hbe HE q0 qz
  go_wp2_with fail
  go_ret
  exact ⟨by rw [HBe.out]; rfl, HB3.out⟩

def greatB (t : List Nd) : Bool := decide (7 < nBas t) && decide (nBas t ≤ 10)
theorem nBas_tk {t : List Nd} {k : Nat} {x : Nd} (h : t[k]? = some x) : nBas (t.take (k + 1)) = nBas (t.take k) + if (x.kind == 1) = true then 1 else 0 := filter_step (fun x : Nd => x.kind == 1) h
set_option maxRecDepth 100000 in
set_option maxHeartbeats 4000000 in
theorem Great_any (t : List Nd) (A : Option Addr) (n c : Nat) (ms : List NdM) (w : World) (hT : TrM w t A n ms) :
    Calls Tryz.prog 5 #[.agg #[.slice A n c]] w fun e w' => e = .returned (.bool (greatB t)) ∧ Below w.heap.size w w' := by
  obtain ⟨W1, hW1⟩ : ∃ W1, w.alloc (.cells #[.slice A n c] 24) = W1 := ⟨_, rfl⟩
  have HB1 : Hid (Below w.heap.size w W1) := by rw [← hW1]; exact (Below.refl _ w).alloc (Nat.le_refl _) _
  have K1 : Hid (Blk W1 w.heap.size 24 #[.slice A n c]) := by rw [← hW1]; exact Blk.new w _ _ rfl
  have HT := Lib.hid (hT.below HB1.out)
  have HW1 := Lib.hid hW1
  have hbig := hT.big
  have hln := hT.len
  clear hW1 hT
  go_enter Tryz.func5, Tryz.ntmps5
  go_wp2_with fail
  rw [HW1.out]
  go_loopw [3, 4] (fun v i wr => ∃ k : Nat, k ≤ n ∧ i = .int .i64 k ∧ v = .int .i64 (nBas (t.take k) : Nat) ∧ Below W1.heap.size W1 wr) (fun _ i _ => n - (intOf i).toNat)
  case atStart => exact ⟨0, Nat.zero_le _, rfl, rfl, Below.refl _ _⟩
  case round =>
    obtain ⟨k, hk, rfl, rfl, hB⟩ := hrel
    have HB := Lib.hid hB
    have K := K1.out.later hB
    have k0 := K.cell (i := 0) rfl
    have kz := K.lt
    have hbl : nBas (t.take k) ≤ k := by
      unfold nBas
      exact Nat.le_trans (List.length_filter_le _ _) (by rw [List.length_take]; omega)
    clear hB K
    by_cases hlt : k < n
    · obtain ⟨m, ad, hm, hA, ha, _⟩ := (HT.out.below HB.out).get hlt
      subst hA
      have HSu := Lib.hid (nBas_tk hm)
      obtain ⟨c0, c1, c2, c3, c4⟩ := ha.five
      have hkn : (k : Int) < (n : Int) := by omega
      clear hm ha c0 c2 c3 c4
      obtain ⟨⟨na, ki, li, cn, ho⟩, A2, c2'⟩ := m
      dsimp only at *
      generalize nBas (t.take k) = nb at *
      cases hq : (ki == 1)
      · have HS2 : Hid (nBas (t.take (k + 1)) = nb) := by have := HSu.out; rw [hq] at this; exact this
        go_wp2_with fail
        go_roundw
        case rel => exact ⟨k + 1, by omega, by go_num, by rw [HS2.out], HB.out⟩
        case measure => simp [intOf]; omega
      · have HS2 : Hid (nBas (t.take (k + 1)) = nb + 1) := by have := HSu.out; rw [hq] at this; exact this
        go_wp2_with fail
        go_roundw
        case rel => exact ⟨k + 1, by omega, by go_num, by rw [HS2.out]; go_num, HB.out⟩
        case measure => simp [intOf]; omega
    · obtain rfl : n = k := by omega
      have HG : Hid (greatB t = (decide (7 < nBas (t.take n)) && decide (nBas (t.take n) ≤ 10))) := by show _ = _; rw [← hln, List.take_length]; rfl
      generalize nBas (t.take n) = nb at *
      have HBw : Hid (Below w.heap.size w wr) := HB1.out.trans (HB.out.mono HB1.out.size)
      by_cases h7 : 7 < nb
      · have b1 : decide ((7 : Int) < (nb : Int)) = true := decide_eq_true (by omega)
        by_cases h10 : nb ≤ 10
        · have b2 : decide ((nb : Int) ≤ 10) = true := decide_eq_true (by omega)
          have HG2 : Hid (greatB t = true) := by show _ = _; rw [HG.out, decide_eq_true h7, decide_eq_true h10]; rfl
          go_wp2_with fail
          go_ret
          exact ⟨by rw [HG2.out]; rfl, HBw.out⟩
        · have b2 : decide ((nb : Int) ≤ 10) = false := decide_eq_false (by omega)
          have HG2 : Hid (greatB t = false) := by show _ = _; rw [HG.out, decide_eq_true h7, decide_eq_false h10]; rfl
          go_wp2_with fail
          go_ret
          exact ⟨by rw [HG2.out]; rfl, HBw.out⟩
      · have b1 : decide ((7 : Int) < (nb : Int)) = false := decide_eq_false (by omega)
        have HG2 : Hid (greatB t = false) := by show _ = _; rw [HG.out, decide_eq_false h7, Bool.false_and]
        go_wp2_with fail
        go_ret
        exact ⟨by rw [HG2.out]; rfl, HBw.out⟩

theorem lex_drop {l m : List Int} {j : Nat} {x y : Int} (hx : l[j]? = some x) (hy : m[j]? = some y) : lexL (l.drop j) (m.drop j) = if x = y then lexL (l.drop (j + 1)) (m.drop (j + 1)) else decide (x < y) := by
  obtain ⟨h1, rfl⟩ := List.getElem?_eq_some_iff.1 hx
  obtain ⟨h2, rfl⟩ := List.getElem?_eq_some_iff.1 hy
  rw [List.drop_eq_getElem_cons h1, List.drop_eq_getElem_cons h2, lexL]
set_option maxRecDepth 100000 in
set_option maxHeartbeats 4000000 in
theorem before_any (xs ys : List Int) (A : Option Addr) (n c : Nat) (B : Option Addr) (m d : Nat) (w : World) (hx : RdI w A n xs) (hy : RdI w B m ys) (hn : n ≤ 1000000) :
    Calls Tryz.prog 54 #[.slice A n c, .slice B m d] w fun e w' => e = .returned (.bool (beforeL xs ys)) ∧ Below w.heap.size w w' := by
  generalize hX : beforeL xs ys = X
  have hlx := hx.1
  have hly := hy.1
  unfold beforeL at hX
  rw [hlx, hly] at hX
  have HX := Lib.hid hx; have HY := Lib.hid hy
  have HXX := Lib.hid hX
  clear hx hy hX
  go_enter Tryz.func54, Tryz.ntmps54
  by_cases hnm : n = m
  · subst hnm
    have HE : Hid (lexL (xs.drop 0) (ys.drop 0) = X) := by have := HXX.out; rw [if_neg (fun h => h rfl)] at this; exact this
    have b1 : ((n : Int) != (n : Int)) = false := by simp
    go_wp2_with fail
    clear b1
    go_loopw [5] (fun i wr => ∃ k : Nat, k ≤ n ∧ i = .int .i64 k ∧ Below w.heap.size w wr ∧ lexL (xs.drop k) (ys.drop k) = X) (fun i _ => n - (intOf i).toNat)
    case atStart => exact ⟨0, Nat.zero_le _, rfl, Below.refl _ _, HE.out⟩
    case round =>
      obtain ⟨k, hk, rfl, hB, hE⟩ := hrel
      have HB := Lib.hid hB; have HE := Lib.hid hE
      clear hB hE
      by_cases hlt : k < n
      · obtain ⟨x, ad, hx, rfl, cx⟩ := rdI_get (HX.out.below HB.out) hlt
        obtain ⟨y, bd, hy, rfl, cy⟩ := rdI_get (HY.out.below HB.out) hlt
        have HL := Lib.hid (lex_drop hx hy)
        have hkn : (k : Int) < (n : Int) := by omega
        clear hx hy
        by_cases hxy : x = y
        · have HE2 : Hid (lexL (xs.drop (k + 1)) (ys.drop (k + 1)) = X) := by have := HL.out; rw [if_pos hxy] at this; rw [← this]; exact HE.out
          subst hxy
          have b1 : (x != x) = false := by simp
          go_wp2_with fail
          go_region
          go_wp2_with fail
          go_roundw
          case rel => exact ⟨k + 1, by omega, by go_num, HB.out.drew, HE2.out⟩
          case measure => simp [intOf]; omega
        · have HE2 : Hid (decide (x < y) = X) := by have := HL.out; rw [if_neg hxy] at this; rw [← this]; exact HE.out
          have b1 : (x != y) = true := by simpa using hxy
          clear hxy
          go_wp2_with fail
          go_region
          go_wp2_with fail
          have cx2 : wr.drew.cell? (ad.add k) = some (.int .i64 x) := cx
          have cy2 : wr.drew.cell? (bd.add k) = some (.int .i64 y) := cy
          go_region
          go_wp2_with fail
          go_ret
          exact ⟨by rw [HE2.out]; rfl, HB.out.drew.drew⟩
      · obtain rfl : n = k := by omega
        have HF : Hid (false = X) := by rw [← HE.out, List.drop_eq_nil_of_le (by omega)]; rfl
        have HF' := HF.out
        subst HF'
        go_wp2_with fail
        go_ret
        exact ⟨rfl, HB.out⟩
  · have b1 : ((n : Int) != (m : Int)) = true := by simp; omega
    have HB2 : Hid (decide (n < m) = X) := by have := HXX.out; rw [if_pos hnm] at this; exact this
    go_wp2_with fail
    go_ret
    exact ⟨by rw [HB2.out]; rfl, Below.refl _ _⟩
end Go.Proofs.YtadldndpphdmpaaGreat
