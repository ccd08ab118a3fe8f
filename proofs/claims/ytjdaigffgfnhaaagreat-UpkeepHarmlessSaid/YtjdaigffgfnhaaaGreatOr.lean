import Derived.Test.YtjdaigffgfnhaaaGreatMe
import Derived.Deep.OwnRows
namespace Go.Proofs.YtjdaigffgfnhaaaGreat
open Go.RowKit

/-- The row that order fills: the first k of n cells. -/
def ordA (n k : Nat) : Array Value := ((List.range n).map fun i => Value.int .i64 (if i < k then (i : Int) else 0)).toArray
theorem ordA_size (n k : Nat) : (ordA n k).size = n := by unfold ordA; simp
theorem ordA_get (n k i : Nat) (h : i < n) : (ordA n k)[i]? = some (Value.int .i64 (if i < k then (i : Int) else 0)) := by unfold ordA; simp [h]
theorem ordA_set (n k : Nat) (h : k < n) : (ordA n k).setIfInBounds k (.int .i64 (k : Int)) = ordA n (k + 1) := by
  apply Array.ext_getElem?
  intro i
  by_cases hi : i < n
  · rw [ordA_get n (k + 1) i hi, Array.getElem?_setIfInBounds, ordA_get n k i hi, ordA_size]
    by_cases e : k = i
    · subst e; rw [if_pos rfl, if_pos h, if_pos (by omega)]
    · rw [if_neg e]
      by_cases h2 : i < k
      · rw [if_pos h2, if_pos (by omega)]
      · rw [if_neg h2, if_neg (by omega)]
  · rw [Array.getElem?_eq_none (by rw [Array.size_setIfInBounds, ordA_size]; omega), Array.getElem?_eq_none (by rw [ordA_size]; omega)]

theorem ordA_zero (n : Nat) : madeCells #[Value.int .i64 0] n = ordA n 0 := by
  apply Array.ext_getElem?
  intro i
  by_cases hi : i < n
  · rw [ordA_get n 0 i hi]
    unfold madeCells
    simp [hi, Nat.mod_one]
  · rw [Array.getElem?_eq_none (by rw [size_madeCells]; omega), Array.getElem?_eq_none (by rw [ordA_size]; omega)]
def ordL (n : Nat) : List Int := (List.range n).map fun i : Nat => (i : Int)
theorem ordL_get (n i : Nat) (h : i < n) : (ordL n)[i]? = some (i : Int) := by unfold ordL; simp [h]

set_option maxHeartbeats 1000000 in
theorem order_any (n : Nat) (hn : n ≤ 1000) (w : World) :
    Calls Tryz.prog 53 #[.int .i64 (n : Int)] w fun e w' => ∃ A c, e = .returned (.slice A n c) ∧ RdI w' A n (ordL n) ∧ Below w.heap.size w w' := by
  have hmk := run_make_row' (P := Tryz.prog) 31 3 (.int .i64 0) 8 Tryz.underlying31 info3 rfl .i64 .i64 n (by omega) (by omega)
  go_enter Tryz.func53, Tryz.ntmps53
  go_wp2
  obtain ⟨W1, hW1⟩ : ∃ W1, w.alloc (Obj.cells (madeCells #[Value.int .i64 0] n) 3) = W1 := ⟨_, rfl⟩
  have HB1 : Hid (Below w.heap.size w W1) := by rw [← hW1]; exact (Below.refl _ _).alloc (Nat.le_refl _) _
  have K1 : Hid (Blk W1 w.heap.size 3 (ordA n 0)) := by rw [← hW1, ordA_zero]; exact Blk.new _ _ _ rfl
  rw [hW1]
  clear hW1 hmk
  go_loopw [9] (fun i wr => ∃ k : Nat, k ≤ n ∧ i = .int .i64 k ∧ Below w.heap.size w wr ∧ Blk wr w.heap.size 3 (ordA n k)) (fun i _ => n - (intOf i).toNat)
  case atStart => exact ⟨0, Nat.zero_le _, rfl, HB1.out, K1.out⟩
  case round =>
    obtain ⟨k, hk, rfl, hB, hK⟩ := hrel
    have HB := Lib.hid hB; clear hB
    have HK := Lib.hid hK
    by_cases hlt : k < n
    · have c0 := hK.cell (ordA_get n k k hlt)
      have z0 := hK.frozen k
      clear hK
      go_wp2
      have HK2 : Hid (Blk (wr.setCell ⟨w.heap.size, k, none⟩ (.int .i64 (k : Int))) w.heap.size 3 (ordA n (k + 1))) := by rw [← ordA_set n k hlt]; exact HK.out.set k _
      have HB2 : Hid (Below w.heap.size w (wr.setCell ⟨w.heap.size, k, none⟩ (.int .i64 (k : Int)))) := HB.out.setCell (p := ⟨w.heap.size, k, none⟩) (Nat.le_refl _) _
      go_roundw
      case rel => exact ⟨k + 1, by omega, by go_num, HB2.out, HK2.out⟩
      case measure => simp [intOf]; omega
    · obtain rfl : k = n := by omega
      clear hK
      go_wp2
      go_ret
      refine ⟨_, _, rfl, ⟨by simp [ordL], fun i x hx => ⟨_, rfl, fun j v hv => ?_⟩⟩, HB.out⟩
      have hi : i < k := by have := (List.getElem?_eq_some_iff.1 hx).1; simpa [ordL] using this
      rw [ordL_get k i hi] at hx
      cases hx
      have hj : j = 0 := by have := (List.getElem?_eq_some_iff.1 hv).1; simp at this; omega
      subst hj
      simp at hv
      subst hv
      have := HK.out.cell (ordA_get k k i hi)
      rw [if_pos hi] at this
      rw [Nat.mul_one, Addr.add_mid]
      simpa [Addr.add] using this

/-- Does work k meet work i in a plan? -/
def meetP (t : Task) (ss : List Int) (i k : Nat) : Bool :=
  match ss[k]?, t.works[k]?, ss[i]?, t.works[i]? with
  | some a, some x, some b, some y => mB t.gap a x.days b y.days
  | _, _, _, _ => false

/-- A plan, or the beginning of one, that may be asked whether works meet. -/
structure Ask (t : Task) (ss : List Int) (n' : Nat) : Prop where
  len : ss.length ≤ n'
  day : ∀ s ∈ ss, 0 ≤ s ∧ s ≤ 364

set_option maxRecDepth 100000 in
set_option maxHeartbeats 1000000 in
theorem meets_any (t : Task) (p : Nat) (A : Option Addr) (n c : Nat) (A' : Option Addr) (n' c' : Nat) (As : Option Addr) (m cs : Nat) (ss : List Int) (i k : Nat) (B1 B2 B3 : Nat) (w : World) (hP : Pl w p t A n c A' n' c') (hok : TaskOK t) (hs : RdI w As m ss) (ha : Ask t ss n') (hi : i < m) (hk : k < m)
    (b1 : w.cell? ⟨B1, 0, none⟩ = some (.pointer (some ⟨p, 0, none⟩))) (b2 : w.cell? ⟨B2, 0, none⟩ = some (.slice As m cs)) (b3 : w.cell? ⟨B3, 0, none⟩ = some (.int .i64 (i : Int))) :
    Calls Tryz.prog 51 #[.int .i64 (k : Int), .pointer (some ⟨B1, 0, none⟩), .pointer (some ⟨B2, 0, none⟩), .pointer (some ⟨B3, 0, none⟩)] w fun e w' => e = .returned (.bool (meetP t ss i k)) ∧ Below w.heap.size w w' := by
  have hl := hs.1
  have hl2 := hP.works.1
  have hlm := ha.len
  have hsi : ss[i]? = some (ss[i]'(by omega)) := List.getElem?_eq_getElem _
  have hsk : ss[k]? = some (ss[k]'(by omega)) := List.getElem?_eq_getElem _
  have hxi : t.works[i]? = some (t.works[i]'(by omega)) := List.getElem?_eq_getElem _
  have hxk : t.works[k]? = some (t.works[k]'(by omega)) := List.getElem?_eq_getElem _
  generalize ss[i]'(by omega) = si at *
  generalize ss[k]'(by omega) = sk at *
  generalize t.works[i]'(by omega) = xi at *
  generalize t.works[k]'(by omega) = xk at *
  have hdi := ha.day si (List.mem_of_getElem? hsi)
  have hdk := ha.day sk (List.mem_of_getElem? hsk)
  have hwi := workOK_of (hok.rows i xi hxi).2.2.1
  have hwk := workOK_of (hok.rows k xk hxk).2.2.1
  have hg := hok.gap
  have hd1 := hwi.d0; have hd2 := hwi.d1; have hd3 := hwk.d0; have hd4 := hwk.d1
  have e : meetP t ss i k = mB t.gap sk xk.days si xi.days := by unfold meetP; rw [hsi, hsk, hxi, hxk]
  rw [e]
  have HC := Lib.hid (meet_any t p A n c A' n' c' As m cs ss k i sk si xk xi w hP hs hsk hxk hsi hxi (by omega) (by omega) (by omega) (by omega) (by omega) (by omega) (by omega) (by omega) (by omega) (by omega))
  clear hP hok hs ha hsi hsk hxi hxk hdi hdk hwi hwk hg hd1 hd2 hd3 hd4 e hl hl2 hlm
  generalize mB t.gap sk xk.days si xi.days = bb at *
  go_enter Tryz.func51, Tryz.ntmps51
  go_wp2_with (go_at_call 52; refine HC.out.mono ?_; rintro e w2 ⟨rfl, hb2⟩; have HB2 := Lib.hid hb2; clear hb2)
  go_ret
  exact ⟨rfl, HB2.out⟩

set_option maxRecDepth 100000 in
set_option maxHeartbeats 1000000 in
theorem indexMeets_any (t : Task) (p : Nat) (A : Option Addr) (n c : Nat) (A' : Option Addr) (n' c' : Nat) (As : Option Addr) (m cs : Nat) (ss : List Int) (i : Nat) (B1 B2 B3 : Nat) (Ao : Option Addr) (co : Nat) (w : World) (hP : Pl w p t A n c A' n' c') (hok : TaskOK t) (hs : RdI w As m ss) (ha : Ask t ss n') (hi : i < m) (ho : RdI w Ao i (ordL i)) (hi4 : i ≤ 1000)
    (b1 : w.cell? ⟨B1, 0, none⟩ = some (.pointer (some ⟨p, 0, none⟩))) (b2 : w.cell? ⟨B2, 0, none⟩ = some (.slice As m cs)) (b3 : w.cell? ⟨B3, 0, none⟩ = some (.int .i64 (i : Int))) :
    Calls Tryz.prog 57 #[.slice Ao i co, .func (.func 51) #[] #[.pointer (some ⟨B1, 0, none⟩), .pointer (some ⟨B2, 0, none⟩), .pointer (some ⟨B3, 0, none⟩)]] w fun e w' => e = .returned (.int .i64 (idxF (meetP t ss i) 0 (i - 0))) ∧ Below w.heap.size w w' := by
  generalize hX : idxF (meetP t ss i) 0 (i - 0) = X
  have HX := Lib.hid hX; clear hX
  have HP := Lib.hid hP; clear hP
  have HOK := Lib.hid hok; clear hok
  have HS := Lib.hid hs; clear hs
  have HA := Lib.hid ha; clear ha
  have HO := Lib.hid ho; clear ho
  go_enter Tryz.func57, Tryz.ntmps57
  go_wp2
  go_loopw [8] (fun q wr => ∃ k : Nat, k ≤ i ∧ q = .int .i64 k ∧ Below w.heap.size w wr ∧ idxF (meetP t ss i) k (i - k) = X) (fun q _ => i - (intOf q).toNat)
  case atStart => exact ⟨0, Nat.zero_le _, rfl, Below.refl _ _, HX.out⟩
  case round =>
    obtain ⟨k, hk, rfl, hB, hE⟩ := hrel
    have HE := Lib.hid hE; clear hE
    have HB := Lib.hid hB; clear hB
    by_cases hlt : k < i
    · obtain ⟨v, ad, hv, rfl, c0⟩ := rdI_get (HO.out.below HB.out) hlt
      rw [ordL_get i k hlt] at hv
      cases hv
      have HC := Lib.hid (meets_any t p A n c A' n' c' As m cs ss i k B1 B2 B3 wr (HP.out.below HB.out) HOK.out (HS.out.below HB.out) HA.out hi (by omega) (cell_below HB.out b1) (cell_below HB.out b2) (cell_below HB.out b3))
      cases hb : meetP t ss i k with
      | true =>
        rw [hb] at HC
        have FIN := Lib.hid (idxF_yes hlt hb)
        go_wp2_with (go_at_call 51; refine HC.out.mono ?_; rintro e w2 ⟨rfl, hb2⟩; have HB2 := Lib.hid hb2; clear hb2)
        go_ret
        exact ⟨ret_int (FIN.out.symm.trans HE.out), HB.out.trans (HB2.out.mono HB.out.size)⟩
      | false =>
        rw [hb] at HC
        have FIN := Lib.hid (idxF_no hlt hb)
        go_wp2_with (go_at_call 51; refine HC.out.mono ?_; rintro e w2 ⟨rfl, hb2⟩; have HB2 := Lib.hid hb2; clear hb2)
        go_roundw
        case rel => exact ⟨k + 1, by omega, by go_num, HB.out.trans (HB2.out.mono HB.out.size), FIN.out.symm.trans HE.out⟩
        case measure => simp [intOf]; omega
    · have FIN := Lib.hid (idxF_end (p := meetP t ss i) (Nat.le_of_not_lt hlt))
      go_wp2
      go_ret
      exact ⟨ret_int (FIN.out.symm.trans HE.out), HB.out⟩

/-- Does one of the works before work i meet it? -/
def anyMeet (t : Task) (ss : List Int) (i : Nat) : Bool := decide (0 ≤ idxF (meetP t ss i) 0 (i - 0))

set_option maxHeartbeats 1000000 in
theorem containsMeets_any (t : Task) (p : Nat) (A : Option Addr) (n c : Nat) (A' : Option Addr) (n' c' : Nat) (As : Option Addr) (m cs : Nat) (ss : List Int) (i : Nat) (B1 B2 B3 : Nat) (Ao : Option Addr) (co : Nat) (w : World) (hP : Pl w p t A n c A' n' c') (hok : TaskOK t) (hs : RdI w As m ss) (ha : Ask t ss n') (hi : i < m) (ho : RdI w Ao i (ordL i)) (hi4 : i ≤ 1000)
    (b1 : w.cell? ⟨B1, 0, none⟩ = some (.pointer (some ⟨p, 0, none⟩))) (b2 : w.cell? ⟨B2, 0, none⟩ = some (.slice As m cs)) (b3 : w.cell? ⟨B3, 0, none⟩ = some (.int .i64 (i : Int))) :
    Calls Tryz.prog 21 #[.slice Ao i co, .func (.func 51) #[] #[.pointer (some ⟨B1, 0, none⟩), .pointer (some ⟨B2, 0, none⟩), .pointer (some ⟨B3, 0, none⟩)]] w fun e w' => e = .returned (.bool (anyMeet t ss i)) ∧ Below w.heap.size w w' := by
  have HC := Lib.hid (indexMeets_any t p A n c A' n' c' As m cs ss i B1 B2 B3 Ao co w hP hok hs ha hi ho hi4 b1 b2 b3)
  have e0 : anyMeet t ss i = decide (0 ≤ idxF (meetP t ss i) 0 (i - 0)) := rfl
  rw [e0]
  clear hP hok hs ha ho e0 b1 b2 b3
  generalize idxF (meetP t ss i) 0 (i - 0) = X at *
  go_enter Tryz.func21, Tryz.ntmps21
  go_wp2_with (go_at_call 57; refine HC.out.mono ?_; rintro e w2 ⟨rfl, hb2⟩; have HB2 := Lib.hid hb2; clear hb2)
  go_ret
  exact ⟨rfl, HB2.out⟩
end Go.Proofs.YtjdaigffgfnhaaaGreat
