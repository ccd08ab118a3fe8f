/- The small walks of the basin's and the closure's Check. -/
import Derived.Test.YtjdaigffgfnhaaaGreatKp
import Derived.Test.YtjdaigffgfnhaaaGreatNm
import Derived.Test.YtjdaigffgfnhaaaGreatW2
import Derived.Test.YtjdaigffgfnhaaaGreatW1
import Derived.Test.YtjdaigffgfnhaaaGreatOwn
namespace Go.Proofs.YtjdaigffgfnhaaaGreat
open Go.RowKit

theorem ret_intK {k : IntKind} {a b : Int} (h : a = b) : Ending.returned (.int k a) = .returned (.int k b) := by rw [h]

abbrev Pol.enc (p : Pol) : List Value := [.string p.nm, .int .i64 p.sill, .int .i64 p.take, .int .i64 p.room]
abbrev RdP := @Rd Pol Pol.enc 4
abbrev RdR := @Rd (Int × Int) (fun x : Int × Int => [Value.int .i64 x.1, Value.int .i64 x.2]) 2
theorem At.four {w : World} {p : Addr} {a b c d : Value} (h : At w p [a, b, c, d]) :
    w.cell? p = some a ∧ w.cell? ⟨p.block, p.off + 1, none⟩ = some b ∧ w.cell? ⟨p.block, p.off + 2, none⟩ = some c ∧ w.cell? ⟨p.block, p.off + 3, none⟩ = some d :=
  ⟨h 0 a rfl, h 1 b rfl, h 2 c rfl, h 3 d rfl⟩
theorem At.two {w : World} {p : Addr} {a b : Value} (h : At w p [a, b]) :
    w.cell? p = some a ∧ w.cell? ⟨p.block, p.off + 1, none⟩ = some b :=
  ⟨h 0 a rfl, h 1 b rfl⟩

set_option maxHeartbeats 400000 in
theorem cout_any (n lo hi : Int) (w : World) :
    Calls Tryz.prog 19 #[.int .i64 n, .int .i64 lo, .int .i64 hi] w fun e w' => e = .returned (.bool (outB n lo hi)) ∧ w = w' := by
  go_enter Tryz.func19, Tryz.ntmps19
  go_wp2
  all_goals go_ret
  all_goals exact ⟨by unfold outB; simp; try omega, rfl⟩
set_option maxHeartbeats 400000 in
theorem bout_any (n lo hi : Int) (w : World) :
    Calls Tryz.prog 54 #[.int .i64 n, .int .i64 lo, .int .i64 hi] w fun e w' => e = .returned (.bool (outB n lo hi)) ∧ w = w' := by
  go_enter Tryz.func54, Tryz.ntmps54
  go_wp2
  all_goals go_ret
  all_goals exact ⟨by unfold outB; simp; try omega, rfl⟩
set_option maxHeartbeats 400000 in
theorem lvl_any (n : Int) (w : World) :
    Calls Tryz.prog 55 #[.int .i64 n] w fun e w' => e = .returned (.bool (lvlB n)) ∧ w = w' := by
  go_enter Tryz.func55, Tryz.ntmps55
  go_wp2_with (go_at_call 54; refine (bout_any _ _ _ _).mono ?_; rintro e w' ⟨rfl, rfl⟩)
  go_ret
  exact ⟨rfl, rfl⟩
set_option maxHeartbeats 400000 in
theorem chk1_any (n : Int) (w : World) :
    Calls Tryz.prog 20 #[.int .i64 n] w fun e w' => e = .returned (.bool (lvlB n)) ∧ w = w' := by
  go_enter Tryz.func20, Tryz.ntmps20
  go_wp2_with (go_at_call 19; refine (cout_any _ _ _ _).mono ?_; rintro e w' ⟨rfl, rfl⟩)
  go_ret
  exact ⟨rfl, rfl⟩
def flowB (n : Int) : Bool := outB n 0 10000000
set_option maxHeartbeats 400000 in
theorem chk2_any (n : Int) (w : World) :
    Calls Tryz.prog 22 #[.int .i64 n] w fun e w' => e = .returned (.bool (flowB n)) ∧ w = w' := by
  go_enter Tryz.func22, Tryz.ntmps22
  go_wp2_with (go_at_call 19; refine (cout_any _ _ _ _).mono ?_; rintro e w' ⟨rfl, rfl⟩)
  go_ret
  exact ⟨rfl, rfl⟩
set_option maxHeartbeats 400000 in
theorem never_any (w : World) :
    Calls Tryz.prog 27 #[] w fun e w' => e = .returned (.agg #[.int .i64 (-1), .int .i64 (-1)]) ∧ Below w.heap.size w w' := by
  go_enter Tryz.func27, Tryz.ntmps27
  go_wp2
  exact bodyPost_ret (v := .agg #[.int .i64 (-1), .int .i64 (-1)]) (by simp [results, Tryz.results27, go_sem]) rfl ⟨rfl, by simpa [World.setCell] using (Below.refl w.heap.size w).alloc (Nat.le_refl _) _⟩

/-- The j-th of a list is so. -/
def atP (P : Int → Bool) (l : List Int) (j : Nat) : Bool := P (l.getD j 0)
theorem atP_get {P : Int → Bool} {l : List Int} {k : Nat} {v : Int} (h : l[k]? = some v) : atP P l k = P v := by unfold atP; rw [List.getD_eq_getElem?_getD, h]; rfl
theorem atP_any (P : Int → Bool) (l : List Int) : decide (0 ≤ idxF (atP P l) 0 (l.length - 0)) = l.any P := by
  rw [Bool.eq_iff_iff, decide_eq_true_eq, idxF_neg, List.any_eq_true]
  constructor
  · rintro ⟨j, _, hj, h⟩
    have hj' : j < l.length := by omega
    refine ⟨l[j], List.getElem_mem hj', ?_⟩
    rw [atP_get (List.getElem?_eq_getElem hj')] at h
    exact h
  · rintro ⟨n, hn, h⟩
    obtain ⟨j, hj, rfl⟩ := List.getElem_of_mem hn
    exact ⟨j, Nat.zero_le _, by omega, by rw [atP_get (List.getElem?_eq_getElem hj)]; exact h⟩
set_option maxHeartbeats 1000000 in
theorem indexL_any (l : List Int) (A : Option Addr) (n c : Nat) (w : World) (hs : RdI w A n l) (hn : n ≤ 1000000000000000) :
    Calls Tryz.prog 57 #[.slice A n c, .func (.func 20) #[] #[]] w fun e w' => e = .returned (.int .i64 (idxF (atP lvlB l) 0 (n - 0))) ∧ Below w.heap.size w w' := by
  generalize hX : idxF (atP lvlB l) 0 (n - 0) = X
  have HX := Lib.hid hX; clear hX
  have HS := Lib.hid hs; clear hs
  go_enter Tryz.func57, Tryz.ntmps57
  go_wp2
  go_loopw [8] (fun q wr => ∃ k : Nat, k ≤ n ∧ q = .int .i64 k ∧ Below w.heap.size w wr ∧ idxF (atP lvlB l) k (n - k) = X) (fun q _ => n - (intOf q).toNat)
  case atStart => exact ⟨0, Nat.zero_le _, rfl, Below.refl _ _, HX.out⟩
  case round =>
    obtain ⟨k, hk, rfl, hB, hE⟩ := hrel
    have HE := Lib.hid hE; clear hE
    have HB := Lib.hid hB; clear hB
    by_cases hlt : k < n
    · obtain ⟨v, ad, hv, rfl, c0⟩ := rdI_get (HS.out.below HB.out) hlt
      have HP := Lib.hid (atP_get (P := lvlB) hv)
      clear hv
      have HC := Lib.hid (chk1_any v wr)
      cases hb : lvlB v with
      | true =>
        rw [hb] at HC
        have FIN := Lib.hid (idxF_yes hlt (HP.out.trans hb))
        clear hb
        go_wp2_with (go_at_call 20; refine HC.out.mono ?_; rintro e w2 ⟨rfl, rfl⟩)
        go_ret
        exact ⟨ret_intK (FIN.out.symm.trans HE.out), HB.out⟩
      | false =>
        rw [hb] at HC
        have FIN := Lib.hid (idxF_no hlt (HP.out.trans hb))
        clear hb
        go_wp2_with (go_at_call 20; refine HC.out.mono ?_; rintro e w2 ⟨rfl, rfl⟩)
        go_roundw
        case rel => exact ⟨k + 1, by omega, by go_num, HB.out, FIN.out.symm.trans HE.out⟩
        case measure => simp [intOf]; omega
    · have FIN := Lib.hid (idxF_end (p := atP lvlB l) (Nat.le_of_not_lt hlt))
      go_wp2
      go_ret
      exact ⟨ret_intK (FIN.out.symm.trans HE.out), HB.out⟩
set_option maxHeartbeats 1000000 in
theorem containsL_any (l : List Int) (A : Option Addr) (n c : Nat) (w : World) (hs : RdI w A n l) (hn : n ≤ 1000000000000000) :
    Calls Tryz.prog 21 #[.slice A n c, .func (.func 20) #[] #[]] w fun e w' => e = .returned (.bool (l.any lvlB)) ∧ Below w.heap.size w w' := by
  rw [← atP_any lvlB l, hs.1]
  have HC := Lib.hid (indexL_any l A n c w hs hn)
  clear hs
  generalize idxF (atP lvlB l) 0 (n - 0) = X at *
  go_enter Tryz.func21, Tryz.ntmps21
  go_wp2_with (go_at_call 57; refine HC.out.mono ?_; rintro e w2 ⟨rfl, hb2⟩; have HB2 := Lib.hid hb2; clear hb2)
  go_ret
  exact ⟨rfl, HB2.out⟩

set_option maxHeartbeats 1000000 in
theorem indexQ_any (l : List Int) (A : Option Addr) (n c : Nat) (w : World) (hs : RdI w A n l) (hn : n ≤ 1000000000000000) :
    Calls Tryz.prog 57 #[.slice A n c, .func (.func 22) #[] #[]] w fun e w' => e = .returned (.int .i64 (idxF (atP flowB l) 0 (n - 0))) ∧ Below w.heap.size w w' := by
  generalize hX : idxF (atP flowB l) 0 (n - 0) = X
  have HX := Lib.hid hX; clear hX
  have HS := Lib.hid hs; clear hs
  go_enter Tryz.func57, Tryz.ntmps57
  go_wp2
  go_loopw [8] (fun q wr => ∃ k : Nat, k ≤ n ∧ q = .int .i64 k ∧ Below w.heap.size w wr ∧ idxF (atP flowB l) k (n - k) = X) (fun q _ => n - (intOf q).toNat)
  case atStart => exact ⟨0, Nat.zero_le _, rfl, Below.refl _ _, HX.out⟩
  case round =>
    obtain ⟨k, hk, rfl, hB, hE⟩ := hrel
    have HE := Lib.hid hE; clear hE
    have HB := Lib.hid hB; clear hB
    by_cases hlt : k < n
    · obtain ⟨v, ad, hv, rfl, c0⟩ := rdI_get (HS.out.below HB.out) hlt
      have HP := Lib.hid (atP_get (P := flowB) hv)
      clear hv
      have HC := Lib.hid (chk2_any v wr)
      cases hb : flowB v with
      | true =>
        rw [hb] at HC
        have FIN := Lib.hid (idxF_yes hlt (HP.out.trans hb))
        clear hb
        go_wp2_with (go_at_call 22; refine HC.out.mono ?_; rintro e w2 ⟨rfl, rfl⟩)
        go_ret
        exact ⟨ret_intK (FIN.out.symm.trans HE.out), HB.out⟩
      | false =>
        rw [hb] at HC
        have FIN := Lib.hid (idxF_no hlt (HP.out.trans hb))
        clear hb
        go_wp2_with (go_at_call 22; refine HC.out.mono ?_; rintro e w2 ⟨rfl, rfl⟩)
        go_roundw
        case rel => exact ⟨k + 1, by omega, by go_num, HB.out, FIN.out.symm.trans HE.out⟩
        case measure => simp [intOf]; omega
    · have FIN := Lib.hid (idxF_end (p := atP flowB l) (Nat.le_of_not_lt hlt))
      go_wp2
      go_ret
      exact ⟨ret_intK (FIN.out.symm.trans HE.out), HB.out⟩
set_option maxHeartbeats 1000000 in
theorem containsQ_any (l : List Int) (A : Option Addr) (n c : Nat) (w : World) (hs : RdI w A n l) (hn : n ≤ 1000000000000000) :
    Calls Tryz.prog 21 #[.slice A n c, .func (.func 22) #[] #[]] w fun e w' => e = .returned (.bool (l.any flowB)) ∧ Below w.heap.size w w' := by
  rw [← atP_any flowB l, hs.1]
  have HC := Lib.hid (indexQ_any l A n c w hs hn)
  clear hs
  generalize idxF (atP flowB l) 0 (n - 0) = X at *
  go_enter Tryz.func21, Tryz.ntmps21
  go_wp2_with (go_at_call 57; refine HC.out.mono ?_; rintro e w2 ⟨rfl, hb2⟩; have HB2 := Lib.hid hb2; clear hb2)
  go_ret
  exact ⟨rfl, HB2.out⟩

end Go.Proofs.YtjdaigffgfnhaaaGreat
