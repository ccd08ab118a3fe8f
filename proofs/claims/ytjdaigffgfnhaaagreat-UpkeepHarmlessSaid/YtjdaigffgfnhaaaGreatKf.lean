/- The walk of slices.Backward. -/
import Derived.Test.YtjdaigffgfnhaaaGreatIt
import Derived.Test.YtjdaigffgfnhaaaGreatOwn
namespace Go.Proofs.YtjdaigffgfnhaaaGreat
open Go.RowKit Go.Shelf

attribute [local go_sem] Oper.semAt_some

/-- What Backward yields: an index of a row, and what stands there. -/
structure Bk (hv : List Int) where
  i : Nat
  v : Int
  at_ : hv[i]? = some v
abbrev Bk.encs {hv : List Int} (x : Bk hv) : Array Value := #[.int .i64 (x.i : Int), .int .i64 x.v]

set_option maxHeartbeats 1000000 in
theorem backward_in (n : Nat) (A : Option Addr) (len c : Nat) (w : World) :
    CallsIn Fence.wide n Tryz.prog 62 #[.slice A len c] w fun e w' => e = .returned (.func (.func 76) #[] #[.pointer (some ⟨w.heap.size, 0, none⟩)]) ∧ w.alloc (.cells #[.slice A len c] 31) = w' := by
  refine callsIn_of_wp Tryz.func62 rfl trivial ?_ rfl
  simp only [Tryz.ntmps62, List.size_toArray, List.length_cons, List.length_nil, Nat.reduceAdd, Nat.reduceSub, Array.replicate_succ, Array.replicate_zero, List.push_toArray, List.append_toArray, List.nil_append, List.cons_append]
  gi_wp2
  go_ret
  exact ⟨rfl, rfl⟩

set_option maxRecDepth 100000 in
set_option maxHeartbeats 2000000 in
/-- The iterator: for every loop body that keeps the cells. -/
theorem backward1_in (F : Fence) (n : Nat) (hF : F = Fence.wide) (hn : 1 ≤ n) (l Bx : Nat) (A : Option Addr) (len c : Nat) (hv : List Int) (J Jx : List (Bk hv) → World → Prop) (W : World)
    (hY : ∀ pre x W1, J pre W1 → pre.length < len → YieldAt F (n - 1) Tryz.prog l (Bk.encs x) W1 fun e W' =>
      (e = .returned (.bool true) ∧ J (pre ++ [x]) W' ∧ KeepsCells W1 W') ∨ (e = .returned (.bool false) ∧ Jx (pre ++ [x]) W'))
    (hx : W.cell? ⟨Bx, 0, none⟩ = some (.slice A len c)) (hr : RdI W A len hv) (hlen : len ≤ 60) (h0 : J [] W) :
    CallsIn F n Tryz.prog 76 #[.func (.yield l) #[] #[], .pointer (some ⟨Bx, 0, none⟩)] W fun e W' => (∃ v, e = .returned v) ∧
      ((∃ ys : List (Bk hv), ys.length = len ∧ J ys W') ∨ (∃ pre, True ∧ Jx pre W')) := by
  subst hF
  refine callsIn_of_wp Tryz.func76 rfl trivial ?_ rfl
  simp only [Tryz.ntmps76, List.size_toArray, List.length_cons, List.length_nil, Nat.reduceAdd, Nat.reduceSub, Array.replicate_succ, Array.replicate_zero, List.push_toArray, List.append_toArray, List.nil_append, List.cons_append]
  have HR := Lib.hid hr; clear hr
  have HY := Lib.hid hY; clear hY
  have H0 := Lib.hid h0; clear h0
  gi_wp2
  gi_loopw [3] (fun i wr => ∃ (k : Nat) (pre : List (Bk hv)), k ≤ len ∧ i = .int .i64 ((k : Int) - 1) ∧ pre.length = len - k ∧ KeepsCells W wr ∧ J pre wr) (fun i _ => (intOf i + 1).toNat)
  case atStart => exact ⟨len, [], Nat.le_refl _, rfl, by simp, KeepsCells.refl _, H0.out⟩
  case round =>
    obtain ⟨k, pre, hk, rfl, hpre, hK, hJr⟩ := hrel
    have HK := Lib.hid hK; clear hK
    have HJ := Lib.hid hJr; clear hJr
    have q0 := HK.out.cell hx
    by_cases hlt : 0 < k
    · obtain ⟨v, ad, hvk, rfl, c0⟩ := rdI_get (HK.out.rd HR.out) (k := k - 1) (by omega)
      obtain ⟨m, rfl⟩ : ∃ m, k = m + 1 := ⟨k - 1, by omega⟩
      have HVM : Hid (hv[m]? = some v) := by simpa [Hid] using hvk
      have c1 : wr.cell? (ad.add m) = some (.int .i64 v) := by simpa using c0
      have em : (((m + 1 : Nat) : Int) - 1) = (m : Int) := by omega
      rw [em]
      obtain ⟨fn, tmps, assign, body, hy, hR⟩ := HY.out pre ⟨m, v, HVM.out⟩ wr HJ.out (by omega)
      dsimp only [Bk.encs] at hy
      have HRR := Lib.hid hR; clear hR
      clear hvk c0 em
      gi_wp2_with fail
      refine HRR.out.mono ?_
      rintro e W3 (⟨rfl, hJ3, hk3⟩ | ⟨rfl, hJx3⟩)
      · have HJ3 := Lib.hid hJ3; clear hJ3
        have HK3 := Lib.hid hk3; clear hk3
        gi_wp2
        go_roundw
        case rel => exact ⟨m, _, by omega, by go_num, by rw [List.length_append, hpre]; simp; omega, HK.out.trans HK3.out, HJ3.out⟩
        case measure => simp [intOf]
      · have HJ3 := Lib.hid hJx3; clear hJx3
        gi_wp2
        refine bodyPost_ret (results_none rfl _ _ _) rfl ?_
        exact ⟨⟨_, rfl⟩, .inr ⟨_, trivial, HJ3.out⟩⟩
    · obtain rfl : k = 0 := by omega
      have HP : Hid (pre.length = len) := by rw [hpre]; rfl
      clear hpre
      gi_wp2
      go_end0
      exact ⟨⟨_, rfl⟩, .inl ⟨pre, HP.out, HJ.out⟩⟩

end Go.Proofs.YtjdaigffgfnhaaaGreat
