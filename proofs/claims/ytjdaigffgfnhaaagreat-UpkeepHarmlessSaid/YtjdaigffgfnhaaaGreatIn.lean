import Derived.Test.YtjdaigffgfnhaaaGreatSt
namespace Go.Proofs.YtjdaigffgfnhaaaGreat
open Go.RowKit

theorem eq_of_get {xs ys : List Int} (h : xs.length = ys.length) (hk : ∀ i : Nat, i < xs.length → xs[i]? = ys[i]?) : xs = ys := by
  apply List.ext_getElem?
  intro i
  by_cases hi : i < xs.length
  · exact hk i hi
  · rw [List.getElem?_eq_none (by omega), List.getElem?_eq_none (by omega)]

set_option maxHeartbeats 1000000 in
theorem ints_any (xs ys : List Int) (A : Option Addr) (n c : Nat) (B : Option Addr) (m d : Nat) (w : World) (hx : RdI w A n xs) (hy : RdI w B m ys) (hn : n ≤ 1000000) :
    Calls Tryz.prog 17 #[.slice A n c, .slice B m d] w fun e w' => e = .returned (.bool (decide (xs = ys))) ∧ Below w.heap.size w w' := by
  have hlx := hx.1
  have hly := hy.1
  have HX := Lib.hid hx; have HY := Lib.hid hy
  clear hx hy
  by_cases hne : n = m
  · subst hne
    have hb : ((n : Int) != (n : Int)) = false := by simp
    go_enter Tryz.func17, Tryz.ntmps17
    go_wp2
    go_loopw [5] (fun i wr => ∃ k : Nat, k ≤ n ∧ i = .int .i64 k ∧ Below w.heap.size w wr ∧ ∀ i : Nat, i < k → xs[i]? = ys[i]?) (fun i _ => n - (intOf i).toNat)
    case atStart => exact ⟨0, Nat.zero_le _, rfl, Below.refl _ _, fun i hi => by omega⟩
    case round =>
      obtain ⟨k, hk, rfl, hB, hE⟩ := hrel
      have HB := Lib.hid hB; clear hB
      have HE := Lib.hid hE; clear hE
      by_cases hlt : k < n
      · obtain ⟨x, ad, hx, rfl, c0⟩ := rdI_get (HX.out.below HB.out) hlt
        obtain ⟨y, bd, hy, rfl, d0⟩ := rdI_get (HY.out.below HB.out) hlt
        have HXk := Lib.hid hx; have HYk := Lib.hid hy
        clear hx hy
        have hkl : (k : Int) < (n : Int) := by omega
        by_cases hxy : x = y
        · subst hxy
          have hb2 : (x != x) = false := by simp
          go_wp2_with fail
          go_region
          go_wp2_with fail
          go_roundw
          case rel => exact ⟨k + 1, by omega, by go_num, HB.out.drew, fun i hi => by
            by_cases hik : i < k
            · exact HE.out i hik
            · obtain rfl : i = k := by omega
              exact HXk.out.trans HYk.out.symm⟩
          case measure => simp [intOf]; omega
        · have hb2 : (x != y) = true := by simpa using hxy
          go_wp2_with fail
          go_region
          go_wp2_with fail
          go_ret
          refine ⟨?_, HB.out.drew⟩
          have h0 : xs ≠ ys := fun e => by
            subst e
            have := HXk.out.symm.trans HYk.out
            injection this with this
            exact hxy this
          simp [h0]
      · obtain rfl : k = n := by omega
        go_wp2_with fail
        go_ret
        refine ⟨?_, HB.out⟩
        have h0 : xs = ys := eq_of_get (by omega) (fun i hi => HE.out i (by omega))
        simp [h0]
  · have hb : ((n : Int) != (m : Int)) = true := by simp; omega
    go_enter Tryz.func17, Tryz.ntmps17
    go_wp2
    go_ret
    refine ⟨?_, Below.refl _ _⟩
    have h0 : xs ≠ ys := fun e => hne (by rw [← hlx, ← hly, e])
    simp [h0]
end Go.Proofs.YtjdaigffgfnhaaaGreat
