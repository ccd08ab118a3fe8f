/- SameSets: two lists of lists compared. -/
import Derived.Test.YtadldndpphdmpaaGreatG8
namespace Go.Proofs.YtadldndpphdmpaaGreat
open Go.RowKit Go.Shelf

theorem LsM.len {w : World} {A : Option Addr} {n : Nat} {ls : List (List Int)} {ps : List LsP} (h : LsM w A n ls ps) : ls.length = n := by rw [← h.eq, List.length_map, h.rd.1]

set_option maxRecDepth 100000 in
set_option maxHeartbeats 4000000 in
theorem sameSets_any (xs ys : List (List Int)) (A : Option Addr) (n c : Nat) (ps : List LsP) (B : Option Addr) (m d : Nat) (qs : List LsP) (w : World) (hx : LsM w A n xs ps) (hy : LsM w B m ys qs) (hn : n ≤ 1000000000000000) :
    Calls Tryz.prog 9 #[.slice A n c, .slice B m d] w fun e w' => e = .returned (.bool (decide (xs = ys))) ∧ Below w.heap.size w w' := by
  have hlx := hx.len
  have hly := hy.len
  have HX := Lib.hid hx; have HY := Lib.hid hy
  clear hx hy
  by_cases hne : n = m
  · subst hne
    have hb : ((n : Int) != (n : Int)) = false := by simp
    go_enter Tryz.func9, Tryz.ntmps9
    go_wp2
    go_loopw [5, 6] (fun i _ wr => ∃ k : Nat, k ≤ n ∧ i = .int .i64 k ∧ Below w.heap.size w wr ∧ ∀ i : Nat, i < k → xs[i]? = ys[i]?) (fun i _ _ => n - (intOf i).toNat)
    case atStart => exact ⟨0, Nat.zero_le _, rfl, Below.refl _ _, fun i hi => by omega⟩
    case round =>
      obtain ⟨k, hk, rfl, hB, hE⟩ := hrel
      have HB := Lib.hid hB; clear hB
      have HE := Lib.hid hE; clear hE
      by_cases hlt : k < n
      · obtain ⟨x, X, cx, ad, hx, rfl, c0, hrx, hlx2⟩ := (HX.out.below HB.out).get hlt
        obtain ⟨y, Y, cy, bd, hy, rfl, d0, hry, hly2⟩ := (HY.out.below HB.out).get hlt
        have HXk := Lib.hid hx; have HYk := Lib.hid hy; have HRx := Lib.hid hrx; have HRy := Lib.hid hry
        clear hx hy hrx hry
        have hkl : (k : Int) < (n : Int) := by omega
        by_cases hxy : x.length = y.length
        · have hb2 : ((x.length : Int) != (y.length : Int)) = false := by rw [hxy]; simp
          go_wp2_with fail
          go_region
          go_wp2_with fail
          obtain ⟨wo, rfl⟩ : ∃ wo, wo = wr := ⟨_, rfl⟩
          have HC0 := Lib.hid c0; have HD0 := Lib.hid d0
          clear c0 d0
          go_loopw [6] (fun i wr => ∃ j : Nat, j ≤ x.length ∧ i = .int .i64 j ∧ Below wo.heap.size wo wr ∧ ∀ i : Nat, i < j → x[i]? = y[i]?) (fun i _ => x.length - (intOf i).toNat)
          case atStart => exact ⟨0, Nat.zero_le _, rfl, (Below.refl _ _).drew, fun i hi => by omega⟩
          case round =>
            obtain ⟨j, hj, rfl, hB2, hE2⟩ := hrel
            have HB2 := Lib.hid hB2; have HE2 := Lib.hid hE2
            clear hB2 hE2
            have c0 := cell_below HB2.out HC0.out
            have d0 := cell_below HB2.out HD0.out
            by_cases hjx : j < x.length
            · obtain ⟨u, ax, hu, rfl, e0⟩ := rdI_get (HRx.out.below HB2.out) hjx
              obtain ⟨v, ay, hv, rfl, f0⟩ := rdI_get (HRy.out.below HB2.out) (by omega : j < y.length)
              have HU := Lib.hid hu; have HV := Lib.hid hv
              clear hu hv
              have hjl : (j : Int) < (x.length : Int) := by omega
              have hjl2 : (j : Int) < (y.length : Int) := by omega
              by_cases huv : u = v
              · subst huv
                have hb3 : (u != u) = false := by simp
                go_wp2_with fail
                go_region
                go_wp2_with fail
                go_roundw
                case rel => exact ⟨j + 1, by omega, by go_num, HB2.out.drew, fun i hi => by
                  by_cases hik : i < j
                  · exact HE2.out i hik
                  · obtain rfl : i = j := by omega
                    exact HU.out.trans HV.out.symm⟩
                case measure => simp [intOf]; omega
              · have hb3 : (u != v) = true := by simpa using huv
                go_wp2_with fail
                go_region
                go_wp2_with fail
                go_ret
                refine ⟨?_, (HB.out.trans (HB2.out.mono HB.out.size)).drew⟩
                have h0 : xs ≠ ys := fun e => by
                  subst e
                  have h1 := HXk.out.symm.trans HYk.out
                  injection h1 with h1
                  subst h1
                  have h2 := HU.out.symm.trans HV.out
                  injection h2 with h2
                  exact huv h2
                simp [h0]
            · obtain rfl : j = x.length := by omega
              go_wp2_with fail
              go_roundw
              case rel => exact ⟨k + 1, by omega, by go_num, HB.out.trans (HB2.out.mono HB.out.size), fun i hi => by
                by_cases hik : i < k
                · exact HE.out i hik
                · obtain rfl : i = k := by omega
                  have h1 : x = y := eq_of_get (by omega) (fun i hi => HE2.out i (by omega))
                  rw [HXk.out, HYk.out, h1]⟩
              case measure => simp [intOf]; omega
        · have hb2 : ((x.length : Int) != (y.length : Int)) = true := by simp; omega
          go_wp2_with fail
          go_region
          go_wp2_with fail
          go_ret
          refine ⟨?_, HB.out.drew⟩
          have h0 : xs ≠ ys := fun e => by
            subst e
            have := HXk.out.symm.trans HYk.out
            injection this with this
            exact hxy (by rw [this])
          simp [h0]
      · obtain rfl : k = n := by omega
        go_wp2_with fail
        go_ret
        refine ⟨?_, HB.out⟩
        have h0 : xs = ys := List.ext_getElem? fun i => by
          by_cases hi : i < k
          · exact HE.out i hi
          · rw [List.getElem?_eq_none (by omega), List.getElem?_eq_none (by omega)]
        simp [h0]
  · have hb : ((n : Int) != (m : Int)) = true := by simp; omega
    go_enter Tryz.func9, Tryz.ntmps9
    go_wp2
    go_ret
    refine ⟨?_, Below.refl _ _⟩
    have h0 : xs ≠ ys := fun e => hne (by rw [← hlx, ← hly, e])
    simp [h0]
end Go.Proofs.YtadldndpphdmpaaGreat
