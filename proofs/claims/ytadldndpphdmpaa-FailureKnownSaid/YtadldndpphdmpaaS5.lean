/- SameRuns: the same spans in two places. -/
import Derived.Test.YtadldndpphdmpaaG13
namespace Go.Proofs.Ytadldndpphdmpaa
open Go.RowKit Go.Shelf

set_option maxRecDepth 100000 in
set_option maxHeartbeats 4000000 in
theorem sameRuns_any (xs : List (List Sp)) (A : Option Addr) (n c : Nat) (ps : List SpP) (B : Option Addr) (d : Nat) (qs : List SpP) (w : World) (hx : SpsM w A n xs ps) (hy : SpsM w B n xs qs) (hn : n ≤ 1000000) (hl : ∀ x ∈ xs, x.length ≤ 1000000) :
    Calls Try.prog 38 #[.slice A n c, .slice B n d] w fun e w' => e = .returned (.bool true) ∧ Below w.heap.size w w' := by
  have HX := Lib.hid hx; have HY := Lib.hid hy; have HLn := Lib.hid hl
  clear hx hy hl
  have hb : ((n : Int) != (n : Int)) = false := by simp
  go_enter Try.func38, Try.ntmps38
  go_wp2
  clear hb
  go_loopw [5, 6] (fun i _ wr => ∃ k : Nat, k ≤ n ∧ i = .int .i64 k ∧ Below w.heap.size w wr) (fun i _ _ => n - (intOf i).toNat)
  case atStart => exact ⟨0, Nat.zero_le _, rfl, Below.refl _ _⟩
  case round =>
    obtain ⟨k, hk, rfl, hB⟩ := hrel
    have HB := Lib.hid hB; clear hB
    by_cases hlt : k < n
    · obtain ⟨x, X, cx, ad, hx, rfl, c0, hrx⟩ := (HX.out.below HB.out).get hlt
      obtain ⟨y, Y, cy, bd, hy, rfl, d0, hry⟩ := (HY.out.below HB.out).get hlt
      obtain rfl : x = y := by rw [hx] at hy; exact Option.some.inj hy
      have hxl := HLn.out x (List.mem_of_getElem? hx)
      have HRx := Lib.hid hrx; have HRy := Lib.hid hry
      have hb : ((x.length : Int) != (x.length : Int)) = false := by simp
      have hkn : (k : Int) < (n : Int) := by omega
      clear hx hy hrx hry
      go_wp2_with fail
      go_region
      go_wp2_with fail
      obtain ⟨wo, rfl⟩ : ∃ wo, wo = wr := ⟨_, rfl⟩
      have HC0 := Lib.hid c0; have HD0 := Lib.hid d0
      clear c0 d0
      go_loopw [6] (fun i wr => ∃ j : Nat, j ≤ x.length ∧ i = .int .i64 j ∧ Below wo.heap.size wo wr) (fun i _ => x.length - (intOf i).toNat)
      case atStart => exact ⟨0, Nat.zero_le _, rfl, (Below.refl _ _).drew⟩
      case round =>
        obtain ⟨j, hj, rfl, hB2⟩ := hrel
        have HB2 := Lib.hid hB2
        clear hB2
        have c0 := cell_below HB2.out HC0.out
        have d0 := cell_below HB2.out HD0.out
        by_cases hjx : j < x.length
        · obtain ⟨u, ax, hu, rfl, e0⟩ := (HRx.out.below HB2.out).get hjx
          obtain ⟨v, ay, hv, rfl, f0⟩ := (HRy.out.below HB2.out).get hjx
          obtain rfl : u = v := by rw [hu] at hv; exact Option.some.inj hv
          obtain ⟨g0, g1, g2⟩ := e0.three
          obtain ⟨i0, i1, i2⟩ := f0.three
          have hjl : (j : Int) < (x.length : Int) := by omega
          obtain ⟨un, ua, ub⟩ := u
          dsimp only at *
          clear hu hv e0 f0
          go_wp2_with fail
          go_region
          go_wp2_with fail
          go_roundw
          case rel => exact ⟨j + 1, by omega, by go_num, HB2.out.drew⟩
          case measure => simp [intOf]; omega
        · obtain rfl : j = x.length := by omega
          go_wp2_with fail
          go_roundw
          case rel => exact ⟨k + 1, by omega, by go_num, HB.out.trans (HB2.out.mono HB.out.size)⟩
          case measure => simp [intOf]; omega
    · obtain rfl : n = k := by omega
      go_wp2_with fail
      go_ret
      exact ⟨rfl, HB.out⟩
end Go.Proofs.Ytadldndpphdmpaa
