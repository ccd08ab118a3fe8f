/- The sizes of sets, lists compared, with draws. -/
import Derived.Test.YtadldndpphdmpaaGreatG2
import Derived.Test.YtadldndpphdmpaaGreatShelf
import Derived.Test.YtadldndpphdmpaaGreatQB
namespace Go.Proofs.YtadldndpphdmpaaGreat
open Go.RowKit

/-- The count of the ones, as the library reckons it. -/
def ocA (x : Int) : Int := IntKind.u64.wrap (bits .and .u64 (x / 2) 6148914691236517205 + bits .and .u64 x 6148914691236517205)
def ocB (x : Int) : Int := IntKind.u64.wrap (bits .and .u64 (x / 4) 3689348814741910323 + bits .and .u64 x 3689348814741910323)
def ocC (x : Int) : Int := bits .and .u64 (IntKind.u64.wrap (x / 16 + x)) 1085102592571150095
def ocD (k : Int) (x : Int) : Int := IntKind.u64.wrap (x + x / k)
def ocE (x : Int) : Int := bits .and .i64 (wrap64 x) 127
def oc (s : Nat) : Int := ocE (ocD 4294967296 (ocD 65536 (ocD 256 (ocC (ocB (ocA s))))))
set_option maxRecDepth 100000 in
set_option maxHeartbeats 2000000 in
theorem ones_any (s : Nat) (w : World) :
    Calls Tryz.prog 62 #[.int .u64 s] w fun e w' => e = .returned (.int .i64 (oc s)) ∧ w = w' := by
  go_enter Tryz.func62, Tryz.ntmps62
  go_wp2
  go_ret
  refine ⟨?_, rfl⟩
  exact ret_int rfl
set_option maxHeartbeats 400000 in
theorem size_any (s : Nat) (w : World) :
    Calls Tryz.prog 48 #[.int .u64 s] w fun e w' => e = .returned (.int .i64 (oc s)) ∧ w = w' := by
  have H := Lib.hid (ones_any s w)
  generalize oc s = o at *
  go_enter Tryz.func48, Tryz.ntmps48
  go_wp2_with (go_at_call 62; refine H.out.mono ?_; rintro e w' ⟨rfl, rfl⟩)
  go_ret
  exact ⟨rfl, rfl⟩

/-- Which list is before the other: -1, 0, 1. -/
def cmpL : List Int → List Int → Int
  | [], [] => 0
  | [], _ :: _ => -1
  | _ :: _, [] => 1
  | x :: l, y :: m => if Lib.compareInt x y = 0 then cmpL l m else Lib.compareInt x y
set_option maxRecDepth 100000 in
set_option maxHeartbeats 2000000 in
theorem compare_any (xs ys : List Int) (A : Option Addr) (n c : Nat) (B : Option Addr) (m d : Nat) (w : World) (hx : RdI w A n xs) (hy : RdI w B m ys) (hn : n ≤ 1000) :
    Calls Tryz.prog 49 #[.slice A n c, .slice B m d] w fun e w' => e = .returned (.int .i64 (cmpL xs ys)) ∧ Below w.heap.size w w' := by
  generalize hX : cmpL xs ys = X
  have HX0 : Hid (cmpL (xs.drop 0) (ys.drop 0) = X) := hX
  have hlx := hx.1
  have hly := hy.1
  have HX := Lib.hid hx; have HY := Lib.hid hy
  have HLx := Lib.hid hlx; have HLy := Lib.hid hly
  clear hx hy hX hlx hly
  go_enter Tryz.func49, Tryz.ntmps49
  go_wp2
  go_loopw [11] (fun i wr => ∃ k : Nat, k ≤ n ∧ k ≤ m ∧ i = .int .i64 k ∧ Below w.heap.size w wr ∧ cmpL (xs.drop k) (ys.drop k) = X) (fun i _ => n - (intOf i).toNat)
  case atStart => exact ⟨0, Nat.zero_le _, Nat.zero_le _, rfl, Below.refl _ _, HX0.out⟩
  case round =>
    obtain ⟨k, hk, hkm, rfl, hB, hE⟩ := hrel
    have HB := Lib.hid hB; have HE := Lib.hid hE
    clear hB hE
    by_cases hlt : k < n
    · obtain ⟨x, ad, hx, rfl, cx⟩ := rdI_get (HX.out.below HB.out) hlt
      have HDx : Hid (xs.drop k = x :: xs.drop (k + 1)) := by
        obtain ⟨hk', rfl⟩ := List.getElem?_eq_some_iff.1 hx
        exact List.drop_eq_getElem_cons hk'
      have hkn' : (k : Int) < (n : Int) := by omega
      clear hx
      by_cases hlm : k < m
      · obtain ⟨y, bd, hy, rfl, cy⟩ := rdI_get (HY.out.below HB.out) hlm
        have HDy : Hid (ys.drop k = y :: ys.drop (k + 1)) := by
          obtain ⟨hk', rfl⟩ := List.getElem?_eq_some_iff.1 hy
          exact List.drop_eq_getElem_cons hk'
        have HE2 : Hid ((if Lib.compareInt x y = 0 then cmpL (xs.drop (k + 1)) (ys.drop (k + 1)) else Lib.compareInt x y) = X) := by have := HE.out; rw [HDx.out, HDy.out, cmpL] at this; exact this
        have HC := Lib.hid (Tryz.cmp_Compare_int x y wr)
        have hlm' : (k : Int) < (m : Int) := by omega
        have hlm2 : ¬ (m : Int) ≤ (k : Int) := by omega
        clear hy
        generalize Lib.compareInt x y = r at *
        by_cases hr : r = 0
        · have hr' : (r != 0) = false := by simp [hr]
          have F : Hid (cmpL (xs.drop (k + 1)) (ys.drop (k + 1)) = X) := by have := HE2.out; rw [if_pos hr] at this; exact this
          clear hr
          go_wp2_with (go_at_call 47; refine HC.out.mono ?_; rintro e w' ⟨rfl, rfl⟩)
          go_roundw
          case rel => exact ⟨k + 1, by omega, by omega, by go_num, HB.out, F.out⟩
          case measure => simp [intOf]; omega
        · have hr' : (r != 0) = true := by simpa using hr
          have F : Hid (r = X) := by have := HE2.out; rw [if_neg hr] at this; exact this
          clear hr
          go_wp2_with (go_at_call 47; refine HC.out.mono ?_; rintro e w' ⟨rfl, rfl⟩)
          go_ret
          exact ⟨ret_int F.out, HB.out⟩
      · have F : Hid (1 = X) := by
          have := HE.out
          rw [HDx.out, List.drop_of_length_le (l := ys) (by have := HLy.out; omega), cmpL] at this
          exact this
        have hlm' : (m : Int) ≤ (k : Int) := by omega
        go_wp2_with fail
        go_ret
        exact ⟨ret_int F.out, HB.out⟩
    · obtain rfl : k = n := by omega
      by_cases hlm : k < m
      · have F : Hid (-1 = X) := by
          have := HE.out
          have hk' : k < ys.length := by have := HLy.out; omega
          rw [List.drop_of_length_le (l := xs) (by have := HLx.out; omega), List.drop_eq_getElem_cons hk', cmpL] at this
          exact this
        go_wp2_with fail
        go_ret
        exact ⟨ret_int F.out, HB.out⟩
      · have F : Hid (0 = X) := by
          have := HE.out
          rw [List.drop_of_length_le (l := xs) (by have := HLx.out; omega), List.drop_of_length_le (l := ys) (by have := HLy.out; omega), cmpL] at this
          exact this
        go_wp2_with fail
        go_ret
        exact ⟨ret_int F.out, HB.out⟩
end Go.Proofs.YtadldndpphdmpaaGreat
namespace Go.Proofs.YtadldndpphdmpaaGreat
open Go.RowKit


set_option maxRecDepth 100000 in
set_option maxHeartbeats 2000000 in
theorem listD_any (s : Nat) (w : World) (hs : s < 18446744073709551616) :
    Calls Tryz.prog 27 #[.int .u64 s] w fun e w' => NewInts w (bitsL s) e w' ∧ w.drawn ≤ w'.drawn := by
  obtain ⟨i0, hi, hz0, hz1, hz2⟩ := info_parts infoI
  have HZ := Lib.hid hs; clear hs
  go_enter Tryz.func27, Tryz.ntmps27
  go_wp2
  go_loopw [2, 4] (fun v i wr => ∃ (k : Nat) (ls : List Int), k ≤ 64 ∧ i = .int .i64 k ∧ wr.ownsRow w.heap.size 3 1 v ls.length (ls.map (Value.int .i64)) ∧ ls = (((List.range k).filter s.testBit).map Int.ofNat) ∧ ls.length ≤ k ∧ Below w.heap.size w wr ∧ w.drawn ≤ wr.drawn) (fun _ i _ => 64 - (intOf i).toNat)
  case atStart => exact ⟨0, [], by omega, rfl, World.ownsRow_nil _ _ _ _, rfl, Nat.zero_le _, Below.refl _ _, Nat.le_refl _⟩
  case round =>
    obtain ⟨k, ls, hk, rfl, hrow, hls, hlen, hB, hD⟩ := hrel
    have HB := Lib.hid hB; clear hB
    have HD := Lib.hid hD; clear hD
    have HL := Lib.hid hls; clear hls
    by_cases hlt : k < 64
    · have hC := Lib.hid (has_any s k wr HZ.out (by omega))
      have hsz := HB.out.size
      have HS := Lib.hid (bitsL_take s k)
      cases hb : s.testBit k with
      | true =>
        have H1 : Hid (ls ++ [(k : Int)] = (((List.range (k + 1)).filter s.testBit).map Int.ofNat)) := by rw [HS.out, HL.out, hb]; rfl
        rw [hb] at hC
        clear hb
        go_wp2_with (first | (go_at_call 26; refine hC.out.mono ?_; rintro e w' ⟨rfl, rfl⟩) | (at_builtin; refine wpList_append_ownD rfl _ _ 38 rfl w.heap.size 3 i0 (.int .i64 0) 1 8 Tryz.underlying38 hi hz0 hz1 hz2 rfl (by decide) _ _ _ rfl (hrow.alloc _) ⟨wr.heap.size, 0, none⟩ 1 1 [.int .i64 k] rfl rfl (cell_one_new _ _ _) (by simp [Value.oneCell']) (by unfold maxLen; omega) (by omega) (by simp; omega) ?_; intro v' w2 hown' hgrow hdr; have HDR := Lib.hid hdr; clear hdr))
        go_roundw
        case rel => exact ⟨k + 1, ls ++ [(k : Int)], by omega, by go_num, by rw [List.length_append, List.map_append]; exact hown', H1.out, by simp; omega, (HB.out.alloc HB.out.size _).grown hgrow (by simp; omega) (fun j e => (hrow.lt j e).1), Nat.le_trans HD.out (by have := HDR.out; simpa using this)⟩
        case measure => simp [intOf]; omega
      | false =>
        have H1 : Hid (ls = (((List.range (k + 1)).filter s.testBit).map Int.ofNat)) := by rw [HS.out, HL.out, hb]; simp [Hid]
        rw [hb] at hC
        clear hb
        go_wp2_with (go_at_call 26; refine hC.out.mono ?_; rintro e w' ⟨rfl, rfl⟩)
        go_roundw
        case rel => exact ⟨k + 1, ls, by omega, by go_num, hrow, H1.out, by omega, HB.out, HD.out⟩
        case measure => simp [intOf]; omega
    · go_wp2
      go_ret
      obtain rfl : k = 64 := by omega
      rw [HL.out] at hrow
      exact ⟨⟨_, rfl, hrow, HB.out⟩, HD.out⟩
set_option maxRecDepth 100000 in
set_option maxHeartbeats 2000000 in
theorem compareD_any (xs ys : List Int) (A : Option Addr) (n c : Nat) (B : Option Addr) (m d : Nat) (w : World) (hx : RdI w A n xs) (hy : RdI w B m ys) (hn : n ≤ 1000) :
    Calls Tryz.prog 49 #[.slice A n c, .slice B m d] w fun e w' => e = .returned (.int .i64 (cmpL xs ys)) ∧ Below w.heap.size w w' ∧ w.drawn ≤ w'.drawn := by
  generalize hX : cmpL xs ys = X
  have HX0 : Hid (cmpL (xs.drop 0) (ys.drop 0) = X) := hX
  have hlx := hx.1
  have hly := hy.1
  have HX := Lib.hid hx; have HY := Lib.hid hy
  have HLx := Lib.hid hlx; have HLy := Lib.hid hly
  clear hx hy hX hlx hly
  go_enter Tryz.func49, Tryz.ntmps49
  go_wp2
  go_loopw [11] (fun i wr => ∃ k : Nat, k ≤ n ∧ k ≤ m ∧ i = .int .i64 k ∧ Below w.heap.size w wr ∧ w.drawn ≤ wr.drawn ∧ cmpL (xs.drop k) (ys.drop k) = X) (fun i _ => n - (intOf i).toNat)
  case atStart => exact ⟨0, Nat.zero_le _, Nat.zero_le _, rfl, Below.refl _ _, Nat.le_refl _, HX0.out⟩
  case round =>
    obtain ⟨k, hk, hkm, rfl, hB, hD, hE⟩ := hrel
    have HB := Lib.hid hB; have HE := Lib.hid hE
    have HD := Lib.hid hD; clear hB hE hD
    by_cases hlt : k < n
    · obtain ⟨x, ad, hx, rfl, cx⟩ := rdI_get (HX.out.below HB.out) hlt
      have HDx : Hid (xs.drop k = x :: xs.drop (k + 1)) := by
        obtain ⟨hk', rfl⟩ := List.getElem?_eq_some_iff.1 hx
        exact List.drop_eq_getElem_cons hk'
      have hkn' : (k : Int) < (n : Int) := by omega
      clear hx
      by_cases hlm : k < m
      · obtain ⟨y, bd, hy, rfl, cy⟩ := rdI_get (HY.out.below HB.out) hlm
        have HDy : Hid (ys.drop k = y :: ys.drop (k + 1)) := by
          obtain ⟨hk', rfl⟩ := List.getElem?_eq_some_iff.1 hy
          exact List.drop_eq_getElem_cons hk'
        have HE2 : Hid ((if Lib.compareInt x y = 0 then cmpL (xs.drop (k + 1)) (ys.drop (k + 1)) else Lib.compareInt x y) = X) := by have := HE.out; rw [HDx.out, HDy.out, cmpL] at this; exact this
        have HC := Lib.hid (Tryz.cmp_Compare_int x y wr)
        have hlm' : (k : Int) < (m : Int) := by omega
        have hlm2 : ¬ (m : Int) ≤ (k : Int) := by omega
        clear hy
        generalize Lib.compareInt x y = r at *
        by_cases hr : r = 0
        · have hr' : (r != 0) = false := by simp [hr]
          have F : Hid (cmpL (xs.drop (k + 1)) (ys.drop (k + 1)) = X) := by have := HE2.out; rw [if_pos hr] at this; exact this
          clear hr
          go_wp2_with (go_at_call 47; refine HC.out.mono ?_; rintro e w' ⟨rfl, rfl⟩)
          go_roundw
          case rel => exact ⟨k + 1, by omega, by omega, by go_num, HB.out, HD.out, F.out⟩
          case measure => simp [intOf]; omega
        · have hr' : (r != 0) = true := by simpa using hr
          have F : Hid (r = X) := by have := HE2.out; rw [if_neg hr] at this; exact this
          clear hr
          go_wp2_with (go_at_call 47; refine HC.out.mono ?_; rintro e w' ⟨rfl, rfl⟩)
          go_ret
          exact ⟨ret_int F.out, HB.out, HD.out⟩
      · have F : Hid (1 = X) := by
          have := HE.out
          rw [HDx.out, List.drop_of_length_le (l := ys) (by have := HLy.out; omega), cmpL] at this
          exact this
        have hlm' : (m : Int) ≤ (k : Int) := by omega
        go_wp2_with fail
        go_ret
        exact ⟨ret_int F.out, HB.out, HD.out⟩
    · obtain rfl : k = n := by omega
      by_cases hlm : k < m
      · have F : Hid (-1 = X) := by
          have := HE.out
          have hk' : k < ys.length := by have := HLy.out; omega
          rw [List.drop_of_length_le (l := xs) (by have := HLx.out; omega), List.drop_eq_getElem_cons hk', cmpL] at this
          exact this
        go_wp2_with fail
        go_ret
        exact ⟨ret_int F.out, HB.out, HD.out⟩
      · have F : Hid (0 = X) := by
          have := HE.out
          rw [List.drop_of_length_le (l := xs) (by have := HLx.out; omega), List.drop_of_length_le (l := ys) (by have := HLy.out; omega), cmpL] at this
          exact this
        go_wp2_with fail
        go_ret
        exact ⟨ret_int F.out, HB.out, HD.out⟩
end Go.Proofs.YtadldndpphdmpaaGreat
namespace Go.Proofs.YtadldndpphdmpaaGreat
open Go.RowKit


/-- The first that is not zero. -/
def orL : List Int → Int
  | [] => 0
  | x :: l => if x = 0 then orL l else x
set_option maxRecDepth 100000 in
set_option maxHeartbeats 2000000 in
theorem or_any (xs : List Int) (A : Option Addr) (n c : Nat) (w : World) (hx : RdI w A n xs) (hn : n ≤ 1000) :
    Calls Tryz.prog 46 #[.slice A n c] w fun e w' => e = .returned (.int .i64 (orL xs)) ∧ Below w.heap.size w w' ∧ w.drawn ≤ w'.drawn := by
  generalize hX : orL xs = X
  have HX0 : Hid (orL (xs.drop 0) = X) := hX
  have hlx := hx.1
  have HX := Lib.hid hx
  have HLx := Lib.hid hlx
  clear hx hX hlx
  go_enter Tryz.func46, Tryz.ntmps46
  go_wp2
  go_loopw [8] (fun i wr => ∃ k : Nat, k ≤ n ∧ i = .int .i64 k ∧ Below w.heap.size w wr ∧ w.drawn ≤ wr.drawn ∧ orL (xs.drop k) = X) (fun i _ => n - (intOf i).toNat)
  case atStart => exact ⟨0, Nat.zero_le _, rfl, Below.refl _ _, Nat.le_refl _, HX0.out⟩
  case round =>
    obtain ⟨k, hk, rfl, hB, hD, hE⟩ := hrel
    have HE := Lib.hid hE; have HB := Lib.hid hB; have HD := Lib.hid hD
    clear hE hB hD
    by_cases hlt : k < n
    · obtain ⟨x, ad, hx, rfl, cx⟩ := rdI_get (HX.out.below HB.out) hlt
      have HDx : Hid (xs.drop k = x :: xs.drop (k + 1)) := by
        obtain ⟨hk', rfl⟩ := List.getElem?_eq_some_iff.1 hx
        exact List.drop_eq_getElem_cons hk'
      have hkn' : (k : Int) < (n : Int) := by omega
      clear hx
      have HE2 : Hid ((if x = 0 then orL (xs.drop (k + 1)) else x) = X) := by have := HE.out; rw [HDx.out, orL] at this; exact this
      by_cases hr : x = 0
      · have hr' : (x != 0) = false := by simp [hr]
        have F : Hid (orL (xs.drop (k + 1)) = X) := by have := HE2.out; rw [if_pos hr] at this; exact this
        clear hr
        go_wp2
        go_roundw
        case rel => exact ⟨k + 1, by omega, by go_num, HB.out, HD.out, F.out⟩
        case measure => simp [intOf]; omega
      · have hr' : (x != 0) = true := by simpa using hr
        have F : Hid (x = X) := by have := HE2.out; rw [if_neg hr] at this; exact this
        clear hr
        go_wp2
        go_ret
        exact ⟨ret_int F.out, HB.out, HD.out⟩
    · obtain rfl : k = n := by omega
      have F : Hid (0 = X) := by
        have := HE.out
        rw [List.drop_of_length_le (l := xs) (by have := HLx.out; omega), orL] at this
        exact this
      go_wp2
      go_ret
      exact ⟨ret_int F.out, HB.out, HD.out⟩
end Go.Proofs.YtadldndpphdmpaaGreat
