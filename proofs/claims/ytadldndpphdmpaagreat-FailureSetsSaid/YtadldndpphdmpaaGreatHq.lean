/- Plain: how many bits a number has, as bits.OnesCount64 counts them. -/
import Derived.Test.YtadldndpphdmpaaGreatQD
namespace Go.Proofs.YtadldndpphdmpaaGreat
open Go.RowKit Go.Shelf

theorem and_cons (b m y M : Nat) (hb : b < 256) (hm : m < 256) : (b + 256 * y) &&& (m + 256 * M) = (b &&& m) + 256 * (y &&& M) := by
  have h1 : ((b + 256 * y) &&& (m + 256 * M)) % 2 ^ 8 = b &&& m := by
    rw [Nat.and_mod_two_pow, show (b + 256 * y) % 2 ^ 8 = b by omega, show (m + 256 * M) % 2 ^ 8 = m by omega]
  have h2 : ((b + 256 * y) &&& (m + 256 * M)) / 2 ^ 8 = y &&& M := by
    rw [← Nat.shiftRight_eq_div_pow, Nat.shiftRight_and_distrib, Nat.shiftRight_eq_div_pow, Nat.shiftRight_eq_div_pow, show (b + 256 * y) / 2 ^ 8 = y by omega, show (m + 256 * M) / 2 ^ 8 = M by omega]
  omega
def byt : List Nat → Nat
  | [] => 0
  | b :: l => b + 256 * byt l
def rep (m : Nat) (l : List Nat) : Nat := byt (l.map fun _ => m)
def nA (x m : Nat) : Nat := (x / 2 &&& m) + (x &&& m)
def nB (x m : Nat) : Nat := (x / 4 &&& m) + (x &&& m)
def nC (x m : Nat) : Nat := (x / 16 + x) &&& m
def a8 (b : Nat) : Nat := nA b 85
def b8 (b : Nat) : Nat := nB b 51
def c8 (b : Nat) : Nat := nC b 15
theorem a8_bits : ∀ b : Fin 256, ∀ r : Fin 2, (b.1 / 2 + 128 * r.1) &&& 85 = b.1 / 2 &&& 85 := by decide +kernel
theorem b8_bits : ∀ b : Fin 256, ∀ r : Fin 4, (b.1 / 4 + 64 * r.1) &&& 51 = b.1 / 4 &&& 51 := by decide +kernel
theorem a8_lt : ∀ b : Fin 256, a8 b.1 < 256 := by decide +kernel
theorem b8_lt : ∀ b : Fin 256, b8 (a8 b.1) ≤ 68 ∧ b8 (a8 b.1) % 16 ≤ 4 := by decide +kernel
theorem c8_bits : ∀ b : Fin 69, ∀ r : Fin 5, (b.1 / 16 + b.1 + 16 * r.1) &&& 15 = c8 b.1 := by decide +kernel
theorem c8_le : ∀ b : Fin 256, c8 (b8 (a8 b.1)) = ((List.range 8).filter b.1.testBit).length := by decide +kernel
theorem nA_byt : ∀ l : List Nat, (∀ b ∈ l, b < 256) → nA (byt l) (rep 85 l) = byt (l.map a8)
  | [], _ => rfl
  | b :: l, h => by
    have hb := h b (List.mem_cons_self ..)
    have ih := nA_byt l fun x hx => h x (List.mem_cons_of_mem _ hx)
    have h1 := a8_bits ⟨b, hb⟩ ⟨byt l % 2, Nat.mod_lt _ (by decide)⟩
    dsimp only at h1
    show ((b + 256 * byt l) / 2 &&& (85 + 256 * rep 85 l)) + ((b + 256 * byt l) &&& (85 + 256 * rep 85 l)) = a8 b + 256 * byt (l.map a8)
    rw [show (b + 256 * byt l) / 2 = (b / 2 + 128 * (byt l % 2)) + 256 * (byt l / 2) by omega, and_cons _ _ _ _ (by omega) (by decide), and_cons _ _ _ _ hb (by decide), h1, ← ih]
    unfold a8 nA
    omega
theorem nB_byt : ∀ l : List Nat, (∀ b ∈ l, b < 256) → nB (byt l) (rep 51 l) = byt (l.map b8)
  | [], _ => rfl
  | b :: l, h => by
    have hb := h b (List.mem_cons_self ..)
    have ih := nB_byt l fun x hx => h x (List.mem_cons_of_mem _ hx)
    have h1 := b8_bits ⟨b, hb⟩ ⟨byt l % 4, Nat.mod_lt _ (by decide)⟩
    dsimp only at h1
    show ((b + 256 * byt l) / 4 &&& (51 + 256 * rep 51 l)) + ((b + 256 * byt l) &&& (51 + 256 * rep 51 l)) = b8 b + 256 * byt (l.map b8)
    rw [show (b + 256 * byt l) / 4 = (b / 4 + 64 * (byt l % 4)) + 256 * (byt l / 4) by omega, and_cons _ _ _ _ (by omega) (by decide), and_cons _ _ _ _ hb (by decide), h1, ← ih]
    unfold b8 nB
    omega
theorem nC_byt : ∀ l : List Nat, (∀ b ∈ l, b ≤ 68 ∧ b % 16 ≤ 4) → nC (byt l) (rep 15 l) = byt (l.map c8)
  | [], _ => rfl
  | b :: l, h => by
    have hb := h b (List.mem_cons_self ..)
    have ih := nC_byt l fun x hx => h x (List.mem_cons_of_mem _ hx)
    have hr : byt l % 16 ≤ 4 := by
      cases l with
      | nil => decide
      | cons b' l =>
        have := h b' (by simp)
        show (b' + 256 * byt l) % 16 ≤ 4
        omega
    have h1 := c8_bits ⟨b, by omega⟩ ⟨byt l % 16, by omega⟩
    dsimp only at h1
    show ((b + 256 * byt l) / 16 + (b + 256 * byt l)) &&& (15 + 256 * rep 15 l) = c8 b + 256 * byt (l.map c8)
    rw [show (b + 256 * byt l) / 16 + (b + 256 * byt l) = (b / 16 + b + 16 * (byt l % 16)) + 256 * (byt l / 16 + byt l) by omega, and_cons _ _ _ _ (by omega) (by decide), h1, ← ih]
    rfl
def cntB (k s : Nat) : Nat := ((List.range k).filter s.testBit).length
theorem cntB_cons (k b y : Nat) (hb : b < 256) : cntB (8 + k) (b + 256 * y) = cntB 8 b + cntB k y := by
  unfold cntB
  rw [List.range_add, List.filter_append, List.length_append]
  congr 1
  · congr 1
    refine List.filter_congr fun j hj => ?_
    have hj := List.mem_range.1 hj
    have h : (b + 256 * y) % 2 ^ 8 = b := by omega
    have h2 := Nat.testBit_mod_two_pow (b + 256 * y) 8 j
    rw [h] at h2
    rw [h2]
    simp [hj]
  · rw [List.filter_map, List.length_map]
    congr 1
    refine List.filter_congr fun j _ => ?_
    show (b + 256 * y).testBit (8 + j) = y.testBit j
    rw [← Nat.testBit_shiftRight, Nat.shiftRight_eq_div_pow, show (b + 256 * y) / 2 ^ 8 = y by omega]
theorem cntB_byt : ∀ l : List Nat, (∀ b ∈ l, b < 256) → cntB (8 * l.length) (byt l) = (l.map fun b => c8 (b8 (a8 b))).sum
  | [], _ => rfl
  | b :: l, h => by
    have hb := h b (List.mem_cons_self ..)
    have ih := cntB_byt l fun x hx => h x (List.mem_cons_of_mem _ hx)
    rw [List.length_cons, show 8 * (l.length + 1) = 8 + 8 * l.length by omega]
    show cntB _ (b + 256 * byt l) = _
    rw [cntB_cons _ _ _ hb, ih, List.map_cons, List.sum_cons, c8_le ⟨b, hb⟩]
    rfl
theorem byt8 {x : Nat} (h : x < 18446744073709551616) : ∃ b0 b1 b2 b3 b4 b5 b6 b7 : Nat, x = byt [b0, b1, b2, b3, b4, b5, b6, b7] ∧ ∀ b ∈ [b0, b1, b2, b3, b4, b5, b6, b7], b < 256 := by
  refine ⟨x % 256, x / 256 % 256, x / 65536 % 256, x / 16777216 % 256, x / 4294967296 % 256, x / 1099511627776 % 256, x / 281474976710656 % 256, x / 72057594037927936, ?_, ?_⟩
  · simp only [byt]
    omega
  · intro b hb
    simp only [List.mem_cons, List.not_mem_nil, or_false] at hb
    omega
theorem div1 {p0 Y : Nat} (h : p0 < 256) : (p0 + 256 * Y) / 256 = Y := by omega
theorem div2 {p0 p1 Y : Nat} (h : p0 < 256) (h1 : p1 < 256) : (p0 + 256 * (p1 + 256 * Y)) / 65536 = Y := by omega
theorem div4 {p0 p1 p2 p3 Y : Nat} (h : p0 < 256) (h1 : p1 < 256) (h2 : p2 < 256) (h3 : p3 < 256) : (p0 + 256 * (p1 + 256 * (p2 + 256 * (p3 + 256 * Y)))) / 4294967296 = Y := by omega
theorem byt_top {p0 p1 p2 p3 p4 p5 p6 p7 : Nat} (h0 : p0 ≤ 64) (h1 : p1 ≤ 64) (h2 : p2 ≤ 64) (h3 : p3 ≤ 64) (h4 : p4 ≤ 64) (h5 : p5 ≤ 64) (h6 : p6 ≤ 64) (h7 : p7 ≤ 64) : byt [p0, p1, p2, p3, p4, p5, p6, p7] < 9223372036854775808 := by
  simp only [byt]
  omega
theorem sum8 {p0 p1 p2 p3 p4 p5 p6 p7 : Nat} (h0 : p0 ≤ 8) (h1 : p1 ≤ 8) (h2 : p2 ≤ 8) (h3 : p3 ≤ 8) (h4 : p4 ≤ 8) (h5 : p5 ≤ 8) (h6 : p6 ≤ 8) (h7 : p7 ≤ 8) {y z u v : Nat} (hy : y = byt [p0, p1, p2, p3, p4, p5, p6, p7]) (hz : z = y + y / 256) (hu : u = z + z / 65536) (hv : v = u + u / 4294967296) :
    v % 128 = p0 + p1 + p2 + p3 + p4 + p5 + p6 + p7 ∧ y < 9223372036854775808 ∧ z < 9223372036854775808 ∧ u < 9223372036854775808 ∧ v < 9223372036854775808 := by
  have y1 : y / 256 = byt [p1, p2, p3, p4, p5, p6, p7] := by rw [hy]; exact div1 (by omega)
  have z0 : z = byt [p0 + p1, p1 + p2, p2 + p3, p3 + p4, p4 + p5, p5 + p6, p6 + p7, p7] := by rw [hz, y1, hy]; simp only [byt]; omega
  have z1 : z / 65536 = byt [p2 + p3, p3 + p4, p4 + p5, p5 + p6, p6 + p7, p7] := by rw [z0]; exact div2 (by omega) (by omega)
  have u0 : u = byt [p0 + p1 + p2 + p3, p1 + p2 + p3 + p4, p2 + p3 + p4 + p5, p3 + p4 + p5 + p6, p4 + p5 + p6 + p7, p5 + p6 + p7, p6 + p7, p7] := by rw [hu, z1, z0]; simp only [byt]; omega
  have u1 : u / 4294967296 = byt [p4 + p5 + p6 + p7, p5 + p6 + p7, p6 + p7, p7] := by rw [u0]; exact div4 (by omega) (by omega) (by omega) (by omega)
  have v0 : v = byt [p0 + p1 + p2 + p3 + p4 + p5 + p6 + p7, p1 + p2 + p3 + p4 + p5 + p6 + p7, p2 + p3 + p4 + p5 + p6 + p7, p3 + p4 + p5 + p6 + p7, p4 + p5 + p6 + p7, p5 + p6 + p7, p6 + p7, p7] := by rw [hv, u1, u0]; simp only [byt]; omega
  refine ⟨?_, ?_, ?_, ?_, ?_⟩
  · rw [v0]
    show (p0 + p1 + p2 + p3 + p4 + p5 + p6 + p7 + 256 * byt _) % 128 = _
    omega
  · rw [hy]; exact byt_top (by omega) (by omega) (by omega) (by omega) (by omega) (by omega) (by omega) (by omega)
  · rw [z0]; exact byt_top (by omega) (by omega) (by omega) (by omega) (by omega) (by omega) (by omega) (by omega)
  · rw [u0]; exact byt_top (by omega) (by omega) (by omega) (by omega) (by omega) (by omega) (by omega) (by omega)
  · rw [v0]; exact byt_top (by omega) (by omega) (by omega) (by omega) (by omega) (by omega) (by omega) (by omega)
theorem nA_lt (x m : Nat) : nA x m ≤ m + m := Nat.add_le_add Nat.and_le_right Nat.and_le_right
theorem nB_lt (x m : Nat) : nB x m ≤ m + m := Nat.add_le_add Nat.and_le_right Nat.and_le_right
theorem u64_nat {n : Nat} (h : n < 18446744073709551616) : IntKind.u64.wrap (n : Int) = (n : Int) := IntWalk.u64_in _ ⟨by omega, by omega⟩
theorem ocA_nat {x : Nat} (h : x < 18446744073709551616) : ocA (x : Int) = (nA x 6148914691236517205 : Nat) := by
  have h2 := nA_lt x 6148914691236517205
  unfold ocA
  rw [show (x : Int) / 2 = ((x / 2 : Nat) : Int) by omega, show (6148914691236517205 : Int) = ((6148914691236517205 : Nat) : Int) from rfl, bits_and64 (by omega) (by decide), bits_and64 h (by decide), ← Int.natCast_add]
  exact u64_nat (by unfold nA at h2; omega)
theorem ocB_nat {x : Nat} (h : x < 18446744073709551616) : ocB (x : Int) = (nB x 3689348814741910323 : Nat) := by
  have h2 := nB_lt x 3689348814741910323
  unfold ocB
  rw [show (x : Int) / 4 = ((x / 4 : Nat) : Int) by omega, show (3689348814741910323 : Int) = ((3689348814741910323 : Nat) : Int) from rfl, bits_and64 (by omega) (by decide), bits_and64 h (by decide), ← Int.natCast_add]
  exact u64_nat (by unfold nB at h2; omega)
theorem ocC_nat {x : Nat} (h : x < 8000000000000000000) : ocC (x : Int) = (nC x 1085102592571150095 : Nat) := by
  unfold ocC
  rw [show (x : Int) / 16 + (x : Int) = ((x / 16 + x : Nat) : Int) by omega, u64_nat (by omega), show (1085102592571150095 : Int) = ((1085102592571150095 : Nat) : Int) from rfl, bits_and64 (by omega) (by decide)]
  rfl
theorem ocE_nat {v : Nat} (h : v < 9223372036854775808) : ocE (v : Int) = ((v % 128 : Nat) : Int) := by
  unfold ocE
  rw [show wrap64 (v : Int) = (v : Int) by unfold wrap64; omega]
  have h2 : v &&& 127 = v % 128 := Nat.and_two_pow_sub_one_eq_mod v 7
  change IntKind.wrap .i64 ((BitVec.ofInt 64 (v : Int) &&& BitVec.ofInt 64 ((127 : Nat) : Int)).toNat : Int) = _
  rw [ofInt64, ofInt64, BitVec.toNat_and, BitVec.toNat_ofNat, BitVec.toNat_ofNat, Nat.mod_eq_of_lt (by omega), Nat.mod_eq_of_lt (by decide), h2, IntWalk.i64_in _ ⟨by omega, by omega⟩]
set_option maxRecDepth 100000 in
set_option maxHeartbeats 2000000 in
theorem oc_cnt {s : Nat} (h : s < 18446744073709551616) : oc s = (cntB 64 s : Int) := by
  obtain ⟨b0, b1, b2, b3, b4, b5, b6, b7, rfl, hb⟩ := byt8 h
  have ha : ∀ b, b < 256 → a8 b < 256 := fun b hb => a8_lt ⟨b, hb⟩
  have hbb : ∀ b, b < 256 → b8 (a8 b) ≤ 68 ∧ b8 (a8 b) % 16 ≤ 4 := fun b hb => b8_lt ⟨b, hb⟩
  have hcc : ∀ b, b < 256 → c8 (b8 (a8 b)) ≤ 8 := fun b hb => by
    rw [c8_le ⟨b, hb⟩]
    exact Nat.le_trans (List.length_filter_le _ _) (by simp)
  have hcnt := cntB_byt [b0, b1, b2, b3, b4, b5, b6, b7] hb
  simp only [List.length_cons, List.length_nil, Nat.zero_add, Nat.reduceAdd, Nat.reduceMul] at hcnt
  have eA := nA_byt _ hb
  have eB := nB_byt ([b0, b1, b2, b3, b4, b5, b6, b7].map a8) (fun x hx => by obtain ⟨b, hb', rfl⟩ := List.mem_map.1 hx; exact ha b (hb b hb'))
  have eC := nC_byt (([b0, b1, b2, b3, b4, b5, b6, b7].map a8).map b8) (fun x hx => by
    obtain ⟨y, hy, rfl⟩ := List.mem_map.1 hx
    obtain ⟨b, hb', rfl⟩ := List.mem_map.1 hy
    exact hbb b (hb b hb'))
  have m1 : rep 85 [b0, b1, b2, b3, b4, b5, b6, b7] = 6148914691236517205 := by simp only [rep, List.map_cons, List.map_nil, byt]
  have m2 : rep 51 ([b0, b1, b2, b3, b4, b5, b6, b7].map a8) = 3689348814741910323 := by simp only [rep, List.map_cons, List.map_nil, byt]
  have m3 : rep 15 (([b0, b1, b2, b3, b4, b5, b6, b7].map a8).map b8) = 1085102592571150095 := by simp only [rep, List.map_cons, List.map_nil, byt]
  rw [m1] at eA
  rw [m2] at eB
  rw [m3] at eC
  simp only [List.map_cons, List.map_nil] at eA eB eC hcnt
  have k0 := hcc b0 (hb b0 (by simp)); have k1 := hcc b1 (hb b1 (by simp)); have k2 := hcc b2 (hb b2 (by simp)); have k3 := hcc b3 (hb b3 (by simp))
  have k4 := hcc b4 (hb b4 (by simp)); have k5 := hcc b5 (hb b5 (by simp)); have k6 := hcc b6 (hb b6 (by simp)); have k7 := hcc b7 (hb b7 (by simp))
  obtain ⟨q1, q2, q3, q4, q5⟩ := sum8 k0 k1 k2 k3 k4 k5 k6 k7 rfl rfl rfl rfl
  have lA := nA_lt (byt [b0, b1, b2, b3, b4, b5, b6, b7]) 6148914691236517205
  have lB := nB_lt (nA (byt [b0, b1, b2, b3, b4, b5, b6, b7]) 6148914691236517205) 3689348814741910323
  unfold oc
  rw [ocA_nat h, ocB_nat (by omega), ocC_nat (by omega), eA, eB, eC]
  have hD : ∀ (k y : Nat), 256 ≤ k → y + y / k < 9223372036854775808 → ocD (k : Int) (y : Int) = ((y + y / k : Nat) : Int) := fun k y hk hy => by
    unfold ocD
    rw [← Int.natCast_ediv, ← Int.natCast_add]
    exact u64_nat (by omega)
  rw [show (256 : Int) = ((256 : Nat) : Int) from rfl, hD 256 _ (by omega) q3, show (65536 : Int) = ((65536 : Nat) : Int) from rfl, hD 65536 _ (by omega) q4, show (4294967296 : Int) = ((4294967296 : Nat) : Int) from rfl, hD 4294967296 _ (by omega) q5, ocE_nat q5, q1]
  simp only [List.sum_cons, List.sum_nil] at hcnt
  rw [hcnt]
  refine congrArg (fun x : Nat => (x : Int)) ?_
  omega
end Go.Proofs.YtadldndpphdmpaaGreat
