/- Sets as bits, small walks; a tree of failures in memory. -/
import Derived.WalkKit
import Derived.IntWalk
import Derived.Test.YtadldndpphdmpaaGreatQA
import Derived.Test.YtadldndpphdmpaaGreatProg
import Derived.Test.YtadldndpphdmpaaGreatQB
namespace Go.Proofs.YtadldndpphdmpaaGreat
open Go.RowKit

/-- A set without the nodes of another. -/
def diffN (a b : Nat) : Nat := a ^^^ (a &&& b)
theorem diffN_bit (a b i : Nat) : (diffN a b).testBit i = (a.testBit i && !b.testBit i) := by
  unfold diffN
  rw [Nat.testBit_xor, Nat.testBit_and]
  cases a.testBit i <;> cases b.testBit i <;> rfl
theorem wrap64u (n : Nat) (h : n < 18446744073709551616) : IntKind.wrap .u64 (n : Int) = n := IntWalk.u64_in _ ⟨by omega, by omega⟩
theorem ofInt64 (a : Nat) : BitVec.ofInt 64 (a : Int) = BitVec.ofNat 64 a := by
  apply BitVec.eq_of_toNat_eq
  rw [BitVec.toNat_ofInt, BitVec.toNat_ofNat]
  omega
theorem bits_and64 {a b : Nat} (ha : a < 18446744073709551616) (hb : b < 18446744073709551616) : bits .and .u64 (a : Int) (b : Int) = ((a &&& b : Nat) : Int) := by
  have h : a &&& b < 18446744073709551616 := Nat.lt_of_le_of_lt Nat.and_le_left ha
  change IntKind.wrap .u64 ((BitVec.ofInt 64 (a : Int) &&& BitVec.ofInt 64 (b : Int)).toNat : Int) = _
  rw [ofInt64, ofInt64, BitVec.toNat_and, BitVec.toNat_ofNat, BitVec.toNat_ofNat, Nat.mod_eq_of_lt ha, Nat.mod_eq_of_lt hb, wrap64u _ h]
theorem or64_lt {a b : Nat} (ha : a < 18446744073709551616) (hb : b < 18446744073709551616) : a ||| b < 18446744073709551616 := Nat.or_lt_two_pow (n := 64) ha hb
theorem bits_or64 {a b : Nat} (ha : a < 18446744073709551616) (hb : b < 18446744073709551616) : bits .or .u64 (a : Int) (b : Int) = ((a ||| b : Nat) : Int) := by
  change IntKind.wrap .u64 ((BitVec.ofInt 64 (a : Int) ||| BitVec.ofInt 64 (b : Int)).toNat : Int) = _
  rw [ofInt64, ofInt64, BitVec.toNat_or, BitVec.toNat_ofNat, BitVec.toNat_ofNat, Nat.mod_eq_of_lt ha, Nat.mod_eq_of_lt hb, wrap64u _ (or64_lt ha hb)]
theorem bit_high {a i : Nat} (ha : a < 18446744073709551616) (hi : 64 ≤ i) : a.testBit i = false :=
  Nat.testBit_lt_two_pow (Nat.lt_of_lt_of_le ha (Nat.le_trans (by decide : 18446744073709551616 ≤ 2 ^ 64) (Nat.pow_le_pow_right (by decide) hi)))
theorem diff64_lt {a b : Nat} (ha : a < 18446744073709551616) : diffN a b < 18446744073709551616 := Nat.lt_pow_two_of_testBit (n := 64) _ fun i hi => by
  rw [diffN_bit, bit_high ha hi]
  rfl
theorem bits_andNot64 {a b : Nat} (ha : a < 18446744073709551616) : bits .andNot .u64 (a : Int) (b : Int) = ((diffN a b : Nat) : Int) := by
  change IntKind.wrap .u64 ((BitVec.ofInt 64 (a : Int) &&& ~~~ BitVec.ofInt 64 (b : Int)).toNat : Int) = _
  rw [ofInt64, ofInt64]
  have e : (BitVec.ofNat 64 a &&& ~~~BitVec.ofNat 64 b).toNat = diffN a b := by
    apply Nat.eq_of_testBit_eq
    intro i
    rw [diffN_bit, BitVec.testBit_toNat, BitVec.getLsbD_and, BitVec.getLsbD_not, BitVec.getLsbD_ofNat, BitVec.getLsbD_ofNat]
    by_cases hi : i < 64
    · simp [hi]
    · have : a.testBit i = false := bit_high ha (by omega)
      simp [hi, this]
  rw [e, wrap64u _ (diff64_lt ha)]
theorem has_bits {s i : Nat} (hs : s < 18446744073709551616) : (bits .and .u64 ((s : Int) / 2 ^ i) 1 == 1) = s.testBit i := by
  have e : ((s : Int) / 2 ^ i) = ((s / 2 ^ i : Nat) : Int) := by
    rw [Int.natCast_ediv, Int.natCast_pow]; rfl
  have h1 : s / 2 ^ i < 18446744073709551616 := Nat.lt_of_le_of_lt (Nat.div_le_self _ _) hs
  rw [e, show (1 : Int) = ((1 : Nat) : Int) from rfl, bits_and64 h1 (by decide), Nat.and_one_is_mod, Nat.testBit, Nat.shiftRight_eq_div_pow, Nat.and_comm, Nat.and_one_is_mod]
  generalize s / 2 ^ i = n
  rcases Nat.mod_two_eq_zero_or_one n with h | h <;> rw [h] <;> rfl
theorem pow_lt64 {i : Nat} (h : i ≤ 63) : 2 ^ i < 18446744073709551616 := Nat.lt_of_le_of_lt (Nat.pow_le_pow_right (by decide) h) (by decide)
theorem withN_lt {s i : Nat} (hs : s < 18446744073709551616) (h : i ≤ 63) : withN s i < 18446744073709551616 := by
  unfold withN
  rw [Nat.one_shiftLeft]
  exact or64_lt hs (pow_lt64 h)
theorem with_bits {s i : Nat} (hs : s < 18446744073709551616) (h : i ≤ 63) : bits .or .u64 (s : Int) (IntKind.wrap .u64 (2 ^ i)) = ((withN s i : Nat) : Int) := by
  have e : (2 : Int) ^ i = ((2 ^ i : Nat) : Int) := by rw [Int.natCast_pow]; rfl
  rw [e, wrap64u _ (pow_lt64 h), bits_or64 hs (pow_lt64 h)]
  unfold withN
  rw [Nat.one_shiftLeft]
end Go.Proofs.YtadldndpphdmpaaGreat
namespace Go.Proofs.YtadldndpphdmpaaGreat
open Go.RowKit


theorem ret_int {k : IntKind} {a b : Int} (h : a = b) : Ending.returned (.int k a) = .returned (.int k b) := by rw [h]
theorem ret_bool {a b : Bool} (h : a = b) : Ending.returned (.bool a) = .returned (.bool b) := by rw [h]

set_option maxHeartbeats 1000000 in
theorem has_any (s : Nat) (i : Nat) (w : World) (hs : s < 18446744073709551616) (h1 : i ≤ 63) :
    Calls Tryz.prog 26 #[.int .u64 s, .int .i64 i] w fun e w' => e = .returned (.bool (s.testBit i)) ∧ w = w' := by
  go_enter Tryz.func26, Tryz.ntmps26
  go_wp2
  go_ret
  exact ⟨ret_bool (has_bits hs), rfl⟩
set_option maxHeartbeats 1000000 in
theorem with_any (s : Nat) (i : Nat) (w : World) (hs : s < 18446744073709551616) (h1 : i ≤ 63) :
    Calls Tryz.prog 38 #[.int .u64 s, .int .i64 i] w fun e w' => e = .returned (.int .u64 (withN s i)) ∧ w = w' := by
  go_enter Tryz.func38, Tryz.ntmps38
  go_wp2
  go_ret
  exact ⟨ret_int (with_bits hs h1), rfl⟩

theorem bitsL_take (s k : Nat) : (((List.range (k + 1)).filter s.testBit).map Int.ofNat) = (((List.range k).filter s.testBit).map Int.ofNat) ++ (if s.testBit k then [(k : Int)] else []) := by
  rw [List.range_succ, List.filter_append, List.map_append]
  by_cases h : s.testBit k = true <;> simp [h]
theorem bitsK_len (s k : Nat) : (((List.range k).filter s.testBit).map Int.ofNat).length ≤ k := by
  rw [List.length_map]
  exact Nat.le_trans (List.length_filter_le _ _) (by simp)
theorem infoI : (Tryz.prog.info? 3).map (fun i => (i.zero, i.size, i.bytes)) = some (some (.int .i64 0), 1, 8) := by kernel_rfl

/-- A new list of numbers. -/
def NewInts (w : World) (l : List Int) (e : Ending) (w' : World) : Prop :=
  ∃ v, e = .returned v ∧ w'.ownsRow w.heap.size 3 1 v l.length (l.map (Value.int .i64)) ∧ Below w.heap.size w w'

set_option maxRecDepth 100000 in
set_option maxHeartbeats 2000000 in
theorem list_any (s : Nat) (w : World) (hs : s < 18446744073709551616) :
    Calls Tryz.prog 27 #[.int .u64 s] w (NewInts w (bitsL s)) := by
  obtain ⟨i0, hi, hz0, hz1, hz2⟩ := info_parts infoI
  have HZ := Lib.hid hs; clear hs
  go_enter Tryz.func27, Tryz.ntmps27
  go_wp2
  go_loopw [2, 4] (fun v i wr => ∃ (k : Nat) (ls : List Int), k ≤ 64 ∧ i = .int .i64 k ∧ wr.ownsRow w.heap.size 3 1 v ls.length (ls.map (Value.int .i64)) ∧ ls = (((List.range k).filter s.testBit).map Int.ofNat) ∧ ls.length ≤ k ∧ Below w.heap.size w wr) (fun _ i _ => 64 - (intOf i).toNat)
  case atStart => exact ⟨0, [], by omega, rfl, World.ownsRow_nil _ _ _ _, rfl, Nat.zero_le _, Below.refl _ _⟩
  case round =>
    obtain ⟨k, ls, hk, rfl, hrow, hls, hlen, hB⟩ := hrel
    have HB := Lib.hid hB; clear hB
    have HL := Lib.hid hls; clear hls
    by_cases hlt : k < 64
    · have hC := Lib.hid (has_any s k wr HZ.out (by omega))
      have hsz := HB.out.size
      have HS := Lib.hid (bitsL_take s k)
      cases hb : s.testBit k with
      | true =>
        have H1 : Hid (ls ++ [(k : Int)] = (((List.range (k + 1)).filter s.testBit).map Int.ofNat)) := by rw [HS.out, HL.out, hb]; rfl
        rw [hb] at hC
        clear hb
        go_wp2_with (first | (go_at_call 26; refine hC.out.mono ?_; rintro e w' ⟨rfl, rfl⟩) | (at_builtin; refine wpList_append_own _ rfl _ _ 38 rfl w.heap.size 3 i0 (.int .i64 0) 1 8 Tryz.underlying38 hi hz0 hz1 hz2 rfl (by decide) _ _ _ rfl (hrow.alloc _) ⟨wr.heap.size, 0, none⟩ 1 1 [.int .i64 k] rfl rfl (cell_one_new _ _ _) (by simp [Value.oneCell']) (by unfold maxLen; omega) (by omega) (by simp; omega) ?_; intro v' w2 hown' hgrow _))
        go_roundw
        case rel => exact ⟨k + 1, ls ++ [(k : Int)], by omega, by go_num, by rw [List.length_append, List.map_append]; exact hown', H1.out, by simp; omega, (HB.out.alloc HB.out.size _).grown hgrow (by simp; omega) (fun j e => (hrow.lt j e).1)⟩
        case measure => simp [intOf]; omega
      | false =>
        have H1 : Hid (ls = (((List.range (k + 1)).filter s.testBit).map Int.ofNat)) := by rw [HS.out, HL.out, hb]; simp [Hid]
        rw [hb] at hC
        clear hb
        go_wp2_with (go_at_call 26; refine hC.out.mono ?_; rintro e w' ⟨rfl, rfl⟩)
        go_roundw
        case rel => exact ⟨k + 1, ls, by omega, by go_num, hrow, H1.out, by omega, HB.out⟩
        case measure => simp [intOf]; omega
    · go_wp2
      go_ret
      obtain rfl : k = 64 := by omega
      rw [HL.out] at hrow
      exact ⟨_, rfl, hrow, HB.out⟩
end Go.Proofs.YtadldndpphdmpaaGreat
namespace Go.Proofs.YtadldndpphdmpaaGreat
open Go.RowKit


/-- A node that lies in memory: the node, and where its inputs lie. -/
structure NdM where
  nd : Nd
  A : Option Addr
  c : Nat
abbrev NdM.val (m : NdM) : Array Value := #[.string m.nd.name, .int .i64 m.nd.kind, .slice m.A m.nd.ins.length m.c, .int .i64 m.nd.cnt, .int .i64 m.nd.hold]
abbrev NdM.enc (m : NdM) : List Value := [.string m.nd.name, .int .i64 m.nd.kind, .slice m.A m.nd.ins.length m.c, .int .i64 m.nd.cnt, .int .i64 m.nd.hold]
structure NdR (w : World) (m : NdM) : Prop where
  ins : RdI w m.A m.nd.ins.length m.nd.ins
  len : m.nd.ins.length ≤ 1000000000000000
  cap : m.nd.ins.length ≤ m.c
  nam : m.nd.name.size ≤ 9223372036854775807
/-- The nodes of a slice. -/
structure TrM (w : World) (t : List Nd) (A : Option Addr) (n : Nat) (ms : List NdM) : Prop where
  rd : Rd NdM.enc 5 w A n ms
  eq : ms.map (·.nd) = t
  nd : ∀ m ∈ ms, NdR w m
  big : n ≤ 1000000000000000
theorem NdR.below {w w' : World} {m : NdM} (h : NdR w m) (hb : Below w.heap.size w w') : NdR w' m := ⟨h.ins.below hb, h.len, h.cap, h.nam⟩
theorem TrM.below {w w' : World} {t : List Nd} {A : Option Addr} {n : Nat} {ms : List NdM} (h : TrM w t A n ms) (hb : Below w.heap.size w w') : TrM w' t A n ms :=
  ⟨h.rd.below hb, h.eq, fun m hm => (h.nd m hm).below hb, h.big⟩
theorem TrM.len {w : World} {t : List Nd} {A : Option Addr} {n : Nat} {ms : List NdM} (h : TrM w t A n ms) : t.length = n := by rw [← h.eq, List.length_map, h.rd.1]
theorem TrM.get {w : World} {t : List Nd} {A : Option Addr} {n : Nat} {ms : List NdM} (h : TrM w t A n ms) {i : Nat} (hi : i < n) :
    ∃ (m : NdM) (ad : Addr), t[i]? = some m.nd ∧ A = some ad ∧ At w (ad.add (i * 5)) m.enc ∧ NdR w m := by
  obtain ⟨m, ad, h1, h2, h3⟩ := h.rd.get hi
  refine ⟨m, ad, ?_, h2, h3, h.nd m (List.mem_of_getElem? h1)⟩
  rw [← h.eq, List.getElem?_map, h1]
  rfl
theorem TrM.take {w : World} {t : List Nd} {A : Option Addr} {n : Nat} {ms : List NdM} (h : TrM w t A n ms) {k : Nat} (hk : k ≤ n) : TrM w (t.take k) A k (ms.take k) :=
  ⟨h.rd.take hk, by rw [List.map_take, h.eq], fun m hm => h.nd m (List.mem_of_mem_take hm), Nat.le_trans hk h.big⟩
theorem At.five {w : World} {p : Addr} {a b c d e : Value} (h : At w p [a, b, c, d, e]) :
    w.cell? p = some a ∧ w.cell? ⟨p.block, p.off + 1, none⟩ = some b ∧ w.cell? ⟨p.block, p.off + 2, none⟩ = some c ∧ w.cell? ⟨p.block, p.off + 3, none⟩ = some d ∧ w.cell? ⟨p.block, p.off + 4, none⟩ = some e :=
  ⟨h 0 a rfl, h 1 b rfl, h 2 c rfl, h 3 d rfl, h 4 e rfl⟩
end Go.Proofs.YtadldndpphdmpaaGreat
