/- The sets of some nodes as a sequence; the closures of Causes and of Guards. -/
import Derived.Test.YtadldndpphdmpaaGreatQE
import Derived.Test.YtadldndpphdmpaaGreatG4
import Derived.Test.YtadldndpphdmpaaGreatQB
import Derived.Test.YtadldndpphdmpaaGreatG10
namespace Go.Proofs.YtadldndpphdmpaaGreat
open Go.RowKit Go.Shelf
attribute [local go_sem] Oper.semAt_some


/-- A set of some nodes. -/
abbrev SubT (all : Nat) := {s : Nat // ∀ j, s.testBit j = true → all.testBit j = true}
abbrev Senc {all : Nat} (x : SubT all) : Array Value := #[.int .u64 x.1]
def SubT.all (all : Nat) : SubT all := ⟨all, fun _ h => h⟩
theorem and_sub (all s : Nat) : ∀ j, (s &&& all).testBit j = true → all.testBit j = true := fun j h => by
  rw [Nat.testBit_and] at h
  simp at h
  exact h.2

set_option maxHeartbeats 400000 in
theorem subsets_any (s : Nat) (w : World) :
    Calls Tryz.prog 23 #[.int .u64 s] w fun e w' => e = .returned (.func (.func 50) #[] #[.pointer (some ⟨w.heap.size, 0, none⟩)]) ∧ w.alloc (.cells #[.int .u64 s] 57) = w' := by
  go_enter Tryz.func23, Tryz.ntmps23
  go_wp2
  go_ret
  exact ⟨rfl, rfl⟩

theorem subL_pre {all : Nat} {x : SubT all} {pre : List (SubT all)} (h : pre.map (·.1) ++ sub all x.1 = subL all) (hs : x.1 ≠ 0) : (pre ++ [x]).map (·.1) ++ sub all ((x.1 - 1) &&& all) = subL all := by
  rw [List.map_append, List.append_assoc, List.map_cons, List.map_nil, List.singleton_append, ← sub_step all hs]
  exact h
theorem sub_ne (all s : Nat) : sub all s ≠ [] := by
  by_cases h : s = 0
  · subst h; simp [sub_zero]
  · rw [sub_step all h]; simp
theorem pre_len {all s : Nat} {pre : List (SubT all)} (h : pre.map (·.1) ++ sub all s = subL all) : pre.length < (subL all).length := by
  rw [← h, List.length_append, List.length_map]
  have := List.length_pos_iff.2 (sub_ne all s)
  omega

set_option maxRecDepth 100000 in
set_option maxHeartbeats 2000000 in
theorem subsets1_in (n0 n : Nat) (hn : 1 ≤ n) (l Bv all : Nat) (J Jx : List (SubT all) → World → Prop) (W : World)
    (hY : ∀ pre x W1, J pre W1 → pre.length < (subL all).length → YieldAt Fence.wide (n - 1) Tryz.prog l (Senc x) W1 fun e W' =>
      (e = .returned (.bool true) ∧ J (pre ++ [x]) W' ∧ KLow n0 W1 W') ∨ (e = .returned (.bool false) ∧ Jx (pre ++ [x]) W'))
    (hv : W.cell? ⟨Bv, 0, none⟩ = some (.int .u64 all)) (hlow : Bv < n0) (hall : all < 18446744073709551616) (h0 : J [] W) :
    CallsIn Fence.wide n Tryz.prog 50 #[.func (.yield l) #[] #[], .pointer (some ⟨Bv, 0, none⟩)] W fun e W' => (∃ v, e = .returned v) ∧
      ((∃ ys : List (SubT all), ys.map (·.1) = subL all ∧ J ys W') ∨ (∃ pre, True ∧ Jx pre W')) := by
  refine callsIn_of_wp Tryz.func50 rfl trivial ?_ rfl
  simp only [Tryz.ntmps50, List.size_toArray, List.length_cons, List.length_nil, Nat.reduceAdd, Nat.reduceSub, Array.replicate_succ, Array.replicate_zero, List.push_toArray, List.append_toArray, List.nil_append, List.cons_append]
  have HY := Lib.hid hY; clear hY
  have H0 := Lib.hid h0; clear h0
  have HV := Lib.hid hv
  have HA := Lib.hid hall
  have HL0 := Lib.hid hlow
  gi_wp2
  clear hv
  gi_loopw [3] (fun i wr => ∃ (x : SubT all) (pre : List (SubT all)), i = .int .u64 x.1 ∧ KLow n0 W wr ∧ J pre wr ∧ pre.map (·.1) ++ sub all x.1 = subL all ∧ x.1 ≤ all) (fun i _ => (intOf i).toNat + 1)
  case atStart => exact ⟨SubT.all all, [], rfl, KLow.refl _ _, H0.out, rfl, Nat.le_refl _⟩
  case round =>
    obtain ⟨⟨s, hsub⟩, pre, rfl, hK, hJr, hP, hsa⟩ := hrel
    dsimp only at *
    have HK := Lib.hid hK
    have HP := Lib.hid hP
    have HSa := Lib.hid hsa
    obtain ⟨fn, tmps, assign, body, hy, hR⟩ := HY.out _ ⟨s, hsub⟩ wr hJr (pre_len hP)
    dsimp only [Senc] at hy
    have HRR := Lib.hid hR
    clear hK hJr hP hsa hR hall
    by_cases hs : s = 0
    · have HD : Hid ((pre ++ [(⟨s, hsub⟩ : SubT all)]).map (·.1) = subL all) := by have := HP.out; rw [hs, sub_zero] at this; rw [List.map_append, List.map_cons, List.map_nil]; show List.map _ pre ++ [s] = _; rw [hs]; exact this
      have hs0 : ((s : Int) == 0) = true := by simp [hs]
      clear hs
      gi_wp2
      refine HRR.out.mono ?_
      rintro e W3 (⟨rfl, hJ3, hk3⟩ | ⟨rfl, hJx3⟩)
      · have HJ3 := Lib.hid hJ3; clear hJ3 hk3
        gi_wp2
        refine bodyPost_ret (results_none rfl _ _ _) rfl ?_
        exact ⟨⟨_, rfl⟩, .inl ⟨_, HD.out, HJ3.out⟩⟩
      · have HJ3 := Lib.hid hJx3; clear hJx3
        gi_wp2
        refine bodyPost_ret (results_none rfl _ _ _) rfl ?_
        exact ⟨⟨_, rfl⟩, .inr ⟨_, trivial, HJ3.out⟩⟩
    · have HD : Hid ((pre ++ [(⟨s, hsub⟩ : SubT all)]).map (·.1) ++ sub all ((s - 1) &&& all) = subL all) := subL_pre HP.out hs
      have hs0 : ((s : Int) == 0) = false := by simp; omega
      have hw1 : IntKind.wrap .u64 ((s : Int) - 1) = ((s - 1 : Nat) : Int) := by
        rw [IntWalk.u64_in _ ⟨by omega, by have := HSa.out; have := HA.out; omega⟩]; omega
      have hw2 : bits .and .u64 (((s - 1 : Nat) : Int)) (all : Int) = (((s - 1) &&& all : Nat) : Int) := bits_and64 (by have := HSa.out; have := HA.out; omega) HA.out
      have HN : Hid ((s - 1) &&& all ≤ s - 1) := Nat.and_le_left
      have HS := Lib.hid hs
      clear hs
      gi_wp2
      refine HRR.out.mono ?_
      rintro e W3 (⟨rfl, hJ3, hk3⟩ | ⟨rfl, hJx3⟩)
      · have HJ3 := Lib.hid hJ3; clear hJ3
        have HK3 := Lib.hid (HK.out.trans hk3); clear hk3
        have hv3 := HK3.out.cell HL0.out HV.out
        gi_wp2
        go_roundw
        case rel => exact ⟨⟨(s - 1) &&& all, and_sub all _⟩, pre ++ [⟨s, hsub⟩], rfl, HK3.out, HJ3.out, HD.out, by have := HN.out; have := HSa.out; show (s - 1) &&& all ≤ all; omega⟩
        case measure => simp [intOf]; have := HN.out; have := HS.out; omega
      · have HJ3 := Lib.hid hJx3; clear hJx3
        gi_wp2
        refine bodyPost_ret (results_none rfl _ _ _) rfl ?_
        exact ⟨⟨_, rfl⟩, .inr ⟨_, trivial, HJ3.out⟩⟩

theorem subsets1_stops (n : Nat) (hn : 1 ≤ n) (Bv all : Nat) (w : World) (hv : w.cell? ⟨Bv, 0, none⟩ = some (.int .u64 all)) (hall : all < 18446744073709551616) :
    SeqStopsK Fence.wide n Tryz.prog 50 #[.pointer (some ⟨Bv, 0, none⟩)] (Senc (all := all)) (KLow w.heap.size) (fun ys => ys.map (·.1) = subL all) (fun _ => True) (subL all).length w :=
  fun l J Jx W hW _ _ hY h0 => subsets1_in w.heap.size n hn l Bv all J Jx W hY (cell_below hW hv) (cell_lt hv) hall h0
end Go.Proofs.YtadldndpphdmpaaGreat
namespace Go.Proofs.YtadldndpphdmpaaGreat
open Go.RowKit Go.Shelf


theorem BB.toGrown {B M : Nat} {a b : World} (h : BB B M a b) (hB : a.heap.size ≤ B) : a.grownBy b (some M) :=
  ⟨h.os, h.tape, h.output, h.size, fun k hk hne => h.block k (by omega) (fun e => hne (by rw [e]))⟩

theorem FT.ne1 {w : World} {T : Nat} {t : List Nd} {A : Option Addr} {n c : Nat} {ms : List NdM} {R : Option Addr} {cr M k : Nat} (h : FT w T t A n c ms R cr M k) {p : Addr} {v : Value} (hc : w.cell? p = some v) : p.block ≠ M := fun e => by
  obtain ⟨o, h1, h2⟩ := h.kn.noCells
  obtain ⟨o', h3, h4⟩ := cells_of_cell hc
  rw [e, h1] at h3
  cases h3
  rw [h2] at h4
  cases h4
theorem ord_skip {P : Program} {ops : Array Oper} {Q : Exit → Act → World → Prop} {S : World → Prop} {n k : Nat} {q : Nat → Bool} {o : Oper} {rest : List (Nat × Oper)} {a : Act} {w : World} (hq : q k = true) (hw : Region.wanted o (yielded ops a.tmps) = false) (hS : S w)
    (h : wpOrd P ops Q S n q rest (a.put o.dst undef) w) : wpOrd P ops Q S n q ((k, o) :: rest) a w := by
  rw [wpOrd, if_pos hq]
  exact ⟨hS, undef, .inr ⟨hw, rfl⟩, h⟩
set_option maxRecDepth 100000 in
set_option maxHeartbeats 2000000 in
theorem Causes1_any (t : List Nd) (s node : Nat) (T : Nat) (A : Option Addr) (n c : Nat) (ms : List NdM) (R : Option Addr) (cr M k Bf Bn : Nat) (w : World) (hF : FT w T t A n c ms R cr M k) (hs : Sub t s) (hk : k < 1000000000000) (hn : node ≤ 63)
    (cf : w.cell? ⟨Bf, 0, none⟩ = some (.pointer (some ⟨T, 0, none⟩))) (cn : w.cell? ⟨Bn, 0, none⟩ = some (.int .i64 node)) :
    Calls Tryz.prog 24 #[.int .u64 s, .pointer (some ⟨Bf, 0, none⟩), .pointer (some ⟨Bn, 0, none⟩)] w fun e w' => e = .returned (.bool ((eff t s).testBit node)) ∧ FT w' T t A n c ms R cr M (k + 1) ∧ BB w.heap.size M w w' := by
  have HE : Hid (∀ W, FT W T t A n c ms R cr M k → Calls Tryz.prog 25 #[.pointer (some ⟨T, 0, none⟩), .int .u64 s] W fun e w' => e = .returned (.int .u64 (eff t s)) ∧ FT w' T t A n c ms R cr M (k + 1) ∧ BB W.heap.size M W w') := fun W h => effects_any t s T A n c ms R cr M k W h hs hk
  have HLt : Hid (eff t s < 18446744073709551616) := by have := pow_40 hF.ok (eff_lt hF.ok hs); show _ < _; omega
  have HH : Hid (∀ W, Calls Tryz.prog 26 #[.int .u64 (eff t s), .int .i64 node] W fun e w' => e = .returned (.bool ((eff t s).testBit node)) ∧ W = w') := fun W => has_any (eff t s) node W HLt.out hn
  have HF := Lib.hid (hF.below ((Below.refl w.heap.size w).drew))
  have x1 := laterBut_cell (row := some M) cf (fun e => absurd (Option.some.inj e) (hF.ne1 cf))
  have x2 := laterBut_cell (row := some M) cn (fun e => absurd (Option.some.inj e) (hF.ne1 cn))
  clear hF hs hk hn HLt
  generalize (eff t s).testBit node = bb at *
  generalize eff t s = es at *
  go_enter Tryz.func24, Tryz.ntmps24
  go_wp2_with fail
  have HS0 : Hid ((fun w' => ∃ u : LaterBut w (some M), w' = u.w) w.drew) := ⟨⟨w.drew, grown_of_below (Below.refl _ _).drew _⟩, rfl⟩
  refine wp_region_noPanic ?_
  refine wp_region_ord (fun w' => ∃ u : LaterBut w (some M), w' = u.w) 5 (fun k => k == 0 || k == 1 || k == 3) (ordOf _ [0, 1, 3, 2, 4, 5]) (by kernel_rfl) (by kernel_rfl) (ordOf_mem _ _) (fun _ _ _ _ _ h => h) ?_
  simp only [ordOf, List.filterMap_cons, List.filterMap_nil, List.getElem?_cons_zero, List.getElem?_cons_succ, Option.map_some]
  iterate 3 (refine ord_quiet rfl rfl rfl HS0.out ?_; intro K hK; go_big_quiet_op; go_big_quiet_on)
  clear x1 x2
  refine ord_op rfl ?_
  go_wp2_with fail
  refine (HE.out _ HF.out).mono ?_
  rintro e W1 ⟨rfl, hF1, hb1⟩
  have HF1 := Lib.hid hF1
  have HB1 : Hid (BB w.heap.size M w W1) := (BB.of_below (Below.refl w.heap.size w).drew (Nat.le_refl _)).trans hb1
  clear hF1 hb1
  have HS1 : Hid ((fun w' => ∃ u : LaterBut w (some M), w' = u.w) W1) := ⟨⟨W1, HB1.out.toGrown (Nat.le_refl _)⟩, rfl⟩
  go_wp2_with fail
  refine mix_post (fun _ => HS1.out) ?_
  refine ord_op rfl ?_
  go_wp2_with (go_at_call 26; refine (HH.out _).mono ?_; rintro e w' ⟨rfl, rfl⟩)
  refine mix_post (fun _ => HS1.out) ?_
  refine ord_op rfl ?_
  go_wp2_with fail
  refine mix_post (fun h => absurd h (by decide)) ?_
  refine ord_nil ?_
  refine NoPanic.normal ?_
  go_wp2_with fail
  go_ret
  exact ⟨rfl, HF1.out, HB1.out⟩

theorem sub_bas (t : List Nd) (s : Nat) : Sub t (diffN (bas t) s) := fun j hj => by
  rw [diffN_bit, bas_bit] at hj
  simp at hj
  exact hj.1
/-- Does a node not fail if the nodes of a set don't? -/
def soundB (t : List Nd) (node s : Nat) : Bool := !(eff t (diffN (bas t) s)).testBit node
theorem bas_lt64 {t : List Nd} (h : TrOk t) : bas t < 18446744073709551616 := by
  have := pow_40 h (Sub.lt (t := t) (s := bas t) fun j hj => by rwa [bas_bit] at hj)
  omega
set_option maxRecDepth 100000 in
set_option maxHeartbeats 2000000 in
theorem sound_any (t : List Nd) (s node : Nat) (T : Nat) (A : Option Addr) (n c : Nat) (ms : List NdM) (R : Option Addr) (cr M k : Nat) (w : World) (hF : FT w T t A n c ms R cr M k) (hk : k < 1000000000000) (hn : node ≤ 63) :
    Calls Tryz.prog 35 #[.pointer (some ⟨T, 0, none⟩), .int .i64 node, .int .u64 s] w fun e w' => e = .returned (.bool (soundB t node s)) ∧ FT w' T t A n c ms R cr M (k + 1) ∧ BB w.heap.size M w w' := by
  have hs := sub_bas t s
  have hand : bits .andNot .u64 ((bas t : Nat) : Int) (s : Int) = ((diffN (bas t) s : Nat) : Int) := bits_andNot64 (bas_lt64 hF.ok)
  have HE := Lib.hid (effects_any t (diffN (bas t) s) T A n c ms R cr M k w hF hs hk)
  have HLt : Hid (eff t (diffN (bas t) s) < 18446744073709551616) := by have := pow_40 hF.ok (eff_lt hF.ok hs); show _ < _; omega
  have HH : Hid (∀ W, Calls Tryz.prog 26 #[.int .u64 (eff t (diffN (bas t) s)), .int .i64 node] W fun e w' => e = .returned (.bool ((eff t (diffN (bas t) s)).testBit node)) ∧ W = w') := fun W => has_any _ node W HLt.out hn
  have HX : Hid (soundB t node s = !(eff t (diffN (bas t) s)).testBit node) := rfl
  have b2 := hF.blk.cell (i := 2) rfl
  have bz := hF.blk.lt
  clear hF hs hk hn HLt
  generalize soundB t node s = X at *
  generalize (eff t (diffN (bas t) s)).testBit node = bb at *
  generalize eff t (diffN (bas t) s) = es at *
  generalize diffN (bas t) s = ds at *
  generalize bas t = bt at *
  go_enter Tryz.func35, Tryz.ntmps35
  go_wp2_with fail
  refine HE.out.mono ?_
  rintro e W1 ⟨rfl, hF1, hb1⟩
  have HF1 := Lib.hid hF1; have HB1 := Lib.hid hb1
  clear hF1 hb1 b2 bz
  go_wp2_with (go_at_call 26; refine (HH.out _).mono ?_; rintro e w' ⟨rfl, rfl⟩)
  go_ret
  exact ⟨ret_bool HX.out.symm, HF1.out, HB1.out⟩
set_option maxRecDepth 100000 in
set_option maxHeartbeats 2000000 in
theorem Guards1_any (t : List Nd) (s node : Nat) (T : Nat) (A : Option Addr) (n c : Nat) (ms : List NdM) (R : Option Addr) (cr M k Bf Bn : Nat) (w : World) (hF : FT w T t A n c ms R cr M k) (hk : k < 1000000000000) (hn : node ≤ 63)
    (cf : w.cell? ⟨Bf, 0, none⟩ = some (.pointer (some ⟨T, 0, none⟩))) (cn : w.cell? ⟨Bn, 0, none⟩ = some (.int .i64 node)) :
    Calls Tryz.prog 34 #[.int .u64 s, .pointer (some ⟨Bf, 0, none⟩), .pointer (some ⟨Bn, 0, none⟩)] w fun e w' => e = .returned (.bool (soundB t node s)) ∧ FT w' T t A n c ms R cr M (k + 1) ∧ BB w.heap.size M w w' := by
  have HS := Lib.hid (sound_any t s node T A n c ms R cr M k w hF hk hn)
  clear hF hk hn
  generalize soundB t node s = X at *
  go_enter Tryz.func34, Tryz.ntmps34
  go_wp2_with fail
  refine HS.out.mono ?_
  rintro e W1 ⟨rfl, hF1, hb1⟩
  have HF1 := Lib.hid hF1; have HB1 := Lib.hid hb1
  clear hF1 hb1
  go_wp2_with fail
  go_ret
  exact ⟨rfl, HF1.out, HB1.out⟩
end Go.Proofs.YtadldndpphdmpaaGreat
