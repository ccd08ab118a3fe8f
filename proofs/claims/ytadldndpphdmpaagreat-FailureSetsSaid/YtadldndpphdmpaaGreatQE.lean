/- The order of sets; the sets of some nodes, one after another. -/
import Derived.Test.YtadldndpphdmpaaGreatQD
import Derived.Test.YtadldndpphdmpaaGreatG13
import Derived.Shelf.SlSortCmp.NoneTotal
import Derived.Test.YtadldndpphdmpaaGreatQA
namespace Go.Proofs.YtadldndpphdmpaaGreat
open Go.RowKit

/-- Which set is before the other. -/
def cfS (a b : Nat) : Int := if Lib.compareInt (oc a) (oc b) = 0 then cmpL (bitsL a) (bitsL b) else Lib.compareInt (oc a) (oc b)
theorem orL_two (x y : Int) : orL [x, y] = if x = 0 then y else x := by
  unfold orL orL orL
  by_cases hy : y = 0 <;> simp [hy]
theorem rdI_two (W : World) (x y : Int) : RdI (W.alloc (.cells #[.int .i64 x, .int .i64 y] 3)) (some ⟨W.heap.size, 0, none⟩) 2 [x, y] := by
  have K := Blk.new W 3 #[.int .i64 x, .int .i64 y] rfl
  refine ⟨rfl, fun i z hz => ⟨_, rfl, fun j v hj => ?_⟩⟩
  match i, hz with
  | 0, hz =>
    cases hz
    match j, hj with
    | 0, hj => cases hj; exact K.cell (i := 0) rfl
  | 1, hz =>
    cases hz
    match j, hj with
    | 0, hj => cases hj; exact K.cell (i := 1) rfl
  | i + 2, hz => simp at hz
theorem bitsL_len (s : Nat) : (bitsL s).length ≤ 64 := bitsK_len s 64
set_option maxRecDepth 100000 in
set_option maxHeartbeats 1000000 in
theorem least1_any (a b : Nat) (ha : a < 18446744073709551616) (hb : b < 18446744073709551616) (w : World) :
    Calls Tryz.prog 45 #[.int .u64 a, .int .u64 b] w fun e w' => e = .returned (.int .i64 (cfS a b)) ∧ Below w.heap.size w w' ∧ w.drawn ≤ w'.drawn := by
  have HA := Lib.hid ha; have HBb := Lib.hid hb
  clear ha hb
  have HX : Hid (cfS a b = if Lib.compareInt (oc a) (oc b) = 0 then cmpL (bitsL a) (bitsL b) else Lib.compareInt (oc a) (oc b)) := rfl
  generalize cfS a b = X at *
  go_enter Tryz.func45, Tryz.ntmps45
  have HC : Hid (∀ W : World, Calls Tryz.prog 47 #[.int .i64 (oc a), .int .i64 (oc b)] W fun e w' => e = .returned (.int .i64 (Lib.compareInt (oc a) (oc b))) ∧ W = w') := fun W => (Tryz.cmp_Compare_int (oc a) (oc b) W).mono fun e w' h => ⟨h.1, h.2.symm⟩
  have HO : Hid (∀ W : World, Calls Tryz.prog 48 #[.int .u64 a] W fun e w' => e = .returned (.int .i64 (oc a)) ∧ W = w') := fun W => size_any a W
  have HOb : Hid (∀ W : World, Calls Tryz.prog 48 #[.int .u64 b] W fun e w' => e = .returned (.int .i64 (oc b)) ∧ W = w') := fun W => size_any b W
  have HLa : Hid (∀ W : World, Calls Tryz.prog 27 #[.int .u64 a] W fun e w' => NewInts W (bitsL a) e w' ∧ W.drawn ≤ w'.drawn) := fun W => listD_any a W HA.out
  have HLb : Hid (∀ W : World, Calls Tryz.prog 27 #[.int .u64 b] W fun e w' => NewInts W (bitsL b) e w' ∧ W.drawn ≤ w'.drawn) := fun W => listD_any b W HBb.out
  have HCC : Hid (∀ (A B : Option Addr) (n c m d : Nat) (W : World), RdI W A n (bitsL a) → RdI W B m (bitsL b) → n ≤ 1000 → Calls Tryz.prog 49 #[.slice A n c, .slice B m d] W fun e w' => e = .returned (.int .i64 (cmpL (bitsL a) (bitsL b))) ∧ Below W.heap.size W w' ∧ W.drawn ≤ w'.drawn) := fun A B n c m d W h1 h2 h3 => compareD_any _ _ A n c B m d W h1 h2 h3
  have hL1 := Lib.hid (bitsL_len a)
  generalize Lib.compareInt (oc a) (oc b) = r at *
  generalize oc a = oa at *
  generalize oc b = ob at *
  generalize cmpL (bitsL a) (bitsL b) = y at *
  generalize bitsL a = la at *
  generalize bitsL b = lb at *
  clear HA HBb
  go_wp2_with (go_at_call 48; with_reducible refine (HO.out _).mono ?_; rintro e w' ⟨rfl, rfl⟩)
  go_wp2_with (go_at_call 48; with_reducible refine (HOb.out _).mono ?_; rintro e w' ⟨rfl, rfl⟩)
  go_wp2_with (go_at_call 47; with_reducible refine (HC.out _).mono ?_; rintro e w' ⟨rfl, rfl⟩)
  go_at_call 27
  refine (HLa.out _).mono ?_
  rintro e w1 ⟨⟨v1, rfl, ho1, hb1⟩, hd1⟩
  have HO1 := Lib.hid ho1; have HB1 := Lib.hid hb1; have HD1 := Lib.hid hd1
  clear ho1 hb1 hd1
  obtain ⟨A1, c1, rfl, hr1, _, _⟩ := rdI_of_own HO1.out rfl
  have HR1' := Lib.hid hr1
  clear hr1
  go_wp2_with fail
  go_at_call 27
  refine (HLb.out _).mono ?_
  rintro e w2 ⟨⟨v2, rfl, ho2, hb2⟩, hd2⟩
  have HO2 := Lib.hid ho2; have HB2 := Lib.hid hb2; have HD2 := Lib.hid hd2
  clear ho2 hb2 hd2
  obtain ⟨A2, c2, rfl, hr2, _, _⟩ := rdI_of_own HO2.out rfl
  have HR1 := Lib.hid (HR1'.out.below HB2.out)
  have HR2 := Lib.hid hr2
  clear hr2
  go_wp2_with fail
  go_at_call 49
  refine (HCC.out _ _ _ _ _ _ _ HR1.out HR2.out (by have := hL1.out; omega)).mono ?_
  rintro e w3 ⟨rfl, hb3, hd3⟩
  have HB3 := Lib.hid hb3; have HD3 := Lib.hid hd3
  clear hb3 hd3
  have HR4 := Lib.hid (rdI_two w3 r y)
  go_wp2_with fail
  go_at_call 46
  refine (or_any [r, y] _ 2 2 _ HR4.out (by decide)).mono ?_
  rintro e w5 ⟨rfl, hb5, hd5⟩
  have HB5 := Lib.hid hb5; have HD5 := Lib.hid hd5
  clear hb5 hd5
  go_wp2_with fail
  go_ret
  have HB2w : Below w.heap.size w w2 := HB1.out.trans (HB2.out.mono HB1.out.size)
  have HB3w : Below w.heap.size w w3 := HB2w.trans (HB3.out.mono HB2w.size)
  have HB4 := (HB3w.alloc HB3w.size (.cells #[.int .i64 r, .int .i64 y] 3))
  exact ⟨ret_int (by rw [orL_two, HX.out]), HB4.trans (HB5.out.mono HB4.size), Nat.le_trans HD1.out (Nat.le_trans HD2.out (Nat.le_trans HD3.out HD5.out))⟩
end Go.Proofs.YtadldndpphdmpaaGreat
namespace Go.Proofs.YtadldndpphdmpaaGreat
open Go.Shelf Go.RowKit Go.Lib Go.Sort


/-- A three-way comparison. -/
structure TW {α : Type} (f : α → α → Int) : Prop where
  anti : ∀ x y, f y x = -(f x y)
  trans : ∀ x y z, f x y ≤ 0 → f y z ≤ 0 → f x z ≤ 0
theorem TW.refl {α : Type} {f : α → α → Int} (h : TW f) (x : α) : f x x = 0 := by have := h.anti x x; omega
theorem TW.swo {α : Type} {f : α → α → Int} (h : TW f) : SWO (ltOf f) where
  irrefl x := by have := h.refl x; simp [ltOf, this]
  trans x y z h1 h2 := by
    simp only [ltOf, decide_eq_true_eq] at *
    have a1 := h.trans x y z (by omega) (by omega)
    by_cases e : f x z = 0
    · have a2 := h.trans z x y (by have := h.anti x z; omega) (by omega)
      have a3 := h.anti y z
      omega
    · omega
  ntrans x y z h1 h2 := by
    simp only [ltOf, decide_eq_false_iff_not] at *
    have a1 := h.anti x y; have a2 := h.anti y z; have a3 := h.anti x z
    have a4 := h.trans z y x (by omega) (by omega)
    omega
theorem TW.lex {α : Type} {f g : α → α → Int} (hf : TW f) (hg : TW g) : TW fun x y => if f x y = 0 then g x y else f x y where
  anti x y := by
    have a1 := hf.anti x y; have a2 := hg.anti x y
    by_cases e : f x y = 0
    · rw [if_pos e, if_pos (by omega)]; exact a2
    · rw [if_neg e, if_neg (by omega)]; exact a1
  trans x y z h1 h2 := by
    have a1 := hf.anti x y; have a2 := hf.anti y z; have a3 := hf.anti x z
    have t1 := hf.trans x y z; have t2 := hf.trans z x y; have t3 := hf.trans z y x; have t4 := hf.trans x z y; have t5 := hf.trans y z x; have t6 := hf.trans y x z
    have g1 := hg.trans x y z
    split at h1 <;> split at h2 <;> split <;> first | omega | (exact g1 h1 h2)
theorem TW.comp {α β : Type} {f : β → β → Int} (hf : TW f) (g : α → β) : TW fun x y => f (g x) (g y) := ⟨fun _ _ => hf.anti _ _, fun _ _ _ => hf.trans _ _ _⟩
theorem tw_int : TW Lib.compareInt where
  anti x y := by unfold Lib.compareInt; split <;> split <;> (try split) <;> omega
  trans x y z h1 h2 := by
    unfold Lib.compareInt at *
    split at h1 <;> split at h2 <;> split <;> (try split at h1) <;> (try split at h2) <;> (try split) <;> omega
theorem cmpInt_zero {x y : Int} (h : Lib.compareInt x y = 0) : x = y := by
  unfold Lib.compareInt at h
  split at h
  · omega
  · split at h <;> omega
theorem cmpL_anti : ∀ l m : List Int, cmpL m l = -(cmpL l m)
  | [], [] => rfl
  | [], _ :: _ => rfl
  | _ :: _, [] => rfl
  | x :: l, y :: m => by
    have a := tw_int.anti x y
    rw [cmpL, cmpL]
    by_cases e : Lib.compareInt x y = 0
    · rw [if_pos e, if_pos (by omega)]; exact cmpL_anti l m
    · rw [if_neg e, if_neg (by omega)]; exact a
theorem cmpL_trans : ∀ l m k : List Int, cmpL l m ≤ 0 → cmpL m k ≤ 0 → cmpL l k ≤ 0
  | [], _, [], _, _ => by simp [cmpL]
  | [], _, _ :: _, _, _ => by simp [cmpL]
  | _ :: _, [], _, h, _ => by simp [cmpL] at h
  | _ :: _, _ :: _, [], _, h => by simp [cmpL] at h
  | x :: l, y :: m, z :: k, h1, h2 => by
    have a1 := tw_int.anti x y; have a2 := tw_int.anti y z; have a3 := tw_int.anti x z
    have t1 := tw_int.trans x y z; have t2 := tw_int.trans z x y; have t3 := tw_int.trans z y x; have t4 := tw_int.trans x z y; have t5 := tw_int.trans y z x; have t6 := tw_int.trans y x z
    have g1 := cmpL_trans l m k
    rw [cmpL] at h1 h2 ⊢
    split at h1 <;> split at h2 <;> split <;> first | omega | (exact g1 h1 h2)
theorem cmpL_zero : ∀ l m : List Int, cmpL l m = 0 → l = m
  | [], [], _ => rfl
  | [], _ :: _, h => by simp [cmpL] at h
  | _ :: _, [], h => by simp [cmpL] at h
  | x :: l, y :: m, h => by
    rw [cmpL] at h
    by_cases e : Lib.compareInt x y = 0
    · rw [if_pos e] at h
      rw [cmpInt_zero e, cmpL_zero l m h]
    · rw [if_neg e] at h
      exact absurd h e
theorem tw_S : TW cfS := (tw_int.comp oc).lex (TW.comp ⟨cmpL_anti, cmpL_trans⟩ bitsL)
theorem bitsL_inj {s t : Nat} (hs : s < 2 ^ 64) (ht : t < 2 ^ 64) (h : bitsL s = bitsL t) : s = t := by
  refine Nat.eq_of_testBit_eq fun i => ?_
  have h1 := mem_bitsL hs (n := (i : Int))
  have h2 := mem_bitsL ht (n := (i : Int))
  rw [h] at h1
  simp only [Int.toNat_natCast, Int.natCast_nonneg, true_and] at h1 h2
  exact Bool.eq_iff_iff.2 (h1.symm.trans h2)
theorem cfS_zero {s t : Nat} (hs : s < 2 ^ 64) (ht : t < 2 ^ 64) (h : cfS s t = 0) : s = t := by
  unfold cfS at h
  by_cases e : Lib.compareInt (oc s) (oc t) = 0
  · rw [if_pos e] at h
    exact bitsL_inj hs ht (cmpL_zero _ _ h)
  · rw [if_neg e] at h
    exact absurd h e
/-- A set, as the program's numbers hold it. -/
abbrev BS := {s : Nat // s < 18446744073709551616}
instance : Inhabited BS := ⟨⟨0, by decide⟩⟩
def encS (s : BS) : Value := .int .u64 s.1
def cfB (x y : BS) : Int := cfS x.1 y.1
theorem ltB (x y : BS) : ltOf cfB x y = decide (cfS x.1 y.1 < 0) := rfl
theorem swoS : SWO (ltOf cfB) := (tw_S.comp (fun x : BS => x.1)).swo
theorem totS (x y : BS) (h1 : ltOf cfB x y = false) (h2 : ltOf cfB y x = false) : x = y := by
  rw [ltB, decide_eq_false_iff_not] at h1 h2
  have := tw_S.anti x.1 y.1
  exact Subtype.ext (cfS_zero x.2 y.2 (by omega))
/-- Sets in order. -/
def sortS (l : List BS) : List BS := l.mergeSort fun x y => !(ltOf cfB) y x
theorem sortS_perm (l : List BS) : (sortS l).Perm l := List.mergeSort_perm l _
theorem sortS_len (l : List BS) : (sortS l).length = l.length := (sortS_perm l).length_eq
theorem sortS_sorted (l : List BS) : (sortS l).Pairwise fun x y => cfB x y ≤ 0 := by
  have h := List.pairwise_mergeSort (le := fun x y : BS => !(ltOf cfB) y x) (fun a b c h1 h2 => by
    simp only [Bool.not_eq_true'] at *; exact swoS.ntrans _ _ _ h2 h1) (fun a b => by
    rw [ltB, ltB]
    simp only [Bool.or_eq_true, Bool.not_eq_true', decide_eq_false_iff_not]
    have := tw_S.anti a.1 b.1
    omega) l
  refine h.imp fun {x y} h => ?_
  rw [ltB] at h
  simp only [Bool.not_eq_true', decide_eq_false_iff_not] at h
  have := tw_S.anti x.1 y.1
  show cfS x.1 y.1 ≤ 0
  omega
theorem sortS_uniq {l m : List BS} (hp : m.Perm l) (hs : m.Pairwise fun x y => cfB x y ≤ 0) : sortS l = m :=
  ((sortS_perm l).trans hp.symm).eq_of_pairwise (fun a b _ _ h1 h2 => by
    have := tw_S.anti a.1 b.1
    have h1' : cfS a.1 b.1 ≤ 0 := h1
    have h2' : cfS b.1 a.1 ≤ 0 := h2
    exact Subtype.ext (cfS_zero a.2 b.2 (by omega))) (sortS_sorted l) hs
end Go.Proofs.YtadldndpphdmpaaGreat
namespace Go.Proofs.YtadldndpphdmpaaGreat
open Go.Shelf Go.RowKit Go.Lib Go.Sort


def subG (all : Nat) : Nat → Nat → List Nat
  | 0, s => [s]
  | f + 1, s => if s = 0 then [0] else s :: subG all f ((s - 1) &&& all)
/-- From s on downward, the sets of some nodes. -/
def sub (all s : Nat) : List Nat := subG all s s
theorem subG_eq (all : Nat) : ∀ f s : Nat, s ≤ f → subG all f s = sub all s := by
  intro f
  induction f using Nat.strongRecOn with
  | _ f ih =>
    intro s hs
    match f, s, hs, ih with
    | 0, 0, _, _ => rfl
    | f + 1, 0, _, _ => rw [subG, if_pos rfl]; rfl
    | f + 1, s + 1, hs, ih =>
      have h1 : s &&& all ≤ s := Nat.and_le_left
      unfold sub
      rw [subG, if_neg (by omega), subG, if_neg (by omega), Nat.add_sub_cancel, ih f (by omega) _ (by omega), ih s (by omega) _ (by omega)]
theorem sub_zero (all : Nat) : sub all 0 = [0] := rfl
theorem sub_step (all : Nat) {s : Nat} (h : s ≠ 0) : sub all s = s :: sub all ((s - 1) &&& all) := by
  obtain ⟨k, rfl⟩ : ∃ k, s = k + 1 := ⟨s - 1, by omega⟩
  have h1 : k &&& all ≤ k := Nat.and_le_left
  rw [Nat.add_sub_cancel, ← subG_eq all k _ h1]
  unfold sub
  rw [subG, if_neg (by omega), Nat.add_sub_cancel]
theorem sub_sub {all : Nat} : ∀ s : Nat, (∀ j, s.testBit j = true → all.testBit j = true) → ∀ x ∈ sub all s, ∀ j, x.testBit j = true → all.testBit j = true := by
  intro s
  induction s using Nat.strongRecOn with
  | _ s ih =>
    intro hs x hx
    by_cases h : s = 0
    · subst h
      rw [sub_zero] at hx
      simp only [List.mem_singleton] at hx
      subst hx
      exact hs
    · rw [sub_step all h] at hx
      rcases List.mem_cons.1 hx with rfl | hx
      · exact hs
      · have h1 : (s - 1) &&& all ≤ s - 1 := Nat.and_le_left
        exact ih _ (by omega) (fun j hj => by rw [Nat.testBit_and] at hj; simp at hj; exact hj.2) x hx
theorem bit_ge {x k j : Nat} (h : x < 2 ^ k) (hj : k ≤ j) : x.testBit j = false := Nat.testBit_lt_two_pow (Nat.lt_of_lt_of_le h (Nat.pow_le_pow_right (by decide) hj))
theorem top_bit {x k : Nat} (h : x < 2 ^ k) (j : Nat) : (2 ^ k + x).testBit j = (decide (k = j) || x.testBit j) := by
  have e : 2 ^ k + x = 2 ^ k * 1 + x := by omega
  rw [e, Nat.two_pow_add_eq_or_of_lt h, Nat.mul_one, Nat.testBit_or, Nat.testBit_two_pow]
theorem and_low {x r k : Nat} (hx : x < 2 ^ k) (hr : r < 2 ^ k) : x &&& (2 ^ k + r) = x &&& r := by
  refine Nat.eq_of_testBit_eq fun j => ?_
  rw [Nat.testBit_and, Nat.testBit_and, top_bit hr]
  by_cases e : k = j
  · subst e; rw [bit_ge hx (Nat.le_refl _)]; simp
  · simp [e]
theorem and_top {x r k : Nat} (hx : x < 2 ^ k) (hr : r < 2 ^ k) : (2 ^ k + x) &&& (2 ^ k + r) = 2 ^ k + (x &&& r) := by
  have hxr : x &&& r < 2 ^ k := Nat.lt_of_le_of_lt Nat.and_le_left hx
  refine Nat.eq_of_testBit_eq fun j => ?_
  rw [Nat.testBit_and, top_bit hx, top_bit hr, top_bit hxr, Nat.testBit_and]
  by_cases e : k = j <;> simp [e]
theorem and_full {r k : Nat} (hr : r < 2 ^ k) : (2 ^ k - 1) &&& r = r := by
  refine Nat.eq_of_testBit_eq fun j => ?_
  rw [Nat.testBit_and, Nat.testBit_two_pow_sub_one]
  by_cases e : j < k
  · simp [e]
  · rw [bit_ge hr (by omega)]; simp
theorem sub_low {r k : Nat} (hr : r < 2 ^ k) : ∀ x : Nat, x < 2 ^ k → sub (2 ^ k + r) x = sub r x := by
  intro x
  induction x using Nat.strongRecOn with
  | _ x ih =>
    intro hx
    by_cases h : x = 0
    · subst h; rfl
    · have h1 : (x - 1) &&& r ≤ x - 1 := Nat.and_le_left
      rw [sub_step _ h, sub_step _ h, and_low (by omega) hr, ih _ (by omega) (by omega)]
theorem sub_top {r k : Nat} (hr : r < 2 ^ k) : ∀ x : Nat, x < 2 ^ k → sub (2 ^ k + r) (2 ^ k + x) = (sub r x).map (2 ^ k + ·) ++ sub r r := by
  intro x
  have hp : 0 < 2 ^ k := Nat.pow_pos (by decide)
  induction x using Nat.strongRecOn with
  | _ x ih =>
    intro hx
    rw [sub_step _ (by omega)]
    by_cases h : x = 0
    · subst h
      rw [Nat.add_zero, and_low (by omega) hr, and_full hr, sub_low hr r hr, sub_zero]
      rfl
    · have h1 : (x - 1) &&& r ≤ x - 1 := Nat.and_le_left
      rw [sub_step r h, show 2 ^ k + x - 1 = 2 ^ k + (x - 1) by omega, and_top (by omega) hr, ih _ (by omega) (by omega)]
      rfl
theorem mod_succ (s k : Nat) : s % 2 ^ (k + 1) = if s.testBit k then 2 ^ k + s % 2 ^ k else s % 2 ^ k := by
  have hr : s % 2 ^ k < 2 ^ k := Nat.mod_lt _ (Nat.pow_pos (by decide))
  refine Nat.eq_of_testBit_eq fun j => ?_
  rw [Nat.testBit_mod_two_pow]
  by_cases h : s.testBit k = true
  · rw [if_pos h, top_bit hr, Nat.testBit_mod_two_pow]
    by_cases e : k = j
    · subst e; simp [h]
    · have : decide (j < k + 1) = decide (j < k) := by rw [decide_eq_decide]; omega
      simp [e, this]
  · rw [if_neg h, Nat.testBit_mod_two_pow]
    by_cases e : k = j
    · subst e; simp [h]
    · have : decide (j < k + 1) = decide (j < k) := by rw [decide_eq_decide]; omega
      rw [this]
theorem sub_len (s : Nat) : ∀ k, (sub (s % 2 ^ k) (s % 2 ^ k)).length = 2 ^ ((List.range k).filter s.testBit).length
  | 0 => by rw [Nat.pow_zero, Nat.mod_one]; rfl
  | k + 1 => by
    have hr : s % 2 ^ k < 2 ^ k := Nat.mod_lt _ (Nat.pow_pos (by decide))
    rw [mod_succ, List.range_succ, List.filter_append, List.length_append]
    by_cases h : s.testBit k = true
    · rw [if_pos h, sub_top hr _ hr, List.length_append, List.length_map, sub_len s k]
      simp [h, Nat.pow_succ]
      omega
    · rw [if_neg h, sub_len s k]
      simp [h]
/-- All sets of some nodes. -/
def subL (all : Nat) : List Nat := sub all all
theorem subL_sub {all : Nat} : ∀ x ∈ subL all, ∀ j, x.testBit j = true → all.testBit j = true := sub_sub all fun _ h => h
theorem subL_len {all : Nat} (h : all < 2 ^ 64) : (subL all).length = 2 ^ (bitsL all).length := by
  have := sub_len all 64
  rw [Nat.mod_eq_of_lt h] at this
  unfold subL bitsL
  rw [this, List.length_map]
theorem nBas_eq (t : List Nd) : nBas t = ((List.range t.length).filter (isBas t)).length := by
  unfold nBas
  have : (t.filter fun x => x.kind == 1).length = (((List.range t.length).map fun i => t[i]?.getD ⟨ByteArray.empty, 0, [], 0, 0⟩).filter fun x => x.kind == 1).length := by
    congr 2
    apply List.ext_getElem?
    intro i
    by_cases hi : i < t.length
    · simp [hi]
    · simp [hi]
  rw [this, List.filter_map, List.length_map]
  congr 1
  refine List.filter_congr fun i hi => ?_
  have hi' : i < t.length := by simpa using hi
  simp only [Function.comp, isBas, List.getElem?_eq_getElem hi', Option.getD_some]
theorem bits_le_bas {t : List Nd} {s : Nat} (hs : Sub t s) : (bitsL s).length ≤ nBas t := by
  rw [nBas_eq]
  unfold bitsL
  rw [List.length_map]
  have h1 : ((List.range 64).filter s.testBit).length ≤ ((List.range 64).filter (isBas t)).length := by
    rw [← List.countP_eq_length_filter, ← List.countP_eq_length_filter]
    exact List.countP_mono_left fun x _ h => hs x h
  refine Nat.le_trans h1 ?_
  have h2 : (List.range 64).filter (isBas t) = ((List.range 64).filter fun i => decide (i < t.length)).filter (isBas t) := by
    rw [List.filter_filter]
    refine List.filter_congr fun i _ => ?_
    by_cases hi : i < t.length
    · simp [hi]
    · simp [hi, isBas_out (Nat.le_of_not_lt hi)]
  rw [h2, ← List.countP_eq_length_filter, ← List.countP_eq_length_filter]
  refine List.Sublist.countP_le ?_
  have h3 : ∀ n m, ((List.range n).filter fun i => decide (i < m)).Sublist (List.range m) := by
    intro n m
    induction n with
    | zero => simp
    | succ n ih =>
      by_cases hnm : n < m
      · have e : ((List.range (n + 1)).filter fun i => decide (i < m)) = List.range (n + 1) := List.filter_eq_self.2 fun i hi => by simp at hi ⊢; omega
        rw [e]
        exact List.range_sublist.2 (by omega)
      · rw [List.range_succ, List.filter_append]
        simpa [hnm] using ih
  exact h3 _ _
theorem subL_short {t : List Nd} (h : TrOk t) {s : Nat} (hs : Sub t s) (h64 : s < 2 ^ 64) : (subL s).length ≤ 1024 := by
  rw [subL_len h64]
  exact Nat.le_trans (Nat.pow_le_pow_right (by decide) (Nat.le_trans (bits_le_bas hs) h.b10)) (by decide)

/-- A set without one node. -/
def sub1 (s i : Nat) : Nat := diffN s (withN 0 i)
/-- Is something so for a set, and for none that is less by one node? -/
def minB (p : Nat → Bool) (s : Nat) : Bool := p s && !(bitsL s).any fun i => p (sub1 s i.toNat)
def insN (x : Nat) : List Nat → List Nat
  | [] => [x]
  | y :: l => if cfS x y ≤ 0 then x :: y :: l else y :: insN x l
def sortN (l : List Nat) : List Nat := l.foldr insN []
/-- The least sets, of all sets of some nodes. -/
def leastN (p : Nat → Bool) (all : Nat) : List Nat := sortN ((subL all).filter (minB p))

def insB (x : BS) : List BS → List BS
  | [] => [x]
  | y :: l => if cfB x y ≤ 0 then x :: y :: l else y :: insB x l
theorem insB_map (x : BS) : ∀ l : List BS, (insB x l).map (·.1) = insN x.1 (l.map (·.1))
  | [] => rfl
  | y :: l => by
    rw [insB, List.map_cons, insN]
    by_cases h : cfB x y ≤ 0
    · rw [if_pos h, if_pos (show cfS x.1 y.1 ≤ 0 from h)]; rfl
    · rw [if_neg h, if_neg (show ¬ cfS x.1 y.1 ≤ 0 from h), List.map_cons, insB_map x l]
theorem insB_perm (x : BS) : ∀ l : List BS, (insB x l).Perm (x :: l)
  | [] => List.Perm.refl _
  | y :: l => by
    rw [insB]
    by_cases h : cfB x y ≤ 0
    · rw [if_pos h]
    · rw [if_neg h]
      exact ((insB_perm x l).cons y).trans (List.Perm.swap x y l)
theorem twB : TW cfB := tw_S.comp fun x : BS => x.1
theorem insB_sorted (x : BS) : ∀ {l : List BS}, (l.Pairwise fun a b => cfB a b ≤ 0) → (insB x l).Pairwise fun a b => cfB a b ≤ 0
  | [], _ => by simp [insB]
  | y :: l, h => by
    have hs := List.pairwise_cons.1 h
    rw [insB]
    by_cases h1 : cfB x y ≤ 0
    · rw [if_pos h1]
      refine List.pairwise_cons.2 ⟨fun z hz => ?_, h⟩
      rcases List.mem_cons.1 hz with rfl | hz
      · exact h1
      · exact twB.trans _ _ _ h1 (hs.1 z hz)
    · rw [if_neg h1]
      refine List.pairwise_cons.2 ⟨fun z hz => ?_, insB_sorted x hs.2⟩
      rcases List.mem_cons.1 ((insB_perm x l).mem_iff.1 hz) with rfl | hz
      · have := twB.anti z y; omega
      · exact hs.1 z hz
theorem sortB_eq (l : List BS) : (sortS l).map (·.1) = sortN (l.map (·.1)) := by
  have hp : ∀ l : List BS, (l.foldr insB []).Perm l := by
    intro l
    induction l with
    | nil => exact List.Perm.refl _
    | cons x l ih => exact (insB_perm x _).trans (ih.cons x)
  have hs : ∀ l : List BS, (l.foldr insB []).Pairwise fun a b => cfB a b ≤ 0 := by
    intro l
    induction l with
    | nil => exact .nil
    | cons x l ih => exact insB_sorted x ih
  have hm : ∀ l : List BS, (l.foldr insB []).map (·.1) = sortN (l.map (·.1)) := by
    intro l
    induction l with
    | nil => rfl
    | cons x l ih => rw [List.foldr_cons, insB_map, ih]; rfl
  rw [sortS_uniq (hp l) (hs l), hm]
def toBS (s : Nat) : BS := ⟨s % 18446744073709551616, Nat.mod_lt _ (by decide)⟩
theorem toBS_map {l : List Nat} (h : ∀ s ∈ l, s < 18446744073709551616) : (l.map toBS).map (·.1) = l := by
  rw [List.map_map]
  refine (List.map_congr_left fun s hs => ?_).trans (List.map_id l)
  exact Nat.mod_eq_of_lt (h s hs)
end Go.Proofs.YtadldndpphdmpaaGreat
