/- Season, the program's and the reference's; has. -/
import Derived.Test.YtkkajemahehoaaaR2
namespace Go.Proofs.Ytkkajemahehoaaa
open Go.RowKit

theorem sea_index (g : Nat → Bool) (k : Nat) (hk : k < 365) (w : World) : (Instr.index 109 (.agg (seaA g 365)) (.int .i64 (k : Int))).run Try.prog w = .ok (.bool (g k)) w := by
  have h1 := seaA_get g 365 k hk
  simp [Instr.index, run_underlying Try.underlying109, asIntOf, go_sem, part, h1, hk]

/-- The numbers from 0 on, below n, for which P holds. -/
def pickL (P : Int → Bool) (n : Nat) : List Int := (ordL n).filter P
theorem pickL_succ (P : Int → Bool) (n : Nat) : pickL P (n + 1) = if P n then pickL P n ++ [(n : Int)] else pickL P n := by
  unfold pickL ordL
  rw [List.range_succ, List.map_append, List.filter_append]
  simp only [List.map_cons, List.map_nil, List.filter_cons, List.filter_nil]
  split <;> simp
theorem pickL_len (P : Int → Bool) (n : Nat) : (pickL P n).length ≤ n := by
  unfold pickL ordL
  refine Nat.le_trans (List.length_filter_le _ _) (by simp)
theorem mem_pickL {P : Int → Bool} {n : Nat} {x : Int} : x ∈ pickL P n ↔ (0 ≤ x ∧ x < n) ∧ P x = true := by
  unfold pickL ordL
  simp only [List.mem_filter, List.mem_map, List.mem_range]
  constructor
  · rintro ⟨⟨i, hi, rfl⟩, hp⟩; exact ⟨by omega, hp⟩
  · rintro ⟨h, hp⟩; exact ⟨⟨x.toNat, by omega, by omega⟩, hp⟩
theorem pickL_sorted (P : Int → Bool) (n : Nat) : (pickL P n).Pairwise (· < ·) := by
  unfold pickL ordL
  refine List.Pairwise.filter _ ?_
  rw [List.pairwise_map]
  exact List.pairwise_lt_range.imp (fun h => by omega)

/-- What Season returns. -/
def seasonTop (r : Rec) (wd lvl : Int) (al : Int × Int) : List Int × Int :=
  if (chkRec r).2 != 0 then ([], (chkRec r).2)
  else if outB wd 1 365 || highB lvl || wildB al then ([], 7)
  else (pickL (seasonB r wd lvl al) 365, 0)
def ListErrPost (x : List Int × Int) (w : World) (e : Ending) (w' : World) : Prop :=
  ∃ v, e = .returned (.tuple #[v, .int .i64 x.2]) ∧ w'.ownsRow w.heap.size 3 1 v x.1.length (x.1.map (Value.int .i64)) ∧ Below w.heap.size w w'

structure SeaOK (r : Rec) (wd lvl : Int) (al : Int × Int) : Prop where
  rc : RecAll r
  ro : RecOK r
  w0 : 1 ≤ wd
  w1 : wd ≤ 365
  l0 : -20000 ≤ lvl
  l1 : lvl ≤ 20000
  a0 : 0 ≤ al.1
  a1 : al.1 ≤ al.2
  a2 : 1 ≤ al.2
  a3 : al.2 ≤ 200
theorem wildB_false {a : Int × Int} (h : wildB a = false) : (1 ≤ a.2 ∧ a.2 ≤ 200) ∧ 0 ≤ a.1 ∧ a.1 ≤ a.2 := by
  unfold wildB at h
  simp only [Bool.or_eq_false_iff] at h
  exact ⟨outB_false h.1, outB_false h.2⟩
theorem seasonTop_ok {r : Rec} {wd lvl : Int} {al : Int × Int} (h : SeaOK r wd lvl al) : seasonTop r wd lvl al = (pickL (seasonB r wd lvl al) 365, 0) := by
  unfold seasonTop
  rw [if_neg (by rw [h.rc.chk]; simp), if_neg]
  unfold highB wildB
  rw [outB_eq_false.2 ⟨h.w0, h.w1⟩, outB_eq_false.2 ⟨h.l0, h.l1⟩, outB_eq_false.2 ⟨h.a2, h.a3⟩, outB_eq_false.2 ⟨h.a0, h.a1⟩]
  simp
theorem seaOK_of {r : Rec} {wd lvl : Int} {al : Int × Int} (h : (seasonTop r wd lvl al).2 = 0) : SeaOK r wd lvl al := by
  unfold seasonTop at h
  by_cases h1 : ((chkRec r).2 != 0) = true
  · rw [if_pos h1] at h; simp at h1; exact absurd h h1
  · rw [if_neg h1] at h
    by_cases h2 : (outB wd 1 365 || highB lvl || wildB al) = true
    · rw [if_pos h2] at h; simp at h
    · simp only [Bool.not_eq_true, Bool.or_eq_false_iff] at h2
      have a := outB_false h2.1.1
      have b := outB_false h2.1.2
      have c := wildB_false h2.2
      have h3 : (chkRec r).2 = 0 := by simpa using h1
      exact ⟨recAll_of h3, recOK_of h3, a.1, a.2, b.1, b.2, c.2.1, c.2.2, c.1.1, c.1.2⟩

set_option maxRecDepth 100000 in
set_option maxHeartbeats 2000000 in
theorem Season_ok (r : Rec) (wd lvl : Int) (al : Int × Int) (A : Option Addr) (n c : Nat) (w : World) (hr : RdH w A n r.highs) (hS : SeaOK r wd lvl al) :
    Calls Try.prog 29 #[.agg #[.int .i64 r.first, .int .i64 r.years, .slice A n c], .int .i64 wd, .int .i64 lvl, .agg #[.int .i64 al.1, .int .i64 al.2]] w (ListErrPost (pickL (seasonB r wd lvl al) 365, 0) w) := by
  obtain ⟨i0, hi, hz0, hz1, hz2⟩ := info_parts info3
  obtain ⟨b1, b2, b3⟩ := two w #[.int .i64 r.first, .int .i64 r.years, .slice A n c] #[.int .i64 al.1, .int .i64 al.2] 24 27
  have HC := checkRecord_rec r A n c _ (hr.below b1)
  rw [hS.rc.chk] at HC
  have HSe : Hid (∀ W : World, Below w.heap.size w W → Calls Try.prog 74 #[.agg #[.int .i64 r.first, .int .i64 r.years, .slice A n c], .int .i64 wd, .int .i64 lvl, .agg #[.int .i64 al.1, .int .i64 al.2]] W fun e w' => e = .returned (.agg (seaA (fun i => seasonB r wd lvl al i) 365)) ∧ Below W.heap.size W w') := fun W hW =>
    season_any r wd lvl al A n c W hS.ro (hr.below hW) hS.w0 hS.w1 hS.a0 (by have := hS.a1; have := hS.a3; omega) (by have := hS.a2; omega) (by have := hS.a3; omega)
  have g1 : outB wd 1 365 = false := outB_eq_false.2 ⟨hS.w0, hS.w1⟩
  have g2 : highB lvl = false := outB_eq_false.2 ⟨hS.l0, hS.l1⟩
  have g3 : wildB (al.1, al.2) = false := by unfold wildB; rw [outB_eq_false.2 ⟨hS.a2, hS.a3⟩, outB_eq_false.2 ⟨hS.a0, hS.a1⟩]; rfl
  have HB1 := Lib.hid b1; have K1 := Lib.hid b2; have K2 := Lib.hid b3
  have HCH := Lib.hid HC
  clear HC b1 b2 b3 hr hS
  generalize seasonB r wd lvl al = P at *
  go_enter Try.func29, Try.ntmps29
  go_wp2_with fail
  refine HCH.out.mono ?_
  rintro e W2 ⟨rfl, hb2⟩
  have HB2 : Hid (Below w.heap.size w W2) := HB1.out.trans (hb2.mono HB1.out.size)
  have L1 := Lib.hid (K1.out.later hb2)
  have L2 := Lib.hid (K2.out.later hb2)
  clear hb2
  have k0 := L2.out.cell (i := 0) rfl
  have k1 := L2.out.cell (i := 1) rfl
  have hsz := L2.out.lt
  go_wp2_with (first | (go_at_call 48; refine (out_any _ _ _ _).mono ?_; rintro e w' ⟨rfl, rfl⟩) | (go_at_call 50; refine (high_any _ _).mono ?_; rintro e w' ⟨rfl, rfl⟩))
  refine (wild_any al.1 al.2 _).mono ?_
  rintro e W3 ⟨rfl, hb3⟩
  have HB3 : Hid (Below w.heap.size w W3) := HB2.out.trans (hb3.mono HB2.out.size)
  have M1 := L1.out.later hb3
  have M2 := L2.out.later hb3
  clear hb3 k0 k1 hsz
  have j0 := M1.cell (i := 0) rfl
  have j1 := M1.cell (i := 1) rfl
  have j2 := M1.cell (i := 2) rfl
  have j3 := M2.cell (i := 0) rfl
  have j4 := M2.cell (i := 1) rfl
  have hsz := M2.lt
  clear M1 M2
  go_wp2_with fail
  refine (HSe.out _ HB3.out).mono ?_
  rintro e W4 ⟨rfl, hb4⟩
  have HB4 : Hid (Below w.heap.size w W4) := HB3.out.trans (hb4.mono HB3.out.size)
  clear hb4 j0 j1 j2 j3 j4 hsz
  have HIx := Lib.hid (fun (k : Nat) (hk : k < 365) (W : World) => sea_index (fun i : Nat => P (i : Int)) k hk W)
  generalize seaA (fun i : Nat => P (i : Int)) 365 = SA at *
  go_wp2_with fail
  go_loopw [8, 35] (fun v i wr => ∃ k : Nat, k ≤ 365 ∧ i = .int .i64 k ∧ wr.ownsRow w.heap.size 3 1 v (pickL P k).length ((pickL P k).map (Value.int .i64)) ∧ Below w.heap.size w wr) (fun _ i _ => 365 - (intOf i).toNat)
  case atStart => exact ⟨0, Nat.zero_le _, rfl, World.ownsRow_nil _ _ _ _, HB4.out⟩
  case round =>
    obtain ⟨k, hk, rfl, hown, hB⟩ := hrel
    have HB := Lib.hid hB; clear hB
    have hpl := pickL_len P k
    by_cases hlt : k < 365
    · have hix := HIx.out k hlt
      have hkl : (k : Int) < 365 := by omega
      have HS := Lib.hid (pickL_succ P k)
      cases hP : P (k : Int)
      · have HS2 : Hid (pickL P (k + 1) = pickL P k) := by rw [HS.out, hP]; rfl
        rw [hP] at hix
        clear hP HS
        go_wp2
        go_roundw
        case rel => exact ⟨k + 1, by omega, by go_num, by rw [HS2.out]; exact hown, HB.out⟩
        case measure => simp [intOf]; omega
      · have HS2 : Hid (pickL P (k + 1) = pickL P k ++ [(k : Int)]) := by rw [HS.out, hP]; rfl
        rw [hP] at hix
        clear hP HS
        go_wp2_with (at_builtin; refine wpList_append_own _ rfl _ _ 33 rfl w.heap.size 3 i0 (.int .i64 0) 1 8 Try.underlying33 hi hz0 hz1 hz2 rfl (by decide) _ _ _ rfl (hown.alloc _) ⟨wr.heap.size, 0, none⟩ 1 1 [.int .i64 (k : Int)] rfl rfl (cell_one_new _ _ _) (by simp [Value.oneCell']) (by unfold maxLen; omega) (by omega) (by have := HB.out.size; simp; omega) ?_; intro v' w2 hown' hgrow _; have HB2 : Hid (Below w.heap.size w w2) := ((HB.out.alloc HB.out.size _).grown hgrow (by have := HB.out.size; simp; omega) (fun j e => by have := (hown.lt j e).1; omega)); clear hgrow)
        go_roundw
        case rel => exact ⟨k + 1, by omega, by go_num, by rw [HS2.out, List.length_append, List.map_append]; exact hown', HB2.out⟩
        case measure => simp [intOf]; omega
    · obtain rfl : k = 365 := by omega
      go_wp2
      go_ret2
      exact ⟨_, rfl, hown, HB.out⟩
theorem listErr_nil (x : Int) (w w' : World) (hb : Below w.heap.size w w') : ListErrPost ([], x) w (.returned (.tuple #[.slice none 0 0, .int .i64 x])) w' := ⟨_, rfl, World.ownsRow_nil _ _ _ _, hb⟩

set_option maxRecDepth 100000 in
set_option maxHeartbeats 2000000 in
theorem Season_err (r : Rec) (wd lvl : Int) (al : Int × Int) (A : Option Addr) (n c : Nat) (w : World) (hr : RdH w A n r.highs) (he : (seasonTop r wd lvl al).2 ≠ 0) :
    Calls Try.prog 29 #[.agg #[.int .i64 r.first, .int .i64 r.years, .slice A n c], .int .i64 wd, .int .i64 lvl, .agg #[.int .i64 al.1, .int .i64 al.2]] w (ListErrPost (seasonTop r wd lvl al) w) := by
  obtain ⟨b1, b2, b3⟩ := two w #[.int .i64 r.first, .int .i64 r.years, .slice A n c] #[.int .i64 al.1, .int .i64 al.2] 24 27
  have HC := Lib.hid (checkRecord_rec r A n c _ (hr.below b1))
  have HB1 := Lib.hid b1; have K2 := Lib.hid b3
  clear b1 b2 b3 hr
  unfold seasonTop at he ⊢
  by_cases h1 : ((chkRec r).2 != 0) = true
  · rw [if_pos h1]
    clear he
    generalize chkRec r = X at *
    obtain ⟨x1, x2⟩ := X
    have h1' : (x2 != 0) = true := h1
    go_enter Try.func29, Try.ntmps29
    go_wp2_with fail
    refine HC.out.mono ?_
    rintro e W2 ⟨rfl, hb2⟩
    have HB2 : Hid (Below w.heap.size w W2) := HB1.out.trans (hb2.mono HB1.out.size)
    clear hb2
    go_wp2_with fail
    go_ret2
    exact listErr_nil _ _ _ HB2.out
  · rw [if_neg h1] at he ⊢
    have hc : (chkRec r).2 = 0 := by simpa using h1
    rw [hc] at HC
    by_cases h2 : (outB wd 1 365 || highB lvl || wildB al) = true
    · rw [if_pos h2]
      clear he h1 hc
      generalize (chkRec r).1 = x1 at *
      have g3' : wildB al = wildB (al.1, al.2) := rfl
      rw [g3'] at h2
      clear g3'
      rcases or3_cases h2 with g1 | ⟨g1, g2⟩ | ⟨g1, g2, g3⟩
      all_goals
        clear h2
        go_enter Try.func29, Try.ntmps29
        go_wp2_with fail
        refine HC.out.mono ?_
        rintro e W2 ⟨rfl, hb2⟩
        have HB2 : Hid (Below w.heap.size w W2) := HB1.out.trans (hb2.mono HB1.out.size)
        have L2 := K2.out.later hb2
        clear hb2
        have k0 := L2.cell (i := 0) rfl
        have k1 := L2.cell (i := 1) rfl
        have hsz := L2.lt
        clear L2
        go_wp2_with (first | (go_at_call 48; refine (out_any _ _ _ _).mono ?_; rintro e w' ⟨rfl, rfl⟩) | (go_at_call 50; refine (high_any _ _).mono ?_; rintro e w' ⟨rfl, rfl⟩) | (go_at_call 51; refine (wild_any al.1 al.2 _).mono ?_; rintro e W3 ⟨rfl, hb3⟩; have HB3 := Lib.hid (HB2.out.trans (hb3.mono HB2.out.size)); clear hb3 HB2; have HB2 := HB3))
        go_ret2
        exact listErr_nil _ _ _ HB2.out
    · rw [if_neg h2] at he
      exact absurd rfl he

theorem Season_any (r : Rec) (wd lvl : Int) (al : Int × Int) (A : Option Addr) (n c : Nat) (w : World) (hr : RdH w A n r.highs) :
    Calls Try.prog 29 #[.agg #[.int .i64 r.first, .int .i64 r.years, .slice A n c], .int .i64 wd, .int .i64 lvl, .agg #[.int .i64 al.1, .int .i64 al.2]] w (ListErrPost (seasonTop r wd lvl al) w) := by
  by_cases he : (seasonTop r wd lvl al).2 = 0
  · have h := seaOK_of he
    rw [seasonTop_ok h]
    exact Season_ok r wd lvl al A n c w hr h
  · exact Season_err r wd lvl al A n c w hr he

set_option maxRecDepth 100000 in
set_option maxHeartbeats 2000000 in
theorem refSeason_ok (r : Rec) (wd lvl : Int) (al : Int × Int) (A : Option Addr) (n c : Nat) (w : World) (hr : RdH w A n r.highs) (hS : SeaOK r wd lvl al) :
    Calls Try.prog 30 #[.agg #[.int .i64 r.first, .int .i64 r.years, .slice A n c], .int .i64 wd, .int .i64 lvl, .agg #[.int .i64 al.1, .int .i64 al.2]] w (ListErrPost (pickL (seasonB r wd lvl al) 365, 0) w) := by
  obtain ⟨i0, hi, hz0, hz1, hz2⟩ := info_parts info3
  obtain ⟨b1, b2, b3⟩ := two w #[.int .i64 r.first, .int .i64 r.years, .slice A n c] #[.int .i64 al.1, .int .i64 al.2] 24 27
  have HC := refCheckRecord_any r A n c _ (hr.below b1)
  rw [hS.rc.chk] at HC
  have HSe : Hid (∀ (W : World) (d : Int), Below w.heap.size w W → 0 ≤ d → d ≤ 364 → Calls Try.prog 76 #[.agg #[.int .i64 r.first, .int .i64 r.years, .slice A n c], .int .i64 wd, .int .i64 lvl, .agg #[.int .i64 al.1, .int .i64 al.2], .int .i64 d] W fun e w' => e = .returned (.bool (seasonB r wd lvl al d)) ∧ Below W.heap.size W w') := fun W d hW d0 d1 =>
    inSeason_any r wd lvl al d A n c W hS.ro (hr.below hW) hS.w0 hS.w1 d0 d1 hS.a0 (by have := hS.a1; have := hS.a3; omega) (by have := hS.a2; omega) (by have := hS.a3; omega)
  have g1 : outB wd 1 365 = false := outB_eq_false.2 ⟨hS.w0, hS.w1⟩
  have g2 : highB lvl = false := outB_eq_false.2 ⟨hS.l0, hS.l1⟩
  have g3 : wildB (al.1, al.2) = false := by unfold wildB; rw [outB_eq_false.2 ⟨hS.a2, hS.a3⟩, outB_eq_false.2 ⟨hS.a0, hS.a1⟩]; rfl
  have HB1 := Lib.hid b1; have K1 := Lib.hid b2; have K2 := Lib.hid b3
  have HCH := Lib.hid HC
  clear HC b1 b2 b3 hr hS
  generalize seasonB r wd lvl al = P at *
  go_enter Try.func30, Try.ntmps30
  go_wp2_with fail
  refine HCH.out.mono ?_
  rintro e W2 ⟨rfl, hb2⟩
  have HB2 : Hid (Below w.heap.size w W2) := HB1.out.trans (hb2.mono HB1.out.size)
  have L1 := Lib.hid (K1.out.later hb2)
  have L2 := Lib.hid (K2.out.later hb2)
  clear hb2
  have k0 := L2.out.cell (i := 0) rfl
  have k1 := L2.out.cell (i := 1) rfl
  have hsz := L2.out.lt
  go_wp2_with (first | (go_at_call 53; refine (in_any _ _ _ _).mono ?_; rintro e w' ⟨rfl, rfl⟩) | (go_at_call 75; refine (level_any _ _).mono ?_; rintro e w' ⟨rfl, rfl⟩))
  refine (allowed_any al.1 al.2 _).mono ?_
  rintro e W3 ⟨rfl, hb3⟩
  have HB3 : Hid (Below w.heap.size w W3) := HB2.out.trans (hb3.mono HB2.out.size)
  have M1 := Lib.hid (L1.out.later hb3)
  have M2 := Lib.hid (L2.out.later hb3)
  clear hb3 k0 k1 hsz L1 L2
  go_wp2_with fail
  go_loopw [12, 13] (fun v i wr => ∃ k : Nat, k ≤ 365 ∧ i = .int .i64 k ∧ wr.ownsRow W3.heap.size 3 1 v (pickL P k).length ((pickL P k).map (Value.int .i64)) ∧ Below W3.heap.size W3 wr) (fun _ i _ => 365 - (intOf i).toNat)
  case atStart => exact ⟨0, Nat.zero_le _, rfl, World.ownsRow_nil _ _ _ _, Below.refl _ _⟩
  case round =>
    obtain ⟨k, hk, rfl, hown, hB⟩ := hrel
    have HB := Lib.hid hB; clear hB
    have hpl := pickL_len P k
    have HBw : Hid (Below w.heap.size w wr) := HB3.out.trans (HB.out.mono HB3.out.size)
    have N1 := M1.out.later HB.out
    have N2 := M2.out.later HB.out
    have j0 := N1.cell (i := 0) rfl
    have j1 := N1.cell (i := 1) rfl
    have j2 := N1.cell (i := 2) rfl
    have j3 := N2.cell (i := 0) rfl
    have j4 := N2.cell (i := 1) rfl
    have hsz := N2.lt
    clear N1 N2
    by_cases hlt : k < 365
    · have hkl : (k : Int) < 365 := by omega
      have HS := Lib.hid (pickL_succ P k)
      go_wp2_with fail
      refine (HSe.out _ (k : Int) HBw.out (by omega) (by omega)).mono ?_
      rintro e W5 ⟨rfl, hb5⟩
      have HB5 : Hid (Below W3.heap.size W3 W5) := HB.out.trans (hb5.mono HB.out.size)
      have hown5 := hown.kept (grown_of_below hb5 none) (Classical.em _)
      clear hb5 hown
      cases hP : P (k : Int)
      · have HS2 : Hid (pickL P (k + 1) = pickL P k) := by rw [HS.out, hP]; rfl
        clear hP HS
        go_wp2
        go_roundw
        case rel => exact ⟨k + 1, by omega, by go_num, by rw [HS2.out]; exact hown5, HB5.out⟩
        case measure => simp [intOf]; omega
      · have HS2 : Hid (pickL P (k + 1) = pickL P k ++ [(k : Int)]) := by rw [HS.out, hP]; rfl
        clear hP HS
        go_wp2_with (at_builtin; refine wpList_append_own _ rfl _ _ 33 rfl W3.heap.size 3 i0 (.int .i64 0) 1 8 Try.underlying33 hi hz0 hz1 hz2 rfl (by decide) _ _ _ rfl (hown5.alloc _) ⟨W5.heap.size, 0, none⟩ 1 1 [.int .i64 (k : Int)] rfl rfl (cell_one_new _ _ _) (by simp [Value.oneCell']) (by unfold maxLen; omega) (by omega) (by have := HB5.out.size; simp; omega) ?_; intro v' w2 hown' hgrow _; have HB6 : Hid (Below W3.heap.size W3 w2) := ((HB5.out.alloc HB5.out.size _).grown hgrow (by have := HB5.out.size; simp; omega) (fun j e => by have := (hown5.lt j e).1; omega)); clear hgrow)
        go_roundw
        case rel => exact ⟨k + 1, by omega, by go_num, by rw [HS2.out, List.length_append, List.map_append]; exact hown', HB6.out⟩
        case measure => simp [intOf]; omega
    · obtain rfl : k = 365 := by omega
      go_wp2
      go_ret2
      exact ⟨_, rfl, own_lower hown HB3.out.size, HBw.out⟩

set_option maxRecDepth 100000 in
set_option maxHeartbeats 2000000 in
theorem refSeason_err (r : Rec) (wd lvl : Int) (al : Int × Int) (A : Option Addr) (n c : Nat) (w : World) (hr : RdH w A n r.highs) (he : (seasonTop r wd lvl al).2 ≠ 0) :
    Calls Try.prog 30 #[.agg #[.int .i64 r.first, .int .i64 r.years, .slice A n c], .int .i64 wd, .int .i64 lvl, .agg #[.int .i64 al.1, .int .i64 al.2]] w (ListErrPost (seasonTop r wd lvl al) w) := by
  obtain ⟨b1, b2, b3⟩ := two w #[.int .i64 r.first, .int .i64 r.years, .slice A n c] #[.int .i64 al.1, .int .i64 al.2] 24 27
  have HC := Lib.hid (refCheckRecord_any r A n c _ (hr.below b1))
  have HB1 := Lib.hid b1; have K2 := Lib.hid b3
  clear b1 b2 b3 hr
  unfold seasonTop at he ⊢
  by_cases h1 : ((chkRec r).2 != 0) = true
  · rw [if_pos h1]
    clear he
    generalize chkRec r = X at *
    obtain ⟨x1, x2⟩ := X
    have h1' : (x2 != 0) = true := h1
    have h1'' : (x2 == 0) = false := by simpa using h1'
    go_enter Try.func30, Try.ntmps30
    go_wp2_with fail
    refine HC.out.mono ?_
    rintro e W2 ⟨rfl, hb2⟩
    have HB2 : Hid (Below w.heap.size w W2) := HB1.out.trans (hb2.mono HB1.out.size)
    clear hb2
    go_wp2_with fail
    go_ret2
    exact listErr_nil _ _ _ HB2.out
  · rw [if_neg h1] at he ⊢
    have hc : (chkRec r).2 = 0 := by simpa using h1
    rw [hc] at HC
    by_cases h2 : (outB wd 1 365 || highB lvl || wildB al) = true
    · rw [if_pos h2]
      clear he h1 hc
      generalize (chkRec r).1 = x1 at *
      have g3' : wildB al = wildB (al.1, al.2) := rfl
      rw [g3'] at h2
      clear g3'
      rcases or3_cases h2 with g1 | ⟨g1, g2⟩ | ⟨g1, g2, g3⟩
      all_goals
        clear h2
        go_enter Try.func30, Try.ntmps30
        go_wp2_with fail
        refine HC.out.mono ?_
        rintro e W2 ⟨rfl, hb2⟩
        have HB2 : Hid (Below w.heap.size w W2) := HB1.out.trans (hb2.mono HB1.out.size)
        have L2 := K2.out.later hb2
        clear hb2
        have k0 := L2.cell (i := 0) rfl
        have k1 := L2.cell (i := 1) rfl
        have hsz := L2.lt
        clear L2
        go_wp2_with (first | (go_at_call 53; refine (in_any _ _ _ _).mono ?_; rintro e w' ⟨rfl, rfl⟩) | (go_at_call 75; refine (level_any _ _).mono ?_; rintro e w' ⟨rfl, rfl⟩) | (go_at_call 54; refine (allowed_any al.1 al.2 _).mono ?_; rintro e W3 ⟨rfl, hb3⟩; have HB3 := Lib.hid (HB2.out.trans (hb3.mono HB2.out.size)); clear hb3 HB2; have HB2 := HB3))
        go_ret2
        exact listErr_nil _ _ _ HB2.out
    · rw [if_neg h2] at he
      exact absurd rfl he

theorem refSeason_any (r : Rec) (wd lvl : Int) (al : Int × Int) (A : Option Addr) (n c : Nat) (w : World) (hr : RdH w A n r.highs) :
    Calls Try.prog 30 #[.agg #[.int .i64 r.first, .int .i64 r.years, .slice A n c], .int .i64 wd, .int .i64 lvl, .agg #[.int .i64 al.1, .int .i64 al.2]] w (ListErrPost (seasonTop r wd lvl al) w) := by
  by_cases he : (seasonTop r wd lvl al).2 = 0
  · have h := seaOK_of he
    rw [seasonTop_ok h]
    exact refSeason_ok r wd lvl al A n c w hr h
  · exact refSeason_err r wd lvl al A n c w hr he

set_option maxHeartbeats 1000000 in
theorem has_any (xs : List Int) (y : Int) (A : Option Addr) (n c : Nat) (w : World) (hx : RdI w A n xs) (hn : n ≤ 1000000) :
    Calls Try.prog 31 #[.slice A n c, .int .i64 y] w fun e w' => e = .returned (.bool (decide (y ∈ xs))) ∧ Below w.heap.size w w' := by
  have HX := Lib.hid hx; have hl := hx.1; clear hx
  go_enter Try.func31, Try.ntmps31
  go_wp2
  go_loopw [5] (fun i wr => ∃ k : Nat, k ≤ n ∧ i = .int .i64 k ∧ Below w.heap.size w wr ∧ decide (y ∈ xs.take k) = false) (fun i _ => n - (intOf i).toNat)
  case atStart => exact ⟨0, Nat.zero_le _, rfl, Below.refl _ _, by simp⟩
  case round =>
    obtain ⟨k, hk, rfl, hB, hE⟩ := hrel
    have HB := Lib.hid hB; clear hB
    have HE := Lib.hid hE; clear hE
    by_cases hlt : k < n
    · obtain ⟨v, ad, hv, rfl, cv⟩ := rdI_get (HX.out.below HB.out) hlt
      have hkl : (k : Int) < (n : Int) := by omega
      have HM : Hid (decide (y ∈ xs.take (k + 1)) = (v == y)) := by
        obtain ⟨hk', rfl⟩ := List.getElem?_eq_some_iff.1 hv
        have := HE.out
        rw [decide_eq_false_iff_not] at this
        rw [List.take_succ_eq_append_getElem hk']
        show decide _ = _
        rw [Bool.eq_iff_iff]
        simp only [List.mem_append, List.mem_singleton, decide_eq_true_eq, beq_iff_eq, this, false_or]
        exact eq_comm
      have HMem : Hid ((v == y) = true → decide (y ∈ xs) = true) := fun h => by
        simp at h
        subst h
        simp only [decide_eq_true_eq]
        exact List.mem_of_getElem? hv
      clear hv
      cases hq : (v == y)
      · rw [hq] at HM
        go_wp2
        go_roundw
        case rel => exact ⟨k + 1, by omega, by go_num, HB.out, HM.out⟩
        case measure => simp [intOf]; omega
      · have HM2 := Lib.hid (HMem.out hq)
        go_wp2
        go_ret
        exact ⟨ret_bool HM2.out.symm, HB.out⟩
    · obtain rfl : n = k := by omega
      go_wp2
      go_ret
      have := HE.out
      rw [List.take_of_length_le (by omega)] at this
      exact ⟨ret_bool this.symm, HB.out⟩
end Go.Proofs.Ytkkajemahehoaaa
