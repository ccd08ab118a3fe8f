/- UpkeepDays returns true. -/
import Derived.Test.YtkkajemahehoaaaDr
import Derived.Test.YtkkajemahehoaaaYr
namespace Go.Proofs.Ytkkajemahehoaaa
open Go.RowKit

/-- Of a season with less highs, a greater level and a greater risk that is allowed, each day is in the season. -/
theorem season_less {r u : Rec} {wd lvl lvl' a1 a1' a2 d : Int} (hu : ∀ n l, (riskF u d n l).1 ≤ (riskF r d n l).1 ∧ (riskF u d n l).2 = (riskF r d n l).2) (hl : lvl ≤ lvl') (ha : a1 ≤ a1') (h2 : 0 ≤ a2) (hr : 0 ≤ (riskF r d wd lvl).2) (h : seasonB u wd lvl' (a1', a2) d = true) : seasonB r wd lvl (a1, a2) d = true := by
  unfold seasonB gtB at *
  simp only [decide_eq_true_eq] at *
  obtain ⟨h3, h4⟩ := hu wd lvl'
  obtain ⟨h5, h6⟩ := riskF_level (r := r) (d := d) (n := wd) hl
  rw [h4, h6] at h
  have e1 := Int.mul_le_mul_of_nonneg_right ha hr
  have e2 := Int.mul_le_mul_of_nonneg_right (Int.le_trans h3 h5) h2
  omega

set_option maxRecDepth 100000 in
set_option maxHeartbeats 2000000 in
theorem UpkeepDays_err (r : Rec) (wd lvl a1 a2 dy x0 x1 x2 : Int) (A : Option Addr) (n c : Nat) (w : World) (hr : RdH w A n r.highs) (he : ((seasonTop r wd lvl (a1, a2)).2 != 0) = true) :
    Calls Try.prog 8 #[.agg #[.int .i64 r.first, .int .i64 r.years, .slice A n c], .agg #[.int .i64 wd, .int .i64 lvl, .int .i64 a1, .int .i64 a2, .int .i64 dy], .agg #[.int .u16 x0, .int .u16 x1, .int .u16 x2]] w fun e w' => e = .returned (.bool true) ∧ Below w.heap.size w w' := by
  obtain ⟨b1, b2, b3, b4⟩ := three w #[.int .i64 r.first, .int .i64 r.years, .slice A n c] #[.int .i64 wd, .int .i64 lvl, .int .i64 a1, .int .i64 a2, .int .i64 dy] #[.int .u16 x0, .int .u16 x1, .int .u16 x2] 24 55 56
  have HS := Lib.hid (Season_any r wd lvl (a1, a2) A n c _ (hr.below b1))
  generalize seasonTop r wd lvl (a1, a2) = X at *
  obtain ⟨L, x⟩ := X
  have he' : (x != 0) = true := he
  have HB1 := Lib.hid b1
  clear b1 b2 b3 b4 hr
  go_enter Try.func8, Try.ntmps8
  go_wp2_with fail
  refine HS.out.mono ?_
  rintro e W2 ⟨v, rfl, _, hb2⟩
  have HB2 : Hid (Below w.heap.size w W2) := HB1.out.trans (hb2.mono HB1.out.size)
  clear hb2
  go_wp2_with fail
  refine (Awake_any _).mono ?_
  rintro e W3 ⟨rfl, hb3⟩
  have HB3 := Lib.hid (HB2.out.trans (hb3.mono HB2.out.size))
  clear hb3
  go_wp2_with fail
  go_ret
  exact ⟨rfl, HB3.out⟩

set_option maxRecDepth 100000 in
set_option maxHeartbeats 4000000 in
theorem UpkeepDays_ok (r : Rec) (wd lvl a1 a2 dy x0 x1 x2 : Int) (A : Option Addr) (n c : Nat) (w : World) (hr : RdH w A n r.highs) (hnc : n ≤ c) (hS : SeaOK r wd lvl (a1, a2)) (u0 : 0 ≤ x0 ∧ x0 ≤ 65535) (u1 : 0 ≤ x1 ∧ x1 ≤ 65535) (u2 : 0 ≤ x2 ∧ x2 ≤ 65535) :
    Calls Try.prog 8 #[.agg #[.int .i64 r.first, .int .i64 r.years, .slice A n c], .agg #[.int .i64 wd, .int .i64 lvl, .int .i64 a1, .int .i64 a2, .int .i64 dy], .agg #[.int .u16 x0, .int .u16 x1, .int .u16 x2]] w fun e w' => e = .returned (.bool true) ∧ Below w.heap.size w w' := by
  obtain ⟨b1, b2, b3, b4⟩ := three w #[.int .i64 r.first, .int .i64 r.years, .slice A n c] #[.int .i64 wd, .int .i64 lvl, .int .i64 a1, .int .i64 a2, .int .i64 dy] #[.int .u16 x0, .int .u16 x1, .int .u16 x2] 24 55 56
  obtain ⟨w0, w1, l0, l1, p0, p1, p2, p3⟩ : 1 ≤ wd ∧ wd ≤ 365 ∧ -20000 ≤ lvl ∧ lvl ≤ 20000 ∧ 0 ≤ a1 ∧ a1 ≤ a2 ∧ 1 ≤ a2 ∧ a2 ≤ 200 := ⟨hS.w0, hS.w1, hS.l0, hS.l1, hS.a0, hS.a1, hS.a2, hS.a3⟩
  obtain ⟨i0, hi, hz0', hz1', hz2'⟩ := info_parts info108
  have HSn := Lib.hid (Season_ok r wd lvl (a1, a2) A n c _ (hr.below b1) hS)
  have HRk := Lib.hid (fun (W : World) (h : Below w.heap.size w W) => Risk_any r dy wd lvl A n c W (hr.below h))
  have hlen := hr.1
  have hn3 : n ≤ 300 := by have := hS.rc.len; omega
  have HR := Lib.hid hr
  have HSO := Lib.hid hS
  have HDay : Hid (((riskTop r dy wd lvl).2 != 0) = true ∨ ((riskTop r dy wd lvl).2 = 0 ∧ riskTop r dy wd lvl = (riskF r dy wd lvl, 0) ∧ (0 ≤ dy ∧ dy ≤ 364))) := by
    by_cases h : (riskTop r dy wd lvl).2 = 0
    · have := riskOK_of h
      exact .inr ⟨h, this.eq, this.d0, this.d1⟩
    · exact .inl (by simpa using h)
  have HB1 := Lib.hid b1; have K1 := Lib.hid b2; have K2 := Lib.hid b3; have K3 := Lib.hid b4
  clear b1 b2 b3 b4 hr hS
  have hpl := pickL_len (seasonB r wd lvl (a1, a2)) 365
  generalize hPL : pickL (seasonB r wd lvl (a1, a2)) 365 = PL at *
  have HPL := Lib.hid hPL; clear hPL
  go_enter Try.func8, Try.ntmps8
  go_wp2_with fail
  refine HSn.out.mono ?_
  rintro e W2 ⟨v, rfl, hown, hb2⟩
  obtain ⟨Al, cl, rfl, hl, _, _⟩ := rdI_of_own hown rfl
  have HB2 : Hid (Below w.heap.size w W2) := HB1.out.trans (hb2.mono HB1.out.size)
  have L1 := Lib.hid (K1.out.later hb2); have L2 := Lib.hid (K2.out.later hb2); have L3 := Lib.hid (K3.out.later hb2)
  have HL2 := Lib.hid hl
  clear hb2 hl hown
  dsimp only at *
  have q0 := L1.out.cell (i := 0) rfl
  have q1 := L1.out.cell (i := 1) rfl
  have q2 := L1.out.cell (i := 2) rfl
  have s0 := L2.out.cell (i := 0) rfl
  have s1 := L2.out.cell (i := 1) rfl
  have s4 := L2.out.cell (i := 4) rfl
  have hz1 := L1.out.lt
  have hz2 := L2.out.lt
  go_wp2_with fail
  refine (HRk.out W2 HB2.out).mono ?_
  rintro e W3 ⟨rfl, hb3⟩
  have HB3 : Hid (Below w.heap.size w W3) := HB2.out.trans (hb3.mono HB2.out.size)
  have M1 := Lib.hid (L1.out.later hb3); have M2 := Lib.hid (L2.out.later hb3); have M3 := Lib.hid (L3.out.later hb3)
  have HL3 := Lib.hid (HL2.out.below hb3)
  clear hb3 q0 q1 q2 s0 s1 s4 hz1 hz2 L1 L2 L3
  -- whatever the risk of the day is, the walk comes to the copy of the risk that is allowed
  have hcase : ∃ (y1 y2 ye : Int), riskTop r dy wd lvl = ((y1, y2), ye) := ⟨_, _, _, rfl⟩
  obtain ⟨y1, y2, ye, hrt⟩ := hcase
  rw [hrt]
  dsimp only
  have HRT := Lib.hid hrt
  clear hrt
  go_wp2_with fail
  obtain ⟨W4, hW4⟩ : ∃ W4, W3.alloc (Obj.cells #[.int .i64 y1, .int .i64 y2] 27) = W4 := ⟨_, rfl⟩
  have hb4 : Below W3.heap.size W3 W4 := by rw [← hW4]; exact (Below.refl _ _).alloc (Nat.le_refl _) _
  have KY : Hid (Blk W4 W3.heap.size 27 #[.int .i64 y1, .int .i64 y2]) := by rw [← hW4]; exact Blk.new _ _ _ rfl
  rw [hW4]
  have HB4 : Hid (Below w.heap.size w W4) := HB3.out.trans (hb4.mono HB3.out.size)
  have N1 := Lib.hid (M1.out.later hb4); have N2 := Lib.hid (M2.out.later hb4); have N3 := Lib.hid (M3.out.later hb4)
  have HL4 := Lib.hid (HL3.out.below hb4)
  clear hW4 hb4 M1 M2 M3
  have HHas : Hid (∀ u : Later W4, Calls Try.prog 31 #[.slice Al PL.length cl, .int .i64 dy] u.w fun e w' => e = .returned (.bool (decide (dy ∈ PL))) ∧ Below u.w.heap.size u.w w') := fun u => has_any PL dy Al PL.length cl u.w (HL4.out.below u.h) (by omega)
  have q0 := later_cell (N2.out.cell (i := 2) rfl)
  have q1 := later_cell (N2.out.cell (i := 3) rfl)
  have q2 := later_cell (N2.out.cell (i := 4) rfl)
  have q3 := later_cell (KY.out.cell (i := 0) rfl)
  have q4 := later_cell (KY.out.cell (i := 1) rfl)
  have hyc : (ye == 0) = false ∨ ((ye == 0) = true ∧ decide (a1 * y2 < y1 * a2) = decide (dy ∈ PL) ∧ IntKind.i64.wrap (y1 * a2) = y1 * a2 ∧ IntKind.i64.wrap (a1 * y2) = a1 * y2) := by
    have hrt := HRT.out
    rcases HDay.out with h | ⟨h1, h2, h3, h4⟩
    · rw [hrt] at h
      exact .inl (by simpa using h)
    · rw [hrt] at h1 h2
      dsimp only at h1
      subst h1
      injection h2 with h2 _
      have hbd := riskF_bounds HSO.out.ro dy wd lvl
      rw [← h2] at hbd
      dsimp only at hbd
      have m1 := mul_bd (a := y1) (b := a2) hbd.1 (by omega) (by omega) (by omega)
      have m2 := mul_bd (a := a1) (b := y2) p0 (by omega) (by omega) (by omega)
      refine .inr ⟨rfl, ?_, IntWalk.i64_in _ ⟨by omega, by omega⟩, IntWalk.i64_in _ ⟨by omega, by omega⟩⟩
      rw [← HPL.out]
      have e : seasonB r wd lvl (a1, a2) dy = decide (a1 * y2 < y1 * a2) := by unfold seasonB gtB; rw [← h2]
      rw [← e, Bool.eq_iff_iff, decide_eq_true_iff, mem_pickL]
      exact ⟨fun h => ⟨⟨h3, by omega⟩, h⟩, fun h => h.2⟩
  generalize decide (dy ∈ PL) = g at *
  rcases hyc with hye | ⟨hye, hg, hm1, hm2⟩
  all_goals
    refine wp_region_later (by kernel_rfl) (by kernel_rfl) ?_
    repeat (first | go_big_quiet_skip | (go_big_quiet_want; go_big_quiet_op; first | go_big_quiet_on | (apply Exists.intro; refine ⟨fun _ => ?_, ?_⟩; (· (with_reducible exact later_calls (HHas.out _))); go_big_quiet_on)))
    refine wpQuiet_nil ?_
    intro _ hw'
    obtain ⟨u, hu⟩ := hw'
    subst hu
    clear q0 q1 q2 q3 q4
    have HBu : Hid (Below w.heap.size w u.w) := HB4.out.trans (u.h.mono HB4.out.size)
    have R1 := Lib.hid (N1.out.later u.h); have R2 := Lib.hid (N2.out.later u.h); have R3 := Lib.hid (N3.out.later u.h)
    have HLu := Lib.hid (HL4.out.below u.h)
    generalize u.w = Wu at *
    have q0 := R1.out.cell (i := 0) rfl
    have q1 := R1.out.cell (i := 1) rfl
    have q2 := R1.out.cell (i := 2) rfl
    have s2 := R2.out.cell (i := 2) rfl
    have s3 := R2.out.cell (i := 3) rfl
    have t0 := R3.out.cell (i := 0) rfl
    have t2 := R3.out.cell (i := 2) rfl
    have hz1 := R1.out.lt
    have hz2 := R2.out.lt
    have hz3 := R3.out.lt
    have g0 : 0 ≤ x0 % 201 := by omega
    have g1 : x0 % 201 ≤ 200 := by omega
    have hgg : (g != g) = false := by simp
    have s0 := R2.out.cell (i := 0) rfl
    have s1 := R2.out.cell (i := 1) rfl
    have t1 := R3.out.cell (i := 1) rfl
    have hnd : (¬ 0 < n) ∨ (0 < n ∧ (x2 % 2 == 0) = false) ∨ (0 < n ∧ (x2 % 2 == 0) = true) := by
      by_cases h1 : 0 < n
      · cases h2 : (x2 % 2 == 0)
        · exact .inr (.inl ⟨h1, rfl⟩)
        · exact .inr (.inr ⟨h1, rfl⟩)
      · exact .inl h1
    rcases hnd with hn1 | ⟨hn1, hpar⟩ | ⟨hn1, hpar⟩
    · go_wp2_with fail
      obtain ⟨W9, hW9⟩ : ∃ W9, (Wu.alloc (Obj.cells #[.int .i64 (min a2 (a1 + x0 % 201)), .int .i64 a2] 27)).alloc (Obj.cells #[.int .i64 r.first, .int .i64 r.years, .slice A n c] 24) = W9 := ⟨_, rfl⟩
      have hb9 : Below Wu.heap.size Wu W9 := by rw [← hW9]; exact ((Below.refl _ _).alloc (Nat.le_refl _) _).alloc (by simp) _
      rw [hW9]
      have HBX : Hid (Below w.heap.size w W9) := HBu.out.trans (hb9.mono HBu.out.size)
      have HLX := Lib.hid (HLu.out.below hb9)
      clear hW9 hb9 q0 q1 q2 s0 s1 s2 s3 t0 t1 t2 hz1 hz2 hz3
      refine (Season_ok r wd (min 20000 (lvl + x1)) (min a2 (a1 + x0 % 201), a2) A n c W9 (HR.out.below HBX.out) ⟨HSO.out.rc, HSO.out.ro, w0, w1, by omega, by omega, by dsimp only; omega, by dsimp only; omega, p2, p3⟩).mono ?_
      rintro e W20 ⟨v, rfl, hown, hb20⟩
      obtain ⟨Am, cm, rfl, hml, _, _⟩ := rdI_of_own hown rfl
      have HB20 : Hid (Below w.heap.size w W20) := HBX.out.trans (hb20.mono HBX.out.size)
      have HL20 := Lib.hid (HLX.out.below hb20)
      have HM20 := Lib.hid hml
      clear hown hb20 hml
      dsimp only at *
      have hMl := pickL_len (seasonB r wd (min 20000 (lvl + x1)) (min a2 (a1 + x0 % 201), a2)) 365
      have HSub : Hid (∀ d ∈ pickL (seasonB r wd (min 20000 (lvl + x1)) (min a2 (a1 + x0 % 201), a2)) 365, decide (d ∈ PL) = true) := fun d hd => by
        rw [mem_pickL] at hd
        rw [decide_eq_true_iff, ← HPL.out, mem_pickL]
        exact ⟨hd.1, season_less (u := r) (fun n l => ⟨Int.le_refl _, rfl⟩) (by omega) (by omega) (by omega) (by have := (riskF_bounds HSO.out.ro d wd lvl).2.2.1; omega) hd.2⟩
      have HSo := Lib.hid (pickL_sorted (seasonB r wd (min 20000 (lvl + x1)) (min a2 (a1 + x0 % 201), a2)) 365)
      generalize pickL (seasonB r wd (min 20000 (lvl + x1)) (min a2 (a1 + x0 % 201), a2)) 365 = ML at *
      clear HR
      go_wp2_with fail
      go_loopw [15] (fun q wr => ∃ j : Nat, j ≤ ML.length ∧ q = .int .i64 j ∧ Below W20.heap.size W20 wr) (fun q _ => ML.length - (intOf q).toNat)
      case atStart => exact ⟨0, Nat.zero_le _, rfl, Below.refl _ _⟩
      case round =>
        obtain ⟨j, hj, rfl, hB⟩ := hrel
        have HBj := Lib.hid hB; clear hB
        by_cases hjt : j < ML.length
        · obtain ⟨d, md, hd, rfl, cd⟩ := rdI_get (HM20.out.below HBj.out) hjt
          have hin := HSub.out d (List.mem_of_getElem? hd)
          have hji : (j : Int) < (ML.length : Int) := by omega
          have HHs : Hid (∀ u : Later wr, Calls Try.prog 31 #[.slice Al PL.length cl, .int .i64 d] u.w fun e w' => e = .returned (.bool true) ∧ Below u.w.heap.size u.w w') := fun u => by
            have h := has_any PL d Al PL.length cl u.w ((HL20.out.below HBj.out).below u.h) (by omega)
            rw [hin] at h
            exact h
          have q1 := later_cell cd
          by_cases h0 : 0 < j
          · obtain ⟨d', md', hd', e', cd'⟩ := rdI_get (HM20.out.below HBj.out) (k := j - 1) (by omega)
            cases e'
            have q2 := later_cell cd'
            have hvv : d' < d := by
              obtain ⟨a1, a2⟩ := List.getElem?_eq_some_iff.1 hd
              obtain ⟨b1, b2⟩ := List.getElem?_eq_some_iff.1 hd'
              have := (List.pairwise_iff_getElem.1 HSo.out) (j - 1) j b1 a1 (by omega)
              rw [a2, b2] at this
              exact this
            have hvd : decide (d ≤ d') = false := by simpa using hvv
            have hdd : decide ((0 : Int) < (j : Int)) = true := by simp; omega
            clear hd hd' cd cd' hin
            go_wp2
            refine wp_region_later (by kernel_rfl) (by kernel_rfl) ?_
            repeat (first | go_big_quiet_skip | (go_big_quiet_want; go_big_quiet_op; first | go_big_quiet_on | (apply Exists.intro; refine ⟨fun _ => ?_, ?_⟩; (· (with_reducible exact later_calls (HHs.out _))); go_big_quiet_on)))
            refine wpQuiet_nil ?_
            intro _ hw'
            obtain ⟨u2, hu⟩ := hw'
            subst hu
            clear q1 q2
            go_wp2
            go_roundw
            case rel => exact ⟨j + 1, by omega, by go_num, HBj.out.trans (u2.h.mono HBj.out.size)⟩
            case measure => simp [intOf]; omega
          · have hdd : decide ((0 : Int) < (j : Int)) = false := by simp; omega
            clear hd cd hin
            go_wp2
            refine wp_region_later (by kernel_rfl) (by kernel_rfl) ?_
            repeat (first | go_big_quiet_skip | (go_big_quiet_want; go_big_quiet_op; first | go_big_quiet_on | (apply Exists.intro; refine ⟨fun _ => ?_, ?_⟩; (· (with_reducible exact later_calls (HHs.out _))); go_big_quiet_on)))
            refine wpQuiet_nil ?_
            intro _ hw'
            obtain ⟨u2, hu⟩ := hw'
            subst hu
            clear q1
            go_wp2
            go_roundw
            case rel => exact ⟨j + 1, by omega, by go_num, HBj.out.trans (u2.h.mono HBj.out.size)⟩
            case measure => simp [intOf]; omega
        · obtain rfl : j = ML.length := by omega
          go_wp2_with fail
          refine (Awake_any _).mono ?_
          rintro e WA ⟨rfl, hbA⟩
          have HBA := Lib.hid ((HB20.out.trans (HBj.out.mono HB20.out.size)).trans (hbA.mono (HB20.out.trans (HBj.out.mono HB20.out.size)).size))
          clear hbA
          go_wp2_with fail
          go_ret
          exact ⟨rfl, HBA.out⟩
    · go_wp2_with fail
      obtain ⟨W9, hW9⟩ : ∃ W9, (Wu.alloc (Obj.cells #[.int .i64 (min a2 (a1 + x0 % 201)), .int .i64 a2] 27)).alloc (Obj.cells #[.int .i64 r.first, .int .i64 r.years, .slice A n c] 24) = W9 := ⟨_, rfl⟩
      have hb9 : Below Wu.heap.size Wu W9 := by rw [← hW9]; exact ((Below.refl _ _).alloc (Nat.le_refl _) _).alloc (by simp) _
      rw [hW9]
      have HBX : Hid (Below w.heap.size w W9) := HBu.out.trans (hb9.mono HBu.out.size)
      have HLX := Lib.hid (HLu.out.below hb9)
      clear hW9 hb9 q0 q1 q2 s0 s1 s2 s3 t0 t1 t2 hz1 hz2 hz3
      refine (Season_ok r wd (min 20000 (lvl + x1)) (min a2 (a1 + x0 % 201), a2) A n c W9 (HR.out.below HBX.out) ⟨HSO.out.rc, HSO.out.ro, w0, w1, by omega, by omega, by dsimp only; omega, by dsimp only; omega, p2, p3⟩).mono ?_
      rintro e W20 ⟨v, rfl, hown, hb20⟩
      obtain ⟨Am, cm, rfl, hml, _, _⟩ := rdI_of_own hown rfl
      have HB20 : Hid (Below w.heap.size w W20) := HBX.out.trans (hb20.mono HBX.out.size)
      have HL20 := Lib.hid (HLX.out.below hb20)
      have HM20 := Lib.hid hml
      clear hown hb20 hml
      dsimp only at *
      have hMl := pickL_len (seasonB r wd (min 20000 (lvl + x1)) (min a2 (a1 + x0 % 201), a2)) 365
      have HSub : Hid (∀ d ∈ pickL (seasonB r wd (min 20000 (lvl + x1)) (min a2 (a1 + x0 % 201), a2)) 365, decide (d ∈ PL) = true) := fun d hd => by
        rw [mem_pickL] at hd
        rw [decide_eq_true_iff, ← HPL.out, mem_pickL]
        exact ⟨hd.1, season_less (u := r) (fun n l => ⟨Int.le_refl _, rfl⟩) (by omega) (by omega) (by omega) (by have := (riskF_bounds HSO.out.ro d wd lvl).2.2.1; omega) hd.2⟩
      have HSo := Lib.hid (pickL_sorted (seasonB r wd (min 20000 (lvl + x1)) (min a2 (a1 + x0 % 201), a2)) 365)
      generalize pickL (seasonB r wd (min 20000 (lvl + x1)) (min a2 (a1 + x0 % 201), a2)) 365 = ML at *
      clear HR
      go_wp2_with fail
      go_loopw [15] (fun q wr => ∃ j : Nat, j ≤ ML.length ∧ q = .int .i64 j ∧ Below W20.heap.size W20 wr) (fun q _ => ML.length - (intOf q).toNat)
      case atStart => exact ⟨0, Nat.zero_le _, rfl, Below.refl _ _⟩
      case round =>
        obtain ⟨j, hj, rfl, hB⟩ := hrel
        have HBj := Lib.hid hB; clear hB
        by_cases hjt : j < ML.length
        · obtain ⟨d, md, hd, rfl, cd⟩ := rdI_get (HM20.out.below HBj.out) hjt
          have hin := HSub.out d (List.mem_of_getElem? hd)
          have hji : (j : Int) < (ML.length : Int) := by omega
          have HHs : Hid (∀ u : Later wr, Calls Try.prog 31 #[.slice Al PL.length cl, .int .i64 d] u.w fun e w' => e = .returned (.bool true) ∧ Below u.w.heap.size u.w w') := fun u => by
            have h := has_any PL d Al PL.length cl u.w ((HL20.out.below HBj.out).below u.h) (by omega)
            rw [hin] at h
            exact h
          have q1 := later_cell cd
          by_cases h0 : 0 < j
          · obtain ⟨d', md', hd', e', cd'⟩ := rdI_get (HM20.out.below HBj.out) (k := j - 1) (by omega)
            cases e'
            have q2 := later_cell cd'
            have hvv : d' < d := by
              obtain ⟨a1, a2⟩ := List.getElem?_eq_some_iff.1 hd
              obtain ⟨b1, b2⟩ := List.getElem?_eq_some_iff.1 hd'
              have := (List.pairwise_iff_getElem.1 HSo.out) (j - 1) j b1 a1 (by omega)
              rw [a2, b2] at this
              exact this
            have hvd : decide (d ≤ d') = false := by simpa using hvv
            have hdd : decide ((0 : Int) < (j : Int)) = true := by simp; omega
            clear hd hd' cd cd' hin
            go_wp2
            refine wp_region_later (by kernel_rfl) (by kernel_rfl) ?_
            repeat (first | go_big_quiet_skip | (go_big_quiet_want; go_big_quiet_op; first | go_big_quiet_on | (apply Exists.intro; refine ⟨fun _ => ?_, ?_⟩; (· (with_reducible exact later_calls (HHs.out _))); go_big_quiet_on)))
            refine wpQuiet_nil ?_
            intro _ hw'
            obtain ⟨u2, hu⟩ := hw'
            subst hu
            clear q1 q2
            go_wp2
            go_roundw
            case rel => exact ⟨j + 1, by omega, by go_num, HBj.out.trans (u2.h.mono HBj.out.size)⟩
            case measure => simp [intOf]; omega
          · have hdd : decide ((0 : Int) < (j : Int)) = false := by simp; omega
            clear hd cd hin
            go_wp2
            refine wp_region_later (by kernel_rfl) (by kernel_rfl) ?_
            repeat (first | go_big_quiet_skip | (go_big_quiet_want; go_big_quiet_op; first | go_big_quiet_on | (apply Exists.intro; refine ⟨fun _ => ?_, ?_⟩; (· (with_reducible exact later_calls (HHs.out _))); go_big_quiet_on)))
            refine wpQuiet_nil ?_
            intro _ hw'
            obtain ⟨u2, hu⟩ := hw'
            subst hu
            clear q1
            go_wp2
            go_roundw
            case rel => exact ⟨j + 1, by omega, by go_num, HBj.out.trans (u2.h.mono HBj.out.size)⟩
            case measure => simp [intOf]; omega
        · obtain rfl : j = ML.length := by omega
          go_wp2_with fail
          refine (Awake_any _).mono ?_
          rintro e WA ⟨rfl, hbA⟩
          have HBA := Lib.hid ((HB20.out.trans (HBj.out.mono HB20.out.size)).trans (hbA.mono (HB20.out.trans (HBj.out.mono HB20.out.size)).size))
          clear hbA
          go_wp2_with fail
          go_ret
          exact ⟨rfl, HBA.out⟩
    · have hn0 : ((n : Int) == 0) = false := by simp; omega
      obtain ⟨k, hk⟩ : ∃ k : Nat, x2 % (n : Int) = (k : Int) := ⟨(x2 % (n : Int)).toNat, by have := Int.emod_nonneg x2 (b := (n : Int)) (by omega); omega⟩
      have hkn : k < n := by have := Int.emod_lt_of_pos x2 (b := (n : Int)) (by omega); omega
      obtain ⟨_, ad, _, hAd, _⟩ := HR.out.get (i := 0) (by omega)
      subst hAd
      go_wp2_with fail
      rw [hk]
      have HHk := Lib.hid hk
      clear hk
      obtain ⟨W9, hW9⟩ : ∃ W9, (Wu.alloc (Obj.cells #[.int .i64 (min a2 (a1 + x0 % 201)), .int .i64 a2] 27)).alloc (Obj.cells #[.int .i64 r.first, .int .i64 r.years, .slice (some ad) n c] 24) = W9 := ⟨_, rfl⟩
      have hb9 : Below Wu.heap.size Wu W9 := by rw [← hW9]; exact ((Below.refl _ _).alloc (Nat.le_refl _) _).alloc (by simp) _
      have NB : Hid (Blk W9 Wu.heap.size 27 #[.int .i64 (min a2 (a1 + x0 % 201)), .int .i64 a2]) := by rw [← hW9]; exact (Blk.new _ _ _ rfl).alloc _
      have NU : Hid (Blk W9 (Wu.heap.size + 1) 24 #[.int .i64 r.first, .int .i64 r.years, .slice (some ad) n c]) := by rw [← hW9]; exact Blk.new _ _ _ (by simp)
      rw [hW9]
      clear hW9 q0 q1 q2 s0 s1 s2 s3 t0 t1 t2 hz1 hz2 hz3
      have NX := Lib.hid (R1.out.later hb9); have N2 := Lib.hid (R2.out.later hb9); have N3 := Lib.hid (R3.out.later hb9)
      have HB9 : Hid (Below w.heap.size w W9) := HBu.out.trans (hb9.mono HBu.out.size)
      have HB9u := Lib.hid hb9
      have HBU0 : Hid (w.heap.size + 1 + 1 < Wu.heap.size + 1) := by have := R3.out.lt; exact (by omega : w.heap.size + 1 + 1 < Wu.heap.size + 1)
      clear hb9 R1 R2 R3 N1
      by_cases hck : c = k + 1
      · have HNk : Hid (n = k + 1) := by exact (by omega : n = k + 1)
        have hkc := hnc
        have q2' := later_cell (NX.out.cell (i := 2) rfl)
        have HS0 : Hid ((fun w' => ∃ u : Later W9, w' = u.w) W9.drew) := ⟨⟨W9.drew, (Below.refl _ _).drew⟩, rfl⟩
        refine wp_region_noPanic ?_
        refine wp_region_ord (fun w' => ∃ u : Later W9, w' = u.w) 11 (fun k => !(k == 0 || k == 5 || k == 11 || k == 12 || k == 13)) (ordOf _ [1, 2, 3, 4, 6, 7, 8, 9, 10, 0, 5, 11, 12, 13]) (by kernel_rfl) (by kernel_rfl) (ordOf_mem _ _) (fun _ _ _ _ _ h => h) ?_
        simp only [ordOf, List.filterMap_cons, List.filterMap_nil, List.getElem?_cons_zero, List.getElem?_cons_succ, Option.map_some]
        iterate 9 ((first | refine ord_quiet rfl rfl rfl HS0.out ?_ | refine ord_slice rfl _ _ _ _ _ rfl rfl HS0.out ?_); intro K hK; go_big_quiet_op; go_big_quiet_on)
        clear q2'
        have hbs := build22
        refine ord_op rfl ?_
        go_wp2_with fail
        refine mix_post (fun _ => ⟨⟨_, ((Below.refl _ W9).alloc (Nat.le_refl _) (.cells #[] 108)).drew⟩, rfl⟩) ?_
        clear hbs
        have HO0 : Hid ((W9.alloc (.cells #[] 108)).drew.ownsRow W9.heap.size 108 3 (.slice (some ⟨W9.heap.size, 0, none⟩) 0 0) 0 []) := own_drew (own_empty W9 W9.heap.size (Nat.le_refl _) 108 3)
        have HRaa : Hid (RdH (W9.alloc (.cells #[] 108)).drew (some ad) n r.highs) := (HR.out.below HB9.out).below (((Below.refl _ W9).alloc (Nat.le_refl _) (.cells #[] 108)).drew)
        refine ord_op rfl ?_
        refine wpList_append_own _ rfl _ _ 22 rfl W9.heap.size 108 i0 (.agg #[.int .i64 0, .int .i64 0, .int .i64 0]) 3 24 Try.underlying22 hi hz0' hz1' hz2' rfl (by decide) _ 0 [] rfl HO0.out ad k _ ((r.highs.take k).flatMap High.enc) rfl (by rw [flat_len high_len, List.length_take]; omega) (news_take high_len HRaa.out k) (enc_one high_one _) (by unfold maxLen; omega) (by omega) (by simp [World.drew]) ?_
        intro v1 W11 hown1 hgrow1 _
        have HB11 : Hid (Below W9.heap.size W9 W11) := ((Below.refl _ W9).alloc (Nat.le_refl _) (.cells #[] 108)).drew.grown hgrow1 (by simp [World.drew]) (fun j e => by cases e; exact Nat.le_refl _)
        have HO1 := Lib.hid hown1
        clear hgrow1 hown1
        go_wp2
        refine mix_post (fun _ => ⟨⟨_, HB11.out⟩, rfl⟩) ?_
        refine ord_op rfl ?_
        have HRb : Hid (RdH W11 (some ad) n r.highs) := (HR.out.below HB9.out).below HB11.out
        refine wpList_append_own _ rfl _ _ 22 rfl W9.heap.size 108 i0 (.agg #[.int .i64 0, .int .i64 0, .int .i64 0]) 3 24 Try.underlying22 hi hz0' hz1' hz2' rfl (by decide) _ _ _ rfl HO1.out ad (n - (k + 1)) _ [] rfl (by have := HNk.out; simp; omega) (fun j u h => by simp at h) (fun u h => by simp at h) (by unfold maxLen; omega) (by omega) HB11.out.size ?_
        intro v2 W12 hown2 hgrow2 _
        have HB12 : Hid (Below W9.heap.size W9 W12) := HB11.out.grown hgrow2 HB11.out.size (fun j e => (HO1.out.lt j e).1)
        have HO2 : Hid (W12.ownsRow W9.heap.size 108 3 v2 (n - 1) (((r.less k).highs).flatMap High.enc)) := by
          have e : 0 + k + (n - (k + 1)) = n - 1 := by omega
          rw [e, List.nil_append, List.append_nil] at hown2
          have e2 : r.highs.take k = (r.less k).highs := by unfold Rec.less; dsimp only; rw [← erase_eq, List.drop_of_length_le (by have := HNk.out; omega), List.append_nil]
          rw [e2] at hown2
          exact hown2
        have hll : (r.less k).highs.length = n - 1 := by unfold Rec.less; dsimp only; rw [List.length_eraseIdx, if_pos (by omega)]; omega
        obtain ⟨A2, c2, hv2, _, _, _⟩ := rd_of_own high_len HO2.out hll
        subst hv2
        clear hgrow2 hown2 HO1 HO0 HRaa HRb
        go_wp2
        refine mix_post (fun h => absurd h (by decide)) ?_
        refine ord_op rfl ?_
        go_wp2
        refine mix_post (fun h => absurd h (by decide)) ?_
        have NU2 := NU.out.later HB12.out
        have v20 := NU2.cell (i := 2) rfl
        have v21 := NU2.frozen 2
        have HNU := Lib.hid NU2
        clear NU2
        refine ord_op rfl ?_
        go_wp2
        refine mix_post (fun h => absurd h (by decide)) ?_
        refine ord_nil (NoPanic.normal ?_)
        have HO3 : Hid ((W12.setCell ⟨Wu.heap.size + 1, 2, none⟩ (.slice A2 (n - 1) c2)).ownsRow W9.heap.size 108 3 (.slice A2 (n - 1) c2) (n - 1) (((r.less k).highs).flatMap High.enc)) := own_low HO2.out (p := ⟨Wu.heap.size + 1, 2, none⟩) NU.out.lt _
        have HU3 := Lib.hid (HNU.out.set 2 (.slice A2 (n - 1) c2))
        have hb3 : Below w.heap.size w (W12.setCell ⟨Wu.heap.size + 1, 2, none⟩ (.slice A2 (n - 1) c2)) := (HB9.out.trans (HB12.out.mono HB9.out.size)).setCell (p := ⟨Wu.heap.size + 1, 2, none⟩) (by have := HBU0.out; dsimp only; omega) _
        have HBX := Lib.hid hb3
        have HLX0 : Below Wu.heap.size Wu (W12.setCell ⟨Wu.heap.size + 1, 2, none⟩ (.slice A2 (n - 1) c2)) := (HB9u.out.trans (HB12.out.mono HB9u.out.size)).setCell (p := ⟨Wu.heap.size + 1, 2, none⟩) (by dsimp only; omega) _
        have HLX := Lib.hid (HLu.out.below HLX0)
        have P13 := Lib.hid ((N2.out.later HB12.out).far (p := ⟨Wu.heap.size + 1, 2, none⟩) (by have := HBU0.out; dsimp only; omega) (.slice A2 (n - 1) c2))
        have Q13 := Lib.hid ((N3.out.later HB12.out).far (p := ⟨Wu.heap.size + 1, 2, none⟩) (by have := HBU0.out; dsimp only; omega) (.slice A2 (n - 1) c2))
        have B13 := Lib.hid ((NB.out.later HB12.out).far (p := ⟨Wu.heap.size + 1, 2, none⟩) (by dsimp only; omega) (.slice A2 (n - 1) c2))
        clear v20 v21 hb3 HLX0 HO2 HNU NX N2 N3 NB NU
        generalize W12.setCell ⟨Wu.heap.size + 1, 2, none⟩ (.slice A2 (n - 1) c2) = W13 at *
        have j0 := HU3.out.cell (i := 0) rfl
        have j1 := HU3.out.cell (i := 1) rfl
        have j2 := HU3.out.cell (i := 2) rfl
        have s0 := P13.out.cell (i := 0) rfl
        have s1 := P13.out.cell (i := 1) rfl
        have t1 := Q13.out.cell (i := 1) rfl
        have o0 := B13.out.cell (i := 0) rfl
        have o1 := B13.out.cell (i := 1) rfl
        have hz1 := HU3.out.lt
        have hz2 := P13.out.lt
        have hz3 := Q13.out.lt
        have hz4 := B13.out.lt
        obtain ⟨A3, c3, hv3, hrd3, _, _⟩ := rd_of_own high_len HO3.out hll
        injection hv3 with ha3 _ hc3
        subst ha3 hc3
        have HSe : Hid (Calls Try.prog 29 #[.agg #[.int .i64 r.first, .int .i64 r.years, .slice A2 (n - 1) c2], .int .i64 wd, .int .i64 (min 20000 (lvl + x1)), .agg #[.int .i64 (min a2 (a1 + x0 % 201)), .int .i64 a2]] W13 _) := Season_ok (r.less k) wd (min 20000 (lvl + x1)) (min a2 (a1 + x0 % 201), a2) A2 (n - 1) c2 W13 hrd3 ⟨HSO.out.rc.less k, recOK_of (by rw [(HSO.out.rc.less k).chk]), w0, w1, by omega, by omega, by dsimp only; omega, by dsimp only; omega, p2, p3⟩
        clear hrd3 HO3
        go_wp2_with fail
        clear j0 j1 j2 s0 s1 t1 o0 o1 hz1 hz2 hz3 hz4
        refine HSe.out.mono ?_
        rintro e W20 ⟨v, rfl, hown, hb20⟩
        obtain ⟨Am, cm, rfl, hml, _, _⟩ := rdI_of_own hown rfl
        have HB20 : Hid (Below w.heap.size w W20) := HBX.out.trans (hb20.mono HBX.out.size)
        have HL20 := Lib.hid (HLX.out.below hb20)
        have HM20 := Lib.hid hml
        clear hown hb20 hml
        dsimp only at *
        have hMl := pickL_len (seasonB (r.less k) wd (min 20000 (lvl + x1)) (min a2 (a1 + x0 % 201), a2)) 365
        have HSub : Hid (∀ d ∈ pickL (seasonB (r.less k) wd (min 20000 (lvl + x1)) (min a2 (a1 + x0 % 201), a2)) 365, decide (d ∈ PL) = true) := fun d hd => by
          rw [mem_pickL] at hd
          rw [decide_eq_true_iff, ← HPL.out, mem_pickL]
          exact ⟨hd.1, season_less (u := (r.less k)) (fun _ _ => riskF_less k) (by omega) (by omega) (by omega) (by have := (riskF_bounds HSO.out.ro d wd lvl).2.2.1; omega) hd.2⟩
        have HSo := Lib.hid (pickL_sorted (seasonB (r.less k) wd (min 20000 (lvl + x1)) (min a2 (a1 + x0 % 201), a2)) 365)
        generalize pickL (seasonB (r.less k) wd (min 20000 (lvl + x1)) (min a2 (a1 + x0 % 201), a2)) 365 = ML at *
        clear HR
        go_wp2_with fail
        go_loopw [15] (fun q wr => ∃ j : Nat, j ≤ ML.length ∧ q = .int .i64 j ∧ Below W20.heap.size W20 wr) (fun q _ => ML.length - (intOf q).toNat)
        case atStart => exact ⟨0, Nat.zero_le _, rfl, Below.refl _ _⟩
        case round =>
          obtain ⟨j, hj, rfl, hB⟩ := hrel
          have HBj := Lib.hid hB; clear hB
          by_cases hjt : j < ML.length
          · obtain ⟨d, md, hd, rfl, cd⟩ := rdI_get (HM20.out.below HBj.out) hjt
            have hin := HSub.out d (List.mem_of_getElem? hd)
            have hji : (j : Int) < (ML.length : Int) := by omega
            have HHs : Hid (∀ u : Later wr, Calls Try.prog 31 #[.slice Al PL.length cl, .int .i64 d] u.w fun e w' => e = .returned (.bool true) ∧ Below u.w.heap.size u.w w') := fun u => by
              have h := has_any PL d Al PL.length cl u.w ((HL20.out.below HBj.out).below u.h) (by omega)
              rw [hin] at h
              exact h
            have q1 := later_cell cd
            by_cases h0 : 0 < j
            · obtain ⟨d', md', hd', e', cd'⟩ := rdI_get (HM20.out.below HBj.out) (k := j - 1) (by omega)
              cases e'
              have q2 := later_cell cd'
              have hvv : d' < d := by
                obtain ⟨a1, a2⟩ := List.getElem?_eq_some_iff.1 hd
                obtain ⟨b1, b2⟩ := List.getElem?_eq_some_iff.1 hd'
                have := (List.pairwise_iff_getElem.1 HSo.out) (j - 1) j b1 a1 (by omega)
                rw [a2, b2] at this
                exact this
              have hvd : decide (d ≤ d') = false := by simpa using hvv
              have hdd : decide ((0 : Int) < (j : Int)) = true := by simp; omega
              clear hd hd' cd cd' hin
              go_wp2
              refine wp_region_later (by kernel_rfl) (by kernel_rfl) ?_
              repeat (first | go_big_quiet_skip | (go_big_quiet_want; go_big_quiet_op; first | go_big_quiet_on | (apply Exists.intro; refine ⟨fun _ => ?_, ?_⟩; (· (with_reducible exact later_calls (HHs.out _))); go_big_quiet_on)))
              refine wpQuiet_nil ?_
              intro _ hw'
              obtain ⟨u2, hu⟩ := hw'
              subst hu
              clear q1 q2
              go_wp2
              go_roundw
              case rel => exact ⟨j + 1, by omega, by go_num, HBj.out.trans (u2.h.mono HBj.out.size)⟩
              case measure => simp [intOf]; omega
            · have hdd : decide ((0 : Int) < (j : Int)) = false := by simp; omega
              clear hd cd hin
              go_wp2
              refine wp_region_later (by kernel_rfl) (by kernel_rfl) ?_
              repeat (first | go_big_quiet_skip | (go_big_quiet_want; go_big_quiet_op; first | go_big_quiet_on | (apply Exists.intro; refine ⟨fun _ => ?_, ?_⟩; (· (with_reducible exact later_calls (HHs.out _))); go_big_quiet_on)))
              refine wpQuiet_nil ?_
              intro _ hw'
              obtain ⟨u2, hu⟩ := hw'
              subst hu
              clear q1
              go_wp2
              go_roundw
              case rel => exact ⟨j + 1, by omega, by go_num, HBj.out.trans (u2.h.mono HBj.out.size)⟩
              case measure => simp [intOf]; omega
          · obtain rfl : j = ML.length := by omega
            go_wp2_with fail
            refine (Awake_any _).mono ?_
            rintro e WA ⟨rfl, hbA⟩
            have HBA := Lib.hid ((HB20.out.trans (HBj.out.mono HB20.out.size)).trans (hbA.mono (HB20.out.trans (HBj.out.mono HB20.out.size)).size))
            clear hbA
            go_wp2_with fail
            go_ret
            exact ⟨rfl, HBA.out⟩
      · have hck' : ¬ c = k + 1 := hck
        have hkc := hnc
        have q2' := later_cell (NX.out.cell (i := 2) rfl)
        have HS0 : Hid ((fun w' => ∃ u : Later W9, w' = u.w) W9.drew) := ⟨⟨W9.drew, (Below.refl _ _).drew⟩, rfl⟩
        refine wp_region_noPanic ?_
        refine wp_region_ord (fun w' => ∃ u : Later W9, w' = u.w) 11 (fun k => !(k == 0 || k == 5 || k == 11 || k == 12 || k == 13)) (ordOf _ [1, 2, 3, 4, 6, 7, 8, 9, 10, 0, 5, 11, 12, 13]) (by kernel_rfl) (by kernel_rfl) (ordOf_mem _ _) (fun _ _ _ _ _ h => h) ?_
        simp only [ordOf, List.filterMap_cons, List.filterMap_nil, List.getElem?_cons_zero, List.getElem?_cons_succ, Option.map_some]
        iterate 9 ((first | refine ord_quiet rfl rfl rfl HS0.out ?_ | refine ord_slice rfl _ _ _ _ _ rfl rfl HS0.out ?_); intro K hK; go_big_quiet_op; go_big_quiet_on)
        clear q2'
        have hbs := build22
        refine ord_op rfl ?_
        go_wp2_with fail
        refine mix_post (fun _ => ⟨⟨_, ((Below.refl _ W9).alloc (Nat.le_refl _) (.cells #[] 108)).drew⟩, rfl⟩) ?_
        clear hbs
        have HO0 : Hid ((W9.alloc (.cells #[] 108)).drew.ownsRow W9.heap.size 108 3 (.slice (some ⟨W9.heap.size, 0, none⟩) 0 0) 0 []) := own_drew (own_empty W9 W9.heap.size (Nat.le_refl _) 108 3)
        have HRaa : Hid (RdH (W9.alloc (.cells #[] 108)).drew (some ad) n r.highs) := (HR.out.below HB9.out).below (((Below.refl _ W9).alloc (Nat.le_refl _) (.cells #[] 108)).drew)
        refine ord_op rfl ?_
        refine wpList_append_own _ rfl _ _ 22 rfl W9.heap.size 108 i0 (.agg #[.int .i64 0, .int .i64 0, .int .i64 0]) 3 24 Try.underlying22 hi hz0' hz1' hz2' rfl (by decide) _ 0 [] rfl HO0.out ad k _ ((r.highs.take k).flatMap High.enc) rfl (by rw [flat_len high_len, List.length_take]; omega) (news_take high_len HRaa.out k) (enc_one high_one _) (by unfold maxLen; omega) (by omega) (by simp [World.drew]) ?_
        intro v1 W11 hown1 hgrow1 _
        have HB11 : Hid (Below W9.heap.size W9 W11) := ((Below.refl _ W9).alloc (Nat.le_refl _) (.cells #[] 108)).drew.grown hgrow1 (by simp [World.drew]) (fun j e => by cases e; exact Nat.le_refl _)
        have HO1 := Lib.hid hown1
        clear hgrow1 hown1
        go_wp2
        refine mix_post (fun _ => ⟨⟨_, HB11.out⟩, rfl⟩) ?_
        refine ord_op rfl ?_
        have HRb : Hid (RdH W11 (some ad) n r.highs) := (HR.out.below HB9.out).below HB11.out
        refine wpList_append_own _ rfl _ _ 22 rfl W9.heap.size 108 i0 (.agg #[.int .i64 0, .int .i64 0, .int .i64 0]) 3 24 Try.underlying22 hi hz0' hz1' hz2' rfl (by decide) _ _ _ rfl HO1.out (ad.add ((k + 1) * 3)) (n - (k + 1)) _ ((r.highs.drop (k + 1)).flatMap High.enc) rfl (by rw [flat_len high_len, List.length_drop]; omega) (news_drop high_len HRb.out (k + 1)) (enc_one high_one _) (by unfold maxLen; omega) (by omega) HB11.out.size ?_
        intro v2 W12 hown2 hgrow2 _
        have HB12 : Hid (Below W9.heap.size W9 W12) := HB11.out.grown hgrow2 HB11.out.size (fun j e => (HO1.out.lt j e).1)
        have HO2 : Hid (W12.ownsRow W9.heap.size 108 3 v2 (n - 1) (((r.less k).highs).flatMap High.enc)) := by
          have e : 0 + k + (n - (k + 1)) = n - 1 := by omega
          rw [e, List.nil_append, flat_app, erase_eq] at hown2
          exact hown2
        have hll : (r.less k).highs.length = n - 1 := by unfold Rec.less; dsimp only; rw [List.length_eraseIdx, if_pos (by omega)]; omega
        obtain ⟨A2, c2, hv2, _, _, _⟩ := rd_of_own high_len HO2.out hll
        subst hv2
        clear hgrow2 hown2 HO1 HO0 HRaa HRb
        go_wp2
        refine mix_post (fun h => absurd h (by decide)) ?_
        refine ord_op rfl ?_
        go_wp2
        refine mix_post (fun h => absurd h (by decide)) ?_
        have NU2 := NU.out.later HB12.out
        have v20 := NU2.cell (i := 2) rfl
        have v21 := NU2.frozen 2
        have HNU := Lib.hid NU2
        clear NU2
        refine ord_op rfl ?_
        go_wp2
        refine mix_post (fun h => absurd h (by decide)) ?_
        refine ord_nil (NoPanic.normal ?_)
        have HO3 : Hid ((W12.setCell ⟨Wu.heap.size + 1, 2, none⟩ (.slice A2 (n - 1) c2)).ownsRow W9.heap.size 108 3 (.slice A2 (n - 1) c2) (n - 1) (((r.less k).highs).flatMap High.enc)) := own_low HO2.out (p := ⟨Wu.heap.size + 1, 2, none⟩) NU.out.lt _
        have HU3 := Lib.hid (HNU.out.set 2 (.slice A2 (n - 1) c2))
        have hb3 : Below w.heap.size w (W12.setCell ⟨Wu.heap.size + 1, 2, none⟩ (.slice A2 (n - 1) c2)) := (HB9.out.trans (HB12.out.mono HB9.out.size)).setCell (p := ⟨Wu.heap.size + 1, 2, none⟩) (by have := HBU0.out; dsimp only; omega) _
        have HBX := Lib.hid hb3
        have HLX0 : Below Wu.heap.size Wu (W12.setCell ⟨Wu.heap.size + 1, 2, none⟩ (.slice A2 (n - 1) c2)) := (HB9u.out.trans (HB12.out.mono HB9u.out.size)).setCell (p := ⟨Wu.heap.size + 1, 2, none⟩) (by dsimp only; omega) _
        have HLX := Lib.hid (HLu.out.below HLX0)
        have P13 := Lib.hid ((N2.out.later HB12.out).far (p := ⟨Wu.heap.size + 1, 2, none⟩) (by have := HBU0.out; dsimp only; omega) (.slice A2 (n - 1) c2))
        have Q13 := Lib.hid ((N3.out.later HB12.out).far (p := ⟨Wu.heap.size + 1, 2, none⟩) (by have := HBU0.out; dsimp only; omega) (.slice A2 (n - 1) c2))
        have B13 := Lib.hid ((NB.out.later HB12.out).far (p := ⟨Wu.heap.size + 1, 2, none⟩) (by dsimp only; omega) (.slice A2 (n - 1) c2))
        clear v20 v21 hb3 HLX0 HO2 HNU NX N2 N3 NB NU
        generalize W12.setCell ⟨Wu.heap.size + 1, 2, none⟩ (.slice A2 (n - 1) c2) = W13 at *
        have j0 := HU3.out.cell (i := 0) rfl
        have j1 := HU3.out.cell (i := 1) rfl
        have j2 := HU3.out.cell (i := 2) rfl
        have s0 := P13.out.cell (i := 0) rfl
        have s1 := P13.out.cell (i := 1) rfl
        have t1 := Q13.out.cell (i := 1) rfl
        have o0 := B13.out.cell (i := 0) rfl
        have o1 := B13.out.cell (i := 1) rfl
        have hz1 := HU3.out.lt
        have hz2 := P13.out.lt
        have hz3 := Q13.out.lt
        have hz4 := B13.out.lt
        obtain ⟨A3, c3, hv3, hrd3, _, _⟩ := rd_of_own high_len HO3.out hll
        injection hv3 with ha3 _ hc3
        subst ha3 hc3
        have HSe : Hid (Calls Try.prog 29 #[.agg #[.int .i64 r.first, .int .i64 r.years, .slice A2 (n - 1) c2], .int .i64 wd, .int .i64 (min 20000 (lvl + x1)), .agg #[.int .i64 (min a2 (a1 + x0 % 201)), .int .i64 a2]] W13 _) := Season_ok (r.less k) wd (min 20000 (lvl + x1)) (min a2 (a1 + x0 % 201), a2) A2 (n - 1) c2 W13 hrd3 ⟨HSO.out.rc.less k, recOK_of (by rw [(HSO.out.rc.less k).chk]), w0, w1, by omega, by omega, by dsimp only; omega, by dsimp only; omega, p2, p3⟩
        clear hrd3 HO3
        go_wp2_with fail
        clear j0 j1 j2 s0 s1 t1 o0 o1 hz1 hz2 hz3 hz4
        refine HSe.out.mono ?_
        rintro e W20 ⟨v, rfl, hown, hb20⟩
        obtain ⟨Am, cm, rfl, hml, _, _⟩ := rdI_of_own hown rfl
        have HB20 : Hid (Below w.heap.size w W20) := HBX.out.trans (hb20.mono HBX.out.size)
        have HL20 := Lib.hid (HLX.out.below hb20)
        have HM20 := Lib.hid hml
        clear hown hb20 hml
        dsimp only at *
        have hMl := pickL_len (seasonB (r.less k) wd (min 20000 (lvl + x1)) (min a2 (a1 + x0 % 201), a2)) 365
        have HSub : Hid (∀ d ∈ pickL (seasonB (r.less k) wd (min 20000 (lvl + x1)) (min a2 (a1 + x0 % 201), a2)) 365, decide (d ∈ PL) = true) := fun d hd => by
          rw [mem_pickL] at hd
          rw [decide_eq_true_iff, ← HPL.out, mem_pickL]
          exact ⟨hd.1, season_less (u := (r.less k)) (fun _ _ => riskF_less k) (by omega) (by omega) (by omega) (by have := (riskF_bounds HSO.out.ro d wd lvl).2.2.1; omega) hd.2⟩
        have HSo := Lib.hid (pickL_sorted (seasonB (r.less k) wd (min 20000 (lvl + x1)) (min a2 (a1 + x0 % 201), a2)) 365)
        generalize pickL (seasonB (r.less k) wd (min 20000 (lvl + x1)) (min a2 (a1 + x0 % 201), a2)) 365 = ML at *
        clear HR
        go_wp2_with fail
        go_loopw [15] (fun q wr => ∃ j : Nat, j ≤ ML.length ∧ q = .int .i64 j ∧ Below W20.heap.size W20 wr) (fun q _ => ML.length - (intOf q).toNat)
        case atStart => exact ⟨0, Nat.zero_le _, rfl, Below.refl _ _⟩
        case round =>
          obtain ⟨j, hj, rfl, hB⟩ := hrel
          have HBj := Lib.hid hB; clear hB
          by_cases hjt : j < ML.length
          · obtain ⟨d, md, hd, rfl, cd⟩ := rdI_get (HM20.out.below HBj.out) hjt
            have hin := HSub.out d (List.mem_of_getElem? hd)
            have hji : (j : Int) < (ML.length : Int) := by omega
            have HHs : Hid (∀ u : Later wr, Calls Try.prog 31 #[.slice Al PL.length cl, .int .i64 d] u.w fun e w' => e = .returned (.bool true) ∧ Below u.w.heap.size u.w w') := fun u => by
              have h := has_any PL d Al PL.length cl u.w ((HL20.out.below HBj.out).below u.h) (by omega)
              rw [hin] at h
              exact h
            have q1 := later_cell cd
            by_cases h0 : 0 < j
            · obtain ⟨d', md', hd', e', cd'⟩ := rdI_get (HM20.out.below HBj.out) (k := j - 1) (by omega)
              cases e'
              have q2 := later_cell cd'
              have hvv : d' < d := by
                obtain ⟨a1, a2⟩ := List.getElem?_eq_some_iff.1 hd
                obtain ⟨b1, b2⟩ := List.getElem?_eq_some_iff.1 hd'
                have := (List.pairwise_iff_getElem.1 HSo.out) (j - 1) j b1 a1 (by omega)
                rw [a2, b2] at this
                exact this
              have hvd : decide (d ≤ d') = false := by simpa using hvv
              have hdd : decide ((0 : Int) < (j : Int)) = true := by simp; omega
              clear hd hd' cd cd' hin
              go_wp2
              refine wp_region_later (by kernel_rfl) (by kernel_rfl) ?_
              repeat (first | go_big_quiet_skip | (go_big_quiet_want; go_big_quiet_op; first | go_big_quiet_on | (apply Exists.intro; refine ⟨fun _ => ?_, ?_⟩; (· (with_reducible exact later_calls (HHs.out _))); go_big_quiet_on)))
              refine wpQuiet_nil ?_
              intro _ hw'
              obtain ⟨u2, hu⟩ := hw'
              subst hu
              clear q1 q2
              go_wp2
              go_roundw
              case rel => exact ⟨j + 1, by omega, by go_num, HBj.out.trans (u2.h.mono HBj.out.size)⟩
              case measure => simp [intOf]; omega
            · have hdd : decide ((0 : Int) < (j : Int)) = false := by simp; omega
              clear hd cd hin
              go_wp2
              refine wp_region_later (by kernel_rfl) (by kernel_rfl) ?_
              repeat (first | go_big_quiet_skip | (go_big_quiet_want; go_big_quiet_op; first | go_big_quiet_on | (apply Exists.intro; refine ⟨fun _ => ?_, ?_⟩; (· (with_reducible exact later_calls (HHs.out _))); go_big_quiet_on)))
              refine wpQuiet_nil ?_
              intro _ hw'
              obtain ⟨u2, hu⟩ := hw'
              subst hu
              clear q1
              go_wp2
              go_roundw
              case rel => exact ⟨j + 1, by omega, by go_num, HBj.out.trans (u2.h.mono HBj.out.size)⟩
              case measure => simp [intOf]; omega
          · obtain rfl : j = ML.length := by omega
            go_wp2_with fail
            refine (Awake_any _).mono ?_
            rintro e WA ⟨rfl, hbA⟩
            have HBA := Lib.hid ((HB20.out.trans (HBj.out.mono HB20.out.size)).trans (hbA.mono (HB20.out.trans (HBj.out.mono HB20.out.size)).size))
            clear hbA
            go_wp2_with fail
            go_ret
            exact ⟨rfl, HBA.out⟩

theorem UpkeepDays_any (r : Rec) (wd lvl a1 a2 dy x0 x1 x2 : Int) (A : Option Addr) (n c : Nat) (w : World) (hr : RdH w A n r.highs) (hnc : n ≤ c) (u0 : 0 ≤ x0 ∧ x0 ≤ 65535) (u1 : 0 ≤ x1 ∧ x1 ≤ 65535) (u2 : 0 ≤ x2 ∧ x2 ≤ 65535) :
    Calls Try.prog 8 #[.agg #[.int .i64 r.first, .int .i64 r.years, .slice A n c], .agg #[.int .i64 wd, .int .i64 lvl, .int .i64 a1, .int .i64 a2, .int .i64 dy], .agg #[.int .u16 x0, .int .u16 x1, .int .u16 x2]] w fun e w' => e = .returned (.bool true) ∧ Below w.heap.size w w' := by
  by_cases he : ((seasonTop r wd lvl (a1, a2)).2 != 0) = true
  · exact UpkeepDays_err r wd lvl a1 a2 dy x0 x1 x2 A n c w hr he
  · exact UpkeepDays_ok r wd lvl a1 a2 dy x0 x1 x2 A n c w hr hnc (seaOK_of (by simpa using he)) u0 u1 u2
end Go.Proofs.Ytkkajemahehoaaa
