/- FailureSets returns true. -/
import Derived.Test.YtadldndpphdmpaaGreatTG
import Derived.Test.YtadldndpphdmpaaGreatS3
namespace Go.Proofs.YtadldndpphdmpaaGreat
open Go.RowKit Go.Shelf

theorem least_shortZ {t : List Nd} (h : TrOk t) (p : Nat → Bool) : (leastN p (bas t)).length ≤ 1000000 := by
  have h1 : (leastN p (bas t)).length ≤ (subL (bas t)).length := by
    unfold leastN
    rw [(sortN_perm _).length_eq]
    exact List.length_filter_le _ _
  exact Nat.le_trans h1 (Nat.le_trans (subL_short h (sub_all t) (bas_lt_64 h)) (by decide))
theorem causes_all {t : List Nd} {y : Int} : (causesT t y).1.length ≤ 1000000 ∧ ∀ s ∈ (causesT t y).1, s.length ≤ 64 := by
  by_cases h : (causesT t y).2 = 0
  · rw [(causes_ok h).2.2.2]
    exact ⟨by rw [List.length_map]; exact least_shortZ (causes_ok h).1 _, fun s hs => by obtain ⟨m, _, rfl⟩ := List.mem_map.1 hs; exact bitsL_len m⟩
  · rw [causes_err h]
    exact ⟨by decide, by simp⟩
theorem guards_all {t : List Nd} {y : Int} : (guardsT t y).1.length ≤ 1000000 ∧ ∀ s ∈ (guardsT t y).1, s.length ≤ 64 := by
  by_cases h : (guardsT t y).2 = 0
  · rw [(guards_ok h).2.2.2]
    exact ⟨by rw [List.length_map]; exact least_shortZ (guards_ok h).1 _, fun s hs => by obtain ⟨m, _, rfl⟩ := List.mem_map.1 hs; exact bitsL_len m⟩
  · rw [guards_err0 h]
    exact ⟨by decide, by simp⟩

set_option maxRecDepth 100000 in
set_option maxHeartbeats 8000000 in
theorem FailureSets_any (t : List Nd) (y : Int) (A : Option Addr) (n c : Nat) (ms : List NdM) (w : World) (hT : TrM w t A n ms) (hc : n ≤ c) :
    Calls Tryz.prog 3 #[.agg #[.slice A n c], .int .i64 y] w fun e w' => e = .returned (.bool true) ∧ Below w.heap.size w w' := by
  obtain ⟨W1, hW1⟩ : ∃ W1, w.alloc (.cells #[.slice A n c] 24) = W1 := ⟨_, rfl⟩
  have HB1 : Hid (Below w.heap.size w W1) := by rw [← hW1]; exact (Below.refl _ w).alloc (Nat.le_refl _) _
  have K1 : Hid (Blk W1 w.heap.size 24 #[.slice A n c]) := by rw [← hW1]; exact Blk.new w _ _ rfl
  have CG := Lib.hid (Great_any t A n c ms W1 (hT.below HB1.out))
  have C1 := Lib.hid (fun (W : World) (h : Below w.heap.size w W) => Causes_any t y A n c ms W (hT.below h) hc)
  have C2 := Lib.hid (fun (W : World) (h : Below w.heap.size w W) => rCauses_any t y A n c ms W (hT.below h))
  have C3 := Lib.hid (fun (W : World) (h : Below w.heap.size w W) => Guards_any t y A n c ms W (hT.below h) hc)
  have C4 := Lib.hid (fun (W : World) (h : Below w.heap.size w W) => rGuards_any t y A n c ms W (hT.below h))
  have HA1 := Lib.hid (causes_all (t := t) (y := y)); have HA2 := Lib.hid (guards_all (t := t) (y := y))
  have HW1 := Lib.hid hW1
  have q0 := K1.out.cell (i := 0) rfl
  have qz := K1.out.lt
  clear hW1 hT
  generalize causesT t y = X at *
  generalize guardsT t y = Y at *
  obtain ⟨X1, X2⟩ := X
  obtain ⟨Y1, Y2⟩ := Y
  dsimp only at *
  go_enter Tryz.func3, Tryz.ntmps3
  go_wp2_with fail
  rw [HW1.out]
  go_wp2_with fail
  refine CG.out.mono ?_
  rintro e W2 ⟨rfl, hb2⟩
  have HB2 : Hid (Below w.heap.size w W2) := HB1.out.trans (hb2.mono HB1.out.size)
  have M1 := Lib.hid (K1.out.later hb2)
  clear hb2 q0 qz HW1 K1 CG
  generalize greatB t = gb at *
  cases gb
  · have q0 := M1.out.cell (i := 0) rfl
    have qz := M1.out.lt
    go_wp2_with fail
    refine (C1.out _ HB2.out).mono ?_
    rintro e W3 ⟨v3, ps, rfl, hr3, hps, hb3⟩
    dsimp only at hps
    obtain ⟨V1, c1, rfl, hL3⟩ := hr3.lsm (fun p hp => by have := HA1.out.2 p.1 (by rw [← hps]; exact List.mem_map_of_mem hp); omega)
    rw [hps] at hL3
    have HB3 : Hid (Below w.heap.size w W3) := HB2.out.trans (hb3.mono HB2.out.size)
    have N1 := Lib.hid (M1.out.later hb3)
    have HL3 := Lib.hid hL3
    have HN3 : Hid (ps.length ≤ 1000000) := by have := HA1.out.1; rw [← hps, List.length_map] at this; exact this
    clear hb3 q0 qz C1 hr3 hps hL3
    dsimp only
    have q0 := N1.out.cell (i := 0) rfl
    have qz := N1.out.lt
    go_wp2_with fail
    refine (C2.out _ HB3.out).mono ?_
    rintro e W4 ⟨v4, qs, rfl, hr4, hqs, hb4⟩
    dsimp only at hqs
    obtain ⟨V2, c2, rfl, hL4⟩ := hr4.lsm (fun p hp => by have := HA1.out.2 p.1 (by rw [← hqs]; exact List.mem_map_of_mem hp); omega)
    rw [hqs] at hL4
    have HB4 : Hid (Below w.heap.size w W4) := HB3.out.trans (hb4.mono HB3.out.size)
    have O1 := Lib.hid (N1.out.later hb4)
    have hsm := sameSets_any X1 X1 V1 ps.length c1 _ V2 qs.length c2 _ W4 (HL3.out.below hb4) hL4 (by have := HN3.out; omega)
    rw [show decide (X1 = X1) = true from decide_eq_true rfl] at hsm
    have HSm := Lib.hid hsm
    have e2 : (X2 != X2) = false := by simp
    clear hb4 q0 qz C2 hr4 hqs hL4 hsm HL3
    dsimp only
    go_wp2_with fail
    refine HSm.out.mono ?_
    rintro e W5 ⟨rfl, hb5⟩
    have HB5 : Hid (Below w.heap.size w W5) := HB4.out.trans (hb5.mono HB4.out.size)
    have P1 := Lib.hid (O1.out.later hb5)
    clear hb5 HSm
    have q0 := P1.out.cell (i := 0) rfl
    have qz := P1.out.lt
    go_wp2_with fail
    refine (C3.out _ HB5.out).mono ?_
    rintro e W6 ⟨v6, ps2, rfl, hr6, hps2, hb6⟩
    dsimp only at hps2
    obtain ⟨V3, c3, rfl, hL6⟩ := hr6.lsm (fun p hp => by have := HA2.out.2 p.1 (by rw [← hps2]; exact List.mem_map_of_mem hp); omega)
    rw [hps2] at hL6
    have HB6 : Hid (Below w.heap.size w W6) := HB5.out.trans (hb6.mono HB5.out.size)
    have R1 := Lib.hid (P1.out.later hb6)
    have HL6 := Lib.hid hL6
    have HN6 : Hid (ps2.length ≤ 1000000) := by have := HA2.out.1; rw [← hps2, List.length_map] at this; exact this
    clear hb6 q0 qz C3 hr6 hps2 hL6 e2
    dsimp only
    have q0 := R1.out.cell (i := 0) rfl
    have qz := R1.out.lt
    go_wp2_with fail
    refine (C4.out _ HB6.out).mono ?_
    rintro e W7 ⟨v7, qs2, rfl, hr7, hqs2, hb7⟩
    dsimp only at hqs2
    obtain ⟨V4, c4, rfl, hL7⟩ := hr7.lsm (fun p hp => by have := HA2.out.2 p.1 (by rw [← hqs2]; exact List.mem_map_of_mem hp); omega)
    rw [hqs2] at hL7
    have HB7 : Hid (Below w.heap.size w W7) := HB6.out.trans (hb7.mono HB6.out.size)
    have hsm := sameSets_any Y1 Y1 V3 ps2.length c3 _ V4 qs2.length c4 _ W7 (HL6.out.below hb7) hL7 (by have := HN6.out; omega)
    rw [show decide (Y1 = Y1) = true from decide_eq_true rfl] at hsm
    have HSm := Lib.hid hsm
    have e2 : (Y2 == Y2) = true := by simp
    clear hb7 q0 qz C4 hr7 hqs2 hL7 hsm HL6
    dsimp only
    go_wp2_with fail
    refine HSm.out.mono ?_
    rintro e W8 ⟨rfl, hb8⟩
    have HB8 : Hid (Below w.heap.size w W8) := HB7.out.trans (hb8.mono HB7.out.size)
    clear hb8 HSm
    go_wp2_with fail
    refine (Awake_any _).mono ?_
    rintro e W9 ⟨rfl, hb9⟩
    have HB9 : Hid (Below w.heap.size w W9) := HB8.out.trans (hb9.mono HB8.out.size)
    clear hb9
    go_wp2_with fail
    go_ret
    exact ⟨rfl, HB9.out⟩
  · go_wp2_with fail
    refine (Awake_any _).mono ?_
    rintro e W7 ⟨rfl, hb7⟩
    have HB7 : Hid (Below w.heap.size w W7) := HB2.out.trans (hb7.mono HB2.out.size)
    clear hb7
    go_wp2_with fail
    go_ret
    exact ⟨rfl, HB7.out⟩
end Go.Proofs.YtadldndpphdmpaaGreat
