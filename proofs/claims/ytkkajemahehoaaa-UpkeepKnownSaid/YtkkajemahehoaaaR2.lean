/- The reference's exceeded, risk, inSeason, Risk. -/
import Derived.Test.YtkkajemahehoaaaR1
namespace Go.Proofs.Ytkkajemahehoaaa
open Go.RowKit

theorem winB_in (d m : Int) (h : High) (y : Int) : winB d m h y = !outB (h.day + (h.year - y) * 365) d (d + m - 1) := by
  unfold winB outB
  rw [Bool.eq_iff_iff]
  simp
  omega

set_option maxRecDepth 100000 in
set_option maxHeartbeats 2000000 in
theorem refExceeded_any (hs : List High) (fi ye d m lvl y : Int) (A : Option Addr) (n c : Nat) (w : World) (hr : RdH w A n hs) (hn : n ≤ 1000) (d0 : 0 ≤ d) (d1 : d ≤ 364) (m0 : 1 ≤ m) (m1 : m ≤ 365) (y0 : -5 ≤ y) (y1 : y ≤ 100000) (hd : ∀ h ∈ hs, (0 ≤ h.day ∧ h.day ≤ 364) ∧ 0 ≤ h.year ∧ h.year ≤ 20000) :
    Calls Try.prog 105 #[.agg #[.int .i64 fi, .int .i64 ye, .slice A n c], .int .i64 d, .int .i64 m, .int .i64 lvl, .int .i64 y] w fun e w' => e = .returned (.bool (excB hs d m lvl y)) ∧ Below w.heap.size w w' := by
  have HR := Lib.hid hr; have hlen := hr.1; clear hr
  have HD := Lib.hid hd; clear hd
  go_enter Try.func105, Try.ntmps105
  go_wp2
  obtain ⟨W1, hW1⟩ : ∃ W1, w.alloc (Obj.cells #[.int .i64 fi, .int .i64 ye, .slice A n c] 24) = W1 := ⟨_, rfl⟩
  have K1 : Hid (Blk W1 w.heap.size 24 #[.int .i64 fi, .int .i64 ye, .slice A n c]) := by rw [← hW1]; exact Blk.new _ _ _ rfl
  have HB1 : Hid (Below w.heap.size w W1) := by rw [← hW1]; exact (Below.refl _ _).alloc (Nat.le_refl _) _
  rw [hW1]
  clear hW1
  go_loopw [11] (fun i wr => ∃ k : Nat, k ≤ n ∧ i = .int .i64 k ∧ Below W1.heap.size W1 wr ∧ excB (hs.take k) d m lvl y = false) (fun i _ => n - (intOf i).toNat)
  case atStart => exact ⟨0, Nat.zero_le _, rfl, Below.refl _ _, rfl⟩
  case round =>
    obtain ⟨k, hk, rfl, hB, hE⟩ := hrel
    have HB := Lib.hid hB; clear hB
    have HE := Lib.hid hE; clear hE
    have HBw : Hid (Below w.heap.size w wr) := HB1.out.trans (HB.out.mono HB1.out.size)
    have k2 := (K1.out.later HB.out).cell (i := 2) rfl
    have hsz : w.heap.size < wr.heap.size := (K1.out.later HB.out).lt
    by_cases hlt : k < n
    · obtain ⟨h, ad, hh, rfl, ha⟩ := (HR.out.below HBw.out).get hlt
      obtain ⟨c0, c1, c2⟩ := ha.three
      have hdd := HD.out h (List.mem_of_getElem? hh)
      obtain ⟨⟨e1, e2⟩, e3, e4⟩ := hdd
      have hit : ∀ b : Bool, (decide (lvl < h.level) && winB d m h y) = b → excB (hs.take (k + 1)) d m lvl y = b := fun b hb => by
        have hl : k < hs.length := by omega
        unfold excB
        rw [List.take_succ_eq_append_getElem hl, List.any_append, (List.getElem?_eq_some_iff.1 hh).2]
        have h1 := HE.out
        unfold excB at h1
        rw [h1]
        simp [hb]
      have HNo : Hid ((decide (lvl < h.level) && winB d m h y) = false → excB (hs.take (k + 1)) d m lvl y = false) := hit false
      have HYes : Hid ((decide (lvl < h.level) && winB d m h y) = true → excB hs d m lvl y = true) := fun hf => List.any_eq_true.2 ⟨h, List.mem_of_getElem? hh, hf⟩
      rw [winB_in] at HNo HYes
      clear hh ha hit
      have hkl : (k : Int) < (n : Int) := by omega
      cases q1 : outB (h.day + (h.year - y) * 365) d (d + m - 1)
      · cases q2 : decide (lvl < h.level)
        · have HN2 : Hid (excB (hs.take (k + 1)) d m lvl y = false) := HNo.out (by rw [q2]; rfl)
          clear HNo HYes HE
          go_wp2_with (go_at_call 53; refine (in_any _ _ _ _).mono ?_; rintro e w' ⟨rfl, rfl⟩)
          go_roundw
          case rel => exact ⟨k + 1, by omega, by go_num, HB.out.alloc HB.out.size _, HN2.out⟩
          case measure => simp [intOf]; omega
        · have HY2 : Hid (excB hs d m lvl y = true) := HYes.out (by rw [q1, q2]; rfl)
          clear HNo HYes HE
          go_wp2_with (go_at_call 53; refine (in_any _ _ _ _).mono ?_; rintro e w' ⟨rfl, rfl⟩)
          go_ret
          exact ⟨ret_bool HY2.out.symm, HBw.out.alloc HBw.out.size _⟩
      · have HN2 : Hid (excB (hs.take (k + 1)) d m lvl y = false) := HNo.out (by rw [q1]; simp)
        clear HNo HYes HE
        go_wp2_with (go_at_call 53; refine (in_any _ _ _ _).mono ?_; rintro e w' ⟨rfl, rfl⟩)
        go_roundw
        case rel => exact ⟨k + 1, by omega, by go_num, HB.out.alloc HB.out.size _, HN2.out⟩
        case measure => simp [intOf]; omega
    · obtain rfl : k = n := by omega
      go_wp2
      go_ret
      have := HE.out
      rw [List.take_of_length_le (by omega)] at this
      exact ⟨ret_bool this.symm, HBw.out⟩

theorem refExceeded_rec (r : Rec) (d m lvl y : Int) (A : Option Addr) (n c : Nat) (w : World) (hr : RdH w A n r.highs) (hR : RecOK r) (d0 : 0 ≤ d) (d1 : d ≤ 364) (m0 : 1 ≤ m) (m1 : m ≤ 365) (y0 : -5 ≤ y) (y1 : y ≤ 100000) :
    Calls Try.prog 105 #[.agg #[.int .i64 r.first, .int .i64 r.years, .slice A n c], .int .i64 d, .int .i64 m, .int .i64 lvl, .int .i64 y] w fun e w' => e = .returned (.bool (excB r.highs d m lvl y)) ∧ Below w.heap.size w w' :=
  refExceeded_any r.highs r.first r.years d m lvl y A n c w hr (by have := hr.1; have := hR.len; omega) d0 d1 m0 m1 y0 y1 (fun h hh => by
    obtain ⟨i, hi, rfl⟩ := List.getElem_of_mem hh
    have := hR.rows i _ (List.getElem?_eq_getElem hi)
    have := hR.f0
    have := hR.f1
    exact ⟨⟨by omega, by omega⟩, by omega, by omega⟩)

theorem riskF_cnt (r : Rec) (d m lvl : Int) (hR : RecOK r) : riskF r d m lvl = ((cntB (excB r.highs d m lvl) r.first (ofF r.years (wrapsB d m)).toNat : Int), ofF r.years (wrapsB d m)) := by
  have h1 := ofF_bounds (wrapsB d m) hR.y0 hR.y1
  unfold riskF cntB
  rw [show (((ofF r.years (wrapsB d m)).toNat : Nat) : Int) = ofF r.years (wrapsB d m) by omega]

set_option maxRecDepth 100000 in
set_option maxHeartbeats 2000000 in
theorem refRisk_any (r : Rec) (d m lvl : Int) (A : Option Addr) (n c : Nat) (w : World) (hR : RecOK r) (hr : RdH w A n r.highs) (d0 : 0 ≤ d) (d1 : d ≤ 364) (m0 : 1 ≤ m) (m1 : m ≤ 365) :
    Calls Try.prog 86 #[.agg #[.int .i64 r.first, .int .i64 r.years, .slice A n c], .int .i64 d, .int .i64 m, .int .i64 lvl] w fun e w' => e = .returned (.agg #[.int .i64 (riskF r d m lvl).1, .int .i64 (riskF r d m lvl).2]) ∧ Below w.heap.size w w' := by
  obtain ⟨f0, f1, y0, y1⟩ : 0 ≤ r.first ∧ r.first ≤ 9999 ∧ 2 ≤ r.years ∧ r.years ≤ 200 := ⟨hR.f0, hR.f1, hR.y0, hR.y1⟩
  have HEx : Hid (∀ (y : Int) (W : World), Below w.heap.size w W → -5 ≤ y → y ≤ 100000 → Calls Try.prog 105 #[.agg #[.int .i64 r.first, .int .i64 r.years, .slice A n c], .int .i64 d, .int .i64 m, .int .i64 lvl, .int .i64 y] W fun e w' => e = .returned (.bool (excB r.highs d m lvl y)) ∧ Below W.heap.size W w') :=
    fun y W hW a b => refExceeded_rec r d m lvl y A n c W (hr.below hW) hR d0 d1 m0 m1 a b
  rw [riskF_cnt r d m lvl hR]
  have hob := ofF_bounds (wrapsB d m) y0 y1
  have HLa : Hid (∀ W : World, Calls Try.prog 104 #[.agg #[.int .i64 r.first, .int .i64 r.years, .slice A n c], .bool (wrapsB d m)] W fun e w' => e = .returned (.int .i64 (r.first + ofF r.years (wrapsB d m) - 1)) ∧ Below W.heap.size W w') := fun W => refLast_any _ _ _ _ W f0 f1 y0 y1
  generalize excB r.highs d m lvl = P at *
  generalize hb : wrapsB d m = wb at *
  have HWb := Lib.hid hb; clear hb
  obtain ⟨K, hK⟩ : ∃ K : Nat, ofF r.years wb = (K : Int) := ⟨(ofF r.years wb).toNat, by omega⟩
  rw [hK] at hob HLa ⊢
  rw [show ((K : Int).toNat) = K from rfl]
  clear hK hR hr
  go_enter Try.func86, Try.ntmps86
  go_wp2
  obtain ⟨W1, hW1⟩ : ∃ W1, ((w.alloc (Obj.cells #[.int .i64 r.first, .int .i64 r.years, .slice A n c] 24)).alloc (Obj.cells #[.int .i64 0, .int .i64 0] 27)).alloc (Obj.cells #[.int .i64 0, .int .i64 0] 27) = W1 := ⟨_, rfl⟩
  have HTh := three w #[.int .i64 r.first, .int .i64 r.years, .slice A n c] #[.int .i64 0, .int .i64 0] #[.int .i64 0, .int .i64 0] 24 27 27
  rw [hW1] at HTh
  have hs1 : W1.heap.size = w.heap.size + 3 := by rw [← hW1]; simp
  rw [hW1]
  clear hW1
  obtain ⟨hb1, hk1, hk2, hk3⟩ := HTh
  have HB1 := Lib.hid hb1; have K1 := Lib.hid hk1; have K2 := Lib.hid hk2; have K3 := Lib.hid hk3; have HS1 := Lib.hid hs1
  clear hb1 hk1 hk2 hk3 hs1
  go_loopw [10] (fun y wr => ∃ k : Nat, k ≤ K ∧ y = .int .i64 (r.first + k) ∧ Blk wr (w.heap.size + 1 + 1) 27 #[.int .i64 (cntB P r.first k : Nat), .int .i64 (k : Int)] ∧ Below (w.heap.size + 1 + 1) W1 wr) (fun y _ => (r.first + K - intOf y).toNat)
  case atStart => exact ⟨0, Nat.zero_le _, by simp, K3.out, Below.refl _ _⟩
  case round =>
    obtain ⟨k, hk, rfl, hKk, hB⟩ := hrel
    have hcl := cntB_le P r.first k
    have HB := Lib.hid hB; clear hB
    have HKk := Lib.hid hKk; clear hKk
    have HBw : Hid (Below w.heap.size w wr) := HB1.out.trans (HB.out.mono (by omega))
    have L1 := Lib.hid (K1.out.below HB.out (by omega))
    have L2 := Lib.hid (K2.out.below HB.out (by omega))
    have q0 := later_cell (L1.out.cell (i := 0) rfl)
    have q1 := later_cell (L1.out.cell (i := 1) rfl)
    have q2 := later_cell (L1.out.cell (i := 2) rfl)
    have HW1 : Hid (∀ u : Later wr, Calls Try.prog 103 #[.int .i64 d, .int .i64 m] u.w fun e w' => e = .returned (.bool wb) ∧ u.w = w') := fun u => by
      have := refWraps_any d m u.w (by omega) (by omega) (by omega) (by omega)
      rw [HWb.out] at this
      exact this
    by_cases hlt : k < K
    · have hd1 : decide (r.first + (k : Int) ≤ r.first + (K : Int) - 1) = true := by simp; omega
      have HS := Lib.hid (cntB_succ P r.first k)
      go_wp2
      refine wp_region_later (by kernel_rfl) (by kernel_rfl) ?_
      repeat (first | go_big_quiet_skip | (go_big_quiet_want; go_big_quiet_op; first | go_big_quiet_on | (apply Exists.intro; refine ⟨fun _ => ?_, ?_⟩; (· (first | (with_reducible exact later_same (HW1.out _)) | (with_reducible exact later_calls (HLa.out _)))); go_big_quiet_on)))
      refine wpQuiet_nil ?_
      intro _ hw'
      obtain ⟨u, hu⟩ := hw'
      subst hu
      clear q0 q1 q2
      have M3 := HKk.out.later u.h
      have M1 := L1.out.later u.h
      have i0 := M3.cell (i := 0) rfl
      have i1 := M3.cell (i := 1) rfl
      have z0 := M3.frozen 0
      have z1 := M3.frozen 1
      have j0 := M1.cell (i := 0) rfl
      have j1 := M1.cell (i := 1) rfl
      have j2 := M1.cell (i := 2) rfl
      have hm3 := M3.lt
      have N3 := Lib.hid (M3.set 1 (.int .i64 ((k : Int) + 1)))
      have HBu : Hid (Below (w.heap.size + 1 + 1) W1 (u.w.setCell ⟨w.heap.size + 1 + 1, 1, none⟩ (.int .i64 ((k : Int) + 1)))) := (HB.out.trans (u.h.mono (by have := HB.out.size; have := HS1.out; omega))).setCell (p := ⟨w.heap.size + 1 + 1, 1, none⟩) (by simp) _
      clear M3 M1
      go_wp2_with fail
      clear i0 i1 z0 z1 j0 j1 j2
      generalize u.w.setCell ⟨w.heap.size + 1 + 1, 1, none⟩ (.int .i64 ((k : Int) + 1)) = W4 at *
      have HBv : Hid (Below w.heap.size w W4) := HB1.out.trans (HBu.out.mono (by omega))
      refine (HEx.out _ _ HBv.out (by omega) (by omega)).mono ?_
      rintro e W5 ⟨rfl, hb5⟩
      have M3 := N3.out.later hb5
      have HB5 : Hid (Below (w.heap.size + 1 + 1) W1 W5) := HBu.out.trans (hb5.mono (by have := HBu.out.size; have := HS1.out; omega))
      clear hb5
      cases hP : P (r.first + k)
      · have HS2 : Hid (cntB P r.first (k + 1) = cntB P r.first k) := by rw [HS.out, hP]; rfl
        have N5 := Lib.hid M3
        clear hP HS M3
        go_wp2_with fail
        go_roundw
        case rel => exact ⟨k + 1, by omega, by go_num, by rw [HS2.out]; have := N5.out; simpa using this, HB5.out⟩
        case measure => simp [intOf]; omega
      · have HS2 : Hid (cntB P r.first (k + 1) = cntB P r.first k + 1) := by rw [HS.out, hP]; rfl
        have i0 := M3.cell (i := 0) rfl
        have z0 := M3.frozen 0
        have N5 := Lib.hid (M3.set 0 (.int .i64 ((cntB P r.first k : Int) + 1)))
        clear hP HS M3
        go_wp2_with fail
        go_roundw
        case rel => exact ⟨k + 1, by omega, by go_num, by rw [HS2.out]; have := N5.out; simpa using this, HB5.out.setCell (p := ⟨w.heap.size + 1 + 1, 0, none⟩) (by simp) _⟩
        case measure => simp [intOf]; omega
    · obtain rfl : K = k := by omega
      have hd1 : decide (r.first + (K : Int) ≤ r.first + (K : Int) - 1) = false := by simp; omega
      go_wp2
      refine wp_region_later (by kernel_rfl) (by kernel_rfl) ?_
      repeat (first | go_big_quiet_skip | (go_big_quiet_want; go_big_quiet_op; first | go_big_quiet_on | (apply Exists.intro; refine ⟨fun _ => ?_, ?_⟩; (· (first | (with_reducible exact later_same (HW1.out _)) | (with_reducible exact later_calls (HLa.out _)))); go_big_quiet_on)))
      refine wpQuiet_nil ?_
      intro _ hw'
      obtain ⟨u, hu⟩ := hw'
      subst hu
      clear q0 q1 q2
      have M3 := HKk.out.later u.h
      have M2 := L2.out.later u.h
      have i0 := M3.cell (i := 0) rfl
      have i1 := M3.cell (i := 1) rfl
      have p0 := M2.cell (i := 0) rfl
      have p1 := M2.cell (i := 1) rfl
      have z0 := M2.frozen 0
      have z1 := M2.frozen 1
      have N2 := Lib.hid ((M2.set 0 (.int .i64 (cntB P r.first K : Nat))).set 1 (.int .i64 (K : Int)))
      have HBu : Hid (Below w.heap.size w u.w) := HBw.out.trans (u.h.mono HBw.out.size)
      clear M3 M2
      go_wp2_with fail
      have JK := N2.out
      have c0 := JK.cell (i := 0) rfl
      have c1 := JK.cell (i := 1) rfl
      refine bodyPost_ret (v := .agg #[.int .i64 (cntB P r.first K : Nat), .int .i64 (K : Int)]) (by simp [results, Try.results86, go_sem, c0, c1]) rfl ⟨rfl, ?_⟩
      exact (HBu.out.setCell (p := ⟨w.heap.size + 1, 0, none⟩) (by simp) _).setCell (p := ⟨w.heap.size + 1, 1, none⟩) (by simp) _

set_option maxRecDepth 100000 in
set_option maxHeartbeats 2000000 in
theorem inSeason_any (r : Rec) (wd lvl : Int) (al : Int × Int) (d : Int) (A : Option Addr) (n c : Nat) (w : World) (hR : RecOK r) (hr : RdH w A n r.highs) (w0 : 1 ≤ wd) (w1 : wd ≤ 365) (d0 : 0 ≤ d) (d1 : d ≤ 364) (a0 : 0 ≤ al.1) (a1 : al.1 ≤ 1000) (a2 : 0 ≤ al.2) (a3 : al.2 ≤ 1000) :
    Calls Try.prog 76 #[.agg #[.int .i64 r.first, .int .i64 r.years, .slice A n c], .int .i64 wd, .int .i64 lvl, .agg #[.int .i64 al.1, .int .i64 al.2], .int .i64 d] w fun e w' => e = .returned (.bool (seasonB r wd lvl al d)) ∧ Below w.heap.size w w' := by
  obtain ⟨b1, b2, b3⟩ := two w #[.int .i64 r.first, .int .i64 r.years, .slice A n c] #[.int .i64 al.1, .int .i64 al.2] 24 27
  have hrb := riskF_bounds hR d wd lvl
  go_enter Try.func76, Try.ntmps76
  go_wp2
  obtain ⟨W1, hW1⟩ : ∃ W1, (w.alloc (Obj.cells #[.int .i64 r.first, .int .i64 r.years, .slice A n c] 24)).alloc (Obj.cells #[.int .i64 al.1, .int .i64 al.2] 27) = W1 := ⟨_, rfl⟩
  rw [hW1] at b1 b2 b3 ⊢
  have HRk : Hid (∀ u : Later W1, Calls Try.prog 86 #[.agg #[.int .i64 r.first, .int .i64 r.years, .slice A n c], .int .i64 d, .int .i64 wd, .int .i64 lvl] u.w fun e w' => e = .returned (.agg #[.int .i64 (riskF r d wd lvl).1, .int .i64 (riskF r d wd lvl).2]) ∧ Below u.w.heap.size u.w w') := fun u => refRisk_any r d wd lvl A n c u.w hR ((hr.below b1).below u.h) d0 d1 w0 w1
  have HGr : Hid (∀ u : Later W1, Calls Try.prog 71 #[.agg #[.int .i64 (riskF r d wd lvl).1, .int .i64 (riskF r d wd lvl).2], .agg #[.int .i64 al.1, .int .i64 al.2]] u.w fun e w' => e = .returned (.bool (seasonB r wd lvl al d)) ∧ Below u.w.heap.size u.w w') := fun u => refGreater_any (riskF r d wd lvl) al u.w (by omega) (by omega) (by omega) (by omega) a0 a1 a2 a3
  have HB1 := Lib.hid b1
  have q0 := later_cell (b2.cell (i := 0) rfl)
  have q1 := later_cell (b2.cell (i := 1) rfl)
  have q2 := later_cell (b2.cell (i := 2) rfl)
  have q3 := later_cell (b3.cell (i := 0) rfl)
  have q4 := later_cell (b3.cell (i := 1) rfl)
  clear hW1 b1 b2 b3 hr hR
  refine wp_region_later (by kernel_rfl) (by kernel_rfl) ?_
  repeat (first | go_big_quiet_skip | (go_big_quiet_want; go_big_quiet_op; first | go_big_quiet_on | (apply Exists.intro; refine ⟨fun _ => ?_, ?_⟩; (· (first | (with_reducible exact later_calls (HRk.out _)) | (with_reducible exact later_calls (HGr.out _)))); go_big_quiet_on)))
  refine wpQuiet_nil ?_
  intro _ hw'
  obtain ⟨u, hu⟩ := hw'
  subst hu
  go_wp2
  go_ret
  exact ⟨rfl, HB1.out.trans (u.h.mono HB1.out.size)⟩
end Go.Proofs.Ytkkajemahehoaaa
