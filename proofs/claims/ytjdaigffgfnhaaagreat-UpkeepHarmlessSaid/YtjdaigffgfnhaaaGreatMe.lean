import Derived.Test.YtjdaigffgfnhaaaGreatHa
namespace Go.Proofs.YtjdaigffgfnhaaaGreat
open Go.RowKit

set_option maxRecDepth 100000 in
set_option maxHeartbeats 1000000 in
theorem free_any (t : Task) (p : Nat) (A : Option Addr) (n c : Nat) (A' : Option Addr) (n' c' : Nat) (As : Option Addr) (m cs : Nat) (ss : List Int) (Bs Bp : Nat) (i : Nat) (s : Int) (x : Work) (w : World) (hP : Pl w p t A n c A' n' c') (hs : RdI w As m ss) (hsi : ss[i]? = some s) (hxi : t.works[i]? = some x)
    (b1 : w.cell? ⟨Bs, 0, none⟩ = some (.slice As m cs)) (b2 : w.cell? ⟨Bp, 0, none⟩ = some (.pointer (some ⟨p, 0, none⟩))) (s0 : 0 ≤ s) (s1 : s ≤ 1000) (d0 : 0 ≤ x.days) (d1 : x.days ≤ 1000) (g0 : 0 ≤ t.gap) (g1 : t.gap ≤ 1000) :
    Calls Tryz.prog 71 #[.int .i64 (i : Int), .pointer (some ⟨Bs, 0, none⟩), .pointer (some ⟨Bp, 0, none⟩)] w fun e w' => e = .returned (.int .i64 (s + x.days + t.gap)) ∧ Below w.heap.size w w' := by
  have him : i < m := by have := (List.getElem?_eq_some_iff.1 hsi).1; have := hs.1; omega
  have hin : i < n' := by have := (List.getElem?_eq_some_iff.1 hxi).1; have := hP.works.1; omega
  obtain ⟨s', sd, hs', rfl, cs0⟩ := rdI_get hs him
  rw [hsi] at hs'
  cases hs'
  obtain ⟨Sx, cap, hb, _⟩ := hP.blk
  obtain ⟨ad, rfl, ha⟩ := hP.works.2 i x hxi
  obtain ⟨c0, c1, c2, c3, c4, c5, c6⟩ := ha.seven
  have q1 := later_cell b1
  have q2 := later_cell b2
  have q3 := later_cell cs0
  have q4 := later_cell (hb.cell (i := 3) rfl)
  have q5 := later_cell (hb.cell (i := 4) rfl)
  have q6 := later_cell c2
  have hi1 : (i : Int) < (m : Int) := by omega
  have hi2 : (i : Int) < (n' : Int) := by omega
  clear c0 c1 c2 c3 c4 c5 c6 ha hb cs0 b1 b2 hP hs hsi hxi
  go_enter Tryz.func71, Tryz.ntmps71
  go_wp2
  refine wp_region_later (by kernel_rfl) (by kernel_rfl) ?_
  iterate 21 (go_big_quiet_want; go_big_quiet_op; go_big_quiet_on)
  refine wpQuiet_nil ?_
  intro _ hw'
  obtain ⟨u, hu⟩ := hw'
  subst hu
  clear q1 q2 q3 q4 q5 q6
  go_wp2
  go_ret
  exact ⟨rfl, u.h⟩

set_option maxRecDepth 100000 in
set_option maxHeartbeats 2000000 in
theorem meet_any (t : Task) (p : Nat) (A : Option Addr) (n c : Nat) (A' : Option Addr) (n' c' : Nat) (As : Option Addr) (m cs : Nat) (ss : List Int) (i j : Nat) (si sj : Int) (xi xj : Work) (w : World) (hP : Pl w p t A n c A' n' c') (hs : RdI w As m ss) (hsi : ss[i]? = some si) (hxi : t.works[i]? = some xi) (hsj : ss[j]? = some sj) (hxj : t.works[j]? = some xj)
    (s0 : 0 ≤ si) (s1 : si ≤ 1000) (s2 : 0 ≤ sj) (s3 : sj ≤ 1000) (d0 : 0 ≤ xi.days) (d1 : xi.days ≤ 1000) (d2 : 0 ≤ xj.days) (d3 : xj.days ≤ 1000) (g0 : 0 ≤ t.gap) (g1 : t.gap ≤ 1000) :
    Calls Tryz.prog 52 #[.pointer (some ⟨p, 0, none⟩), .slice As m cs, .int .i64 (i : Int), .int .i64 (j : Int)] w fun e w' => e = .returned (.bool (mB t.gap si xi.days sj xj.days)) ∧ Below w.heap.size w w' := by
  have him : i < m := by have := (List.getElem?_eq_some_iff.1 hsi).1; have := hs.1; omega
  have hjm : j < m := by have := (List.getElem?_eq_some_iff.1 hsj).1; have := hs.1; omega
  obtain ⟨s', sd, hs', rfl, cs0⟩ := rdI_get hs him
  rw [hsi] at hs'
  cases hs'
  obtain ⟨s', sd', hs', hsd, cs1⟩ := rdI_get hs hjm
  rw [hsj] at hs'
  cases hs'
  cases hsd
  have HP := Lib.hid hP; clear hP
  have HS := Lib.hid hs; clear hs
  have H1 := Lib.hid hsi; clear hsi
  have H2 := Lib.hid hxi; clear hxi
  have H3 := Lib.hid hsj; clear hsj
  have H4 := Lib.hid hxj; clear hxj
  have hi1 : (i : Int) < (m : Int) := by omega
  have hj1 : (j : Int) < (m : Int) := by omega
  go_enter Tryz.func52, Tryz.ntmps52
  go_wp2_with fail
  obtain ⟨W1, hW1⟩ : ∃ W1, (w.alloc (Obj.cells #[.pointer (some ⟨p, 0, none⟩)] 118)).alloc (Obj.cells #[.slice (some sd) m cs] 31) = W1 := ⟨_, rfl⟩
  have HB1 : Hid (Below w.heap.size w W1) := by rw [← hW1]; exact ((Below.refl _ _).alloc (Nat.le_refl _) _).alloc (by simp) _
  have K1 : Hid (Blk W1 w.heap.size 118 #[.pointer (some ⟨p, 0, none⟩)]) := by rw [← hW1]; exact (Blk.new _ _ _ rfl).alloc _
  have K2 : Hid (Blk W1 (w.heap.size + 1) 31 #[.slice (some sd) m cs]) := by rw [← hW1]; exact Blk.new _ _ _ (by simp)
  rw [hW1]
  clear hW1
  have q1 := later_cell (K2.out.cell (i := 0) rfl)
  have q2 := later_cell (cell_below HB1.out cs0)
  have q3 := later_cell (cell_below HB1.out cs1)
  refine wp_region_later (by kernel_rfl) (by kernel_rfl) ?_
  iterate 9 (go_big_quiet_want; go_big_quiet_op; go_big_quiet_on)
  refine wpQuiet_nil ?_
  intro _ hw'
  obtain ⟨u, hu⟩ := hw'
  subst hu
  clear q1 q2 q3
  have HBu : Hid (Below w.heap.size w u.w) := HB1.out.trans (u.h.mono HB1.out.size)
  have q1 := later_cell ((K2.out.later u.h).cell (i := 0) rfl)
  have q2 := later_cell (cell_below HBu.out cs0)
  have q3 := later_cell (cell_below HBu.out cs1)
  have hfi : ∀ u' : Later u.w, Calls Tryz.prog 71 #[.int .i64 (i : Int), .pointer (some ⟨w.heap.size + 1, 0, none⟩), .pointer (some ⟨w.heap.size, 0, none⟩)] u'.w fun e w' => e = .returned (.int .i64 (si + xi.days + t.gap)) ∧ Below u'.w.heap.size u'.w w' := fun u' =>
    free_any t p A n c A' n' c' (some sd) m cs ss _ _ i si xi u'.w ((HP.out.below HBu.out).below u'.h) ((HS.out.below HBu.out).below u'.h) H1.out H2.out (((K2.out.later u.h).later u'.h).cell (i := 0) rfl) (((K1.out.later u.h).later u'.h).cell (i := 0) rfl) s0 s1 d0 d1 g0 g1
  have hfj : ∀ u' : Later u.w, Calls Tryz.prog 71 #[.int .i64 (j : Int), .pointer (some ⟨w.heap.size + 1, 0, none⟩), .pointer (some ⟨w.heap.size, 0, none⟩)] u'.w fun e w' => e = .returned (.int .i64 (sj + xj.days + t.gap)) ∧ Below u'.w.heap.size u'.w w' := fun u' =>
    free_any t p A n c A' n' c' (some sd) m cs ss _ _ j sj xj u'.w ((HP.out.below HBu.out).below u'.h) ((HS.out.below HBu.out).below u'.h) H3.out H4.out (((K2.out.later u.h).later u'.h).cell (i := 0) rfl) (((K1.out.later u.h).later u'.h).cell (i := 0) rfl) s2 s3 d2 d3 g0 g1
  have HFi := Lib.hid hfi; clear hfi
  have HFj := Lib.hid hfj; clear hfj
  by_cases hlt : sj < si
  · have HM : Hid (mB t.gap si xi.days sj xj.days = (decide (si < sj + xj.days + t.gap) || decide (sj + 365 < si + xi.days + t.gap))) := by unfold mB; rw [if_pos hlt]; rfl
    by_cases hg : si < sj + xj.days + t.gap
    · have hg' : decide (si < sj + xj.days + t.gap) = true := by simpa using hg
      go_wp2
      refine wp_region_later (by kernel_rfl) (by kernel_rfl) ?_
      repeat (first | go_big_quiet_skip | (go_big_quiet_want; go_big_quiet_op; first | go_big_quiet_on | (apply Exists.intro; refine ⟨fun _ => ?_, ?_⟩; (· (first | (with_reducible exact later_calls (HFj.out _)) | (with_reducible exact later_calls (HFi.out _)))); go_big_quiet_on)))
      refine wpQuiet_nil ?_
      intro _ hw'
      obtain ⟨u2, hu⟩ := hw'
      subst hu
      clear q1 q2 q3
      go_wp2
      go_ret
      exact ⟨ret_bool (by rw [HM.out]; simp [hg]), HBu.out.trans (u2.h.mono HBu.out.size)⟩
    · have hg' : decide (si < sj + xj.days + t.gap) = false := by simpa using hg
      have HGf := Lib.hid hg'
      go_wp2
      refine wp_region_later (by kernel_rfl) (by kernel_rfl) ?_
      repeat (first | go_big_quiet_skip | (go_big_quiet_want; go_big_quiet_op; first | go_big_quiet_on | (apply Exists.intro; refine ⟨fun _ => ?_, ?_⟩; (· (first | (with_reducible exact later_calls (HFj.out _)) | (with_reducible exact later_calls (HFi.out _)))); go_big_quiet_on)))
      refine wpQuiet_nil ?_
      intro _ hw'
      obtain ⟨u2, hu⟩ := hw'
      subst hu
      clear q1 q2 q3
      go_wp2
      go_ret
      exact ⟨ret_bool (by rw [HM.out, HGf.out, Bool.false_or]), HBu.out.trans (u2.h.mono HBu.out.size)⟩
  · have HM : Hid (mB t.gap si xi.days sj xj.days = (decide (sj < si + xi.days + t.gap) || decide (si + 365 < sj + xj.days + t.gap))) := by unfold mB; rw [if_neg hlt]; rfl
    by_cases hg : sj < si + xi.days + t.gap
    · have hg' : decide (sj < si + xi.days + t.gap) = true := by simpa using hg
      go_wp2
      refine wp_region_later (by kernel_rfl) (by kernel_rfl) ?_
      repeat (first | go_big_quiet_skip | (go_big_quiet_want; go_big_quiet_op; first | go_big_quiet_on | (apply Exists.intro; refine ⟨fun _ => ?_, ?_⟩; (· (first | (with_reducible exact later_calls (HFi.out _)) | (with_reducible exact later_calls (HFj.out _)))); go_big_quiet_on)))
      refine wpQuiet_nil ?_
      intro _ hw'
      obtain ⟨u2, hu⟩ := hw'
      subst hu
      clear q1 q2 q3
      go_wp2
      go_ret
      exact ⟨ret_bool (by rw [HM.out]; simp [hg]), HBu.out.trans (u2.h.mono HBu.out.size)⟩
    · have hg' : decide (sj < si + xi.days + t.gap) = false := by simpa using hg
      have HGf := Lib.hid hg'
      go_wp2
      refine wp_region_later (by kernel_rfl) (by kernel_rfl) ?_
      repeat (first | go_big_quiet_skip | (go_big_quiet_want; go_big_quiet_op; first | go_big_quiet_on | (apply Exists.intro; refine ⟨fun _ => ?_, ?_⟩; (· (first | (with_reducible exact later_calls (HFi.out _)) | (with_reducible exact later_calls (HFj.out _)))); go_big_quiet_on)))
      refine wpQuiet_nil ?_
      intro _ hw'
      obtain ⟨u2, hu⟩ := hw'
      subst hu
      clear q1 q2 q3
      go_wp2
      go_ret
      exact ⟨ret_bool (by rw [HM.out, HGf.out, Bool.false_or]), HBu.out.trans (u2.h.mono HBu.out.size)⟩
end Go.Proofs.YtjdaigffgfnhaaaGreat
