/- UpkeepBest returns true. -/
import Derived.Test.YtkkajemahehoaaaPlain5
import Derived.Test.YtkkajemahehoaaaMn
namespace Go.Proofs.Ytkkajemahehoaaa
open Go.RowKit

/-- What Years returns, and what Judge returns. -/
def yOf (t : Task) (ss : List Int) : List Int × (Int × Int) × Int := if shErr t ss = 0 then (harmL t ss, harmR t ss, 0) else ([], (0, 0), shErr t ss)
def jOf (t : Task) (ss : List Int) : List Reason × Int := if shErr t ss = 0 then (judgeL t ss, 0) else ([], shErr t ss)
theorem years_of {t : Task} {ss : List Int} {w : World} {e : Ending} {w' : World} (h : YearsPost t ss w e w') :
    ∃ A c, e = .returned (.tuple #[.slice A (yOf t ss).1.length c, .agg #[.int .i64 (yOf t ss).2.1.1, .int .i64 (yOf t ss).2.1.2], .int .i64 (yOf t ss).2.2]) ∧ RdI w' A (yOf t ss).1.length (yOf t ss).1 ∧ Below w.heap.size w w' := by
  obtain ⟨hb, ⟨h1, rfl⟩ | ⟨h1, v, rfl, ho⟩⟩ := h
  · have e : yOf t ss = ([], (0, 0), shErr t ss) := if_neg h1
    rw [e]
    exact ⟨none, 0, rfl, Rd.nil, hb⟩
  · have e : yOf t ss = (harmL t ss, harmR t ss, 0) := if_pos h1
    rw [e]
    obtain ⟨A, c, rfl, hr, _, _⟩ := rdI_of_own ho rfl
    exact ⟨A, c, rfl, hr, hb⟩
theorem judge_of {t : Task} {ss : List Int} {w : World} {e : Ending} {w' : World} (h : JudgePost t ss w e w') :
    ∃ A c, e = .returned (.tuple #[.slice A (jOf t ss).1.length c, .int .i64 (jOf t ss).2]) ∧ Below w.heap.size w w' := by
  obtain ⟨hb, ⟨h1, rfl⟩ | ⟨h1, v, rfl, ho⟩⟩ := h
  · have e : jOf t ss = ([], shErr t ss) := if_neg h1
    rw [e]
    exact ⟨none, 0, rfl, hb⟩
  · have e : jOf t ss = (judgeL t ss, 0) := if_pos h1
    rw [e]
    obtain ⟨A, c, rfl, hr, _, _⟩ := rd_of_own reason_len ho rfl
    exact ⟨A, c, rfl, hb⟩
theorem shErr_zero {t : Task} {ss : List Int} (h : PlanOK t ss) : shErr t ss = 0 := by
  unfold shErr
  rw [if_neg (by rw [h.chk]; simp), if_neg (by rw [h.len]; simp), anyLate_false.2 h.days]
  rfl

set_option maxRecDepth 100000 in
set_option maxHeartbeats 2000000 in
theorem UpkeepBest_err (t : Task) (A : Option Addr) (n c : Nat) (A' : Option Addr) (n' c' : Nat) (S : Value) (w : World) (hT : TkM w t A n c A' n' c') (he : ((chkTask t).2.2 != 0) = true) :
    Calls Try.prog 12 #[.agg (t.val A n c A' n' c'), S] w fun e w' => e = .returned (.bool true) ∧ Below w.heap.size w w' := by
  have HB1 : Hid (Below w.heap.size w (w.alloc (.cells (t.val A n c A' n' c') 29))) := (Below.refl _ _).alloc (Nat.le_refl _) _
  have K1 : Hid (Blk (w.alloc (.cells (t.val A n c A' n' c') 29)) w.heap.size 29 (t.val A n c A' n' c')) := Blk.new _ _ _ rfl
  have C1 := Lib.hid (check_any t A n c A' n' c' _ (hT.hr.below HB1.out) (hT.hw.below HB1.out) hT.hc hT.nm)
  have C2 := Lib.hid (fun (W : World) (h : Below w.heap.size w W) => Many_any t A n c A' n' c' W (hT.below h))
  clear hT
  generalize chkTask t = Y at *
  obtain ⟨y1, y2, y3⟩ := Y
  unfold Task.val at *
  dsimp only at *
  go_enter Try.func12, Try.ntmps12
  go_wp2_with fail
  refine C1.out.mono ?_
  rintro e W2 ⟨rfl, hb2⟩
  have HB2 : Hid (Below w.heap.size w W2) := HB1.out.trans (hb2.mono HB1.out.size)
  have K2 := Lib.hid (K1.out.later hb2)
  clear hb2
  have q0 := K2.out.cell (i := 0) rfl
  have q1 := K2.out.cell (i := 1) rfl
  have q2 := K2.out.cell (i := 2) rfl
  have q3 := K2.out.cell (i := 3) rfl
  have q4 := K2.out.cell (i := 4) rfl
  have q5 := K2.out.cell (i := 5) rfl
  have q6 := K2.out.cell (i := 6) rfl
  have q7 := K2.out.cell (i := 7) rfl
  have q8 := K2.out.cell (i := 8) rfl
  have q9 := K2.out.cell (i := 9) rfl
  go_wp2_with fail
  refine (C2.out _ HB2.out).mono ?_
  rintro e W3 ⟨b, rfl, hb3⟩
  have HB3 : Hid (Below w.heap.size w W3) := HB2.out.trans (hb3.mono HB2.out.size)
  clear hb3 q0 q1 q2 q3 q4 q5 q6 q7 q8 q9
  cases b
  all_goals
    go_wp2_with fail
    refine (Awake_any _).mono ?_
    rintro e W7 ⟨rfl, hb7⟩
    have HB7 := Lib.hid (HB3.out.trans (hb7.mono HB3.out.size))
    clear hb7
    go_wp2_with fail
    go_ret
    exact ⟨rfl, HB7.out⟩
set_option maxRecDepth 100000 in
set_option maxHeartbeats 2000000 in
theorem UpkeepBest_none (t : Task) (ss : List Int) (A : Option Addr) (n c : Nat) (A' : Option Addr) (n' c' : Nat) (As : Option Addr) (m cs : Nat) (w : World) (hT : TkM w t A n c A' n' c') (hs : RdI w As m ss) (he : (chkTask t).2.2 = 0) (hB : bestF t = none) (hj : ((jOf t ss).2 != 0) = true ∨ (((jOf t ss).2 != 0) = false ∧ decide ((0 : Int) < ((jOf t ss).1.length : Int)) = true)) :
    Calls Try.prog 12 #[.agg (t.val A n c A' n' c'), .slice As m cs] w fun e w' => e = .returned (.bool true) ∧ Below w.heap.size w w' := by
  have HB1 : Hid (Below w.heap.size w (w.alloc (.cells (t.val A n c A' n' c') 29))) := (Below.refl _ _).alloc (Nat.le_refl _) _
  have K1 : Hid (Blk (w.alloc (.cells (t.val A n c A' n' c') 29)) w.heap.size 29 (t.val A n c A' n' c')) := Blk.new _ _ _ rfl
  have C1 := Lib.hid (check_any t A n c A' n' c' _ (hT.hr.below HB1.out) (hT.hw.below HB1.out) hT.hc hT.nm)
  have C2 := Lib.hid (fun (W : World) (h : Below w.heap.size w W) => Many_any t A n c A' n' c' W (hT.below h))
  have C3 := Lib.hid (fun (W : World) (h : Below w.heap.size w W) => best_ok t A n c A' n' c' W (hT.hr.below h) (hT.hw.below h) hT.hc hT.nm he)
  have C4 := Lib.hid (fun (W : World) (h : Below w.heap.size w W) => (Judge_any t ss A n c A' n' c' As m cs W (hT.below h) (hs.below h)).mono fun e w' h => judge_of h)
  clear hT hs
  rw [he] at C1
  generalize (chkTask t).1 = y1 at *
  generalize (chkTask t).2.1 = y2 at *
  unfold Task.val at *
  go_enter Try.func12, Try.ntmps12
  go_wp2_with fail
  refine C1.out.mono ?_
  rintro e W2 ⟨rfl, hb2⟩
  have HB2 : Hid (Below w.heap.size w W2) := HB1.out.trans (hb2.mono HB1.out.size)
  have K2 := Lib.hid (K1.out.later hb2)
  clear hb2
  have q0 := K2.out.cell (i := 0) rfl
  have q1 := K2.out.cell (i := 1) rfl
  have q2 := K2.out.cell (i := 2) rfl
  have q3 := K2.out.cell (i := 3) rfl
  have q4 := K2.out.cell (i := 4) rfl
  have q5 := K2.out.cell (i := 5) rfl
  have q6 := K2.out.cell (i := 6) rfl
  have q7 := K2.out.cell (i := 7) rfl
  have q8 := K2.out.cell (i := 8) rfl
  have q9 := K2.out.cell (i := 9) rfl
  go_wp2_with fail
  refine (C2.out _ HB2.out).mono ?_
  rintro e W3 ⟨b, rfl, hb3⟩
  have HB3 : Hid (Below w.heap.size w W3) := HB2.out.trans (hb3.mono HB2.out.size)
  have K3 := Lib.hid (K2.out.later hb3)
  clear hb3 q0 q1 q2 q3 q4 q5 q6 q7 q8 q9
  cases b
  case true =>
    go_wp2_with fail
    refine (Awake_any _).mono ?_
    rintro e WA ⟨rfl, hbA⟩
    have HBA := Lib.hid (HB3.out.trans (hbA.mono HB3.out.size))
    clear hbA
    go_wp2_with fail
    go_ret
    exact ⟨rfl, HBA.out⟩
  have q0 := K3.out.cell (i := 0) rfl
  have q1 := K3.out.cell (i := 1) rfl
  have q2 := K3.out.cell (i := 2) rfl
  have q3 := K3.out.cell (i := 3) rfl
  have q4 := K3.out.cell (i := 4) rfl
  have q5 := K3.out.cell (i := 5) rfl
  have q6 := K3.out.cell (i := 6) rfl
  have q7 := K3.out.cell (i := 7) rfl
  have q8 := K3.out.cell (i := 8) rfl
  have q9 := K3.out.cell (i := 9) rfl
  go_wp2_with fail
  refine (C3.out _ HB3.out).mono ?_
  rintro e W4 ⟨hb4, hbest⟩
  have HB4 : Hid (Below w.heap.size w W4) := HB3.out.trans (hb4.mono HB3.out.size)
  have K4 := Lib.hid (K3.out.later hb4)
  clear hb4 q0 q1 q2 q3 q4 q5 q6 q7 q8 q9
  rw [hB] at hbest
  subst hbest
  have hz := K4.out.lt
  have q0 := K4.out.cell (i := 0) rfl
  have q1 := K4.out.cell (i := 1) rfl
  have q2 := K4.out.cell (i := 2) rfl
  have q3 := K4.out.cell (i := 3) rfl
  have q4 := K4.out.cell (i := 4) rfl
  have q5 := K4.out.cell (i := 5) rfl
  have q6 := K4.out.cell (i := 6) rfl
  have q7 := K4.out.cell (i := 7) rfl
  have q8 := K4.out.cell (i := 8) rfl
  have q9 := K4.out.cell (i := 9) rfl
  go_wp2_with fail
  obtain ⟨W5, hW5⟩ : ∃ W5, W4.alloc (Obj.cells #[.int .i64 0, .int .i64 0] 27) = W5 := ⟨_, rfl⟩
  have hb5 : Below W4.heap.size W4 W5 := by rw [← hW5]; exact (Below.refl _ _).alloc (Nat.le_refl _) _
  have HB5 : Hid (Below w.heap.size w W5) := HB4.out.trans (hb5.mono HB4.out.size)
  rw [hW5]
  clear hW5 hb5 hz q0 q1 q2 q3 q4 q5 q6 q7 q8 q9
  refine (C4.out _ HB5.out).mono ?_
  rintro e W6 ⟨Ar, cr, rfl, hb6⟩
  have HB6 : Hid (Below w.heap.size w W6) := HB5.out.trans (hb6.mono HB5.out.size)
  clear hb6
  generalize (jOf t ss).2 = je at *
  generalize (jOf t ss).1.length = R at *
  have hj' : (je != 0) = true ∨ ((je != 0) = false ∧ 0 < R) := by
    rcases hj with h | ⟨h1, h2⟩
    · exact .inl h
    · exact .inr ⟨h1, by simpa using h2⟩
  clear hj
  rcases hj' with hj | ⟨hj, hj2⟩
  all_goals
    go_wp2_with fail
    refine (Awake_any _).mono ?_
    rintro e WA ⟨rfl, hbA⟩
    have HBA := Lib.hid (HB6.out.trans (hbA.mono HB6.out.size))
    clear hbA
    go_wp2_with fail
    go_ret
    exact ⟨rfl, HBA.out⟩

set_option maxRecDepth 100000 in
set_option maxHeartbeats 4000000 in
theorem UpkeepBest_some (t : Task) (ss : List Int) (A : Option Addr) (n c : Nat) (A' : Option Addr) (n' c' : Nat) (As : Option Addr) (m cs : Nat) (w : World) (hT : TkM w t A n c A' n' c') (hs : RdI w As m ss) (he : (chkTask t).2.2 = 0) (p : List Int) (x1 x2 : Int) (hB : bestF t = some (p, x1, x2)) (hjp : jOf t p = ([], 0)) (hyp : ∃ L, yOf t p = (L, (x1, x2), 0)) (hgp : gtB (x1, x2) t.plan = false) (xb : 0 ≤ x1 ∧ x1 ≤ 200 ∧ 1 ≤ x2 ∧ x2 ≤ 200) (pb : (0 ≤ t.plan.1 ∧ t.plan.1 ≤ 1000) ∧ 0 ≤ t.plan.2 ∧ t.plan.2 ≤ 1000)
    (hfin : ((jOf t ss).2 != 0) = true ∨ (((jOf t ss).2 != 0) = false ∧ ((yOf t ss).2.2 != 0) = false ∧ decide ((0 : Int) < ((jOf t ss).1.length : Int)) = true) ∨ (((jOf t ss).2 != 0) = false ∧ ((yOf t ss).2.2 != 0) = false ∧ decide ((0 : Int) < ((jOf t ss).1.length : Int)) = false ∧ gtB (x1, x2) ((yOf t ss).2.1.1, (yOf t ss).2.1.2) = false ∧ 0 ≤ (yOf t ss).2.1.1 ∧ (yOf t ss).2.1.1 ≤ 1000 ∧ 0 ≤ (yOf t ss).2.1.2 ∧ (yOf t ss).2.1.2 ≤ 1000)) :
    Calls Try.prog 12 #[.agg (t.val A n c A' n' c'), .slice As m cs] w fun e w' => e = .returned (.bool true) ∧ Below w.heap.size w w' := by
  have HB1 : Hid (Below w.heap.size w (w.alloc (.cells (t.val A n c A' n' c') 29))) := (Below.refl _ _).alloc (Nat.le_refl _) _
  have K1 : Hid (Blk (w.alloc (.cells (t.val A n c A' n' c') 29)) w.heap.size 29 (t.val A n c A' n' c')) := Blk.new _ _ _ rfl
  have C1 := Lib.hid (check_any t A n c A' n' c' _ (hT.hr.below HB1.out) (hT.hw.below HB1.out) hT.hc hT.nm)
  have C2 := Lib.hid (fun (W : World) (h : Below w.heap.size w W) => Many_any t A n c A' n' c' W (hT.below h))
  have C3 := Lib.hid (fun (W : World) (h : Below w.heap.size w W) => best_ok t A n c A' n' c' W (hT.hr.below h) (hT.hw.below h) hT.hc hT.nm he)
  have C4 := Lib.hid (fun (W : World) (h : Below w.heap.size w W) => (Judge_any t ss A n c A' n' c' As m cs W (hT.below h) (hs.below h)).mono fun e w' h => judge_of h)
  obtain ⟨L, hyp⟩ := hyp
  obtain ⟨xb1, xb2, xb3, xb4⟩ := xb
  obtain ⟨⟨pb1, pb2⟩, pb3, pb4⟩ := pb
  have C5 : Hid (∀ (W : World) (Ap : Option Addr) (cp : Nat), Below w.heap.size w W → RdI W Ap p.length p → Calls Try.prog 34 #[.agg (t.val A n c A' n' c'), .slice Ap p.length cp] W fun e w' => ∃ A c, e = .returned (.tuple #[.slice A 0 c, .int .i64 0]) ∧ Below W.heap.size W w') := fun W Ap cp hW hp => (Judge_any t p A n c A' n' c' Ap p.length cp W (hT.below hW) hp).mono fun e w' h => by
    have := judge_of h
    rw [hjp] at this
    exact this
  have C6 : Hid (∀ (W : World) (Ap : Option Addr) (cp : Nat), Below w.heap.size w W → RdI W Ap p.length p → Calls Try.prog 32 #[.agg (t.val A n c A' n' c'), .slice Ap p.length cp] W fun e w' => ∃ A c, e = .returned (.tuple #[.slice A L.length c, .agg #[.int .i64 x1, .int .i64 x2], .int .i64 0]) ∧ Below W.heap.size W w') := fun W Ap cp hW hp => (Years_any t p A n c A' n' c' Ap p.length cp W (hT.below hW) hp).mono fun e w' h => by
    obtain ⟨A, c, h1, _, h3⟩ := years_of h
    rw [hyp] at h1
    exact ⟨A, c, h1, h3⟩
  have C7 : Hid (∀ W : World, Calls Try.prog 37 #[.agg #[.int .i64 x1, .int .i64 x2], .agg #[.int .i64 t.plan.1, .int .i64 t.plan.2]] W fun e w' => e = .returned (.bool false) ∧ Below W.heap.size W w') := fun W => by
    have h := lawGreater_any (x1, x2) t.plan W (by dsimp only; omega) (by dsimp only; omega) (by dsimp only; omega) (by dsimp only; omega) pb1 pb2 pb3 pb4
    rw [hgp] at h
    exact h
  have C8 : Hid (∀ W : World, Below w.heap.size w W → Calls Try.prog 32 #[.agg (t.val A n c A' n' c'), .slice As m cs] W fun e w' => ∃ A c, e = .returned (.tuple #[.slice A (yOf t ss).1.length c, .agg #[.int .i64 (yOf t ss).2.1.1, .int .i64 (yOf t ss).2.1.2], .int .i64 (yOf t ss).2.2]) ∧ Below W.heap.size W w') := fun W hW => (Years_any t ss A n c A' n' c' As m cs W (hT.below hW) (hs.below hW)).mono fun e w' h => by
    obtain ⟨A, c, h1, _, h3⟩ := years_of h
    exact ⟨A, c, h1, h3⟩
  have HGp := Lib.hid hgp
  clear hT hs hjp hyp hgp
  rw [he] at C1
  generalize (chkTask t).1 = y1 at *
  generalize (chkTask t).2.1 = y2 at *
  unfold Task.val at *
  go_enter Try.func12, Try.ntmps12
  go_wp2_with fail
  refine C1.out.mono ?_
  rintro e W2 ⟨rfl, hb2⟩
  have HB2 : Hid (Below w.heap.size w W2) := HB1.out.trans (hb2.mono HB1.out.size)
  have K2 := Lib.hid (K1.out.later hb2)
  clear hb2
  have q0 := K2.out.cell (i := 0) rfl
  have q1 := K2.out.cell (i := 1) rfl
  have q2 := K2.out.cell (i := 2) rfl
  have q3 := K2.out.cell (i := 3) rfl
  have q4 := K2.out.cell (i := 4) rfl
  have q5 := K2.out.cell (i := 5) rfl
  have q6 := K2.out.cell (i := 6) rfl
  have q7 := K2.out.cell (i := 7) rfl
  have q8 := K2.out.cell (i := 8) rfl
  have q9 := K2.out.cell (i := 9) rfl
  go_wp2_with fail
  refine (C2.out _ HB2.out).mono ?_
  rintro e W3 ⟨b, rfl, hb3⟩
  have HB3 : Hid (Below w.heap.size w W3) := HB2.out.trans (hb3.mono HB2.out.size)
  have K3 := Lib.hid (K2.out.later hb3)
  clear hb3 q0 q1 q2 q3 q4 q5 q6 q7 q8 q9
  cases b
  case true =>
    go_wp2_with fail
    refine (Awake_any _).mono ?_
    rintro e WA ⟨rfl, hbA⟩
    have HBA := Lib.hid (HB3.out.trans (hbA.mono HB3.out.size))
    clear hbA
    go_wp2_with fail
    go_ret
    exact ⟨rfl, HBA.out⟩
  have q0 := K3.out.cell (i := 0) rfl
  have q1 := K3.out.cell (i := 1) rfl
  have q2 := K3.out.cell (i := 2) rfl
  have q3 := K3.out.cell (i := 3) rfl
  have q4 := K3.out.cell (i := 4) rfl
  have q5 := K3.out.cell (i := 5) rfl
  have q6 := K3.out.cell (i := 6) rfl
  have q7 := K3.out.cell (i := 7) rfl
  have q8 := K3.out.cell (i := 8) rfl
  have q9 := K3.out.cell (i := 9) rfl
  go_wp2_with fail
  refine (C3.out _ HB3.out).mono ?_
  rintro e W4 ⟨hb4, hbest⟩
  have HB4 : Hid (Below w.heap.size w W4) := HB3.out.trans (hb4.mono HB3.out.size)
  have K4 := Lib.hid (K3.out.later hb4)
  clear hb4 q0 q1 q2 q3 q4 q5 q6 q7 q8 q9
  rw [hB] at hbest
  obtain ⟨Ap, cp, rfl, hp⟩ := hbest
  have HP := Lib.hid hp
  clear hp
  have hz := K4.out.lt
  dsimp only at *
  have q0 := K4.out.cell (i := 0) rfl
  have q1 := K4.out.cell (i := 1) rfl
  have q2 := K4.out.cell (i := 2) rfl
  have q3 := K4.out.cell (i := 3) rfl
  have q4 := K4.out.cell (i := 4) rfl
  have q5 := K4.out.cell (i := 5) rfl
  have q6 := K4.out.cell (i := 6) rfl
  have q7 := K4.out.cell (i := 7) rfl
  have q8 := K4.out.cell (i := 8) rfl
  have q9 := K4.out.cell (i := 9) rfl
  go_wp2_with fail
  obtain ⟨W5, hW5⟩ : ∃ W5, W4.alloc (Obj.cells #[.int .i64 x1, .int .i64 x2] 27) = W5 := ⟨_, rfl⟩
  have hb5 : Below W4.heap.size W4 W5 := by rw [← hW5]; exact (Below.refl _ _).alloc (Nat.le_refl _) _
  have KX : Hid (Blk W5 W4.heap.size 27 #[.int .i64 x1, .int .i64 x2]) := by rw [← hW5]; exact Blk.new _ _ _ rfl
  have HB5 : Hid (Below w.heap.size w W5) := HB4.out.trans (hb5.mono HB4.out.size)
  have K5 := Lib.hid (K4.out.later hb5)
  have HP5 := Lib.hid (HP.out.below hb5)
  rw [hW5]
  clear hW5 hb5 hz q0 q1 q2 q3 q4 q5 q6 q7 q8 q9
  refine (C4.out _ HB5.out).mono ?_
  rintro e W6 ⟨Ar, cr, rfl, hb6⟩
  have HB6 : Hid (Below w.heap.size w W6) := HB5.out.trans (hb6.mono HB5.out.size)
  have K6 := Lib.hid (K5.out.later hb6)
  have KX6 := Lib.hid (KX.out.later hb6)
  have HP6 := Lib.hid (HP5.out.below hb6)
  clear hb6
  have q0 := K6.out.cell (i := 0) rfl
  have q1 := K6.out.cell (i := 1) rfl
  have q2 := K6.out.cell (i := 2) rfl
  have q3 := K6.out.cell (i := 3) rfl
  have q4 := K6.out.cell (i := 4) rfl
  have q5 := K6.out.cell (i := 5) rfl
  have q6 := K6.out.cell (i := 6) rfl
  have q7 := K6.out.cell (i := 7) rfl
  have q8 := K6.out.cell (i := 8) rfl
  have q9 := K6.out.cell (i := 9) rfl
  go_wp2_with fail
  refine (C5.out W6 Ap cp HB6.out HP6.out).mono ?_
  rintro e W7 ⟨Am, cm, rfl, hb7⟩
  have HB7 : Hid (Below w.heap.size w W7) := HB6.out.trans (hb7.mono HB6.out.size)
  have K7 := Lib.hid (K6.out.later hb7)
  have KX7 := Lib.hid (KX6.out.later hb7)
  have HP7 := Lib.hid (HP6.out.below hb7)
  clear hb7 q0 q1 q2 q3 q4 q5 q6 q7 q8 q9
  have q0 := K7.out.cell (i := 0) rfl
  have q1 := K7.out.cell (i := 1) rfl
  have q2 := K7.out.cell (i := 2) rfl
  have q3 := K7.out.cell (i := 3) rfl
  have q4 := K7.out.cell (i := 4) rfl
  have q5 := K7.out.cell (i := 5) rfl
  have q6 := K7.out.cell (i := 6) rfl
  have q7 := K7.out.cell (i := 7) rfl
  have q8 := K7.out.cell (i := 8) rfl
  have q9 := K7.out.cell (i := 9) rfl
  go_wp2_with fail
  refine (C6.out W7 Ap cp HB7.out HP7.out).mono ?_
  rintro e W8 ⟨Ay, cy, rfl, hb8⟩
  have HB8 : Hid (Below w.heap.size w W8) := HB7.out.trans (hb8.mono HB7.out.size)
  have K8 := Lib.hid (K7.out.later hb8)
  have KX8 := Lib.hid (KX7.out.later hb8)
  clear hb8 q0 q1 q2 q3 q4 q5 q6 q7 q8 q9
  have q8 := K8.out.cell (i := 8) rfl
  have q9 := K8.out.cell (i := 9) rfl
  have x0 := KX8.out.cell (i := 0) rfl
  have x1' := KX8.out.cell (i := 1) rfl
  have hz := K8.out.lt
  have hz2 := KX8.out.lt
  have s1 : (x1 != x1) = false := by simp
  have s2 : (x2 != x2) = false := by simp
  go_wp2_with fail
  obtain ⟨W9, hW9⟩ : ∃ W9, W8.alloc (Obj.cells #[.int .i64 x1, .int .i64 x2] 27) = W9 := ⟨_, rfl⟩
  have hb9 : Below W8.heap.size W8 W9 := by rw [← hW9]; exact (Below.refl _ _).alloc (Nat.le_refl _) _
  have HB9 : Hid (Below w.heap.size w W9) := HB8.out.trans (hb9.mono HB8.out.size)
  have K9 := Lib.hid (K8.out.later hb9)
  have KX9 := Lib.hid (KX8.out.later hb9)
  rw [hW9]
  clear hW9 hb9 q8 q9 x0 x1' hz hz2
  refine (C7.out W9).mono ?_
  rintro e W10 ⟨rfl, hb10⟩
  have HB10 : Hid (Below w.heap.size w W10) := HB9.out.trans (hb10.mono HB9.out.size)
  have K10 := Lib.hid (K9.out.later hb10)
  have KX10 := Lib.hid (KX9.out.later hb10)
  clear hb10
  have q0 := K10.out.cell (i := 0) rfl
  have q1 := K10.out.cell (i := 1) rfl
  have q2 := K10.out.cell (i := 2) rfl
  have q3 := K10.out.cell (i := 3) rfl
  have q4 := K10.out.cell (i := 4) rfl
  have q5 := K10.out.cell (i := 5) rfl
  have q6 := K10.out.cell (i := 6) rfl
  have q7 := K10.out.cell (i := 7) rfl
  have q8 := K10.out.cell (i := 8) rfl
  have q9 := K10.out.cell (i := 9) rfl
  go_wp2_with fail
  refine (C8.out W10 HB10.out).mono ?_
  rintro e W11 ⟨Az, cz, rfl, hb11⟩
  have HB11 : Hid (Below w.heap.size w W11) := HB10.out.trans (hb11.mono HB10.out.size)
  have KX11 := KX10.out.later hb11
  clear hb11 q0 q1 q2 q3 q4 q5 q6 q7 q8 q9
  have x0 := KX11.cell (i := 0) rfl
  have x1' := KX11.cell (i := 1) rfl
  have hz2 := KX11.lt
  clear KX11
  generalize (yOf t ss).1.length = Yl at *
  generalize (yOf t ss).2.1.1 = z1 at *
  generalize (yOf t ss).2.1.2 = z2 at *
  generalize (yOf t ss).2.2 = ye at *
  generalize (jOf t ss).2 = je at *
  generalize (jOf t ss).1.length = R at *
  have h12 : Below w.heap.size w (W11.alloc (Obj.cells #[.int .i64 z1, .int .i64 z2] 27)) := HB11.out.alloc HB11.out.size _
  have HB12 := Lib.hid h12
  clear h12
  rcases hfin with hj | ⟨hj, hy, hj2'⟩ | ⟨hj, hy, hj2', hgt, zb⟩
  · clear x0 x1' hz2
    go_wp2_with fail
    refine (Awake_any _).mono ?_
    rintro e WA ⟨rfl, hbA⟩
    have HBA := Lib.hid (HB12.out.trans (hbA.mono HB12.out.size))
    clear hbA
    go_wp2_with fail
    go_ret
    exact ⟨rfl, HBA.out⟩
  · have hj2 : 0 < R := by simpa using hj2'
    clear x0 x1' hz2 hj2'
    go_wp2_with fail
    refine (Awake_any _).mono ?_
    rintro e WA ⟨rfl, hbA⟩
    have HBA := Lib.hid (HB12.out.trans (hbA.mono HB12.out.size))
    clear hbA
    go_wp2_with fail
    go_ret
    exact ⟨rfl, HBA.out⟩
  · have hj2 : R = 0 := by simpa using hj2'
    clear hj2'
    obtain ⟨zb1, zb2, zb3, zb4⟩ := zb
    have HG : Hid (∀ W : World, Calls Try.prog 37 #[.agg #[.int .i64 x1, .int .i64 x2], .agg #[.int .i64 z1, .int .i64 z2]] W fun e w' => e = .returned (.bool false) ∧ Below W.heap.size W w') := fun W => by
      have h := lawGreater_any (x1, x2) (z1, z2) W (by dsimp only; omega) (by dsimp only; omega) (by dsimp only; omega) (by dsimp only; omega) zb1 zb2 zb3 zb4
      rw [hgt] at h
      exact h
    have HGt := Lib.hid hgt
    clear hgt
    go_wp2_with fail
    refine (HG.out _).mono ?_
    rintro e W13 ⟨rfl, hb13⟩
    have HB13 := Lib.hid (HB12.out.trans (hb13.mono HB12.out.size))
    clear hb13 x0 x1' hz2
    go_wp2_with fail
    refine (Awake_any _).mono ?_
    rintro e WA ⟨rfl, hbA⟩
    have HBA := Lib.hid (HB13.out.trans (hbA.mono HB13.out.size))
    clear hbA
    go_wp2_with fail
    go_ret
    exact ⟨rfl, HBA.out⟩

theorem UpkeepBest_any (t : Task) (ss : List Int) (A : Option Addr) (n c : Nat) (A' : Option Addr) (n' c' : Nat) (As : Option Addr) (m cs : Nat) (w : World) (hT : TkM w t A n c A' n' c') (hs : RdI w As m ss) :
    Calls Try.prog 12 #[.agg (t.val A n c A' n' c'), .slice As m cs] w fun e w' => e = .returned (.bool true) ∧ Below w.heap.size w w' := by
  by_cases he : ((chkTask t).2.2 != 0) = true
  · exact UpkeepBest_err t A n c A' n' c' _ w hT he
  · have he0 : (chkTask t).2.2 = 0 := by simpa using he
    have hok := taskOK_of he0
    have hF := best_found hok
    have hgood : shErr t ss = 0 → judgeL t ss = [] → ss ∈ plansL t t.works.length [] := fun h1 h2 => good_mem hok (planOK_of h1).len (good_iff.1 h2)
    have hje : shErr t ss ≠ 0 → ((jOf t ss).2 != 0) = true := fun h => by unfold jOf; rw [if_neg h]; simpa using h
    have hj0 : shErr t ss = 0 → jOf t ss = (judgeL t ss, 0) := fun h => if_pos h
    have hy0 : shErr t ss = 0 → yOf t ss = (harmL t ss, harmR t ss, 0) := fun h => if_pos h
    cases hB : bestF t with
    | none =>
      refine UpkeepBest_none t ss A n c A' n' c' As m cs w hT hs he0 hB ?_
      by_cases h : shErr t ss = 0
      · refine .inr ?_
        rw [hj0 h]
        refine ⟨rfl, ?_⟩
        have hne : judgeL t ss ≠ [] := fun hj => hF.none hB ss (hgood h hj) hj
        have := List.length_pos_iff.2 hne
        simp
        omega
      · exact .inl (hje h)
    | some q =>
      obtain ⟨p, x1, x2⟩ := q
      obtain ⟨h1, h2, h3, h4⟩ := hF.some _ hB
      dsimp only at h1 h2 h3 h4
      obtain ⟨hpl, hpd⟩ := plan_days hok h1
      have hsp := shErr_zero ⟨he0, hpl, hpd⟩
      have hbd := harmR_bounds hok p
      rw [← h3] at hbd
      have hpl2 := hok.plan
      refine UpkeepBest_some t ss A n c A' n' c' As m cs w hT hs he0 p x1 x2 hB ?_ ⟨harmL t p, ?_⟩ ?_ ⟨hbd.1, hbd.2.1, hbd.2.2.1, hbd.2.2.2⟩ ⟨⟨by omega, by omega⟩, by omega, by omega⟩ ?_
      · unfold jOf; rw [if_pos hsp, h2]
      · unfold yOf; rw [if_pos hsp, ← h3]
      · have := (good_iff.1 h2).risk
        rw [← h3] at this
        exact this
      · by_cases h : shErr t ss = 0
        · refine .inr ?_
          rw [hj0 h, hy0 h]
          by_cases hj : judgeL t ss = []
          · have hb2 := harmR_bounds hok ss
            exact .inr ⟨rfl, rfl, by rw [hj]; rfl, h4 ss (hgood h hj) hj, hb2.1, by dsimp only; omega, by dsimp only; omega, by dsimp only; omega⟩
          · have := List.length_pos_iff.2 hj
            exact .inl ⟨rfl, rfl, by simp; omega⟩
        · exact .inl (hje h)
end Go.Proofs.Ytkkajemahehoaaa
