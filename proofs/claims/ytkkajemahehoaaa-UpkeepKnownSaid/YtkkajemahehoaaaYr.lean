/- The walks of with and Years. -/
import Derived.Test.YtkkajemahehoaaaLh
namespace Go.Proofs.Ytkkajemahehoaaa
open Go.RowKit

/-- A task that was handed over, in memory. -/
structure TkM (w : World) (t : Task) (A : Option Addr) (n c : Nat) (A' : Option Addr) (n' c' : Nat) : Prop where
  hr : RdH w A n t.rd.highs
  hw : RdW w A' n' t.works
  hc : n' ≤ c'
  nm : ∀ (i : Nat) (v : Work), t.works[i]? = some v → v.name.size ≤ 9223372036854775807
theorem TkM.below {w w' : World} {t : Task} {A : Option Addr} {n c : Nat} {A' : Option Addr} {n' c' : Nat} (h : TkM w t A n c A' n' c') (hb : Below w.heap.size w w') : TkM w' t A n c A' n' c' :=
  ⟨h.hr.below hb, h.hw.below hb, h.hc, h.nm⟩

def lateP (ss : List Int) (i : Nat) : Bool := lateB (ss.getD i 0)

set_option maxHeartbeats 1000000 in
theorem indexLate_any (ss : List Int) (As : Option Addr) (m cs : Nat) (w : World) (hs : RdI w As m ss) (hm : m ≤ 1000) :
    Calls Try.prog 100 #[.slice As m cs, .func (.func 49) #[] #[]] w fun e w' => e = .returned (.int .i64 (idxF (lateP ss) 0 (m - 0))) ∧ Below w.heap.size w w' := by
  generalize hX : idxF (lateP ss) 0 (m - 0) = X
  have HX := Lib.hid hX; clear hX
  have HS := Lib.hid hs; clear hs
  go_enter Try.func100, Try.ntmps100
  go_wp2
  go_loopw [8] (fun q wr => ∃ k : Nat, k ≤ m ∧ q = .int .i64 k ∧ Below w.heap.size w wr ∧ idxF (lateP ss) k (m - k) = X) (fun q _ => m - (intOf q).toNat)
  case atStart => exact ⟨0, Nat.zero_le _, rfl, Below.refl _ _, HX.out⟩
  case round =>
    obtain ⟨k, hk, rfl, hB, hE⟩ := hrel
    have HE := Lib.hid hE; clear hE
    have HB := Lib.hid hB; clear hB
    by_cases hlt : k < m
    · obtain ⟨v, ad, hv, rfl, c0⟩ := rdI_get (HS.out.below HB.out) hlt
      have hp : lateP ss k = lateB v := by unfold lateP; rw [List.getD_eq_getElem?_getD, hv]; rfl
      have HP := Lib.hid hp
      clear hv hp
      have HC := Lib.hid (late_any v wr)
      cases hb : lateB v with
      | true =>
        rw [hb] at HC
        have FIN := Lib.hid (idxF_yes hlt (HP.out.trans hb))
        clear hb
        go_wp2_with (go_at_call 49; refine HC.out.mono ?_; rintro e w2 ⟨rfl, rfl⟩)
        go_ret
        exact ⟨ret_int (FIN.out.symm.trans HE.out), HB.out⟩
      | false =>
        rw [hb] at HC
        have FIN := Lib.hid (idxF_no hlt (HP.out.trans hb))
        clear hb
        go_wp2_with (go_at_call 49; refine HC.out.mono ?_; rintro e w2 ⟨rfl, rfl⟩)
        go_roundw
        case rel => exact ⟨k + 1, by omega, by go_num, HB.out, FIN.out.symm.trans HE.out⟩
        case measure => simp [intOf]; omega
    · have FIN := Lib.hid (idxF_end (p := lateP ss) (Nat.le_of_not_lt hlt))
      go_wp2
      go_ret
      exact ⟨ret_int (FIN.out.symm.trans HE.out), HB.out⟩

def anyLate (ss : List Int) : Bool := decide (0 ≤ idxF (lateP ss) 0 (ss.length - 0))
theorem anyLate_false {ss : List Int} : anyLate ss = false ↔ ∀ s ∈ ss, 0 ≤ s ∧ s ≤ 364 := by
  unfold anyLate
  rw [decide_eq_false_iff_not, idxF_neg]
  constructor
  · intro h s hs
    obtain ⟨i, hi, rfl⟩ := List.getElem_of_mem hs
    have : lateP ss i ≠ true := fun e => h ⟨i, by omega, by omega, e⟩
    unfold lateP lateB at this
    simp [List.getD_eq_getElem?_getD, List.getElem?_eq_getElem hi] at this
    exact outB_false this
  · rintro h ⟨j, _, h2, h3⟩
    have hj : j < ss.length := by omega
    unfold lateP lateB at h3
    rw [List.getD_eq_getElem?_getD, List.getElem?_eq_getElem hj] at h3
    have h4 := outB_true h3
    have := h _ (List.getElem_mem hj)
    simp at h4
    omega

set_option maxHeartbeats 1000000 in
theorem containsLate_any (ss : List Int) (As : Option Addr) (m cs : Nat) (w : World) (hs : RdI w As m ss) (hm : m ≤ 1000) :
    Calls Try.prog 66 #[.slice As m cs, .func (.func 49) #[] #[]] w fun e w' => e = .returned (.bool (anyLate ss)) ∧ Below w.heap.size w w' := by
  have HC := Lib.hid (indexLate_any ss As m cs w hs hm)
  have e0 : anyLate ss = decide (0 ≤ idxF (lateP ss) 0 (m - 0)) := by unfold anyLate; rw [hs.1]
  rw [e0]
  clear hs e0
  generalize idxF (lateP ss) 0 (m - 0) = X at *
  go_enter Try.func66, Try.ntmps66
  go_wp2_with (go_at_call 100; refine HC.out.mono ?_; rintro e w2 ⟨rfl, hb2⟩; have HB2 := Lib.hid hb2; clear hb2)
  go_ret
  exact ⟨rfl, HB2.out⟩

/-- The error of a task with a plan. -/
def shErr (t : Task) (ss : List Int) : Int :=
  if (chkTask t).2.2 != 0 then (chkTask t).2.2
  else if ss.length != t.works.length then 2
  else if anyLate ss then 7 else 0
structure PlanOK (t : Task) (ss : List Int) : Prop where
  chk : (chkTask t).2.2 = 0
  len : ss.length = t.works.length
  days : ∀ s ∈ ss, 0 ≤ s ∧ s ≤ 364
theorem planOK_of {t : Task} {ss : List Int} (h : shErr t ss = 0) : PlanOK t ss := by
  unfold shErr at h
  by_cases h1 : ((chkTask t).2.2 != 0) = true
  · rw [if_pos h1] at h; simp at h1; exact absurd h h1
  · rw [if_neg h1] at h
    by_cases h2 : (ss.length != t.works.length) = true
    · rw [if_pos h2] at h; cases h
    · rw [if_neg h2] at h
      by_cases h3 : anyLate ss = true
      · rw [if_pos h3] at h; cases h
      · exact ⟨by simpa using h1, by simpa using h2, anyLate_false.1 (by simpa using h3)⟩

def WithPost (t : Task) (ss : List Int) (A : Option Addr) (n c : Nat) (A' : Option Addr) (n' c' : Nat) (w : World) (e : Ending) (w' : World) : Prop :=
  Below w.heap.size w w' ∧ ((shErr t ss ≠ 0 ∧ e = .returned (.tuple #[.pointer none, .int .i64 (shErr t ss)])) ∨ (shErr t ss = 0 ∧ ∃ p, e = .returned (.tuple #[.pointer (some ⟨p, 0, none⟩), .int .i64 0]) ∧ Pl w' p t A n c A' n' c'))

set_option maxRecDepth 100000 in
set_option maxHeartbeats 2000000 in
theorem with_any (t : Task) (ss : List Int) (A : Option Addr) (n c : Nat) (A' : Option Addr) (n' c' : Nat) (As : Option Addr) (m cs : Nat) (w : World) (hT : TkM w t A n c A' n' c') (hs : RdI w As m ss) :
    Calls Try.prog 77 #[.agg (t.val A n c A' n' c'), .slice As m cs] w (WithPost t ss A n c A' n' c' w) := by
  have HB1 : Hid (Below w.heap.size w (w.alloc (.cells (t.val A n c A' n' c') 29))) := (Below.refl _ _).alloc (Nat.le_refl _) _
  have KK : Hid (Blk (w.alloc (.cells (t.val A n c A' n' c') 29)) w.heap.size 29 (t.val A n c A' n' c')) := Blk.new _ _ _ rfl
  by_cases he : ((chkTask t).2.2 != 0) = true
  · have HC := Lib.hid (begin_err t A n c A' n' c' _ (hT.hr.below HB1.out) (hT.hw.below HB1.out) hT.hc hT.nm he)
    have HE : Hid (shErr t ss = (chkTask t).2.2) := by unfold shErr; rw [if_pos he]; rfl
    clear hT hs
    generalize (chkTask t).2.2 = X at *
    unfold Task.val at *
    go_enter Try.func77, Try.ntmps77
    go_wp2_with (go_at_call 55; refine HC.out.mono ?_; rintro e w2 ⟨rfl, hb2⟩; have HB2 := Lib.hid hb2; clear hb2)
    go_ret2
    have hX : X ≠ 0 := by simpa using he
    exact ⟨HB1.out.trans (HB2.out.mono (by simp)), .inl ⟨by rw [HE.out]; exact hX, by rw [HE.out]; rfl⟩⟩
  · have he0 : (chkTask t).2.2 = 0 := by simpa using he
    have hw4 := (taskOK_of he0).len
    have hwl := hT.hw.1
    have HC := Lib.hid (begin_ok t A n c A' n' c' _ (hT.hr.below HB1.out) (hT.hw.below HB1.out) hT.hc hT.nm he0)
    have hsl := hs.1
    by_cases hl : m = n'
    · have HK := Lib.hid (fun W (h : Below w.heap.size w W) => containsLate_any ss As m cs W (hs.below h) (by omega))
      have HE : Hid (shErr t ss = if anyLate ss then 7 else 0) := by unfold shErr; rw [if_neg he, if_neg (by simp; omega)]; rfl
      clear hT hs he he0
      subst hl
      have hne : ((m : Int) != (m : Int)) = false := by simp
      generalize anyLate ss = B at *
      clear hwl hsl hw4
      cases B
      all_goals
        unfold Task.val at *
        go_enter Try.func77, Try.ntmps77
        go_wp2_with fail
        refine HC.out.mono ?_
        rintro e w2 ⟨p, rfl, hP, hb2⟩
        have k3 := (KK.out.later hb2).cell (i := 3) rfl
        have HB2 : Hid (Below w.heap.size w w2) := HB1.out.trans (hb2.mono HB1.out.size)
        have HP := Lib.hid hP
        clear hb2 hP
        go_wp2_with fail
        refine (HK.out _ HB2.out).mono ?_
        rintro e w3 ⟨rfl, hb3⟩
        have HB3 : Hid (Below w.heap.size w w3) := HB2.out.trans (hb3.mono HB2.out.size)
        have HP3 := Lib.hid (HP.out.below hb3)
        clear hb3
        go_wp2_with fail
        go_ret2
        refine ⟨HB3.out, ?_⟩
        rw [HE.out]
        first
          | exact .inr ⟨rfl, p, rfl, HP3.out⟩
          | exact .inl ⟨by decide, rfl⟩
    · have HE : Hid (shErr t ss = 2) := by unfold shErr; rw [if_neg he, if_pos (by simp; omega)]; rfl
      have hne : ((m : Int) != (n' : Int)) = true := by simp; omega
      clear hT hs he he0
      clear hwl hsl hw4
      unfold Task.val at *
      go_enter Try.func77, Try.ntmps77
      go_wp2_with fail
      refine HC.out.mono ?_
      rintro e w2 ⟨p, rfl, hP, hb2⟩
      have k3 := (KK.out.later hb2).cell (i := 3) rfl
      have HB2 : Hid (Below w.heap.size w w2) := HB1.out.trans (hb2.mono HB1.out.size)
      clear hb2 hP
      go_wp2_with fail
      go_ret2
      exact ⟨HB2.out, .inl ⟨by rw [HE.out]; decide, by rw [HE.out]; rfl⟩⟩

theorem own_low {w : World} {base : Nat} {e : TypeId} {size : Nat} {v : Value} {n : Nat} {xs : List Value} (h : w.ownsRow base e size v n xs) {p : Addr} (hp : p.block < base) (u : Value) : (w.setCell p u).ownsRow base e size v n xs := by
  refine ⟨h.1, ?_⟩
  rcases h.2 with h0 | ⟨g, cap, cur, h1, h2, h3, h4⟩
  · exact .inl h0
  · exact .inr ⟨g, cap, cur, h1, h2, (Below.heap_setCell w p u g (by omega)).trans h3, h4⟩
theorem own_drew {w : World} {base : Nat} {e : TypeId} {size : Nat} {v : Value} {n : Nat} {xs : List Value} (h : w.ownsRow base e size v n xs) : w.drew.ownsRow base e size v n xs := h

def YearsPost (t : Task) (ss : List Int) (w : World) (e : Ending) (w' : World) : Prop :=
  Below w.heap.size w w' ∧ ((shErr t ss ≠ 0 ∧ e = .returned (.tuple #[.slice none 0 0, .agg #[.int .i64 0, .int .i64 0], .int .i64 (shErr t ss)])) ∨
    (shErr t ss = 0 ∧ ∃ v, e = .returned (.tuple #[v, .agg #[.int .i64 (harmR t ss).1, .int .i64 (harmR t ss).2], .int .i64 0]) ∧ w'.ownsRow w.heap.size 3 1 v (harmL t ss).length ((harmL t ss).map (Value.int .i64))))

set_option maxRecDepth 100000 in
set_option maxHeartbeats 2000000 in
theorem Years_any (t : Task) (ss : List Int) (A : Option Addr) (n c : Nat) (A' : Option Addr) (n' c' : Nat) (As : Option Addr) (m cs : Nat) (w : World) (hT : TkM w t A n c A' n' c') (hs : RdI w As m ss) :
    Calls Try.prog 32 #[.agg (t.val A n c A' n' c'), .slice As m cs] w (YearsPost t ss w) := by
  have hb1 : Below w.heap.size w ((w.alloc (.cells (t.val A n c A' n' c') 29)).alloc (.cells #[.int .i64 0, .int .i64 0] 27)) := ((Below.refl _ _).alloc (Nat.le_refl _) _).alloc (by simp) _
  have HB1 := Lib.hid hb1
  have KK : Hid (Blk ((w.alloc (.cells (t.val A n c A' n' c') 29)).alloc (.cells #[.int .i64 0, .int .i64 0] 27)) (w.heap.size + 1) 27 #[.int .i64 0, .int .i64 0]) := Blk.new _ _ _ (by simp)
  have HC := Lib.hid (with_any t ss A n c A' n' c' As m cs _ (hT.below hb1) (hs.below hb1))
  have HM : Hid (shErr t ss = 0 → m = n') := fun h => by have := hT.hw.1; have := hs.1; have := (planOK_of h).len; omega
  have HH : Hid (∀ p W, shErr t ss = 0 → Pl W p t A n c A' n' c' → Below w.heap.size w W → Calls Try.prog 61 #[.pointer (some ⟨p, 0, none⟩), .slice As m cs] W (HarmPost t ss W)) := fun p W h hP hW =>
    harm_any t p A n c A' n' c' As m cs ss W hP (taskOK_of (planOK_of h).chk) (hs.below hW) (HM.out h) (planOK_of h).days
  clear hT hs hb1
  unfold Task.val at *
  go_enter Try.func32, Try.ntmps32
  go_wp2_with fail
  refine HC.out.mono ?_
  rintro e w2 ⟨hb2, hp⟩
  have k2 := KK.out.later hb2
  have HB2 : Hid (Below w.heap.size w w2) := HB1.out.trans (hb2.mono HB1.out.size)
  clear hb2
  have p0 := k2.cell (i := 0) rfl
  have p1 := k2.cell (i := 1) rfl
  have z0 := k2.frozen 0
  have z1 := k2.frozen 1
  have hz := k2.lt
  have K2 := Lib.hid k2; clear k2
  rcases hp with ⟨hne, rfl⟩ | ⟨heq, p, rfl, hP⟩
  · have HNe := Lib.hid hne
    generalize hX : shErr t ss = X at *
    have hXb : (X != 0) = true := by simpa using hne
    have HX := Lib.hid hX
    clear hX hne
    go_wp2_with fail
    have JK := (K2.out.set 0 (.int .i64 0)).set 1 (.int .i64 0)
    have c0 := JK.cell (i := 0) rfl
    have c1 := JK.cell (i := 1) rfl
    refine bodyPost_ret (v := .tuple #[.slice none 0 0, .agg #[.int .i64 0, .int .i64 0], .int .i64 X]) (by simp [results, Try.results32, go_sem, c0, c1]) rfl ⟨?_, .inl ⟨by rw [HX.out]; exact HNe.out, by rw [HX.out]⟩⟩
    exact (HB2.out.setCell (p := ⟨w.heap.size + 1, 0, none⟩) (by simp) _).setCell (p := ⟨w.heap.size + 1, 1, none⟩) (by simp) _
  · have HEq := Lib.hid heq
    have HP := Lib.hid hP
    clear heq hP
    go_wp2_with fail
    refine (HH.out p _ HEq.out HP.out HB2.out).mono ?_
    rintro e w3 ⟨v, rfl, hown, hb3⟩
    have HOw := Lib.hid hown
    have hzz := K2.out.lt
    have HB3 : Hid (Below w.heap.size w w3) := HB2.out.trans (hb3.mono HB2.out.size)
    have k3 := K2.out.later hb3
    clear hown hb3 p0 p1 z0 z1 hz
    have p0 := k3.cell (i := 0) rfl
    have p1 := k3.cell (i := 1) rfl
    have z0 := k3.frozen 0
    have z1 := k3.frozen 1
    have hz := k3.lt
    have K3 := Lib.hid k3; clear k3
    generalize ha : (harmR t ss).1 = a at *
    generalize hb : (harmR t ss).2 = b at *
    have HAB : Hid (Ending.returned (.tuple #[v, .agg #[.int .i64 a, .int .i64 b], .int .i64 0]) = .returned (.tuple #[v, .agg #[.int .i64 (harmR t ss).1, .int .i64 (harmR t ss).2], .int .i64 0])) := by rw [ha, hb]; rfl
    clear ha hb
    go_wp2_with fail
    go_region
    go_wp2_with fail
    have JK := (((K3.out.set 0 (.int .i64 a)).set 1 (.int .i64 b)).alloc (Obj.cells #[.int .i64 a, .int .i64 b] 83))
    have c0 := JK.cell (i := 0) rfl
    have c1 := JK.cell (i := 1) rfl
    refine bodyPost_ret (v := .tuple #[v, .agg #[.int .i64 a, .int .i64 b], .int .i64 0]) (by simp [results, Try.results32, go_sem, c0, c1]) rfl ⟨?_, .inr ⟨HEq.out, v, ?_, ?_⟩⟩
    · exact (((HB3.out.setCell (p := ⟨w.heap.size + 1, 0, none⟩) (by simp) _).setCell (p := ⟨w.heap.size + 1, 1, none⟩) (by simp) _).alloc (by simp [World.setCell] <;> omega) _).drew
    · exact HAB.out
    · refine own_lower (own_drew (World.ownsRow.alloc (own_low (own_low HOw.out (p := ⟨w.heap.size + 1, 0, none⟩) hzz _) (p := ⟨w.heap.size + 1, 1, none⟩) hzz _) _)) HB2.out.size
end Go.Proofs.Ytkkajemahehoaaa
