/- The reference's shaped, years, Years. -/
import Derived.Test.YtkkajemahehoaaaR5
namespace Go.Proofs.Ytkkajemahehoaaa
open Go.RowKit

theorem anyLate_any (ss : List Int) : anyLate ss = ss.any lateB := by
  cases h : ss.any lateB
  · rw [anyLate_false]
    intro s hs
    rw [List.any_eq_false] at h
    have := h s hs
    unfold lateB at this
    exact outB_false (by simpa using this)
  · cases h2 : anyLate ss
    · rw [anyLate_false] at h2
      rw [List.any_eq_true] at h
      obtain ⟨s, hs, hl⟩ := h
      unfold lateB at hl
      have := outB_true hl
      have := h2 s hs
      omega
    · rfl

set_option maxRecDepth 100000 in
set_option maxHeartbeats 2000000 in
theorem shaped_any (t : Task) (ss : List Int) (A : Option Addr) (n c : Nat) (A' : Option Addr) (n' c' : Nat) (As : Option Addr) (m cs : Nat) (w : World) (hT : TkM w t A n c A' n' c') (hs : RdI w As m ss) :
    Calls Try.prog 78 #[.agg (t.val A n c A' n' c'), .slice As m cs] w fun e w' => e = .returned (.int .i64 (shErr t ss)) ∧ Below w.heap.size w w' := by
  have HB1 : Hid (Below w.heap.size w (w.alloc (.cells (t.val A n c A' n' c') 29))) := (Below.refl _ _).alloc (Nat.le_refl _) _
  have KK : Hid (Blk (w.alloc (.cells (t.val A n c A' n' c') 29)) w.heap.size 29 (t.val A n c A' n' c')) := Blk.new _ _ _ rfl
  have HC := Lib.hid (good_any t A n c A' n' c' _ (hT.below HB1.out))
  have hsl := hs.1
  have hwl := hT.hw.1
  have HSs := Lib.hid hs
  have HSh : Hid (shErr t ss = if (chkTask t).2.2 != 0 then (chkTask t).2.2 else if m != n' then 2 else if ss.any lateB then 7 else 0) := by unfold shErr; rw [hsl, hwl, anyLate_any]; rfl
  have HN4 : Hid ((chkTask t).2.2 = 0 → n' ≤ 4) := fun h => by have := (taskOK_of h).len; omega
  clear hT hs
  rw [HSh.out]
  clear HSh
  generalize (chkTask t).2.2 = X at *
  unfold Task.val at *
  by_cases hX : (X != 0) = true
  · rw [if_pos hX]
    have hX' : (X == 0) = false := by simpa using hX
    clear HN4
    go_enter Try.func78, Try.ntmps78
    go_wp2_with fail
    refine HC.out.mono ?_
    rintro e W2 ⟨rfl, hb2⟩
    have HB2 : Hid (Below w.heap.size w W2) := HB1.out.trans (hb2.mono HB1.out.size)
    clear hb2
    go_wp2_with fail
    go_loopw [5, 6] (fun q i wr => q = .int .i64 X ∧ i = .int .i64 0 ∧ Below w.heap.size w wr) (fun _ _ _ => 0)
    case atStart => exact ⟨rfl, rfl, HB2.out⟩
    case round =>
      obtain ⟨rfl, rfl, hB⟩ := hrel
      have HB := Lib.hid hB; clear hB
      go_wp2
      all_goals go_ret
      all_goals exact ⟨rfl, HB.out⟩
  · rw [if_neg hX]
    obtain rfl : X = 0 := by simpa using hX
    have hn4 := HN4.out rfl
    by_cases hmn : (m != n') = true
    · rw [if_pos hmn]
      have hne : ((m : Int) != (n' : Int)) = true := by simp at hmn ⊢; omega
      clear hX hmn HN4
      go_enter Try.func78, Try.ntmps78
      go_wp2_with fail
      refine HC.out.mono ?_
      rintro e W2 ⟨rfl, hb2⟩
      have HB2 : Hid (Below w.heap.size w W2) := HB1.out.trans (hb2.mono HB1.out.size)
      have k3 := (KK.out.later hb2).cell (i := 3) rfl
      have hz := (KK.out.later hb2).lt
      clear hb2
      go_wp2_with fail
      clear k3 hz
      go_loopw [5, 6] (fun q i wr => q = .int .i64 2 ∧ i = .int .i64 0 ∧ Below w.heap.size w wr) (fun _ _ _ => 0)
      case atStart => exact ⟨rfl, rfl, HB2.out⟩
      case round =>
        obtain ⟨rfl, rfl, hB⟩ := hrel
        have HB := Lib.hid hB; clear hB
        go_wp2
        all_goals go_ret
        all_goals exact ⟨rfl, HB.out⟩
    · rw [if_neg hmn]
      obtain rfl : m = n' := by simpa using hmn
      have hne : ((m : Int) != (m : Int)) = false := by simp
      clear hX hmn HN4 hwl
      generalize hV : (if ss.any lateB then (7 : Int) else 0) = V
      have HV := Lib.hid hV; clear hV
      go_enter Try.func78, Try.ntmps78
      go_wp2_with fail
      refine HC.out.mono ?_
      rintro e W2 ⟨rfl, hb2⟩
      have HB2 : Hid (Below w.heap.size w W2) := HB1.out.trans (hb2.mono HB1.out.size)
      have k3 := (KK.out.later hb2).cell (i := 3) rfl
      have hz := (KK.out.later hb2).lt
      clear hb2
      go_wp2_with fail
      clear k3 hz
      go_loopw [5, 6] (fun q i wr => ∃ k : Nat, k ≤ m ∧ i = .int .i64 k ∧ q = .int .i64 (if (ss.take k).any lateB then 7 else 0) ∧ Below w.heap.size w wr) (fun _ i _ => m - (intOf i).toNat)
      case atStart => exact ⟨0, Nat.zero_le _, rfl, by simp, HB2.out⟩
      case round =>
        obtain ⟨k, hk, rfl, rfl, hB⟩ := hrel
        have HB := Lib.hid hB; clear hB
        cases hl : (ss.take k).any lateB
        · simp only [Bool.false_eq_true, if_false]
          have HL := Lib.hid hl
          clear hl
          by_cases hlt : k < m
          · obtain ⟨s, sd, hs, rfl, cs0⟩ := rdI_get (HSs.out.below HB.out) hlt
            have hki : (k : Int) < (m : Int) := by omega
            have HS : Hid ((ss.take (k + 1)).any lateB = lateB s) := by
              obtain ⟨hk', rfl⟩ := List.getElem?_eq_some_iff.1 hs
              rw [List.take_succ_eq_append_getElem hk', List.any_append, HL.out]
              simp [Hid]
            clear hs
            cases hls : lateB s
            · have HS2 : Hid ((if (ss.take (k + 1)).any lateB then (7 : Int) else 0) = 0) := by rw [HS.out, hls]; rfl
              clear HS
              go_wp2_with (go_at_call 84; refine (day_any _ _).mono ?_; rintro e w' ⟨rfl, rfl⟩)
              go_roundw
              case rel => exact ⟨k + 1, by omega, by go_num, by rw [HS2.out], HB.out⟩
              case measure => simp [intOf]; omega
            · have HS2 : Hid ((if (ss.take (k + 1)).any lateB then (7 : Int) else 0) = 7) := by rw [HS.out, hls]; rfl
              clear HS
              go_wp2_with (go_at_call 84; refine (day_any _ _).mono ?_; rintro e w' ⟨rfl, rfl⟩)
              go_roundw
              case rel => exact ⟨k + 1, by omega, by go_num, by rw [HS2.out], HB.out⟩
              case measure => simp [intOf]; omega
          · obtain rfl : m = k := by omega
            have F : Hid (V = 0) := by have := HL.out; rw [List.take_of_length_le (by omega)] at this; rw [← HV.out, this]; rfl
            go_wp2
            go_ret
            exact ⟨ret_int F.out.symm, HB.out⟩
        · have F : Hid (V = 7) := by
            have : ss.any lateB = true := by
              rw [List.any_eq_true] at hl ⊢
              obtain ⟨s, h1, h2⟩ := hl
              exact ⟨s, List.mem_of_mem_take h1, h2⟩
            rw [← HV.out, this]; rfl
          clear hl
          simp only [if_true]
          go_wp2
          all_goals go_ret
          all_goals exact ⟨ret_int F.out.symm, HB.out⟩
theorem harmW_next {ss : List Int} {ws : List Work} {k : Nat} {s : Int} {x : Work} (hs : ss[k]? = some s) (hx : ws[k]? = some x) : harmW ((ss.zip ws).take (k + 1)) = (harmW ((ss.zip ws).take k) || wrapsB s x.days) := by
  rw [zip_take_succ hs hx]; unfold harmW; rw [List.any_append]; simp
theorem harmP_next {hs : List High} {ss : List Int} {ws : List Work} {k : Nat} {s : Int} {x : Work} {y : Int} (h1 : ss[k]? = some s) (hx : ws[k]? = some x) : harmP hs ((ss.zip ws).take (k + 1)) y = (harmP hs ((ss.zip ws).take k) y || excB hs s x.days x.level y) := by
  rw [zip_take_succ h1 hx]; unfold harmP; rw [List.any_append]; simp
theorem zip_whole {ss : List Int} {ws : List Work} {m : Nat} (h1 : ss.length = m) : (ss.zip ws).take m = ss.zip ws := List.take_of_length_le (by rw [List.length_zip]; omega)
theorem yearsL_succ (P : Int → Bool) (f : Int) (k : Nat) : yearsL f ((k : Int) + 1) P = if P (f + k) then yearsL f k P ++ [f + (k : Int)] else yearsL f k P := by
  unfold yearsL
  rw [show ((k : Int) + 1).toNat = k + 1 by omega, show ((k : Int)).toNat = k from rfl, List.range_succ, List.map_append, List.filter_append]
  simp only [List.map_cons, List.map_nil, List.filter_cons, List.filter_nil]
  split <;> simp

set_option maxRecDepth 100000 in
set_option maxHeartbeats 4000000 in
theorem refYears0_any (t : Task) (ss : List Int) (A : Option Addr) (n c : Nat) (A' : Option Addr) (n' c' : Nat) (As : Option Addr) (m cs : Nat) (w : World) (hT : TkM w t A n c A' n' c') (hs : RdI w As m ss) (hok : TaskOK t) (hm : m = n') (hss : ∀ s ∈ ss, 0 ≤ s ∧ s ≤ 364) :
    Calls Try.prog 70 #[.agg (t.val A n c A' n' c'), .slice As m cs] w (HarmPost t ss w) := by
  obtain ⟨i0, hi, hz0, hz1, hz2⟩ := info_parts info3
  have hsl := hs.1
  have hml : m ≤ 4 := by have := hT.hw.1; have := hok.len; omega
  have HWs : Hid (∀ (i : Nat) (v : Work), t.works[i]? = some v → WorkOK v) := fun i v hv => workOK_of (hok.rows i v hv).2.2.1
  have HSr := Lib.hid hss; have HSs := Lib.hid hs; have HWk := Lib.hid hT.hw
  obtain ⟨f0, f1, y0, y1⟩ : 0 ≤ t.rd.first ∧ t.rd.first ≤ 9999 ∧ 2 ≤ t.rd.years ∧ t.rd.years ≤ 200 := ⟨hok.rd.f0, hok.rd.f1, hok.rd.y0, hok.rd.y1⟩
  have HEx : Hid (∀ (W : World) (d l s y : Int), Below w.heap.size w W → 0 ≤ s → s ≤ 364 → 1 ≤ d → d ≤ 365 → -5 ≤ y → y ≤ 100000 → Calls Try.prog 105 #[.agg #[.int .i64 t.rd.first, .int .i64 t.rd.years, .slice A n c], .int .i64 s, .int .i64 d, .int .i64 l, .int .i64 y] W fun e w' => e = .returned (.bool (excB t.rd.highs s d l y)) ∧ Below W.heap.size W w') :=
    fun W d l s y hW s0 s1 d0 d1 a b => refExceeded_rec t.rd s d l y A n c W (hT.hr.below hW) hok.rd s0 s1 d0 d1 a b
  have HZ : Hid ((ss.zip t.works).take m = ss.zip t.works) := zip_whole hsl
  have HPo : Hid (∀ (v : Value) (w' : World) (o : Int), ofF t.rd.years (harmW (ss.zip t.works)) = o → w'.ownsRow w.heap.size 3 1 v (yearsL t.rd.first o (harmP t.rd.highs (ss.zip t.works))).length ((yearsL t.rd.first o (harmP t.rd.highs (ss.zip t.works))).map (Value.int .i64)) → Below w.heap.size w w' → HarmPost t ss w (.returned (.tuple #[v, .agg #[.int .i64 ((yearsL t.rd.first o (harmP t.rd.highs (ss.zip t.works))).length : Int), .int .i64 o]])) w') := fun v w' o ho h1 h2 => by
    subst ho
    exact ⟨v, rfl, h1, h2⟩
  clear hT hs hok hss
  subst hm
  obtain ⟨b1, b2, b3⟩ := two w (t.val A n c A' m c') #[.int .i64 0, .int .i64 0] 29 27
  have HB1 := Lib.hid b1; have K1 := Lib.hid b2; have K2 := Lib.hid b3
  clear b1 b2 b3
  unfold Task.val at *
  go_enter Try.func70, Try.ntmps70
  go_wp2
  obtain ⟨W1, hW1⟩ : ∃ W1, (w.alloc (Obj.cells #[.int .i64 t.rd.first, .int .i64 t.rd.years, .slice A n c, .slice A' m c', .int .i64 t.gap, .int .i64 t.width, .int .i64 t.day.1, .int .i64 t.day.2, .int .i64 t.plan.1, .int .i64 t.plan.2] 29)).alloc (Obj.cells #[.int .i64 0, .int .i64 0] 27) = W1 := ⟨_, rfl⟩
  have hs1 : W1.heap.size = w.heap.size + 2 := by rw [← hW1]; simp
  rw [hW1] at HB1 K1 K2 ⊢
  have HS1 := Lib.hid hs1
  clear hW1 hs1
  go_loopw [6, 7] (fun b i wr => ∃ k : Nat, k ≤ m ∧ b = .bool (harmW ((ss.zip t.works).take k)) ∧ i = .int .i64 k ∧ Below W1.heap.size W1 wr) (fun _ i _ => m - (intOf i).toNat)
  case atStart => exact ⟨0, Nat.zero_le _, rfl, rfl, Below.refl _ _⟩
  case round =>
    obtain ⟨k, hk, rfl, rfl, hB⟩ := hrel
    have HB := Lib.hid hB; clear hB
    have HBw : Hid (Below w.heap.size w wr) := HB1.out.trans (HB.out.mono HB1.out.size)
    by_cases hlt : k < m
    · obtain ⟨x, ad, hx, rfl, ha⟩ := (HWk.out.below HBw.out).get hlt
      obtain ⟨s, sd, hs, rfl, cs0⟩ := rdI_get (HSs.out.below HBw.out) hlt
      obtain ⟨c0, c1, c2, c3, c4, c5, c6⟩ := ha.seven
      have q3 := later_cell (((K1.out.later HB.out)).cell (i := 3) rfl)
      have q4 := later_cell cs0
      have q5 := later_cell c2
      obtain ⟨d0, d1, _, _, _, _, _, _, _, _⟩ := HWs.out k x hx
      obtain ⟨s0, s1⟩ := HSr.out s (List.mem_of_getElem? hs)
      have HSt := Lib.hid (harmW_next hs hx)
      have hki : (k : Int) < (m : Int) := by omega
      have HW1 : Hid (∀ u : Later wr, Calls Try.prog 103 #[.int .i64 s, .int .i64 x.days] u.w fun e w' => e = .returned (.bool (wrapsB s x.days)) ∧ u.w = w') := fun u => refWraps_any s x.days u.w (by omega) (by omega) (by omega) (by omega)
      clear c0 c1 c2 c3 c4 c5 c6 cs0 ha hx hs
      generalize harmW ((ss.zip t.works).take k) = Z at *
      cases Z
      all_goals
        go_wp2
        refine wp_region_later (by kernel_rfl) (by kernel_rfl) ?_
        repeat (first | go_big_quiet_skip | (go_big_quiet_want; go_big_quiet_op; first | go_big_quiet_on | (apply Exists.intro; refine ⟨fun _ => ?_, ?_⟩; (· (with_reducible exact later_same (HW1.out _))); go_big_quiet_on)))
        refine wpQuiet_nil ?_
        intro _ hw'
        obtain ⟨u, hu⟩ := hw'
        subst hu
        go_wp2
        go_roundw
        case rel => exact ⟨k + 1, by omega, by rw [HSt.out]; simp, by go_num, HB.out.trans (u.h.mono HB.out.size)⟩
        case measure => simp [intOf]; omega
    · obtain rfl : m = k := by omega
      rw [HZ.out]
      have hob := ofF_bounds (harmW (ss.zip t.works)) y0 y1
      have HLa : Hid (∀ W : World, Calls Try.prog 104 #[.agg #[.int .i64 t.rd.first, .int .i64 t.rd.years, .slice A n c], .bool (harmW (ss.zip t.works))] W fun e w' => e = .returned (.int .i64 (t.rd.first + ofF t.rd.years (harmW (ss.zip t.works)) - 1)) ∧ Below W.heap.size W w') := fun W => refLast_any _ _ _ _ W f0 f1 y0 y1
      generalize harmW (ss.zip t.works) = wb at *
      obtain ⟨K, hK⟩ : ∃ K : Nat, ofF t.rd.years wb = (K : Int) := ⟨(ofF t.rd.years wb).toNat, by omega⟩
      rw [hK] at hob HLa
      have HK := Lib.hid hK
      clear hK
      obtain ⟨W4, rfl⟩ : ∃ W4 : World, W4 = wr := ⟨_, rfl⟩
      have k0 := (K1.out.later HB.out).cell (i := 0) rfl
      have hz1 := (K1.out.later HB.out).lt
      go_wp2
      clear k0 hz1
      obtain ⟨W5, hW5⟩ : ∃ W5, W4.alloc (Obj.cells #[.int .i64 0, .int .i64 0] 27) = W5 := ⟨_, rfl⟩
      have hb5 : Below W4.heap.size W4 W5 := by rw [← hW5]; exact (Below.refl _ _).alloc (Nat.le_refl _) _
      have KX : Hid (Blk W5 W4.heap.size 27 #[.int .i64 0, .int .i64 0]) := by rw [← hW5]; exact Blk.new _ _ _ rfl
      have hs5 : W5.heap.size = W4.heap.size + 1 := by rw [← hW5]; simp
      have HS5 := Lib.hid hs5
      rw [hW5]
      clear hW5 hs5
      have L1 := Lib.hid ((K1.out.later HB.out).later hb5)
      have L2 := Lib.hid ((K2.out.later HB.out).later hb5)
      have HB5 : Hid (Below w.heap.size w W5) := HBw.out.trans (hb5.mono HBw.out.size)
      have HL14 : Hid (w.heap.size + 1 < W4.heap.size) := (K2.out.later HB.out).lt
      clear hb5 HB HBw
      generalize hPP : harmP t.rd.highs (ss.zip t.works) = PP at *
      have HPP := Lib.hid hPP; clear hPP
      go_loopw [8, 10] (fun v q wr => ∃ k : Nat, k ≤ K ∧ q = .int .i64 (t.rd.first + k) ∧ Blk wr W4.heap.size 27 #[.int .i64 ((yearsL t.rd.first k PP).length : Int), .int .i64 (k : Int)] ∧ wr.ownsRow W5.heap.size 3 1 v (yearsL t.rd.first k PP).length ((yearsL t.rd.first k PP).map (Value.int .i64)) ∧ Below W4.heap.size W5 wr ∧ W5.heap.size ≤ wr.heap.size) (fun _ q _ => (t.rd.first + K - intOf q).toNat)
      case atStart => exact ⟨0, Nat.zero_le _, by simp, KX.out, World.ownsRow_nil _ _ _ _, Below.refl _ _, Nat.le_refl _⟩
      case round =>
        obtain ⟨k, hk, rfl, hKk, hown, hB, hsz⟩ := hrel
        have HB := Lib.hid hB; clear hB
        have HKk := Lib.hid hKk; clear hKk
        have HOw := Lib.hid hown; clear hown
        have hyl := yearsL_len t.rd.first k PP
        have HBw : Hid (Below w.heap.size w wr) := HB5.out.trans (HB.out.mono (by have := HL14.out; omega))
        have M1 := Lib.hid (L1.out.below HB.out (by have := HL14.out; omega))
        have M2 := Lib.hid (L2.out.below HB.out HL14.out)
        have j0 := M1.out.cell (i := 0) rfl
        have j1 := M1.out.cell (i := 1) rfl
        have j2 := M1.out.cell (i := 2) rfl
        have hz1 := M1.out.lt
        have HYs := Lib.hid (yearsL_succ PP t.rd.first k)
        by_cases hlt2 : k < K
        · have hd1 : decide (t.rd.first + (k : Int) ≤ t.rd.first + (K : Int) - 1) = true := by simp; omega
          go_wp2_with fail
          refine (HLa.out wr).mono ?_
          rintro e W6 ⟨rfl, hb6⟩
          have HB6 : Hid (Below w.heap.size w W6) := HBw.out.trans (hb6.mono HBw.out.size)
          have N1 := Lib.hid (M1.out.later hb6)
          have NK := Lib.hid (HKk.out.later hb6)
          have NO := Lib.hid (HOw.out.kept (grown_of_below hb6 none) (Classical.em _))
          have HB56 : Hid (Below W4.heap.size W5 W6) := HB.out.trans (hb6.mono (by have := HKk.out.lt; omega))
          have hs6 : W5.heap.size ≤ W6.heap.size := Nat.le_trans hsz hb6.size
          clear hb6 j0 j1 j2 hz1
          go_wp2_with fail
          generalize hyy : t.rd.first + (k : Int) = yy at *
          have hyb : -5 ≤ yy ∧ yy ≤ 100000 := by omega
          have HYY := Lib.hid hyy; clear hyy
          go_loopw [11, 12] (fun b i wi => ∃ j : Nat, j ≤ m ∧ b = .bool (harmP t.rd.highs ((ss.zip t.works).take j) yy) ∧ i = .int .i64 j ∧ Below W6.heap.size W6 wi) (fun _ i _ => m - (intOf i).toNat)
          case atStart => exact ⟨0, Nat.zero_le _, by simp [harmP], rfl, Below.refl _ _⟩
          case round =>
            obtain ⟨j, hj, rfl, rfl, hBi⟩ := hrel
            have HBi := Lib.hid hBi; clear hBi
            have HBiw : Hid (Below w.heap.size w wr) := HB6.out.trans (HBi.out.mono HB6.out.size)
            by_cases hjt : j < m
            · obtain ⟨x, ad, hx, rfl, ha⟩ := (HWk.out.below HBiw.out).get hjt
              obtain ⟨s, sd, hs, rfl, cs0⟩ := rdI_get (HSs.out.below HBiw.out) hjt
              obtain ⟨c0, c1, c2, c3, c4, c5, c6⟩ := ha.seven
              have Q1 := N1.out.later HBi.out
              have q0 := later_cell (Q1.cell (i := 0) rfl)
              have q1 := later_cell (Q1.cell (i := 1) rfl)
              have q2 := later_cell (Q1.cell (i := 2) rfl)
              have q3 := later_cell (Q1.cell (i := 3) rfl)
              have q4 := later_cell cs0
              have q5 := later_cell c2
              have q6 := later_cell c6
              obtain ⟨d0, d1, _, _, _, _, _, _, _, _⟩ := HWs.out j x hx
              obtain ⟨s0, s1⟩ := HSr.out s (List.mem_of_getElem? hs)
              have HSt := Lib.hid (harmP_next (hs := t.rd.highs) (y := yy) hs hx)
              have hji : (j : Int) < (m : Int) := by omega
              have HLq : Hid (∀ u : Later wr, Calls Try.prog 105 #[.agg #[.int .i64 t.rd.first, .int .i64 t.rd.years, .slice A n c], .int .i64 s, .int .i64 x.days, .int .i64 x.level, .int .i64 yy] u.w fun e w' => e = .returned (.bool (excB t.rd.highs s x.days x.level yy)) ∧ Below u.w.heap.size u.w w') := fun u => HEx.out u.w x.days x.level s yy (HBiw.out.trans (u.h.mono HBiw.out.size)) s0 s1 d0 (by omega) hyb.1 hyb.2
              clear Q1 c0 c1 c2 c3 c4 c5 c6 cs0 ha hx hs
              generalize harmP t.rd.highs ((ss.zip t.works).take j) yy = Z at *
              cases Z
              all_goals
                go_wp2
                refine wp_region_later (by kernel_rfl) (by kernel_rfl) ?_
                repeat (first | go_big_quiet_skip | (go_big_quiet_want; go_big_quiet_op; first | go_big_quiet_on | (apply Exists.intro; refine ⟨fun _ => ?_, ?_⟩; (· (with_reducible exact later_calls (HLq.out _))); go_big_quiet_on)))
                refine wpQuiet_nil ?_
                intro _ hw'
                obtain ⟨u, hu⟩ := hw'
                subst hu
                go_wp2
                go_roundw
                case rel => exact ⟨j + 1, by omega, by rw [HSt.out]; simp, by go_num, HBi.out.trans (u.h.mono HBi.out.size)⟩
                case measure => simp [intOf]; omega
            · obtain rfl : m = j := by omega
              have hPy : harmP t.rd.highs ((ss.zip t.works).take m) yy = PP yy := by rw [HZ.out, HPP.out]
              rw [hPy]
              clear hPy
              have Q2 := NK.out.later HBi.out
              have i0' := Q2.cell (i := 0) rfl
              have i1' := Q2.cell (i := 1) rfl
              have z0' := Q2.frozen 0
              have z1' := Q2.frozen 1
              have hzq := Q2.lt
              have HQ2 := Lib.hid Q2
              have HOi := HOw.out
              have hownI := NO.out.kept (grown_of_below HBi.out none) (Classical.em _)
              have HBI : Hid (Below W4.heap.size W5 wr) := HB56.out.trans (HBi.out.mono (by have := NK.out.lt; omega))
              have hsI : W5.heap.size ≤ wr.heap.size := Nat.le_trans hs6 HBi.out.size
              have hs45 := HS5.out
              have e45 : W4.heap.size < W5.heap.size := by omega
              clear Q2 hs45 HOi
              have hk1 : (((k + 1 : Nat)) : Int) = (k : Int) + 1 := by omega
              have HK1 := Lib.hid hk1
              clear hk1
              have HYk : Hid (yearsL t.rd.first (((k + 1 : Nat)) : Int) PP = if PP yy then yearsL t.rd.first k PP ++ [yy] else yearsL t.rd.first k PP) := by
                rw [HK1.out]
                exact HYs.out
              generalize yearsL t.rd.first (k : Int) PP = YL at *
              cases hP : PP yy
              · have HY2 : Hid (yearsL t.rd.first (((k + 1 : Nat)) : Int) PP = YL) := by rw [HYk.out, hP]; rfl
                have JK := Lib.hid (HQ2.out.set 1 (.int .i64 ((k : Int) + 1)))
                clear HYk
                go_wp2_with fail
                go_roundw
                case rel => exact ⟨k + 1, by omega, by rw [← HYY.out]; go_num, by rw [HY2.out, HK1.out]; exact JK.out, by rw [HY2.out]; exact own_low hownI (p := ⟨W4.heap.size, 1, none⟩) e45 _, HBI.out.setCell (p := ⟨W4.heap.size, 1, none⟩) (Nat.le_refl _) _, by simpa [World.setCell] using hsI⟩
                case measure => have := HYY.out; simp [intOf]; omega
              · have HY2 : Hid (yearsL t.rd.first (((k + 1 : Nat)) : Int) PP = YL ++ [yy]) := by rw [HYk.out, hP]; rfl
                clear HYk
                have hYl : YL.length ≤ 200 := by omega
                have JK := Lib.hid ((HQ2.out.set 1 (.int .i64 ((k : Int) + 1))).set 0 (.int .i64 ((YL.length : Int) + 1)))
                have hown7 := own_low (own_low hownI (p := ⟨W4.heap.size, 1, none⟩) e45 (.int .i64 ((k : Int) + 1))) (p := ⟨W4.heap.size, 0, none⟩) e45 (.int .i64 ((YL.length : Int) + 1))
                have HB7 : Hid (Below W4.heap.size W5 ((wr.setCell ⟨W4.heap.size, 1, none⟩ (.int .i64 ((k : Int) + 1))).setCell ⟨W4.heap.size, 0, none⟩ (.int .i64 ((YL.length : Int) + 1)))) := (HBI.out.setCell (p := ⟨W4.heap.size, 1, none⟩) (Nat.le_refl _) _).setCell (p := ⟨W4.heap.size, 0, none⟩) (Nat.le_refl _) _
                have hs7 : W5.heap.size ≤ ((wr.setCell ⟨W4.heap.size, 1, none⟩ (.int .i64 ((k : Int) + 1))).setCell ⟨W4.heap.size, 0, none⟩ (.int .i64 ((YL.length : Int) + 1))).heap.size := by simpa [World.setCell] using hsI
                have hsz7 : ((wr.setCell ⟨W4.heap.size, 1, none⟩ (.int .i64 ((k : Int) + 1))).setCell ⟨W4.heap.size, 0, none⟩ (.int .i64 ((YL.length : Int) + 1))).heap.size = wr.heap.size := by simp [World.setCell]
                have hcn := cell_one_new ((wr.setCell ⟨W4.heap.size, 1, none⟩ (.int .i64 ((k : Int) + 1))).setCell ⟨W4.heap.size, 0, none⟩ (.int .i64 ((YL.length : Int) + 1))) (.int .i64 yy) 3
                rw [hsz7] at hcn
                have HCN := Lib.hid hcn; have HSZ7 := Lib.hid hsz7
                clear hcn hsz7
                go_wp2_with (at_builtin; refine wpList_append_own _ rfl _ _ 33 rfl W5.heap.size 3 i0 (.int .i64 0) 1 8 Try.underlying33 hi hz0 hz1 hz2 rfl (by decide) _ _ _ rfl (hown7.alloc _) ⟨wr.heap.size, 0, none⟩ 1 1 [.int .i64 yy] rfl rfl HCN.out (by simp [Value.oneCell']) (by unfold maxLen; omega) (by omega) (by have := HSZ7.out; simp; omega) ?_; intro v' w2 hown' hgrow _; have HJ : Hid (Blk w2 W4.heap.size 27 #[.int .i64 ((YL.length : Int) + 1), .int .i64 ((k : Int) + 1)]) := (JK.out.alloc _).grown hgrow (fun e => by have := (hown7.lt _ e.symm).1; omega); have HB8 : Hid (Below W4.heap.size W5 w2) := (HB7.out.alloc (by have := HSZ7.out; omega) _).grown hgrow (by have := HSZ7.out; simp; omega) (fun j e => by have := (hown7.lt j e).1; omega); have hs8 : W5.heap.size ≤ w2.heap.size := Nat.le_trans hs7 (Nat.le_trans (by simp) hgrow.size); clear hgrow)
                go_roundw
                case rel => exact ⟨k + 1, by omega, by rw [← HYY.out]; go_num, by rw [HY2.out, HK1.out, List.length_append]; exact HJ.out, by rw [HY2.out, List.length_append, List.map_append]; exact hown', HB8.out, hs8⟩
                case measure => have := HYY.out; simp [intOf]; omega
        · obtain rfl : K = k := by omega
          have hd1 : decide (t.rd.first + (K : Int) ≤ t.rd.first + (K : Int) - 1) = false := by simp; omega
          go_wp2_with fail
          refine (HLa.out wr).mono ?_
          rintro e W6 ⟨rfl, hb6⟩
          have HB6 : Hid (Below w.heap.size w W6) := HBw.out.trans (hb6.mono HBw.out.size)
          have N2 := M2.out.later hb6
          have NK := HKk.out.later hb6
          have hown6 := HOw.out.kept (grown_of_below hb6 none) (Classical.em _)
          clear hb6 j0 j1 j2 hz1
          have p0 := N2.cell (i := 0) rfl
          have p1 := N2.cell (i := 1) rfl
          have z0 := N2.frozen 0
          have z1 := N2.frozen 1
          have k0 := NK.cell (i := 0) rfl
          have k1 := NK.cell (i := 1) rfl
          have hz3 := N2.lt
          have hz4 := NK.lt
          have hl14 := HL14.out
          have hs45 := HS5.out
          have HN2 := Lib.hid N2
          clear N2 NK hs45
          have HFin := Lib.hid (fun (v : Value) (w' : World) => HPo.out v w' (K : Int) HK.out)
          generalize yearsL t.rd.first (K : Int) PP = YL at *
          go_wp2_with fail
          go_region
          go_wp2_with fail
          have JK := (HN2.out.set 0 (.int .i64 (YL.length : Int))).set 1 (.int .i64 (K : Int))
          have c0 := JK.cell (i := 0) rfl
          have c1 := JK.cell (i := 1) rfl
          refine bodyPost_ret (v := .tuple #[u8, .agg #[.int .i64 (YL.length : Int), .int .i64 (K : Int)]]) (by simp [results, Try.results70, go_sem, c0, c1]) rfl (HFin.out u8 _ ?_ ?_)
          · exact own_lower (own_drew (own_low (own_low hown6 (p := ⟨w.heap.size + 1, 0, none⟩) (by dsimp only; have := HS5.out; omega) _) (p := ⟨w.heap.size + 1, 1, none⟩) (by dsimp only; have := HS5.out; omega) _)) HB5.out.size
          · exact ((HB6.out.setCell (p := ⟨w.heap.size + 1, 0, none⟩) (by dsimp only; omega) _).setCell (p := ⟨w.heap.size + 1, 1, none⟩) (by dsimp only; omega) _).drew
set_option maxRecDepth 100000 in
set_option maxHeartbeats 2000000 in
theorem refYears_any (t : Task) (ss : List Int) (A : Option Addr) (n c : Nat) (A' : Option Addr) (n' c' : Nat) (As : Option Addr) (m cs : Nat) (w : World) (hT : TkM w t A n c A' n' c') (hs : RdI w As m ss) :
    Calls Try.prog 33 #[.agg (t.val A n c A' n' c'), .slice As m cs] w (YearsPost t ss w) := by
  obtain ⟨hb1, hk1, hk2⟩ := two w (t.val A n c A' n' c') #[.int .i64 0, .int .i64 0] 29 27
  have HB1 := Lib.hid hb1; have KT := Lib.hid hk1; have KK := Lib.hid hk2
  have HC := Lib.hid (shaped_any t ss A n c A' n' c' As m cs _ (hT.below hb1) (hs.below hb1))
  have HH : Hid (∀ W, shErr t ss = 0 → Below w.heap.size w W → Calls Try.prog 70 #[.agg (t.val A n c A' n' c'), .slice As m cs] W (HarmPost t ss W)) := fun W h hW =>
    refYears0_any t ss A n c A' n' c' As m cs W (hT.below hW) (hs.below hW) (taskOK_of (planOK_of h).chk) (by have := hT.hw.1; have := hs.1; have := (planOK_of h).len; omega) (planOK_of h).days
  clear hT hs hb1 hk1 hk2
  unfold Task.val at *
  by_cases hX : shErr t ss = 0
  · have HX := Lib.hid hX
    rw [hX] at HC
    clear hX
    go_enter Try.func33, Try.ntmps33
    go_wp2_with fail
    refine HC.out.mono ?_
    rintro e W2 ⟨rfl, hb2⟩
    have HB2 : Hid (Below w.heap.size w W2) := HB1.out.trans (hb2.mono HB1.out.size)
    have L1 := KT.out.later hb2
    have L2 := Lib.hid (KK.out.later hb2)
    clear hb2
    have q0 := L1.cell (i := 0) rfl
    have q1 := L1.cell (i := 1) rfl
    have q2 := L1.cell (i := 2) rfl
    have q3 := L1.cell (i := 3) rfl
    have q4 := L1.cell (i := 4) rfl
    have q5 := L1.cell (i := 5) rfl
    have q6 := L1.cell (i := 6) rfl
    have q7 := L1.cell (i := 7) rfl
    have q8 := L1.cell (i := 8) rfl
    have q9 := L1.cell (i := 9) rfl
    have hz := L1.lt
    clear L1
    go_wp2_with fail
    refine (HH.out W2 HX.out HB2.out).mono ?_
    rintro e w3 ⟨v, rfl, hown, hb3⟩
    have HOw := Lib.hid hown
    have hzz := L2.out.lt
    have HB3 : Hid (Below w.heap.size w w3) := HB2.out.trans (hb3.mono HB2.out.size)
    have k3 := L2.out.later hb3
    clear hown hb3 q0 q1 q2 q3 q4 q5 q6 q7 q8 q9 hz
    have p0 := k3.cell (i := 0) rfl
    have p1 := k3.cell (i := 1) rfl
    have z0 := k3.frozen 0
    have z1 := k3.frozen 1
    have hz := k3.lt
    have K3 := Lib.hid k3; clear k3
    generalize ha : (harmR t ss).1 = a at *
    generalize hb : (harmR t ss).2 = b at *
    have HAB : Hid (Ending.returned (.tuple #[v, .agg #[.int .i64 a, .int .i64 b], .int .i64 0]) = .returned (.tuple #[v, .agg #[.int .i64 (harmR t ss).1, .int .i64 (harmR t ss).2], .int .i64 0])) := by rw [ha, hb]; rfl
    clear ha hb
    go_wp2_with fail
    go_region
    go_wp2_with fail
    have JK := (((K3.out.set 0 (.int .i64 a)).set 1 (.int .i64 b)).alloc (Obj.cells #[.int .i64 a, .int .i64 b] 27))
    have c0 := JK.cell (i := 0) rfl
    have c1 := JK.cell (i := 1) rfl
    refine bodyPost_ret (v := .tuple #[v, .agg #[.int .i64 a, .int .i64 b], .int .i64 0]) (by simp [results, Try.results33, go_sem, c0, c1]) rfl ⟨?_, .inr ⟨HX.out, v, ?_, ?_⟩⟩
    · exact (((HB3.out.setCell (p := ⟨w.heap.size + 1, 0, none⟩) (by simp) _).setCell (p := ⟨w.heap.size + 1, 1, none⟩) (by simp) _).alloc (by simp [World.setCell] <;> omega) _).drew
    · exact HAB.out
    · refine own_lower (own_drew (World.ownsRow.alloc (own_low (own_low HOw.out (p := ⟨w.heap.size + 1, 0, none⟩) hzz _) (p := ⟨w.heap.size + 1, 1, none⟩) hzz _) _)) HB2.out.size
  · have hXb : (shErr t ss != 0) = true := by simpa using hX
    have HPost : Hid (∀ w', Below w.heap.size w w' → YearsPost t ss w (.returned (.tuple #[.slice none 0 0, .agg #[.int .i64 0, .int .i64 0], .int .i64 (shErr t ss)])) w') := fun w' h => ⟨h, .inl ⟨hX, rfl⟩⟩
    clear hX HH
    generalize shErr t ss = X at *
    go_enter Try.func33, Try.ntmps33
    go_wp2_with fail
    refine HC.out.mono ?_
    rintro e W2 ⟨rfl, hb2⟩
    have HB2 : Hid (Below w.heap.size w W2) := HB1.out.trans (hb2.mono HB1.out.size)
    have k2 := KK.out.later hb2
    clear hb2
    have p0 := k2.cell (i := 0) rfl
    have p1 := k2.cell (i := 1) rfl
    have z0 := k2.frozen 0
    have z1 := k2.frozen 1
    have hz := k2.lt
    have K2 := Lib.hid k2; clear k2
    go_wp2_with fail
    have JK := (K2.out.set 0 (.int .i64 0)).set 1 (.int .i64 0)
    have c0 := JK.cell (i := 0) rfl
    have c1 := JK.cell (i := 1) rfl
    refine bodyPost_ret (v := .tuple #[.slice none 0 0, .agg #[.int .i64 0, .int .i64 0], .int .i64 X]) (by simp [results, Try.results33, go_sem, c0, c1]) rfl (HPost.out _ ?_)
    exact (HB2.out.setCell (p := ⟨w.heap.size + 1, 0, none⟩) (by simp) _).setCell (p := ⟨w.heap.size + 1, 1, none⟩) (by simp) _
end Go.Proofs.Ytkkajemahehoaaa
