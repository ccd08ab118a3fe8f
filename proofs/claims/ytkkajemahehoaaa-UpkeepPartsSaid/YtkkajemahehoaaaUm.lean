/- UpkeepMeets returns true. -/
import Derived.Test.YtkkajemahehoaaaYr
import Derived.Test.YtkkajemahehoaaaLh2
import Derived.Test.YtkkajemahehoaaaUc
namespace Go.Proofs.Ytkkajemahehoaaa
open Go.RowKit

set_option maxRecDepth 100000 in
set_option maxHeartbeats 2000000 in
theorem UpkeepMeets_err (t : Task) (ss : List Int) (y : Int) (A : Option Addr) (n c : Nat) (A' : Option Addr) (n' c' : Nat) (As : Option Addr) (m cs : Nat) (w : World) (hT : TkM w t A n c A' n' c') (hs : RdI w As m ss) (he : shErr t ss ≠ 0) :
    Calls Try.prog 9 #[.agg (t.val A n c A' n' c'), .slice As m cs, .int .i64 y] w fun e w' => e = .returned (.bool true) ∧ Below w.heap.size w w' := by
  have HB1 : Hid (Below w.heap.size w (w.alloc (.cells (t.val A n c A' n' c') 29))) := (Below.refl _ _).alloc (Nat.le_refl _) _
  have HC := Lib.hid (Years_any t ss A n c A' n' c' As m cs _ (hT.below HB1.out) (hs.below HB1.out))
  clear hT hs
  unfold Task.val at *
  go_enter Try.func9, Try.ntmps9
  go_wp2_with fail
  refine HC.out.mono ?_
  rintro e W2 ⟨hb2, (⟨_, rfl⟩ | ⟨h0, _⟩)⟩
  · have HB2 : Hid (Below w.heap.size w W2) := HB1.out.trans (hb2.mono HB1.out.size)
    have hXb : (shErr t ss != 0) = true := by simpa using he
    clear hb2 HC he
    generalize shErr t ss = X at *
    go_wp2_with fail
    refine (Awake_any _).mono ?_
    rintro e W3 ⟨rfl, hb3⟩
    have h2 : Below w.heap.size w (W2.alloc (Obj.cells #[.int .i64 0, .int .i64 0] 27)) := HB2.out.alloc HB2.out.size _
    have HB3 := Lib.hid (h2.trans (hb3.mono h2.size))
    clear h2 hb3
    go_wp2_with fail
    go_ret
    exact ⟨rfl, HB3.out⟩
  · exact absurd h0 he

theorem harmW_take {ss : List Int} {ws : List Work} {k : Nat} {s : Int} {x : Work} (hs : ss[k]? = some s) (hx : ws[k]? = some x) : harmW ((ss.zip ws).take (k + 1)) = (harmW ((ss.zip ws).take k) || wrapsB s x.days) := by
  rw [zip_take_succ hs hx]; unfold harmW; rw [List.any_append]; simp
theorem harmP_take {hs : List High} {ss : List Int} {ws : List Work} {k : Nat} {s : Int} {x : Work} {y : Int} (h1 : ss[k]? = some s) (hx : ws[k]? = some x) : harmP hs ((ss.zip ws).take (k + 1)) y = (harmP hs ((ss.zip ws).take k) y || excB hs s x.days x.level y) := by
  rw [zip_take_succ h1 hx]; unfold harmP; rw [List.any_append]; simp
theorem zip_all {ss : List Int} {ws : List Work} {m : Nat} (h1 : ss.length = m) : (ss.zip ws).take m = ss.zip ws := List.take_of_length_le (by rw [List.length_zip]; omega)
theorem lawHit_exc' {r : Rec} {d m lvl : Int} (h : RecOK r) (d0 : 0 ≤ d) (d1 : d ≤ 364) (m0 : 1 ≤ m) (m1 : m ≤ 365) (y : Int) : r.highs.any (lawHit d m lvl y) = excB r.highs d m lvl y := by
  unfold excB
  rw [Bool.eq_iff_iff, List.any_eq_true, List.any_eq_true]
  have hd : ∀ z ∈ r.highs, lawHit d m lvl y z = (decide (lvl < z.level) && winB d m z y) := fun z hz => by
    obtain ⟨i, hi, rfl⟩ := List.getElem_of_mem hz
    have := h.rows i _ (List.getElem?_eq_getElem hi)
    unfold lawHit
    rw [inB_win d0 d1 m0 m1 this.2.2.1 this.2.2.2.1]
  constructor
  · rintro ⟨z, hz, hp⟩; exact ⟨z, hz, by rw [← hd z hz]; exact hp⟩
  · rintro ⟨z, hz, hp⟩; exact ⟨z, hz, by rw [hd z hz]; exact hp⟩
theorem lawHarm_exc (r : Rec) (d m lvl y : Int) (A : Option Addr) (n c : Nat) (w : World) (hr : RdH w A n r.highs) (hR : RecOK r) (d0 : 0 ≤ d) (d1 : d ≤ 364) (m0 : 1 ≤ m) (m1 : m ≤ 365) (y0 : -9223372036854775808 ≤ y) (y1 : y ≤ 9223372036854775807) :
    Calls Try.prog 28 #[.agg #[.int .i64 r.first, .int .i64 r.years, .slice A n c], .int .i64 d, .int .i64 m, .int .i64 lvl, .int .i64 y] w fun e w' => e = .returned (.bool (excB r.highs d m lvl y)) ∧ Below w.heap.size w w' := by
  have hl := hr.1
  have := hR.len
  have h := lawHarm_all r.highs r.first r.years d m lvl y A n c w hr (by omega) d0 d1 m0 m1 y0 y1 (fun h hh => by
    obtain ⟨i, hi, rfl⟩ := List.getElem_of_mem hh
    have := hR.rows i _ (List.getElem?_eq_getElem hi)
    have := hR.f0
    have := hR.f1
    exact ⟨⟨by omega, by omega⟩, by omega, by omega⟩)
  rw [lawHit_exc' hR d0 d1 m0 m1] at h
  exact h
theorem mem_take_succ {L : List Int} {k : Nat} {v : Int} (hv : L[k]? = some v) (y : Int) : decide (y ∈ L.take (k + 1)) = (decide (y ∈ L.take k) || (v == y)) := by
  obtain ⟨hk, rfl⟩ := List.getElem?_eq_some_iff.1 hv
  rw [List.take_succ_eq_append_getElem hk, Bool.eq_iff_iff]
  simp only [List.mem_append, List.mem_singleton, Bool.or_eq_true, decide_eq_true_eq, beq_iff_eq]
  exact or_congr Iff.rfl eq_comm

set_option maxRecDepth 100000 in
set_option maxHeartbeats 4000000 in
theorem UpkeepMeets_ok (t : Task) (ss : List Int) (y : Int) (A : Option Addr) (n c : Nat) (A' : Option Addr) (n' c' : Nat) (As : Option Addr) (m cs : Nat) (w : World) (hT : TkM w t A n c A' n' c') (hs : RdI w As m ss) (he : shErr t ss = 0) (hy0 : -9223372036854775808 ≤ y) (hy1 : y ≤ 9223372036854775807) :
    Calls Try.prog 9 #[.agg (t.val A n c A' n' c'), .slice As m cs, .int .i64 y] w fun e w' => e = .returned (.bool true) ∧ Below w.heap.size w w' := by
  have hP := planOK_of he
  have hok := taskOK_of hP.chk
  have HB1 : Hid (Below w.heap.size w (w.alloc (.cells (t.val A n c A' n' c') 29))) := (Below.refl _ _).alloc (Nat.le_refl _) _
  have KK : Hid (Blk (w.alloc (.cells (t.val A n c A' n' c') 29)) w.heap.size 29 (t.val A n c A' n' c')) := Blk.new _ _ _ rfl
  have HC := Lib.hid (Years_any t ss A n c A' n' c' As m cs _ (hT.below HB1.out) (hs.below HB1.out))
  have HLh : Hid (∀ (W : World) (d l s : Int), Below w.heap.size w W → 0 ≤ s → s ≤ 364 → 1 ≤ d → d ≤ 365 → Calls Try.prog 28 #[.agg #[.int .i64 t.rd.first, .int .i64 t.rd.years, .slice A n c], .int .i64 s, .int .i64 d, .int .i64 l, .int .i64 y] W fun e w' => e = .returned (.bool (excB t.rd.highs s d l y)) ∧ Below W.heap.size W w') :=
    fun W d l s hW s0 s1 d0 d1 => lawHarm_exc t.rd s d l y A n c W (hT.hr.below hW) hok.rd s0 s1 d0 d1 hy0 hy1
  have hmn : m = n' := by have := hT.hw.1; have := hs.1; have := hP.len; omega
  have hsl := hs.1
  have hml : m ≤ 4 := by have := hT.hw.1; have := hok.len; omega
  have HWs : Hid (∀ (i : Nat) (v : Work), t.works[i]? = some v → WorkOK v) := fun i v hv => workOK_of (hok.rows i v hv).2.2.1
  have HSr := Lib.hid hP.days
  obtain ⟨f0, f1, y0, y1⟩ : 0 ≤ t.rd.first ∧ t.rd.first ≤ 9999 ∧ 2 ≤ t.rd.years ∧ t.rd.years ≤ 200 := ⟨hok.rd.f0, hok.rd.f1, hok.rd.y0, hok.rd.y1⟩
  have HSs := Lib.hid hs
  have HWk := Lib.hid hT.hw
  have hob := ofF_bounds (harmW (ss.zip t.works)) y0 y1
  have HSo : Hid ((harmL t ss).Pairwise (· < ·)) := yearsL_sorted _ _ _
  have HMm : Hid (∀ z, z ∈ harmL t ss ↔ (t.rd.first ≤ z ∧ z < t.rd.first + ofF t.rd.years (harmW (ss.zip t.works))) ∧ harmP t.rd.highs (ss.zip t.works) z = true) := fun z => mem_yearsL
  have hLl : ((harmL t ss).length : Int) ≤ max 0 (ofF t.rd.years (harmW (ss.zip t.works))) := yearsL_len _ _ _
  have HR2 : Hid (harmR t ss = (((harmL t ss).length : Int), ofF t.rd.years (harmW (ss.zip t.works)))) := rfl
  clear hT hs hok hP
  subst hmn
  have hne : ((m : Int) != (m : Int)) = false := by simp
  unfold Task.val at *
  go_enter Try.func9, Try.ntmps9
  go_wp2_with fail
  refine HC.out.mono ?_
  rintro e W2 ⟨hb2, (⟨h0, _⟩ | ⟨_, v, rfl, hown⟩)⟩
  · exact absurd he h0
  rw [HR2.out]
  clear HR2 HC
  obtain ⟨Al, cl, rfl, hl, _, _⟩ := rdI_of_own hown rfl
  clear hown
  generalize harmL t ss = L at *
  have HZ : Hid ((ss.zip t.works).take m = ss.zip t.works) := zip_all hsl
  have HO : Hid (ofF t.rd.years (harmW ((ss.zip t.works).take m)) = ofF t.rd.years (harmW (ss.zip t.works))) := by rw [HZ.out]; rfl
  have HPm : Hid (harmP t.rd.highs ((ss.zip t.works).take m) y = harmP t.rd.highs (ss.zip t.works) y) := by rw [HZ.out]; rfl
  clear HZ
  generalize ofF t.rd.years (harmW (ss.zip t.works)) = o at *
  have hLo : ¬ (o < (L.length : Int)) := by omega
  have hLo' : decide (o < (L.length : Int)) = false := by simpa using hLo
  have HIs : Hid (decide (y ∈ L) = (decide (t.rd.first ≤ y) && decide (y < t.rd.first + o) && harmP t.rd.highs (ss.zip t.works) y)) := by
    rw [Bool.eq_iff_iff]
    have := HMm.out y
    simp only [Bool.and_eq_true, decide_eq_true_eq] at *
    exact this
  clear HMm
  have k3 := (KK.out.later hb2).cell (i := 3) rfl
  have k1 := (KK.out.later hb2).cell (i := 1) rfl
  have hsz := (KK.out.later hb2).lt
  go_wp2_with fail
  obtain ⟨W3, hW3⟩ : ∃ W3, W2.alloc (Obj.cells #[.int .i64 (L.length : Int), .int .i64 o] 27) = W3 := ⟨_, rfl⟩
  rw [hW3]
  have hb3 : Below W2.heap.size W2 W3 := by rw [← hW3]; exact (Below.refl _ _).alloc (Nat.le_refl _) _
  have KT := Lib.hid ((KK.out.later hb2).later hb3)
  have KX : Hid (Blk W3 W2.heap.size 27 #[.int .i64 (L.length : Int), .int .i64 o]) := by rw [← hW3]; exact Blk.new _ _ _ rfl
  have HB3 : Hid (Below w.heap.size w W3) := (HB1.out.trans (hb2.mono HB1.out.size)).trans (hb3.mono (by have := hb2.size; have := HB1.out.size; omega))
  have HLl := Lib.hid (hl.below hb3)
  clear hW3 hb3 hb2 hl k1 k3 KK HB1 hsz
  go_loopw [10, 11] (fun q i wr => ∃ k : Nat, k ≤ m ∧ q = .int .i64 (ofF t.rd.years (harmW ((ss.zip t.works).take k))) ∧ i = .int .i64 k ∧ Below W3.heap.size W3 wr) (fun _ i _ => m - (intOf i).toNat)
  case atStart => exact ⟨0, Nat.zero_le _, rfl, rfl, Below.refl _ _⟩
  case round =>
    obtain ⟨k, hk, rfl, rfl, hB⟩ := hrel
    have HB := Lib.hid hB; clear hB
    have HBw : Hid (Below w.heap.size w wr) := HB3.out.trans (HB.out.mono HB3.out.size)
    by_cases hlt : k < m
    · obtain ⟨x, ad, hx, rfl, ha⟩ := (HWk.out.below HBw.out).get hlt
      obtain ⟨s, sd, hs, rfl, cs0⟩ := rdI_get (HSs.out.below HBw.out) hlt
      obtain ⟨c0, c1, c2, c3, c4, c5, c6⟩ := ha.seven
      have q1 := later_cell (((KT.out.later HB.out)).cell (i := 1) rfl)
      have q3 := later_cell (((KT.out.later HB.out)).cell (i := 3) rfl)
      have q4 := later_cell cs0
      have q5 := later_cell c2
      have hx1 := HWs.out k x hx
      obtain ⟨d0, d1, u0, u1, _, _, _, _, _, _⟩ := hx1
      obtain ⟨s0, s1⟩ := HSr.out s (List.mem_of_getElem? hs)
      have HSt := Lib.hid (harmW_take hs hx)
      have hki : (k : Int) < (m : Int) := by omega
      clear c0 c1 c2 c3 c4 c5 c6 cs0 ha hx hs
      cases hb : decide (365 < s + x.days)
      · have HO2 : Hid (harmW ((ss.zip t.works).take (k + 1)) = harmW ((ss.zip t.works).take k)) := by rw [HSt.out]; unfold wrapsB; rw [hb]; simp [Hid]
        clear HSt
        generalize hqq : ofF t.rd.years (harmW ((ss.zip t.works).take k)) = qq at *
        have HQQ := Lib.hid hqq; clear hqq
        go_wp2
        refine wp_region_later (by kernel_rfl) (by kernel_rfl) ?_
        iterate 12 (go_big_quiet_want; go_big_quiet_op; go_big_quiet_on)
        refine wpQuiet_nil ?_
        intro _ hw'
        obtain ⟨u, hu⟩ := hw'
        subst hu
        go_wp2
        go_roundw
        case rel => exact ⟨k + 1, by omega, by rw [HO2.out, HQQ.out], by go_num, HB.out.trans (u.h.mono HB.out.size)⟩
        case measure => simp [intOf]; omega
      · have HO2 : Hid (harmW ((ss.zip t.works).take (k + 1)) = true) := by rw [HSt.out]; unfold wrapsB; rw [hb]; simp [Hid]
        clear HSt
        generalize hqq : ofF t.rd.years (harmW ((ss.zip t.works).take k)) = qq at *
        have HQQ := Lib.hid hqq; clear hqq
        go_wp2
        refine wp_region_later (by kernel_rfl) (by kernel_rfl) ?_
        iterate 12 (go_big_quiet_want; go_big_quiet_op; go_big_quiet_on)
        refine wpQuiet_nil ?_
        intro _ hw'
        obtain ⟨u, hu⟩ := hw'
        subst hu
        go_wp2
        go_roundw
        case rel => exact ⟨k + 1, by omega, by rw [HO2.out]; rfl, by go_num, HB.out.trans (u.h.mono HB.out.size)⟩
        case measure => simp [intOf]; omega
    · obtain rfl : m = k := by omega
      rw [HO.out]
      have t0 := (KX.out.later HB.out).cell (i := 0) rfl
      have t1 := (KX.out.later HB.out).cell (i := 1) rfl
      have hoo : (o != o) = false := by simp
      go_wp2
      clear t0 t1
      obtain ⟨W4, rfl⟩ : ∃ W4 : World, W4 = wr := ⟨_, rfl⟩
      have HLk := Lib.hid (HLl.out.below HB.out)
      have KT4 := Lib.hid (KT.out.later HB.out)
      have HB4 := Lib.hid HBw.out
      clear HLl KT HBw HB HB3 KX
      go_loopw [12, 13] (fun b i wr => ∃ j : Nat, j ≤ L.length ∧ b = .bool (decide (y ∈ L.take j)) ∧ i = .int .i64 j ∧ Below W4.heap.size W4 wr) (fun _ i _ => L.length - (intOf i).toNat)
      case atStart => exact ⟨0, Nat.zero_le _, by simp, rfl, Below.refl _ _⟩
      case round =>
        obtain ⟨j, hj, rfl, rfl, hB⟩ := hrel
        have HB := Lib.hid hB; clear hB
        by_cases hlt2 : j < L.length
        · obtain ⟨v, ld, hv, rfl, cv⟩ := rdI_get (HLk.out.below HB.out) hlt2
          have HMt := Lib.hid (mem_take_succ hv y)
          have q1 := later_cell cv
          have hji : (j : Int) < (L.length : Int) := by omega
          by_cases h0 : 0 < j
          · obtain ⟨v', ld', hv', e', cv'⟩ := rdI_get (HLk.out.below HB.out) (k := j - 1) (by omega)
            cases e'
            have q2 := later_cell cv'
            have hvv : v' < v := by
              obtain ⟨a1, a2⟩ := List.getElem?_eq_some_iff.1 hv
              obtain ⟨b1, b2⟩ := List.getElem?_eq_some_iff.1 hv'
              have := (List.pairwise_iff_getElem.1 HSo.out) (j - 1) j b1 a1 (by omega)
              rw [a2, b2] at this
              exact this
            have hvd : decide (v ≤ v') = false := by simpa using hvv
            have hd : decide ((0 : Int) < (j : Int)) = true := by simp; omega
            clear hv hv' cv'
            generalize decide (y ∈ L.take j) = Z at *
            cases Z
            all_goals
              go_wp2
              refine wp_region_later (by kernel_rfl) (by kernel_rfl) ?_
              repeat (first | go_big_quiet_skip | (go_big_quiet_want; go_big_quiet_op; go_big_quiet_on))
              refine wpQuiet_nil ?_
              intro _ hw'
              obtain ⟨u, hu⟩ := hw'
              subst hu
              go_wp2
              go_roundw
              case rel => exact ⟨j + 1, by omega, by rw [HMt.out]; simp, by go_num, HB.out.trans (u.h.mono HB.out.size)⟩
              case measure => simp [intOf]; omega
          · have hd : decide ((0 : Int) < (j : Int)) = false := by simp; omega
            clear hv
            generalize decide (y ∈ L.take j) = Z at *
            cases Z
            all_goals
              go_wp2
              refine wp_region_later (by kernel_rfl) (by kernel_rfl) ?_
              repeat (first | go_big_quiet_skip | (go_big_quiet_want; go_big_quiet_op; go_big_quiet_on))
              refine wpQuiet_nil ?_
              intro _ hw'
              obtain ⟨u, hu⟩ := hw'
              subst hu
              go_wp2
              go_roundw
              case rel => exact ⟨j + 1, by omega, by rw [HMt.out]; simp, by go_num, HB.out.trans (u.h.mono HB.out.size)⟩
              case measure => simp [intOf]; omega
        · obtain rfl : j = L.length := by omega
          rw [List.take_length, HIs.out]
          clear HIs hLo hLo'
          go_wp2
          obtain ⟨W5, rfl⟩ : ∃ W5 : World, W5 = wr := ⟨_, rfl⟩
          have HB5 : Hid (Below w.heap.size w W5) := HB4.out.trans (HB.out.mono HB4.out.size)
          have KT5 := Lib.hid (KT4.out.later HB.out)
          clear HB HB4 KT4 HLk
          go_loopw [14, 15] (fun b i wr => ∃ k : Nat, k ≤ m ∧ b = .bool (harmP t.rd.highs ((ss.zip t.works).take k) y) ∧ i = .int .i64 k ∧ Below W5.heap.size W5 wr) (fun _ i _ => m - (intOf i).toNat)
          case atStart => exact ⟨0, Nat.zero_le _, by simp [harmP], rfl, Below.refl _ _⟩
          case round =>
            obtain ⟨k, hk, rfl, rfl, hB⟩ := hrel
            have HB := Lib.hid hB; clear hB
            have HBw : Hid (Below w.heap.size w wr) := HB5.out.trans (HB.out.mono HB5.out.size)
            have KT6 := KT5.out.later HB.out
            have k0 := KT6.cell (i := 0) rfl
            have k1 := KT6.cell (i := 1) rfl
            have k2 := KT6.cell (i := 2) rfl
            have k3 := KT6.cell (i := 3) rfl
            have hkz := KT6.lt
            clear KT6
            by_cases hlt3 : k < m
            · obtain ⟨x, ad, hx, rfl, ha⟩ := (HWk.out.below HBw.out).get hlt3
              obtain ⟨s, sd, hs, rfl, cs0⟩ := rdI_get (HSs.out.below HBw.out) hlt3
              obtain ⟨c0, c1, c2, c3, c4, c5, c6⟩ := ha.seven
              have hx1 := HWs.out k x hx
              obtain ⟨d0, d1, u0, u1, _, _, _, _, _, _⟩ := hx1
              obtain ⟨s0, s1⟩ := HSr.out s (List.mem_of_getElem? hs)
              have HSt := Lib.hid (harmP_take (hs := t.rd.highs) (y := y) hs hx)
              have hki : (k : Int) < (m : Int) := by omega
              clear ha hx hs
              generalize harmP t.rd.highs ((ss.zip t.works).take k) y = Z at *
              go_wp2
              obtain ⟨W6, hW6⟩ : ∃ W6, wr.alloc (Obj.cells #[.string x.name, .int .i64 x.gate, .int .i64 x.days, .int .i64 x.frm, .int .i64 x.til, .int .i64 x.step, .int .i64 x.level] 61) = W6 := ⟨_, rfl⟩
              have hb6 : Below wr.heap.size wr W6 := by rw [← hW6]; exact (Below.refl _ _).alloc (Nat.le_refl _) _
              have KX6 : Blk W6 wr.heap.size 61 #[.string x.name, .int .i64 x.gate, .int .i64 x.days, .int .i64 x.frm, .int .i64 x.til, .int .i64 x.step, .int .i64 x.level] := by rw [← hW6]; exact Blk.new _ _ _ rfl
              rw [hW6]
              clear hW6
              have q0 := later_cell (cell_below hb6 k0)
              have q1 := later_cell (cell_below hb6 k1)
              have q2 := later_cell (cell_below hb6 k2)
              have q3 := later_cell (cell_below hb6 cs0)
              have q4 := later_cell (KX6.cell (i := 2) rfl)
              have q5 := later_cell (KX6.cell (i := 6) rfl)
              have HB6 := Lib.hid hb6
              have HLq : Hid (∀ u : Later W6, Calls Try.prog 28 #[.agg #[.int .i64 t.rd.first, .int .i64 t.rd.years, .slice A n c], .int .i64 s, .int .i64 x.days, .int .i64 x.level, .int .i64 y] u.w fun e w' => e = .returned (.bool (excB t.rd.highs s x.days x.level y)) ∧ Below u.w.heap.size u.w w') :=
                fun u => HLh.out u.w x.days x.level s (HBw.out.trans ((HB6.out.trans (u.h.mono HB6.out.size)).mono HBw.out.size)) s0 s1 d0 (by omega)
              clear KX6 hb6 c0 c1 c2 c3 c4 c5 c6 cs0 k0 k1 k2 k3
              cases Z
              all_goals
                refine wp_region_later (by kernel_rfl) (by kernel_rfl) ?_
                repeat (first | go_big_quiet_skip | (go_big_quiet_want; go_big_quiet_op; first | go_big_quiet_on | (apply Exists.intro; refine ⟨fun _ => ?_, ?_⟩; (· (with_reducible exact later_calls (HLq.out _))); go_big_quiet_on)))
                refine wpQuiet_nil ?_
                intro _ hw'
                obtain ⟨u, hu⟩ := hw'
                subst hu
                go_wp2
                go_roundw
                case rel => exact ⟨k + 1, by omega, by rw [HSt.out]; simp, by go_num, (HB.out.trans (HB6.out.mono HB.out.size)).trans (u.h.mono (by have := HB6.out.size; have := HB.out.size; omega))⟩
                case measure => simp [intOf]; omega
            · obtain rfl : m = k := by omega
              rw [HPm.out]
              generalize harmP t.rd.highs (ss.zip t.works) y = Z at *
              cases hf1 : decide (t.rd.first ≤ y) <;> cases hf2 : decide (y < t.rd.first + o) <;> cases Z
              all_goals
                go_wp2_with fail
                refine (Awake_any _).mono ?_
                rintro e W7 ⟨rfl, hb7⟩
                have HB7 := Lib.hid (HBw.out.trans (hb7.mono HBw.out.size))
                clear hb7
                go_wp2_with fail
                go_ret
                exact ⟨rfl, HB7.out⟩

/-- UpkeepMeets returns true. -/
theorem UpkeepMeets_any (t : Task) (ss : List Int) (y : Int) (A : Option Addr) (n c : Nat) (A' : Option Addr) (n' c' : Nat) (As : Option Addr) (m cs : Nat) (w : World) (hT : TkM w t A n c A' n' c') (hs : RdI w As m ss) (hy0 : -9223372036854775808 ≤ y) (hy1 : y ≤ 9223372036854775807) :
    Calls Try.prog 9 #[.agg (t.val A n c A' n' c'), .slice As m cs, .int .i64 y] w fun e w' => e = .returned (.bool true) ∧ Below w.heap.size w w' := by
  by_cases he : shErr t ss = 0
  · exact UpkeepMeets_ok t ss y A n c A' n' c' As m cs w hT hs he hy0 hy1
  · exact UpkeepMeets_err t ss y A n c A' n' c' As m cs w hT hs he
end Go.Proofs.Ytkkajemahehoaaa
