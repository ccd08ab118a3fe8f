/- UpkeepParts returns true. -/
import Derived.Test.YtkkajemahehoaaaUm
import Derived.Test.YtkkajemahehoaaaPlain4
namespace Go.Proofs.Ytkkajemahehoaaa
open Go.RowKit

set_option maxRecDepth 100000 in
set_option maxHeartbeats 2000000 in
theorem UpkeepParts_err (t : Task) (ss : List Int) (A : Option Addr) (n c : Nat) (A' : Option Addr) (n' c' : Nat) (As : Option Addr) (m cs : Nat) (w : World) (hT : TkM w t A n c A' n' c') (hs : RdI w As m ss) (he : shErr t ss ≠ 0) :
    Calls Try.prog 10 #[.agg (t.val A n c A' n' c'), .slice As m cs] w fun e w' => e = .returned (.bool true) ∧ Below w.heap.size w w' := by
  have HB1 : Hid (Below w.heap.size w (w.alloc (.cells (t.val A n c A' n' c') 29))) := (Below.refl _ _).alloc (Nat.le_refl _) _
  have HC := Lib.hid (Years_any t ss A n c A' n' c' As m cs _ (hT.below HB1.out) (hs.below HB1.out))
  clear hT hs
  unfold Task.val at *
  go_enter Try.func10, Try.ntmps10
  go_wp2_with fail
  refine HC.out.mono ?_
  rintro e W2 ⟨hb2, (⟨_, rfl⟩ | ⟨h0, _⟩)⟩
  · have HB2 : Hid (Below w.heap.size w W2) := HB1.out.trans (hb2.mono HB1.out.size)
    have hXb : (shErr t ss != 0) = true := by simpa using he
    clear hb2 HC he
    generalize shErr t ss = X at *
    go_wp2_with fail
    refine (Awake_any _).mono ?_
    rintro e W3 ⟨rfl, hb3⟩
    have h2 : Below w.heap.size w (W2.alloc (Obj.cells #[.int .i64 0, .int .i64 0] 27)) := HB2.out.alloc HB2.out.size _
    have HB3 := Lib.hid (h2.trans (hb3.mono h2.size))
    clear h2 hb3
    go_wp2_with fail
    go_ret
    exact ⟨rfl, HB3.out⟩
  · exact absurd h0 he

/-- The risk of one work of a plan. -/
def rkF (t : Task) (p : Int × Work) : Int × Int := riskF t.rd p.1 p.2.days p.2.level
def sumP (t : Task) : List (Int × Work) → Int
  | [] => 0
  | p :: ps => (rkF t p).1 + sumP t ps
theorem sumP_append (t : Task) : ∀ (a b : List (Int × Work)), sumP t (a ++ b) = sumP t a + sumP t b
  | [], b => by simp [sumP]
  | p :: a, b => by simp [sumP, sumP_append t a b]; omega
def sameP (t : Task) (o : Int) (ps : List (Int × Work)) : Bool := ps.all fun p => (rkF t p).2 == o
theorem filter_or (l : List Int) (P Q : Int → Bool) : (l.filter fun y => P y || Q y).length ≤ (l.filter P).length + (l.filter Q).length := by
  induction l with
  | nil => simp
  | cons a l ih =>
    simp only [List.filter_cons]
    cases P a <;> cases Q a <;> simp <;> omega
theorem harm_sum (t : Task) (o : Int) : ∀ ps : List (Int × Work), sameP t o ps = true → ((yearsL t.rd.first o (harmP t.rd.highs ps)).length : Int) ≤ sumP t ps
  | [], _ => by unfold yearsL harmP; simp [sumP]
  | p :: ps, h => by
    unfold sameP at h
    simp only [List.all_cons, Bool.and_eq_true, beq_iff_eq] at h
    have ih := harm_sum t o ps h.2
    have e : harmP t.rd.highs (p :: ps) = fun y => excB t.rd.highs p.1 p.2.days p.2.level y || harmP t.rd.highs ps y := by
      funext y; unfold harmP; simp
    have h1 := filter_or ((List.range o.toNat).map fun i : Nat => t.rd.first + (i : Int)) (excB t.rd.highs p.1 p.2.days p.2.level) (harmP t.rd.highs ps)
    have h2 : (rkF t p).1 = ((yearsL t.rd.first o (excB t.rd.highs p.1 p.2.days p.2.level)).length : Int) := by
      have h3 := h.1
      unfold rkF riskF at h3 ⊢
      dsimp only at h3 ⊢
      rw [h3]
    unfold sumP
    rw [h2, e]
    unfold yearsL at *
    omega
theorem harm_each {t : Task} {ss : List Int} {p : Int × Work} (hp : p ∈ ss.zip t.works) (h : (rkF t p).2 = (harmR t ss).2) : (rkF t p).1 ≤ (harmR t ss).1 := by
  unfold rkF riskF harmR harmL at *
  dsimp only at *
  rw [h]
  have := yearsL_mono (f := t.rd.first) (cnt := ofF t.rd.years (harmW (ss.zip t.works))) (P := excB t.rd.highs p.1 p.2.days p.2.level) (Q := harmP t.rd.highs (ss.zip t.works)) (fun y hy => by unfold harmP; rw [List.any_eq_true]; exact ⟨p, hp, hy⟩)
  omega

set_option maxRecDepth 100000 in
set_option maxHeartbeats 4000000 in
theorem UpkeepParts_ok (t : Task) (ss : List Int) (A : Option Addr) (n c : Nat) (A' : Option Addr) (n' c' : Nat) (As : Option Addr) (m cs : Nat) (w : World) (hT : TkM w t A n c A' n' c') (hs : RdI w As m ss) (he : shErr t ss = 0) :
    Calls Try.prog 10 #[.agg (t.val A n c A' n' c'), .slice As m cs] w fun e w' => e = .returned (.bool true) ∧ Below w.heap.size w w' := by
  have hP := planOK_of he
  have hok := taskOK_of hP.chk
  have HB1 : Hid (Below w.heap.size w (w.alloc (.cells (t.val A n c A' n' c') 29))) := (Below.refl _ _).alloc (Nat.le_refl _) _
  have KK : Hid (Blk (w.alloc (.cells (t.val A n c A' n' c') 29)) w.heap.size 29 (t.val A n c A' n' c')) := Blk.new _ _ _ rfl
  have HC := Lib.hid (Years_any t ss A n c A' n' c' As m cs _ (hT.below HB1.out) (hs.below HB1.out))
  have hmn : m = n' := by have := hT.hw.1; have := hs.1; have := hP.len; omega
  have hsl := hs.1
  have hml : m ≤ 4 := by have := hT.hw.1; have := hok.len; omega
  have HWs : Hid (∀ (i : Nat) (v : Work), t.works[i]? = some v → WorkOK v) := fun i v hv => workOK_of (hok.rows i v hv).2.2.1
  have HSr := Lib.hid hP.days
  have HRec : Hid (RecOK t.rd ∧ RecAll t.rd) := ⟨hok.rd, recAll_of (by
    have := hP.chk
    unfold chkTask at this
    by_cases h1 : ((chkRec t.rd).2 != 0) = true
    · rw [if_pos h1] at this; exact this
    · simpa using h1)⟩
  have HSs := Lib.hid hs
  have HWk := Lib.hid hT.hw
  have HHs := Lib.hid hT.hr
  have hhb := harmR_bounds hok ss
  have HR2 : Hid (harmR t ss = ((harmR t ss).1, (harmR t ss).2)) := rfl
  have HEach : Hid (∀ p ∈ ss.zip t.works, (rkF t p).2 = (harmR t ss).2 → (rkF t p).1 ≤ (harmR t ss).1) := fun p hp h => harm_each hp h
  have HSum : Hid (sameP t (harmR t ss).2 (ss.zip t.works) = true → (harmR t ss).1 ≤ sumP t (ss.zip t.works)) := fun h => harm_sum t _ _ h
  have HZ : Hid ((ss.zip t.works).take m = ss.zip t.works) := zip_all hsl
  clear hT hs hok hP
  subst hmn
  have hne : ((m : Int) != (m : Int)) = false := by simp
  generalize (harmR t ss).1 = X1 at *
  generalize (harmR t ss).2 = X2 at *
  unfold Task.val at *
  go_enter Try.func10, Try.ntmps10
  go_wp2_with fail
  refine HC.out.mono ?_
  rintro e W2 ⟨hb2, (⟨h0, _⟩ | ⟨_, v, rfl, hown⟩)⟩
  · exact absurd he h0
  rw [HR2.out]
  clear HR2 HC hown
  have k3 := (KK.out.later hb2).cell (i := 3) rfl
  have hsz := (KK.out.later hb2).lt
  go_wp2_with fail
  obtain ⟨W3, hW3⟩ : ∃ W3, W2.alloc (Obj.cells #[.int .i64 X1, .int .i64 X2] 27) = W3 := ⟨_, rfl⟩
  rw [hW3]
  have hb3 : Below W2.heap.size W2 W3 := by rw [← hW3]; exact (Below.refl _ _).alloc (Nat.le_refl _) _
  have KT := Lib.hid ((KK.out.later hb2).later hb3)
  have KX : Hid (Blk W3 W2.heap.size 27 #[.int .i64 X1, .int .i64 X2]) := by rw [← hW3]; exact Blk.new _ _ _ rfl
  have HB3 : Hid (Below w.heap.size w W3) := (HB1.out.trans (hb2.mono HB1.out.size)).trans (hb3.mono (by have := hb2.size; have := HB1.out.size; omega))
  clear hW3 hb3 hb2 k3 KK HB1 hsz
  go_loopw [8, 9, 10] (fun q b i wr => ∃ k : Nat, k ≤ m ∧ q = .int .i64 (sumP t ((ss.zip t.works).take k)) ∧ 0 ≤ sumP t ((ss.zip t.works).take k) ∧ sumP t ((ss.zip t.works).take k) ≤ 200 * (k : Int) ∧ b = .bool (sameP t X2 ((ss.zip t.works).take k)) ∧ i = .int .i64 k ∧ Below W3.heap.size W3 wr) (fun _ _ i _ => m - (intOf i).toNat)
  case atStart => exact ⟨0, Nat.zero_le _, rfl, by simp [sumP], by simp [sumP], rfl, rfl, Below.refl _ _⟩
  case round =>
    obtain ⟨k, hk, rfl, hq0, hq1, rfl, rfl, hB⟩ := hrel
    have HB := Lib.hid hB; clear hB
    have HBw : Hid (Below w.heap.size w wr) := HB3.out.trans (HB.out.mono HB3.out.size)
    by_cases hlt : k < m
    · obtain ⟨x, ad, hx, rfl, ha⟩ := (HWk.out.below HBw.out).get hlt
      obtain ⟨s, sd, hs, rfl, cs0⟩ := rdI_get (HSs.out.below HBw.out) hlt
      obtain ⟨c0, c1, c2, c3, c4, c5, c6⟩ := ha.seven
      have KT2 := KT.out.later HB.out
      have KX2 := Lib.hid (KX.out.later HB.out)
      have b0 := KT2.cell (i := 0) rfl
      have b1 := KT2.cell (i := 1) rfl
      have b2 := KT2.cell (i := 2) rfl
      have b3 := KT2.cell (i := 3) rfl
      clear KT2
      have hx1 := HWs.out k x hx
      obtain ⟨d0, d1, u0, u1, _, _, _, _, l0, l1⟩ := hx1
      obtain ⟨s0, s1⟩ := HSr.out s (List.mem_of_getElem? hs)
      have HRk : Hid (∀ W : World, Below wr.heap.size wr W → Calls Try.prog 27 #[.agg #[.int .i64 t.rd.first, .int .i64 t.rd.years, .slice A n c], .int .i64 s, .int .i64 x.days, .int .i64 x.level] W fun e w' => e = .returned (.tuple #[.agg #[.int .i64 (rkF t (s, x)).1, .int .i64 (rkF t (s, x)).2], .int .i64 0]) ∧ Below W.heap.size W w') := fun W hW => by
        have h := Risk_any t.rd s x.days x.level A n c W ((HHs.out.below HBw.out).below hW)
        rw [riskTop_ok HRec.out.2 s0 s1 d0 (by omega) l0 l1] at h
        exact h
      have hrb := riskF_bounds HRec.out.1 s x.days x.level
      have HSt := Lib.hid (zip_take_succ hs hx)
      have HMem : Hid ((s, x) ∈ ss.zip t.works) := List.mem_of_mem_take (i := k + 1) (by rw [HSt.out]; simp)
      have HEa : Hid ((rkF t (s, x)).2 = X2 → (rkF t (s, x)).1 ≤ X1) := HEach.out _ HMem.out
      have HSu : Hid (sumP t ((ss.zip t.works).take (k + 1)) = sumP t ((ss.zip t.works).take k) + (rkF t (s, x)).1) := by rw [HSt.out, sumP_append]; simp [sumP, Hid]
      have HSa : Hid (sameP t X2 ((ss.zip t.works).take (k + 1)) = (sameP t X2 ((ss.zip t.works).take k) && ((rkF t (s, x)).2 == X2))) := by rw [HSt.out]; unfold sameP; rw [List.all_append]; simp [Hid]
      have hki : (k : Int) < (m : Int) := by omega
      change 0 ≤ (rkF t (s, x)).1 ∧ (rkF t (s, x)).1 ≤ 200 ∧ 1 ≤ (rkF t (s, x)).2 ∧ (rkF t (s, x)).2 ≤ 200 at hrb
      clear c0 c1 c3 c4 c5 ha hx hs HMem HSt
      generalize (rkF t (s, x)).1 = r1 at *
      generalize (rkF t (s, x)).2 = r2 at *
      generalize sumP t ((ss.zip t.works).take k) = S at *
      generalize sameP t X2 ((ss.zip t.works).take k) = Z at *
      have l0 : w.heap.size < wr.heap.size := cell_lt b0
      have l1 : (sd.add k).block < wr.heap.size := cell_lt cs0
      have l2 : (ad.add (k * 7)).block < wr.heap.size := by have := cell_lt c2; exact this
      go_wp2
      go_region_held3 (fun w' => w'.cell? ⟨w.heap.size, 0, none⟩ = some (.int .i64 t.rd.first) ∧ w'.cell? ⟨w.heap.size, 1, none⟩ = some (.int .i64 t.rd.years) ∧ w'.cell? ⟨w.heap.size, 2, none⟩ = some (.slice A n c) ∧ w'.cell? ⟨w.heap.size, 3, none⟩ = some (.slice (some ad) m c') ∧ w'.cell? (sd.add k) = some (.int .i64 s) ∧ w'.cell? ⟨(ad.add (k * 7)).block, (ad.add (k * 7)).off + 2, none⟩ = some (.int .i64 x.days) ∧ w'.cell? ⟨(ad.add (k * 7)).block, (ad.add (k * 7)).off + 6, none⟩ = some (.int .i64 x.level)) (first | (go_keep; done) | ((try dsimp only); (try refine ⟨?_, ?_, ?_, ?_, ?_, ?_, ?_⟩); all_goals first | exact s0 | exact b0 | exact cell_alloc s0 _ | exact cell_alloc b0 _ | (refine cell_far ?_ s0 <;> dsimp only <;> omega) | (refine cell_far ?_ (cell_far ?_ s0) <;> dsimp only <;> omega) | exact s1 | exact b1 | exact cell_alloc s1 _ | exact cell_alloc b1 _ | (refine cell_far ?_ s1 <;> dsimp only <;> omega) | (refine cell_far ?_ (cell_far ?_ s1) <;> dsimp only <;> omega) | exact s2 | exact b2 | exact cell_alloc s2 _ | exact cell_alloc b2 _ | (refine cell_far ?_ s2 <;> dsimp only <;> omega) | (refine cell_far ?_ (cell_far ?_ s2) <;> dsimp only <;> omega) | exact s3 | exact b3 | exact cell_alloc s3 _ | exact cell_alloc b3 _ | (refine cell_far ?_ s3 <;> dsimp only <;> omega) | (refine cell_far ?_ (cell_far ?_ s3) <;> dsimp only <;> omega) | exact s4 | exact cs0 | exact cell_alloc s4 _ | exact cell_alloc cs0 _ | (refine cell_far ?_ s4 <;> dsimp only <;> omega) | (refine cell_far ?_ (cell_far ?_ s4) <;> dsimp only <;> omega) | exact s5 | exact c2 | exact cell_alloc s5 _ | exact cell_alloc c2 _ | (refine cell_far ?_ s5 <;> dsimp only <;> omega) | (refine cell_far ?_ (cell_far ?_ s5) <;> dsimp only <;> omega) | exact s6 | exact c6 | exact cell_alloc s6 _ | exact cell_alloc c6 _ | (refine cell_far ?_ s6 <;> dsimp only <;> omega) | (refine cell_far ?_ (cell_far ?_ s6) <;> dsimp only <;> omega)))
        (first | (go_at_call 27; refine (HRk.out _ (by first | exact (Below.refl _ _).drew | exact (Below.refl _ _).drew.alloc (Nat.le_refl _) _)).mono ?_; rintro e w1 ⟨rfl, hb1⟩; have s0 := cell_below hb1 (by first | exact b0 | exact cell_alloc b0 _); have s1 := cell_below hb1 (by first | exact b1 | exact cell_alloc b1 _); have s2 := cell_below hb1 (by first | exact b2 | exact cell_alloc b2 _); have s3 := cell_below hb1 (by first | exact b3 | exact cell_alloc b3 _); have s4 := cell_below hb1 (by first | exact cs0 | exact cell_alloc cs0 _); have s5 := cell_below hb1 (by first | exact c2 | exact cell_alloc c2 _); have s6 := cell_below hb1 (by first | exact c6 | exact cell_alloc c6 _); (try (have kk := Blk.later (w := (wr.alloc (Obj.cells #[.int .i64 0, .int .i64 0] 27)).drew) (Blk.new wr 27 #[.int .i64 0, .int .i64 0] rfl) hb1; have u0 := kk.cell (i := 0) rfl; have z0 := kk.frozen 0; have u1 := kk.cell (i := 1) rfl; have z1 := kk.frozen 1; have hzz := kk.lt; clear kk))))
      · have kb5 : Blk (w1.alloc (Obj.cells #[.int .i64 r1, .int .i64 r2] 27)) w1.heap.size 27 #[.int .i64 r1, .int .i64 r2] := Blk.new _ _ _ rfl
        have hb5 : Below wr.heap.size wr (w1.alloc (Obj.cells #[.int .i64 r1, .int .i64 r2] 27)) := (below_of_drew hb1).alloc hb1.size _
        clear hb1 s0 s1 s2 s3 s4 s5 s6 b0 b1 b2 b3 cs0 c2 c6
        generalize w1.alloc (Obj.cells #[.int .i64 r1, .int .i64 r2] 27) = W5 at *
        have HB5 := Lib.hid hb5; have KB5 := Lib.hid kb5
        clear hb5 kb5
        have KX5 := KX2.out.later HB5.out
        have p0 := KX5.cell (i := 0) rfl
        have p1 := KX5.cell (i := 1) rfl
        have g0 := KB5.out.cell (i := 0) rfl
        have g1 := KB5.out.cell (i := 1) rfl
        have j0 := later_cell p0
        have j1 := later_cell p1
        have j2 := later_cell g0
        have j3 := later_cell g1
        have hb5l := KB5.out.lt
        have hx5l := KX5.lt
        clear KX5
        cases hreq : (r2 == X2)
        · cases Z
          all_goals
            go_wp2
            refine wp_region_later (by kernel_rfl) (by kernel_rfl) ?_
            repeat (first | go_big_quiet_skip | (go_big_quiet_want; go_big_quiet_op; go_big_quiet_on))
            refine wpQuiet_nil ?_
            intro _ hw'
            obtain ⟨u, hu⟩ := hw'
            subst hu
            go_wp2
            go_roundw
            case rel => exact ⟨k + 1, by omega, by rw [HSu.out], by rw [HSu.out]; omega, by rw [HSu.out]; omega, by rw [HSa.out, hreq]; simp, by go_num, (HB.out.trans (HB5.out.mono HB.out.size)).trans (u.h.mono (by have := HB5.out.size; have := HB.out.size; omega))⟩
            case measure => simp [intOf]; omega
        · have hgt : decide (X1 < r1) = false := by
            have := HEa.out (by simpa using hreq)
            simp; omega
          cases Z
          all_goals
            go_wp2
            refine wp_region_later (by kernel_rfl) (by kernel_rfl) ?_
            repeat (first | go_big_quiet_skip | (go_big_quiet_want; go_big_quiet_op; go_big_quiet_on))
            refine wpQuiet_nil ?_
            intro _ hw'
            obtain ⟨u, hu⟩ := hw'
            subst hu
            go_wp2
            go_roundw
            case rel => exact ⟨k + 1, by omega, by rw [HSu.out], by rw [HSu.out]; omega, by rw [HSu.out]; omega, by rw [HSa.out, hreq]; simp, by go_num, (HB.out.trans (HB5.out.mono HB.out.size)).trans (u.h.mono (by have := HB5.out.size; have := HB.out.size; omega))⟩
            case measure => simp [intOf]; omega
      · have kb5 : Blk ((w1.setCell ⟨wr.heap.size, 0, none⟩ (.int .i64 r1)).setCell ⟨wr.heap.size, 1, none⟩ (.int .i64 r2)) wr.heap.size 27 #[.int .i64 r1, .int .i64 r2] := ((Blk.later (w := (wr.alloc (Obj.cells #[.int .i64 0, .int .i64 0] 27)).drew) (Blk.new wr 27 #[.int .i64 0, .int .i64 0] rfl) hb1).set 0 (.int .i64 r1)).set 1 (.int .i64 r2)
        have hb5 : Below wr.heap.size wr ((w1.setCell ⟨wr.heap.size, 0, none⟩ (.int .i64 r1)).setCell ⟨wr.heap.size, 1, none⟩ (.int .i64 r2)) := ((((Below.refl _ wr).alloc (Nat.le_refl _) _).trans ((below_of_drew hb1).mono (by simp))).setCell (p := ⟨wr.heap.size, 0, none⟩) (Nat.le_refl _) _).setCell (p := ⟨wr.heap.size, 1, none⟩) (Nat.le_refl _) _
        clear hb1 s0 s1 s2 s3 s4 s5 s6 u0 u1 z0 z1 hzz b0 b1 b2 b3 cs0 c2 c6
        generalize (w1.setCell ⟨wr.heap.size, 0, none⟩ (.int .i64 r1)).setCell ⟨wr.heap.size, 1, none⟩ (.int .i64 r2) = W5 at *
        have HB5 := Lib.hid hb5; have KB5 := Lib.hid kb5
        clear hb5 kb5
        have KX5 := KX2.out.later HB5.out
        have p0 := KX5.cell (i := 0) rfl
        have p1 := KX5.cell (i := 1) rfl
        have g0 := KB5.out.cell (i := 0) rfl
        have g1 := KB5.out.cell (i := 1) rfl
        have j0 := later_cell p0
        have j1 := later_cell p1
        have j2 := later_cell g0
        have j3 := later_cell g1
        have hb5l := KB5.out.lt
        have hx5l := KX5.lt
        clear KX5
        cases hreq : (r2 == X2)
        · cases Z
          all_goals
            go_wp2
            refine wp_region_later (by kernel_rfl) (by kernel_rfl) ?_
            repeat (first | go_big_quiet_skip | (go_big_quiet_want; go_big_quiet_op; go_big_quiet_on))
            refine wpQuiet_nil ?_
            intro _ hw'
            obtain ⟨u, hu⟩ := hw'
            subst hu
            go_wp2
            go_roundw
            case rel => exact ⟨k + 1, by omega, by rw [HSu.out], by rw [HSu.out]; omega, by rw [HSu.out]; omega, by rw [HSa.out, hreq]; simp, by go_num, (HB.out.trans (HB5.out.mono HB.out.size)).trans (u.h.mono (by have := HB5.out.size; have := HB.out.size; omega))⟩
            case measure => simp [intOf]; omega
        · have hgt : decide (X1 < r1) = false := by
            have := HEa.out (by simpa using hreq)
            simp; omega
          cases Z
          all_goals
            go_wp2
            refine wp_region_later (by kernel_rfl) (by kernel_rfl) ?_
            repeat (first | go_big_quiet_skip | (go_big_quiet_want; go_big_quiet_op; go_big_quiet_on))
            refine wpQuiet_nil ?_
            intro _ hw'
            obtain ⟨u, hu⟩ := hw'
            subst hu
            go_wp2
            go_roundw
            case rel => exact ⟨k + 1, by omega, by rw [HSu.out], by rw [HSu.out]; omega, by rw [HSu.out]; omega, by rw [HSa.out, hreq]; simp, by go_num, (HB.out.trans (HB5.out.mono HB.out.size)).trans (u.h.mono (by have := HB5.out.size; have := HB.out.size; omega))⟩
            case measure => simp [intOf]; omega
    · obtain rfl : m = k := by omega
      rw [HZ.out] at hq0 hq1 ⊢
      have t0 := (KX.out.later HB.out).cell (i := 0) rfl
      have HSu := HSum
      generalize sumP t (ss.zip t.works) = S at *
      generalize sameP t X2 (ss.zip t.works) = Z at *
      cases Z
      · go_wp2_with fail
        refine (Awake_any _).mono ?_
        rintro e W7 ⟨rfl, hb7⟩
        have HB7 := Lib.hid (HBw.out.trans (hb7.mono HBw.out.size))
        clear hb7
        go_wp2_with fail
        go_ret
        exact ⟨rfl, HB7.out⟩
      · have hle : decide (X1 ≤ S) = true := by simpa using HSu.out rfl
        go_wp2_with fail
        refine (Awake_any _).mono ?_
        rintro e W7 ⟨rfl, hb7⟩
        have HB7 := Lib.hid (HBw.out.trans (hb7.mono HBw.out.size))
        clear hb7
        go_wp2_with fail
        go_ret
        exact ⟨rfl, HB7.out⟩

/-- UpkeepParts returns true. -/
theorem UpkeepParts_any (t : Task) (ss : List Int) (A : Option Addr) (n c : Nat) (A' : Option Addr) (n' c' : Nat) (As : Option Addr) (m cs : Nat) (w : World) (hT : TkM w t A n c A' n' c') (hs : RdI w As m ss) :
    Calls Try.prog 10 #[.agg (t.val A n c A' n' c'), .slice As m cs] w fun e w' => e = .returned (.bool true) ∧ Below w.heap.size w w' := by
  by_cases he : shErr t ss = 0
  · exact UpkeepParts_ok t ss A n c A' n' c' As m cs w hT hs he
  · exact UpkeepParts_err t ss A n c A' n' c' As m cs w hT hs he
end Go.Proofs.Ytkkajemahehoaaa
