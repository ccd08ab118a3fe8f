/- Rank, for whatever arguments; and the document's Rank and Risk. -/
import Derived.Test.YtkkajemahehoaaaRa
import Derived.Test.YtkkajemahehoaaaR2
namespace Go.Proofs.Ytkkajemahehoaaa
open Go.RowKit

def rkErr (r : Rec) (d m many : Int) : Int := if (chkRec r).2 != 0 then (chkRec r).2 else if (lateB d || outB m 1 365) || decide (many < 0) then 7 else 0
/-- What Rank returns. -/
def RankV (r : Rec) (d m many v : Int) : Prop := (rkErr r d m many ≠ 0 ∧ v = 0) ∨ (rkErr r d m many = 0 ∧ RankIs r d m many v)
theorem RankV.uniq {r : Rec} {d m many v v' : Int} (h : RankV r d m many v) (h' : RankV r d m many v') : v = v' := by
  rcases h with ⟨h1, h2⟩ | ⟨h1, h2⟩ <;> rcases h' with ⟨g1, g2⟩ | ⟨g1, g2⟩
  · omega
  · exact absurd g1 h1
  · exact absurd h1 g1
  · exact h2.uniq g2
structure RankOK (r : Rec) (d m many : Int) : Prop where
  rc : (chkRec r).2 = 0
  ro : RecOK r
  d0 : 0 ≤ d
  d1 : d ≤ 364
  m0 : 1 ≤ m
  m1 : m ≤ 365
  n0 : 0 ≤ many
theorem rankOK_of {r : Rec} {d m many : Int} (h : rkErr r d m many = 0) : RankOK r d m many := by
  unfold rkErr at h
  by_cases h1 : ((chkRec r).2 != 0) = true
  · rw [if_pos h1] at h; simp at h1; exact absurd h h1
  · rw [if_neg h1] at h
    have hrc : (chkRec r).2 = 0 := by simpa using h1
    by_cases h2 : ((lateB d || outB m 1 365) || decide (many < 0)) = true
    · rw [if_pos h2] at h; cases h
    · simp only [Bool.or_eq_true, not_or, Bool.not_eq_true, decide_eq_false_iff_not] at h2
      obtain ⟨⟨h3, h4⟩, h5⟩ := h2
      have a := outB_eq_false.1 (show outB d 0 364 = false from h3)
      have b := outB_eq_false.1 h4
      exact ⟨hrc, recOK_of hrc, a.1, a.2, b.1, b.2, by omega⟩
def RankPost (r : Rec) (d m many : Int) (w : World) (e : Ending) (w' : World) : Prop :=
  (∃ v, e = .returned (.tuple #[.int .i64 v, .int .i64 (rkErr r d m many)]) ∧ RankV r d m many v) ∧ Below w.heap.size w w'

set_option maxRecDepth 100000 in
set_option maxHeartbeats 2000000 in
theorem Rank_err (r : Rec) (d m many : Int) (A : Option Addr) (len c : Nat) (w : World) (hr : RdH w A len r.highs) (he : rkErr r d m many ≠ 0) :
    Calls Try.prog 41 #[.agg #[.int .i64 r.first, .int .i64 r.years, .slice A len c], .int .i64 d, .int .i64 m, .int .i64 many] w fun e w' => e = .returned (.tuple #[.int .i64 0, .int .i64 (rkErr r d m many)]) ∧ Below w.heap.size w w' := by
  have HB1 : Hid (Below w.heap.size w (w.alloc (.cells #[.int .i64 r.first, .int .i64 r.years, .slice A len c] 24))) := (Below.refl _ _).alloc (Nat.le_refl _) _
  have HC := Lib.hid (checkRecord_rec r A len c _ (hr.below HB1.out))
  clear hr
  unfold rkErr at *
  generalize (chkRec r).1 = ce at *
  generalize (chkRec r).2 = X at *
  by_cases h1 : (X != 0) = true
  · rw [if_pos h1] at he ⊢
    clear he
    go_enter Try.func41, Try.ntmps41
    go_wp2_with fail
    refine HC.out.mono ?_
    rintro e W2 ⟨rfl, hb2⟩
    have HB2 : Hid (Below w.heap.size w W2) := HB1.out.trans (hb2.mono HB1.out.size)
    clear hb2
    go_wp2_with fail
    go_ret2
    exact ⟨rfl, HB2.out.alloc HB2.out.size _⟩
  · rw [if_neg h1] at he ⊢
    have hX : X = 0 := by simpa using h1
    subst hX
    by_cases h2 : ((lateB d || outB m 1 365) || decide (many < 0)) = true
    · rw [if_pos h2]
      have HN := Lib.hid (fun W : World => none_any d m W)
      clear he h1
      cases hl : (lateB d || outB m 1 365)
      · rw [hl] at h2 HN
        have h3 : many < 0 := by simpa using h2
        clear h2 hl
        go_enter Try.func41, Try.ntmps41
        go_wp2_with fail
        refine HC.out.mono ?_
        rintro e W2 ⟨rfl, hb2⟩
        have HB2 : Hid (Below w.heap.size w W2) := HB1.out.trans (hb2.mono HB1.out.size)
        clear hb2
        go_wp2_with fail
        refine (HN.out _).mono ?_
        rintro e W3 ⟨rfl, hb3⟩
        have h3' := HB2.out.alloc HB2.out.size (Obj.cells #[.int .i64 d, .int .i64 m] 105)
        have HB3 := Lib.hid (h3'.trans (hb3.mono h3'.size))
        clear hb3 h3'
        go_wp2_with fail
        go_ret2
        exact ⟨rfl, HB3.out⟩
      · rw [hl] at HN
        clear h2 hl
        go_enter Try.func41, Try.ntmps41
        go_wp2_with fail
        refine HC.out.mono ?_
        rintro e W2 ⟨rfl, hb2⟩
        have HB2 : Hid (Below w.heap.size w W2) := HB1.out.trans (hb2.mono HB1.out.size)
        clear hb2
        go_wp2_with fail
        refine (HN.out _).mono ?_
        rintro e W3 ⟨rfl, hb3⟩
        have h3' := HB2.out.alloc HB2.out.size (Obj.cells #[.int .i64 d, .int .i64 m] 105)
        have HB3 := Lib.hid (h3'.trans (hb3.mono h3'.size))
        clear hb3 h3'
        go_wp2_with fail
        go_ret2
        exact ⟨rfl, HB3.out⟩
    · rw [if_neg h2] at he; exact absurd rfl he
theorem Rank_any (r : Rec) (d m many : Int) (A : Option Addr) (len c : Nat) (w : World) (hr : RdH w A len r.highs) :
    Calls Try.prog 41 #[.agg #[.int .i64 r.first, .int .i64 r.years, .slice A len c], .int .i64 d, .int .i64 m, .int .i64 many] w (RankPost r d m many w) := by
  by_cases he : rkErr r d m many = 0
  · have h := rankOK_of he
    refine (Rank_ok r d m many A len c w h.ro h.rc hr h.d0 h.d1 h.m0 h.m1 h.n0).mono fun e w' ⟨⟨v, h1, h2⟩, h3⟩ => ⟨⟨v, ?_, .inr ⟨he, h2⟩⟩, h3⟩
    rw [he]; exact h1
  · exact (Rank_err r d m many A len c w hr he).mono fun e w' ⟨h1, h2⟩ => ⟨⟨0, h1, .inl ⟨he, rfl⟩⟩, h2⟩

theorem risk_top {r : Rec} {d m : Int} (hR : RecOK r) : (riskF r d m 20000).1 = 0 := by
  unfold riskF
  dsimp only
  have e : yearsL r.first (ofF r.years (wrapsB d m)) (excB r.highs d m 20000) = [] := by
    unfold yearsL
    rw [List.filter_eq_nil_iff]
    intro y _
    unfold excB
    rw [List.any_eq_true]
    rintro ⟨h, hm, h2⟩
    simp only [Bool.and_eq_true, decide_eq_true_eq] at h2
    obtain ⟨i, hi⟩ := List.getElem?_of_mem hm
    have := (hR.rows i h hi).2.2.2.2.2
    omega
  rw [e]
  rfl

theorem field27 (u v : Int) (w : World) : (Instr.field 27 (.agg #[.int .i64 u, .int .i64 v]) 0).run Try.prog w = .ok (.int .i64 u) w := by kernel_rfl
theorem mid_in {a b : Int} (h : 1 < b - a) : a < (a + b).tdiv 2 ∧ (a + b).tdiv 2 < b := by
  by_cases hn : a + b < 0
  · have e : (a + b).tdiv 2 = -((-(a + b)) / 2) := by
      rw [← Int.tdiv_eq_ediv_of_nonneg (by omega), Int.neg_tdiv, Int.neg_neg]
    rw [e]; omega
  · rw [Int.tdiv_eq_ediv_of_nonneg (by omega)]; omega
theorem rank_end {r : Rec} {d m many a b : Int} (ha : -20001 ≤ a) (hab : a < b) (hb : b ≤ 20000) (hd : b - a ≤ 1) (h1 : (riskF r d m b).1 ≤ many) (h2 : -20000 ≤ a → many < (riskF r d m a).1) : RankIs r d m many b := by
  refine ⟨by omega, hb, h1, fun h => ?_⟩
  have e : b - 1 = a := by omega
  rw [e]
  exact h2 (by omega)

set_option maxRecDepth 100000 in
set_option maxHeartbeats 2000000 in
theorem refRank_ok (r : Rec) (d m many : Int) (A : Option Addr) (len c : Nat) (w : World) (hr : RdH w A len r.highs) (hK : RankOK r d m many) :
    Calls Try.prog 42 #[.agg #[.int .i64 r.first, .int .i64 r.years, .slice A len c], .int .i64 d, .int .i64 m, .int .i64 many] w fun e w' => (∃ v, e = .returned (.tuple #[.int .i64 v, .int .i64 0]) ∧ RankIs r d m many v) ∧ Below w.heap.size w w' := by
  obtain ⟨hrc, hR, d0, d1, m0, m1, n0⟩ := hK
  have HB1 : Hid (Below w.heap.size w (w.alloc (.cells #[.int .i64 r.first, .int .i64 r.years, .slice A len c] 24))) := (Below.refl _ _).alloc (Nat.le_refl _) _
  have K1 : Hid (Blk (w.alloc (.cells #[.int .i64 r.first, .int .i64 r.years, .slice A len c] 24)) w.heap.size 24 #[.int .i64 r.first, .int .i64 r.years, .slice A len c]) := Blk.new _ _ _ rfl
  have HC := Lib.hid (refCheckRecord_any r A len c _ (hr.below HB1.out))
  rw [hrc] at HC
  have HRk := Lib.hid (fun (W : World) (lvl : Int) (h : Below w.heap.size w W) => refRisk_any r d m lvl A len c W hR (hr.below h) d0 d1 m0 m1)
  have HTop := Lib.hid (risk_top (d := d) (m := m) hR)
  have HWd := Lib.hid (fun W : World => window_any d m W)
  have hlb : (lateB d || outB m 1 365) = false := by
    rw [Bool.or_eq_false_iff]
    exact ⟨outB_eq_false.2 ⟨d0, d1⟩, outB_eq_false.2 ⟨m0, m1⟩⟩
  rw [hlb] at HWd
  have HBd := Lib.hid (fun lvl : Int => riskF_bounds hR d m lvl)
  have hmb : decide (many < 0) = false := by simpa using n0
  clear hr hrc hR hlb
  generalize (chkRec r).1 = ce at *
  go_enter Try.func42, Try.ntmps42
  go_wp2_with fail
  refine HC.out.mono ?_
  rintro e W2 ⟨rfl, hb2⟩
  have HB2 : Hid (Below w.heap.size w W2) := HB1.out.trans (hb2.mono HB1.out.size)
  have K2 := Lib.hid (K1.out.later hb2)
  clear hb2
  go_wp2_with fail
  refine (HWd.out _).mono ?_
  rintro e _ ⟨rfl, rfl⟩
  go_wp2_with fail
  go_loopw [12, 13] (fun l h wr => ∃ a b : Int, l = .int .i64 a ∧ h = .int .i64 b ∧ -20001 ≤ a ∧ a < b ∧ b ≤ 20000 ∧ (riskF r d m b).1 ≤ many ∧ (-20000 ≤ a → many < (riskF r d m a).1) ∧ Below W2.heap.size W2 wr) (fun l h _ => (intOf h - intOf l).toNat)
  case atStart => exact ⟨-20001, 20000, rfl, rfl, by omega, by omega, by omega, by rw [HTop.out]; exact n0, fun h => by omega, Below.refl _ _⟩
  case round =>
    obtain ⟨a, b, rfl, rfl, ha, hab, hb, h1, h2, hB⟩ := hrel
    have HB := Lib.hid hB; have H1 := Lib.hid h1; have H2 := Lib.hid h2
    clear hB h1 h2
    have HBw : Hid (Below w.heap.size w wr) := HB2.out.trans (HB.out.mono HB2.out.size)
    have KK := K2.out.later HB.out
    have q0 := KK.cell (i := 0) rfl
    have q1 := KK.cell (i := 1) rfl
    have q2 := KK.cell (i := 2) rfl
    have hz := KK.lt
    clear KK
    by_cases hd : 1 < b - a
    · obtain ⟨g1, g2⟩ := mid_in hd
      go_wp2_with fail
      generalize (a + b).tdiv 2 = M at *
      have hbd := HBd.out M
      refine (HRk.out wr M HBw.out).mono ?_
      rintro e W5 ⟨rfl, hb5⟩
      have HB5 : Hid (Below W2.heap.size W2 W5) := HB.out.trans (hb5.mono HB.out.size)
      clear hb5 q0 q1 q2 hz
      generalize hV : (riskF r d m M).1 = V at *
      generalize (riskF r d m M).2 = V2 at *
      have HV := Lib.hid hV
      clear hV
      have hfd := field27 V V2
      by_cases hle : V ≤ many
      · go_wp2_with fail
        go_roundw
        case rel => exact ⟨a, M, rfl, rfl, ha, g1, by omega, by rw [HV.out]; exact hle, H2.out, HB5.out⟩
        case measure => simp only [intOf]; omega
      · go_wp2_with fail
        go_roundw
        case rel => exact ⟨M, b, rfl, rfl, by omega, g2, hb, H1.out, fun _ => by rw [HV.out]; omega, HB5.out⟩
        case measure => simp only [intOf]; omega
    · go_wp2_with fail
      go_ret2
      exact ⟨⟨b, rfl, rank_end ha hab hb hd H1.out H2.out⟩, HBw.out⟩
end Go.Proofs.Ytkkajemahehoaaa
