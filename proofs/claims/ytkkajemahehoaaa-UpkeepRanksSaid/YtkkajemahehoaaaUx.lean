/- UpkeepRanks returns true. -/
import Derived.Test.YtkkajemahehoaaaRr
import Derived.Test.YtkkajemahehoaaaUc
namespace Go.Proofs.Ytkkajemahehoaaa
open Go.RowKit

theorem rkErr_ok {r : Rec} {d m many : Int} (hc : (chkRec r).2 = 0) (d0 : 0 ≤ d) (d1 : d ≤ 364) (m0 : 1 ≤ m) (m1 : m ≤ 365) (n0 : 0 ≤ many) : rkErr r d m many = 0 := by
  unfold rkErr lateB
  rw [if_neg (by rw [hc]; simp), outB_eq_false.2 ⟨d0, d1⟩, outB_eq_false.2 ⟨m0, m1⟩, if_neg]
  simp; omega
/-- The second half of the law: Rank with the Years of a risk. -/
def LateOK (r : Rec) (d m lvl : Int) : Prop := (riskTop r d m lvl).2 ≠ 0 ∨ ((riskTop r d m lvl).2 = 0 ∧ rkErr r d m (riskTop r d m lvl).1.1 = 0 ∧ ∀ v, RankV r d m (riskTop r d m lvl).1.1 v → v ≤ lvl)
theorem late_ok (r : Rec) (d m lvl : Int) : LateOK r d m lvl := by
  by_cases h : (riskTop r d m lvl).2 = 0
  · have hk := riskOK_of h
    have hc : (chkRec r).2 = 0 := by
      unfold riskTop at h
      by_cases h1 : ((chkRec r).2 != 0) = true
      · rw [if_pos h1] at h; exact h
      · simpa using h1
    have e := hk.eq
    have hb := riskF_bounds hk.rc d m lvl
    refine .inr ⟨h, rkErr_ok hc hk.d0 hk.d1 hk.m0 hk.m1 (by rw [e]; dsimp only; omega), fun v hv => ?_⟩
    rcases hv with ⟨h1, _⟩ | ⟨_, h2⟩
    · exact absurd (rkErr_ok hc hk.d0 hk.d1 hk.m0 hk.m1 (by rw [e]; dsimp only; omega)) h1
    · rw [e] at h2
      dsimp only at h2
      by_cases hle : v ≤ lvl
      · exact hle
      · have h3 := h2.more (by have := hk.l0; omega)
        have h4 := (riskF_level (r := r) (d := d) (n := m) (lvl := lvl) (lvl' := v - 1) (by omega)).1
        omega
  · exact .inl h

set_option maxRecDepth 100000 in
set_option maxHeartbeats 4000000 in
theorem UpkeepRanks_any (r : Rec) (d m lvl many : Int) (A : Option Addr) (n c : Nat) (w : World) (hr : RdH w A n r.highs) :
    Calls Try.prog 16 #[.agg #[.int .i64 r.first, .int .i64 r.years, .slice A n c], .agg #[.int .i64 d, .int .i64 m, .int .i64 lvl, .int .i64 many]] w fun e w' => e = .returned (.bool true) ∧ Below w.heap.size w w' := by
  obtain ⟨b1, b2, b3⟩ := two w #[.int .i64 r.first, .int .i64 r.years, .slice A n c] #[.int .i64 d, .int .i64 m, .int .i64 lvl, .int .i64 many] 24 43
  have C3 := Lib.hid (fun (W : World) (x : Int) (h : Below w.heap.size w W) => Risk_any r d m x A n c W (hr.below h))
  have C5 : Hid (∀ (W : World) (y : Int), Below w.heap.size w W → Calls Try.prog 41 #[.agg #[.int .i64 r.first, .int .i64 r.years, .slice A n c], .int .i64 d, .int .i64 m, .int .i64 y] W fun e w' => (∃ v, e = .returned (.tuple #[.int .i64 v, .int .i64 (rkErr r d m y)]) ∧ RankV r d m y v) ∧ Below W.heap.size W w') := fun W y h => Rank_any r d m y A n c W (hr.below h)
  have HLt := Lib.hid (late_ok r d m lvl)
  unfold LateOK at HLt
  have HF : Hid (∀ v, rkErr r d m many = 0 → RankV r d m many v → (-20000 ≤ v ∧ v ≤ 20000) ∧ riskTop r d m v = (riskF r d m v, 0) ∧ (riskF r d m v).1 ≤ many ∧ ((v = -20000 ∧ (riskTop r d m (v - 1)).2 ≠ 0) ∨ (-20000 < v ∧ riskTop r d m (v - 1) = (riskF r d m (v - 1), 0) ∧ many < (riskF r d m (v - 1)).1))) := fun v he hv => by
    have hk := rankOK_of he
    rcases hv with ⟨h1, _⟩ | ⟨_, h2⟩
    · exact absurd he h1
    · refine ⟨⟨h2.lo, h2.hi⟩, riskTop_ok (recAll_of hk.rc) hk.d0 hk.d1 hk.m0 hk.m1 h2.lo h2.hi, h2.most, ?_⟩
      by_cases hv : v = -20000
      · refine .inl ⟨hv, ?_⟩
        subst hv
        unfold riskTop
        rw [if_neg (by rw [hk.rc]; simp), if_pos]
        · decide
        · have : highB (-20000 - 1) = true := by decide
          rw [this]; simp
      · have hlt : -20000 < v := by have := h2.lo; omega
        exact .inr ⟨hlt, riskTop_ok (recAll_of hk.rc) hk.d0 hk.d1 hk.m0 hk.m1 (by omega) (by have := h2.hi; omega), h2.more hlt⟩
  have HB1 := Lib.hid b1; have K1 := Lib.hid b2; have L1 := Lib.hid b3
  have HBr : Hid (rkErr r d m many = 0 → ∀ x, 0 ≤ (riskF r d m x).1 ∧ (riskF r d m x).1 ≤ 200) := fun he x => by have := riskF_bounds (rankOK_of he).ro d m x; exact ⟨this.1, this.2.1⟩
  clear hr b1 b2 b3
  go_enter Try.func16, Try.ntmps16
  go_wp2_with fail
  refine (C5.out _ _ HB1.out).mono ?_
  rintro e W2 ⟨⟨v, rfl, hv⟩, hb2⟩
  have HB2 : Hid (Below w.heap.size w W2) := HB1.out.trans (hb2.mono HB1.out.size)
  have K2 := Lib.hid (K1.out.later hb2); have L2 := Lib.hid (L1.out.later hb2)
  clear hb2
  by_cases he : rkErr r d m many = 0
  · obtain ⟨⟨v0, v1⟩, hf1, hf2, hf3⟩ := HF.out v he hv
    have HBr2 := Lib.hid (HBr.out he)
    rw [he]
    clear HBr he hv HF
    have q0 := K2.out.cell (i := 0) rfl
    have q1 := K2.out.cell (i := 1) rfl
    have q2 := K2.out.cell (i := 2) rfl
    have l0 := L2.out.cell (i := 0) rfl
    have l1 := L2.out.cell (i := 1) rfl
    have D3 := Lib.hid (fun (W : World) (h : Below w.heap.size w W) => C3.out W v h)
    rw [hf1] at D3
    dsimp only at D3
    go_wp2_with fail
    refine (D3.out _ HB2.out).mono ?_
    rintro e W3 ⟨rfl, hb3⟩
    have HB3 : Hid (Below w.heap.size w W3) := HB2.out.trans (hb3.mono HB2.out.size)
    have K3 := Lib.hid (K2.out.later hb3); have L3 := Lib.hid (L2.out.later hb3)
    clear hb3 q0 q1 q2 l0 l1 hf1 D3
    have hbr := HBr2.out v
    generalize (riskF r d m v).1 = a1 at *
    generalize (riskF r d m v).2 = a2 at *
    have q0 := K3.out.cell (i := 0) rfl
    have q1 := K3.out.cell (i := 1) rfl
    have q2 := K3.out.cell (i := 2) rfl
    have l0 := L3.out.cell (i := 0) rfl
    have l1 := L3.out.cell (i := 1) rfl
    have l3 := L3.out.cell (i := 3) rfl
    have hz1 := K3.out.lt
    have hz2 := L3.out.lt
    have hgt : decide (many < a1) = false := by simpa using hf2
    go_wp2_with fail
    obtain ⟨W4, hW4⟩ : ∃ W4, W3.alloc (Obj.cells #[.int .i64 a1, .int .i64 a2] 27) = W4 := ⟨_, rfl⟩
    have hb4 : Below W3.heap.size W3 W4 := by rw [← hW4]; exact (Below.refl _ _).alloc (Nat.le_refl _) _
    have KX4 : Hid (Blk W4 W3.heap.size 27 #[.int .i64 a1, .int .i64 a2]) := by rw [← hW4]; exact Blk.new _ _ _ rfl
    rw [hW4]
    have HB4 : Hid (Below w.heap.size w W4) := HB3.out.trans (hb4.mono HB3.out.size)
    have K4 := Lib.hid (K3.out.later hb4); have L4 := Lib.hid (L3.out.later hb4)
    have HN0 : Hid (w.heap.size + 1 < W3.heap.size) := L3.out.lt
    clear hW4 hb4 q0 q1 q2 l0 l1 l3 hz1 hz2 hgt hf2 hbr K3 L3
    refine (C3.out _ (v - 1) HB4.out).mono ?_
    rintro e W5 ⟨rfl, hb5⟩
    have HB5 : Hid (Below w.heap.size w W5) := HB4.out.trans (hb5.mono HB4.out.size)
    have K5 := Lib.hid (K4.out.later hb5); have L5 := Lib.hid (L4.out.later hb5); have KX5 := Lib.hid (KX4.out.later hb5)
    clear hb5 K4 L4 KX4
    have x0 := KX5.out.cell (i := 0) rfl
    have x1 := KX5.out.cell (i := 1) rfl
    have x2 := KX5.out.frozen 0
    have x3 := KX5.out.frozen 1
    have x4 := KX5.out.lt
    have l3 := L5.out.cell (i := 3) rfl
    have hz2 := L5.out.lt
    have hn1 : w.heap.size + 1 ≠ W3.heap.size := by have := HN0.out; omega
    have KL0 : ∀ s1 s2 : Value, Blk ((W5.setCell ⟨W3.heap.size, 0, none⟩ s1).setCell ⟨W3.heap.size, 1, none⟩ s2) w.heap.size 24 #[.int .i64 r.first, .int .i64 r.years, .slice A n c] := fun s1 s2 => (K5.out.far (p := ⟨W3.heap.size, 0, none⟩) (by have := HN0.out; dsimp only; omega) s1).far (p := ⟨W3.heap.size, 1, none⟩) (by have := HN0.out; dsimp only; omega) s2
    have LL0 : ∀ s1 s2 : Value, Blk ((W5.setCell ⟨W3.heap.size, 0, none⟩ s1).setCell ⟨W3.heap.size, 1, none⟩ s2) (w.heap.size + 1) 43 #[.int .i64 d, .int .i64 m, .int .i64 lvl, .int .i64 many] := fun s1 s2 => (L5.out.far (p := ⟨W3.heap.size, 0, none⟩) (by have := HN0.out; dsimp only; omega) s1).far (p := ⟨W3.heap.size, 1, none⟩) (by have := HN0.out; dsimp only; omega) s2
    have HBL0 : ∀ s1 s2 : Value, Below w.heap.size w ((W5.setCell ⟨W3.heap.size, 0, none⟩ s1).setCell ⟨W3.heap.size, 1, none⟩ s2) := fun s1 s2 => (HB5.out.setCell (p := ⟨W3.heap.size, 0, none⟩) (by have := HN0.out; dsimp only; omega) s1).setCell (p := ⟨W3.heap.size, 1, none⟩) (by have := HN0.out; dsimp only; omega) s2
    have KLh := Lib.hid KL0; have LLh := Lib.hid LL0; have HBLh := Lib.hid HBL0
    clear KL0 LL0 HBL0
    rcases hf3 with ⟨hv0, hne⟩ | ⟨hv0, heq, hmore⟩
    · have hTb : ((riskTop r d m (v - 1)).2 != 0) = true := by simpa using hne
      have hTe : ((riskTop r d m (v - 1)).2 == 0) = false := by simpa using hne
      have hvg : decide (-20000 < v) = false := by simp; omega
      have KL := Lib.hid (KLh.out (.int .i64 (riskTop r d m (v - 1)).1.1) (.int .i64 (riskTop r d m (v - 1)).1.2)); have LL := Lib.hid (LLh.out (.int .i64 (riskTop r d m (v - 1)).1.1) (.int .i64 (riskTop r d m (v - 1)).1.2)); have HBL := Lib.hid (HBLh.out (.int .i64 (riskTop r d m (v - 1)).1.1) (.int .i64 (riskTop r d m (v - 1)).1.2))
      clear hne KLh LLh HBLh
      generalize (riskTop r d m (v - 1)).1.1 = g1 at *
      generalize (riskTop r d m (v - 1)).1.2 = g2 at *
      generalize (riskTop r d m (v - 1)).2 = g3 at *
      clear hv0
      have q0 := KL.out.cell (i := 0) rfl
      have q1 := KL.out.cell (i := 1) rfl
      have q2 := KL.out.cell (i := 2) rfl
      have l0 := LL.out.cell (i := 0) rfl
      have l1 := LL.out.cell (i := 1) rfl
      have l2 := LL.out.cell (i := 2) rfl
      go_wp2_with fail
      refine (C3.out _ lvl HBL.out).mono ?_
      rintro e V1 ⟨rfl, gb1⟩
      have GB1 : Hid (Below w.heap.size w V1) := HBL.out.trans (gb1.mono HBL.out.size)
      have GK1 := Lib.hid (KL.out.later gb1); have GL1 := Lib.hid (LL.out.later gb1)
      clear gb1 q0 q1 q2 l0 l1 l2
      rcases HLt.out with hT | ⟨hT, hE, hV⟩
      · have hTb : ((riskTop r d m lvl).2 != 0) = true := by simpa using hT
        clear hT
        generalize (riskTop r d m lvl).1.1 = R1 at *
        generalize (riskTop r d m lvl).1.2 = R2 at *
        generalize (riskTop r d m lvl).2 = R3 at *
        go_wp2_with fail
        refine (Awake_any _).mono ?_
        rintro e WA ⟨rfl, hbA⟩
        have h2 := GB1.out.alloc GB1.out.size (Obj.cells #[.int .i64 R1, .int .i64 R2] 27)
        have HBA := Lib.hid (h2.trans (hbA.mono h2.size))
        clear hbA h2
        go_wp2_with fail
        go_ret
        exact ⟨rfl, HBA.out⟩
      · have C9 := Lib.hid (fun (W : World) (h : Below w.heap.size w W) => C5.out W (riskTop r d m lvl).1.1 h)
        have HVv := Lib.hid hV
        rw [hE] at C9
        rw [hT]
        clear hT hE hV C5 HLt
        generalize (riskTop r d m lvl).1.1 = R1 at *
        generalize (riskTop r d m lvl).1.2 = R2 at *
        have q0 := GK1.out.cell (i := 0) rfl
        have q1 := GK1.out.cell (i := 1) rfl
        have q2 := GK1.out.cell (i := 2) rfl
        have l0 := GL1.out.cell (i := 0) rfl
        have l1 := GL1.out.cell (i := 1) rfl
        have hz1 := GK1.out.lt
        have hz2 := GL1.out.lt
        go_wp2_with fail
        have h2 : Below w.heap.size w (V1.alloc (Obj.cells #[.int .i64 R1, .int .i64 R2] 27)) := GB1.out.alloc GB1.out.size _
        have GB2 := Lib.hid h2
        have GL2 := Lib.hid (GL1.out.alloc (Obj.cells #[.int .i64 R1, .int .i64 R2] 27))
        clear h2 q0 q1 q2 l0 l1 hz1 hz2
        refine (C9.out _ GB2.out).mono ?_
        rintro e V3 ⟨⟨v, rfl, hv⟩, gb3⟩
        have hvl := HVv.out v hv
        have GB3 : Hid (Below w.heap.size w V3) := GB2.out.trans (gb3.mono GB2.out.size)
        have GL3 := GL2.out.later gb3
        have l2 := GL3.cell (i := 2) rfl
        clear gb3 hv GL3
        go_wp2_with fail
        refine (Awake_any _).mono ?_
        rintro e WA ⟨rfl, hbA⟩
        have HBA := Lib.hid (GB3.out.trans (hbA.mono GB3.out.size))
        clear hbA
        go_wp2_with fail
        go_ret
        exact ⟨rfl, HBA.out⟩
    · have KL := Lib.hid (KLh.out (.int .i64 (riskF r d m (v - 1)).1) (.int .i64 (riskF r d m (v - 1)).2)); have LL := Lib.hid (LLh.out (.int .i64 (riskF r d m (v - 1)).1) (.int .i64 (riskF r d m (v - 1)).2)); have HBL := Lib.hid (HBLh.out (.int .i64 (riskF r d m (v - 1)).1) (.int .i64 (riskF r d m (v - 1)).2))
      rw [heq]
      dsimp only
      have hbr := HBr2.out (v - 1)
      clear heq KLh LLh HBLh
      generalize (riskF r d m (v - 1)).1 = g1 at *
      generalize (riskF r d m (v - 1)).2 = g2 at *
      have hle : decide (g1 ≤ many) = false := by simpa using hmore
      clear hmore
      have q0 := KL.out.cell (i := 0) rfl
      have q1 := KL.out.cell (i := 1) rfl
      have q2 := KL.out.cell (i := 2) rfl
      have l0 := LL.out.cell (i := 0) rfl
      have l1 := LL.out.cell (i := 1) rfl
      have l2 := LL.out.cell (i := 2) rfl
      go_wp2_with fail
      refine (C3.out _ lvl HBL.out).mono ?_
      rintro e V1 ⟨rfl, gb1⟩
      have GB1 : Hid (Below w.heap.size w V1) := HBL.out.trans (gb1.mono HBL.out.size)
      have GK1 := Lib.hid (KL.out.later gb1); have GL1 := Lib.hid (LL.out.later gb1)
      clear gb1 q0 q1 q2 l0 l1 l2
      rcases HLt.out with hT | ⟨hT, hE, hV⟩
      · have hTb : ((riskTop r d m lvl).2 != 0) = true := by simpa using hT
        clear hT
        generalize (riskTop r d m lvl).1.1 = R1 at *
        generalize (riskTop r d m lvl).1.2 = R2 at *
        generalize (riskTop r d m lvl).2 = R3 at *
        go_wp2_with fail
        refine (Awake_any _).mono ?_
        rintro e WA ⟨rfl, hbA⟩
        have h2 := GB1.out.alloc GB1.out.size (Obj.cells #[.int .i64 R1, .int .i64 R2] 27)
        have HBA := Lib.hid (h2.trans (hbA.mono h2.size))
        clear hbA h2
        go_wp2_with fail
        go_ret
        exact ⟨rfl, HBA.out⟩
      · have C9 := Lib.hid (fun (W : World) (h : Below w.heap.size w W) => C5.out W (riskTop r d m lvl).1.1 h)
        have HVv := Lib.hid hV
        rw [hE] at C9
        rw [hT]
        clear hT hE hV C5 HLt
        generalize (riskTop r d m lvl).1.1 = R1 at *
        generalize (riskTop r d m lvl).1.2 = R2 at *
        have q0 := GK1.out.cell (i := 0) rfl
        have q1 := GK1.out.cell (i := 1) rfl
        have q2 := GK1.out.cell (i := 2) rfl
        have l0 := GL1.out.cell (i := 0) rfl
        have l1 := GL1.out.cell (i := 1) rfl
        have hz1 := GK1.out.lt
        have hz2 := GL1.out.lt
        go_wp2_with fail
        have h2 : Below w.heap.size w (V1.alloc (Obj.cells #[.int .i64 R1, .int .i64 R2] 27)) := GB1.out.alloc GB1.out.size _
        have GB2 := Lib.hid h2
        have GL2 := Lib.hid (GL1.out.alloc (Obj.cells #[.int .i64 R1, .int .i64 R2] 27))
        clear h2 q0 q1 q2 l0 l1 hz1 hz2
        refine (C9.out _ GB2.out).mono ?_
        rintro e V3 ⟨⟨v, rfl, hv⟩, gb3⟩
        have hvl := HVv.out v hv
        have GB3 : Hid (Below w.heap.size w V3) := GB2.out.trans (gb3.mono GB2.out.size)
        have GL3 := GL2.out.later gb3
        have l2 := GL3.cell (i := 2) rfl
        clear gb3 hv GL3
        go_wp2_with fail
        refine (Awake_any _).mono ?_
        rintro e WA ⟨rfl, hbA⟩
        have HBA := Lib.hid (GB3.out.trans (hbA.mono GB3.out.size))
        clear hbA
        go_wp2_with fail
        go_ret
        exact ⟨rfl, HBA.out⟩
  · have heb : (rkErr r d m many == 0) = false := by simpa using he
    have KL := K2; have LL := L2; have HBL := HB2
    clear he hv HBr HF K1 L1
    generalize rkErr r d m many = RE at *
    have q0 := KL.out.cell (i := 0) rfl
    have q1 := KL.out.cell (i := 1) rfl
    have q2 := KL.out.cell (i := 2) rfl
    have l0 := LL.out.cell (i := 0) rfl
    have l1 := LL.out.cell (i := 1) rfl
    have l2 := LL.out.cell (i := 2) rfl
    go_wp2_with fail
    refine (C3.out _ lvl HBL.out).mono ?_
    rintro e V1 ⟨rfl, gb1⟩
    have GB1 : Hid (Below w.heap.size w V1) := HBL.out.trans (gb1.mono HBL.out.size)
    have GK1 := Lib.hid (KL.out.later gb1); have GL1 := Lib.hid (LL.out.later gb1)
    clear gb1 q0 q1 q2 l0 l1 l2
    rcases HLt.out with hT | ⟨hT, hE, hV⟩
    · have hTb : ((riskTop r d m lvl).2 != 0) = true := by simpa using hT
      clear hT
      generalize (riskTop r d m lvl).1.1 = R1 at *
      generalize (riskTop r d m lvl).1.2 = R2 at *
      generalize (riskTop r d m lvl).2 = R3 at *
      go_wp2_with fail
      refine (Awake_any _).mono ?_
      rintro e WA ⟨rfl, hbA⟩
      have h2 := GB1.out.alloc GB1.out.size (Obj.cells #[.int .i64 R1, .int .i64 R2] 27)
      have HBA := Lib.hid (h2.trans (hbA.mono h2.size))
      clear hbA h2
      go_wp2_with fail
      go_ret
      exact ⟨rfl, HBA.out⟩
    · have C9 := Lib.hid (fun (W : World) (h : Below w.heap.size w W) => C5.out W (riskTop r d m lvl).1.1 h)
      have HVv := Lib.hid hV
      rw [hE] at C9
      rw [hT]
      clear hT hE hV C5 HLt
      generalize (riskTop r d m lvl).1.1 = R1 at *
      generalize (riskTop r d m lvl).1.2 = R2 at *
      have q0 := GK1.out.cell (i := 0) rfl
      have q1 := GK1.out.cell (i := 1) rfl
      have q2 := GK1.out.cell (i := 2) rfl
      have l0 := GL1.out.cell (i := 0) rfl
      have l1 := GL1.out.cell (i := 1) rfl
      have hz1 := GK1.out.lt
      have hz2 := GL1.out.lt
      go_wp2_with fail
      have h2 : Below w.heap.size w (V1.alloc (Obj.cells #[.int .i64 R1, .int .i64 R2] 27)) := GB1.out.alloc GB1.out.size _
      have GB2 := Lib.hid h2
      have GL2 := Lib.hid (GL1.out.alloc (Obj.cells #[.int .i64 R1, .int .i64 R2] 27))
      clear h2 q0 q1 q2 l0 l1 hz1 hz2
      refine (C9.out _ GB2.out).mono ?_
      rintro e V3 ⟨⟨v, rfl, hv⟩, gb3⟩
      have hvl := HVv.out v hv
      have GB3 : Hid (Below w.heap.size w V3) := GB2.out.trans (gb3.mono GB2.out.size)
      have GL3 := GL2.out.later gb3
      have l2 := GL3.cell (i := 2) rfl
      clear gb3 hv GL3
      go_wp2_with fail
      refine (Awake_any _).mono ?_
      rintro e WA ⟨rfl, hbA⟩
      have HBA := Lib.hid (GB3.out.trans (hbA.mono GB3.out.size))
      clear hbA
      go_wp2_with fail
      go_ret
      exact ⟨rfl, HBA.out⟩
end Go.Proofs.Ytkkajemahehoaaa
