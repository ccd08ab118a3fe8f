/- UpkeepLess returns true. -/
import Derived.Test.YtkkajemahehoaaaDr
import Derived.Test.YtkkajemahehoaaaYr
namespace Go.Proofs.Ytkkajemahehoaaa
open Go.RowKit

set_option maxRecDepth 100000 in
set_option maxHeartbeats 2000000 in
theorem UpkeepLess_err (r : Rec) (d m lvl : Int) (Y : Value) (x0 x1 x2 x3 : Int) (A : Option Addr) (n c : Nat) (w : World) (hr : RdH w A n r.highs) (he : ((riskTop r d m lvl).2 != 0) = true) :
    Calls Try.prog 6 #[.agg #[.int .i64 r.first, .int .i64 r.years, .slice A n c], .agg #[.int .i64 d, .int .i64 m, .int .i64 lvl, Y], .agg #[.int .u16 x0, .int .u16 x1, .int .u16 x2, .int .u16 x3]] w fun e w' => e = .returned (.bool true) ∧ Below w.heap.size w w' := by
  obtain ⟨b1, b2, b3, b4⟩ := three w #[.int .i64 r.first, .int .i64 r.years, .slice A n c] #[.int .i64 d, .int .i64 m, .int .i64 lvl, Y] #[.int .u16 x0, .int .u16 x1, .int .u16 x2, .int .u16 x3] 24 43 49
  have HRk := Lib.hid (Risk_any r d m lvl A n c _ (hr.below b1))
  generalize riskTop r d m lvl = X at *
  obtain ⟨⟨y1, y2⟩, y3⟩ := X
  have he' : (y3 != 0) = true := he
  have HB1 := Lib.hid b1
  clear b1 b2 b3 b4 hr
  go_enter Try.func6, Try.ntmps6
  go_wp2_with fail
  refine HRk.out.mono ?_
  rintro e W2 ⟨rfl, hb2⟩
  have HB2 : Hid (Below w.heap.size w W2) := HB1.out.trans (hb2.mono HB1.out.size)
  clear hb2
  go_wp2_with fail
  refine (Awake_any _).mono ?_
  rintro e W3 ⟨rfl, hb3⟩
  have h2 : Below w.heap.size w (W2.alloc (Obj.cells #[.int .i64 y1, .int .i64 y2] 27)) := HB2.out.alloc HB2.out.size _
  have HB3 := Lib.hid (h2.trans (hb3.mono h2.size))
  clear h2 hb3
  go_wp2_with fail
  go_ret
  exact ⟨rfl, HB3.out⟩

set_option maxRecDepth 100000 in
set_option maxHeartbeats 4000000 in
theorem UpkeepLess_ok (r : Rec) (d m lvl : Int) (Y : Value) (x0 x1 x2 x3 : Int) (A : Option Addr) (n c : Nat) (w : World) (hr : RdH w A n r.highs) (hnc : n ≤ c) (hK : RiskOK r d m lvl) (hA : RecAll r) (u0 : 0 ≤ x0 ∧ x0 ≤ 65535) (u1 : 0 ≤ x1 ∧ x1 ≤ 65535) (u2 : 0 ≤ x2 ∧ x2 ≤ 65535) (u3 : 0 ≤ x3 ∧ x3 ≤ 65535) :
    Calls Try.prog 6 #[.agg #[.int .i64 r.first, .int .i64 r.years, .slice A n c], .agg #[.int .i64 d, .int .i64 m, .int .i64 lvl, Y], .agg #[.int .u16 x0, .int .u16 x1, .int .u16 x2, .int .u16 x3]] w fun e w' => e = .returned (.bool true) ∧ Below w.heap.size w w' := by
  obtain ⟨b1, b2, b3, b4⟩ := three w #[.int .i64 r.first, .int .i64 r.years, .slice A n c] #[.int .i64 d, .int .i64 m, .int .i64 lvl, Y] #[.int .u16 x0, .int .u16 x1, .int .u16 x2, .int .u16 x3] 24 43 49
  obtain ⟨d0, d1, m0, m1, l0, l1⟩ : 0 ≤ d ∧ d ≤ 364 ∧ 1 ≤ m ∧ m ≤ 365 ∧ -20000 ≤ lvl ∧ lvl ≤ 20000 := ⟨hK.d0, hK.d1, hK.m0, hK.m1, hK.l0, hK.l1⟩
  have HRk : Hid (∀ (W : World) (d' m' l' : Int), Below w.heap.size w W → 0 ≤ d' → d' ≤ 364 → 1 ≤ m' → m' ≤ 365 → -20000 ≤ l' → l' ≤ 20000 → Calls Try.prog 27 #[.agg #[.int .i64 r.first, .int .i64 r.years, .slice A n c], .int .i64 d', .int .i64 m', .int .i64 l'] W fun e w' => e = .returned (.tuple #[.agg #[.int .i64 (riskF r d' m' l').1, .int .i64 (riskF r d' m' l').2], .int .i64 0]) ∧ Below W.heap.size W w') := fun W d' m' l' hW a b cc dd ee ff => by
    have h := Risk_any r d' m' l' A n c W (hr.below hW)
    rw [riskTop_ok hA a b cc dd ee ff] at h
    exact h
  have HB1 := Lib.hid b1; have K1 := Lib.hid b2; have K2 := Lib.hid b3; have K3 := Lib.hid b4
  clear b1 b2 b3 b4
  generalize hRa : riskF r d m lvl = Ra
  obtain ⟨a1, a2⟩ := Ra
  have HRa := Lib.hid hRa; clear hRa
  obtain ⟨i0, hi, hz0', hz1', hz2'⟩ := info_parts info108
  go_enter Try.func6, Try.ntmps6
  go_wp2_with fail
  have H0 := HRk.out _ d m lvl HB1.out d0 d1 m0 m1 l0 l1
  rw [HRa.out] at H0
  refine H0.mono ?_
  clear H0
  rintro e W2 ⟨rfl, hb2⟩
  have HB2 : Hid (Below w.heap.size w W2) := HB1.out.trans (hb2.mono HB1.out.size)
  have L1 := Lib.hid (K1.out.later hb2); have L2 := Lib.hid (K2.out.later hb2); have L3 := Lib.hid (K3.out.later hb2)
  clear hb2
  have q0 := L1.out.cell (i := 0) rfl
  have q1 := L1.out.cell (i := 1) rfl
  have q2 := L1.out.cell (i := 2) rfl
  have p0 := L2.out.cell (i := 0) rfl
  have p1 := L2.out.cell (i := 1) rfl
  have p2 := L2.out.cell (i := 2) rfl
  have s0 := L3.out.cell (i := 0) rfl
  have hz := L3.out.lt
  have hz1 := L1.out.lt
  have hz2 := L2.out.lt
  go_wp2_with fail
  have hl0 : -20000 ≤ min 20000 (lvl + x0) := by omega
  have hl1 : min 20000 (lvl + x0) ≤ 20000 := by omega
  have HLv := Lib.hid (riskF_level (r := r) (d := d) (n := m) (lvl := lvl) (lvl' := min 20000 (lvl + x0)) (by omega))
  obtain ⟨W3, hW3⟩ : ∃ W3, W2.alloc (Obj.cells #[.int .i64 a1, .int .i64 a2] 27) = W3 := ⟨_, rfl⟩
  have hb3 : Below W2.heap.size W2 W3 := by rw [← hW3]; exact (Below.refl _ _).alloc (Nat.le_refl _) _
  have KA : Hid (Blk W3 W2.heap.size 27 #[.int .i64 a1, .int .i64 a2]) := by rw [← hW3]; exact Blk.new _ _ _ rfl
  have M1 := Lib.hid (L1.out.later hb3); have M2 := Lib.hid (L2.out.later hb3); have M3 := Lib.hid (L3.out.later hb3)
  have HB3 : Hid (Below w.heap.size w W3) := HB2.out.trans (hb3.mono HB2.out.size)
  rw [hW3]
  clear hW3 hb3 q0 q1 q2 p0 p1 p2 s0 hz hz1 hz2 L1 L2 L3
  refine (HRk.out _ d m _ HB3.out d0 d1 m0 m1 hl0 hl1).mono ?_
  rw [HRa.out] at HLv
  generalize riskF r d m (min 20000 (lvl + x0)) = Rb at *
  obtain ⟨b1, b2⟩ := Rb
  have e1 : decide (a1 < b1) = false := by have := HLv.out.1; dsimp only at this; simp; omega
  have e2 : (b2 != a2) = false := by have := HLv.out.2; dsimp only at this; simp [this]
  clear HLv hl0 hl1
  rintro e W4 ⟨rfl, hb4⟩
  dsimp only
  have HB4 : Hid (Below w.heap.size w W4) := HB3.out.trans (hb4.mono HB3.out.size)
  have L1 := Lib.hid (M1.out.later hb4); have L2 := Lib.hid (M2.out.later hb4); have L3 := Lib.hid (M3.out.later hb4); have KA4 := Lib.hid (KA.out.later hb4)
  clear hb4 M1 M2 M3 KA
  have q0 := L1.out.cell (i := 0) rfl
  have q1 := L1.out.cell (i := 1) rfl
  have q2 := L1.out.cell (i := 2) rfl
  have p0 := L2.out.cell (i := 0) rfl
  have p1 := L2.out.cell (i := 1) rfl
  have p2 := L2.out.cell (i := 2) rfl
  have s0 := L3.out.cell (i := 0) rfl
  have s1 := L3.out.cell (i := 1) rfl
  have s2 := L3.out.cell (i := 2) rfl
  have s3 := L3.out.cell (i := 3) rfl
  have t0 := KA4.out.cell (i := 0) rfl
  have t1 := KA4.out.cell (i := 1) rfl
  have hz := L3.out.lt
  have hz1 := L1.out.lt
  have hz2 := L2.out.lt
  have hz3 := KA4.out.lt
  have g0 : 0 ≤ x1 % max 1 m := Int.emod_nonneg _ (by omega)
  have g1 : x1 % max 1 m < m := by have := Int.emod_lt_of_pos x1 (b := max 1 m) (by omega); omega
  have g2 : decide (x1 % max 1 m < m) = true := by simpa using g1
  have h0 : 0 ≤ x2 % (x1 % max 1 m + 1) := Int.emod_nonneg _ (by omega)
  have h1 : x2 % (x1 % max 1 m + 1) ≤ x1 % max 1 m := by have := Int.emod_lt_of_pos x2 (b := x1 % max 1 m + 1) (by omega); omega
  have hlen := hr.1
  have hn3 : n ≤ 300 := by have := hA.len; omega
  have HR := Lib.hid hr
  have HA := Lib.hid hA
  clear hr hA hK
  by_cases hn : n = 0
  · have hn0 : ((n : Int) == 0) = true := by simpa using hn
    clear hn
    cases hb : decide (d + x2 % (x1 % max 1 m + 1) < 365)
    · go_wp2_with fail
      refine (Awake_any _).mono ?_
      rintro e W7 ⟨rfl, hb7⟩
      have h7 : Below w.heap.size w (W4.alloc (Obj.cells #[.int .i64 b1, .int .i64 b2] 27)) := HB4.out.alloc HB4.out.size _
      have HB7 := Lib.hid (h7.trans (hb7.mono h7.size))
      clear hb7 h7
      go_wp2_with fail
      go_ret
      exact ⟨rfl, HB7.out⟩
    · have hbb : d + x2 % (x1 % max 1 m + 1) < 365 := by simpa using hb
      have HWd := Lib.hid (fun he => riskF_window (r := r) (d := d) (n := m) (d' := d + x2 % (x1 % max 1 m + 1)) (n' := m - x1 % max 1 m) (lvl := lvl) (by omega) (by omega) he)
      go_wp2_with fail
      obtain ⟨W5, hW5⟩ : ∃ W5, W4.alloc (Obj.cells #[.int .i64 b1, .int .i64 b2] 27) = W5 := ⟨_, rfl⟩
      have hb5 : Below W4.heap.size W4 W5 := by rw [← hW5]; exact (Below.refl _ _).alloc (Nat.le_refl _) _
      have KB : Hid (Blk W5 W4.heap.size 27 #[.int .i64 b1, .int .i64 b2]) := by rw [← hW5]; exact Blk.new _ _ _ rfl
      rw [hW5]
      clear hW5 q0 q1 q2 p0 p1 p2 s0 s1 s2 s3 t0 t1 hz hz1 hz2 hz3
      have HB5 : Hid (Below w.heap.size w W5) := HB4.out.trans (hb5.mono HB4.out.size)
      refine (HRk.out W5 _ _ lvl HB5.out (by omega) (by omega) (by omega) (by omega) l0 l1).mono ?_
      rw [HRa.out] at HWd
      generalize riskF r (d + x2 % (x1 % max 1 m + 1)) (m - x1 % max 1 m) lvl = Rc at *
      obtain ⟨rc1, rc2⟩ := Rc
      rintro e W6 ⟨rfl, hb6⟩
      dsimp only at *
      have hb56 : Below W4.heap.size W4 W6 := hb5.trans (hb6.mono hb5.size)
      have HB6 : Hid (Below w.heap.size w W6) := HB4.out.trans (hb56.mono HB4.out.size)
      have J1 := Lib.hid (L1.out.later hb56); have J2 := Lib.hid (L2.out.later hb56); have J3 := Lib.hid (L3.out.later hb56); have JA := Lib.hid (KA4.out.later hb56); have JB := Lib.hid (KB.out.later hb6)
      have HAB : Hid (W2.heap.size ≠ W4.heap.size) := by have := KA4.out.lt; exact (by omega : W2.heap.size ≠ W4.heap.size)
      have HL4 : Hid (w.heap.size + 1 + 1 < W4.heap.size) := L3.out.lt
      clear hb5 hb6 hb56 L1 L2 L3 KA4 KB
      have q0 := J1.out.cell (i := 0) rfl
      have q1 := J1.out.cell (i := 1) rfl
      have q2 := J1.out.cell (i := 2) rfl
      have s3 := J3.out.cell (i := 3) rfl
      have t0 := JA.out.cell (i := 0) rfl
      have t1 := JA.out.cell (i := 1) rfl
      have f0 := JB.out.cell (i := 0) rfl
      have f1 := JB.out.cell (i := 1) rfl
      have f2 := JB.out.frozen 0
      have f3 := JB.out.frozen 1
      have hz := J3.out.lt
      have hz1 := J1.out.lt
      have hz3 := JA.out.lt
      have hz4 := JB.out.lt
      have hz5 := HAB.out
      have hz6 := HL4.out
      have hz7 : w.heap.size < W4.heap.size := by omega
      have hz8 : w.heap.size + 1 < W4.heap.size := by omega
      have JB2 := Lib.hid ((JB.out.set 0 (.int .i64 rc1)).set 1 (.int .i64 rc2))
      have X1 := Lib.hid ((J1.out.far (p := ⟨W4.heap.size, 0, none⟩) (by dsimp only; omega) (.int .i64 rc1)).far (p := ⟨W4.heap.size, 1, none⟩) (by dsimp only; omega) (.int .i64 rc2))
      have X2 := Lib.hid ((J2.out.far (p := ⟨W4.heap.size, 0, none⟩) (by dsimp only; omega) (.int .i64 rc1)).far (p := ⟨W4.heap.size, 1, none⟩) (by dsimp only; omega) (.int .i64 rc2))
      have XA := Lib.hid ((JA.out.far (p := ⟨W4.heap.size, 0, none⟩) (by dsimp only; omega) (.int .i64 rc1)).far (p := ⟨W4.heap.size, 1, none⟩) (by dsimp only; omega) (.int .i64 rc2))
      have HB7 : Hid (Below w.heap.size w ((W6.setCell ⟨W4.heap.size, 0, none⟩ (.int .i64 rc1)).setCell ⟨W4.heap.size, 1, none⟩ (.int .i64 rc2))) := (HB6.out.setCell (p := ⟨W4.heap.size, 0, none⟩) (by dsimp only; omega) _).setCell (p := ⟨W4.heap.size, 1, none⟩) (by dsimp only; omega) _
      have hrc : (rc2 == a2) = false ∨ ((rc2 == a2) = true ∧ decide (a1 < rc1) = false) := by
        cases hq : (rc2 == a2)
        · exact .inl rfl
        · have := HWd.out (by simpa using hq)
          exact .inr ⟨rfl, by simp; omega⟩
      clear HWd
      rcases hrc with hq | ⟨hq, hq2⟩
      all_goals
        go_wp2_with fail
        refine (Awake_any _).mono ?_
        rintro e W8 ⟨rfl, hb8⟩
        have HB8 := Lib.hid (HB7.out.trans (hb8.mono HB7.out.size))
        clear hb8
        go_wp2_with fail
        go_ret
        exact ⟨rfl, HB8.out⟩
  · have hn0 : ((n : Int) == 0) = false := by simp; omega
    obtain ⟨k, hk⟩ : ∃ k : Nat, x3 % (n : Int) = (k : Int) := ⟨(x3 % (n : Int)).toNat, by have := Int.emod_nonneg x3 (b := (n : Int)) (by omega); omega⟩
    have hkn : k < n := by have := Int.emod_lt_of_pos x3 (b := (n : Int)) (by omega); omega
    obtain ⟨_, ad, _, hAd, _⟩ := HR.out.get (i := 0) (by omega)
    subst hAd
    cases hb : decide (d + x2 % (x1 % max 1 m + 1) < 365)
    · go_wp2_with fail
      rw [hk]
      have HHk := Lib.hid hk
      clear hk
      obtain ⟨W9, hW9⟩ : ∃ W9, (W4.alloc (Obj.cells #[.int .i64 b1, .int .i64 b2] 27)).alloc (Obj.cells #[.int .i64 r.first, .int .i64 r.years, .slice (some ad) n c] 24) = W9 := ⟨_, rfl⟩
      have hb9 : Below W4.heap.size W4 W9 := by rw [← hW9]; exact ((Below.refl _ _).alloc (Nat.le_refl _) _).alloc (by simp) _
      have NB : Hid (Blk W9 W4.heap.size 27 #[.int .i64 b1, .int .i64 b2]) := by rw [← hW9]; exact (Blk.new _ _ _ rfl).alloc _
      have NU : Hid (Blk W9 (W4.heap.size + 1) 24 #[.int .i64 r.first, .int .i64 r.years, .slice (some ad) n c]) := by rw [← hW9]; exact Blk.new _ _ _ (by simp)
      rw [hW9]
      clear hW9 q0 q1 q2 p0 p1 p2 s0 s1 s2 s3 t0 t1 hz hz1 hz2 hz3
      have N1 := Lib.hid (L1.out.later hb9); have N2 := Lib.hid (L2.out.later hb9); have NA := Lib.hid (KA4.out.later hb9)
      have HB9 : Hid (Below w.heap.size w W9) := HB4.out.trans (hb9.mono HB4.out.size)
      have HBU0 : Hid (w.heap.size + 1 + 1 < W4.heap.size + 1) := by have := L3.out.lt; exact (by omega : w.heap.size + 1 + 1 < W4.heap.size + 1)
      have HBU1 : Hid (W2.heap.size < W4.heap.size + 1) := by have := KA4.out.lt; exact (by omega : W2.heap.size < W4.heap.size + 1)
      have HBU2 : Hid (W4.heap.size ≠ W4.heap.size + 1) := by exact (by omega : W4.heap.size ≠ W4.heap.size + 1)
      have HBU3 : Hid (w.heap.size ≤ W4.heap.size) := HB4.out.size
      have HAB : Hid (W2.heap.size ≠ W4.heap.size) := by have := KA4.out.lt; exact (by omega : W2.heap.size ≠ W4.heap.size)
      have HRa' : Hid (riskF r d m lvl = (a1, a2)) := HRa.out
      clear hb9 L1 L2 L3 KA4
      by_cases hck : c = k + 1
      · have HNk : Hid (n = k + 1) := by exact (by omega : n = k + 1)
        have hkc := hnc
        have q2' := later_cell (N1.out.cell (i := 2) rfl)
        have HS0 : Hid ((fun w' => ∃ u : Later W9, w' = u.w) W9.drew) := ⟨⟨W9.drew, (Below.refl _ _).drew⟩, rfl⟩
        refine wp_region_noPanic ?_
        refine wp_region_ord (fun w' => ∃ u : Later W9, w' = u.w) 11 (fun k => !(k == 0 || k == 5 || k == 11 || k == 12 || k == 13)) (ordOf _ [1, 2, 3, 4, 6, 7, 8, 9, 10, 0, 5, 11, 12, 13]) (by kernel_rfl) (by kernel_rfl) (ordOf_mem _ _) (fun _ _ _ _ _ h => h) ?_
        simp only [ordOf, List.filterMap_cons, List.filterMap_nil, List.getElem?_cons_zero, List.getElem?_cons_succ, Option.map_some]
        iterate 9 ((first | refine ord_quiet rfl rfl rfl HS0.out ?_ | refine ord_slice rfl _ _ _ _ _ rfl rfl HS0.out ?_); intro K hK; go_big_quiet_op; go_big_quiet_on)
        clear q2'
        have hbs := build22
        refine ord_op rfl ?_
        go_wp2_with fail
        refine mix_post (fun _ => ⟨⟨_, ((Below.refl _ W9).alloc (Nat.le_refl _) (.cells #[] 108)).drew⟩, rfl⟩) ?_
        clear hbs
        have HO0 : Hid ((W9.alloc (.cells #[] 108)).drew.ownsRow W9.heap.size 108 3 (.slice (some ⟨W9.heap.size, 0, none⟩) 0 0) 0 []) := own_drew (own_empty W9 W9.heap.size (Nat.le_refl _) 108 3)
        have HRaa : Hid (RdH (W9.alloc (.cells #[] 108)).drew (some ad) n r.highs) := (HR.out.below HB9.out).below (((Below.refl _ W9).alloc (Nat.le_refl _) (.cells #[] 108)).drew)
        refine ord_op rfl ?_
        refine wpList_append_own _ rfl _ _ 22 rfl W9.heap.size 108 i0 (.agg #[.int .i64 0, .int .i64 0, .int .i64 0]) 3 24 Try.underlying22 hi hz0' hz1' hz2' rfl (by decide) _ 0 [] rfl HO0.out ad k _ ((r.highs.take k).flatMap High.enc) rfl (by rw [flat_len high_len, List.length_take]; omega) (news_take high_len HRaa.out k) (enc_one high_one _) (by unfold maxLen; omega) (by omega) (by simp [World.drew]) ?_
        intro v1 W11 hown1 hgrow1 _
        have HB11 : Hid (Below W9.heap.size W9 W11) := ((Below.refl _ W9).alloc (Nat.le_refl _) (.cells #[] 108)).drew.grown hgrow1 (by simp [World.drew]) (fun j e => by cases e; exact Nat.le_refl _)
        have HO1 := Lib.hid hown1
        clear hgrow1 hown1
        go_wp2
        refine mix_post (fun _ => ⟨⟨_, HB11.out⟩, rfl⟩) ?_
        refine ord_op rfl ?_
        have HRb : Hid (RdH W11 (some ad) n r.highs) := (HR.out.below HB9.out).below HB11.out
        refine wpList_append_own _ rfl _ _ 22 rfl W9.heap.size 108 i0 (.agg #[.int .i64 0, .int .i64 0, .int .i64 0]) 3 24 Try.underlying22 hi hz0' hz1' hz2' rfl (by decide) _ _ _ rfl HO1.out ad (n - (k + 1)) _ [] rfl (by have := HNk.out; simp; omega) (fun j u h => by simp at h) (fun u h => by simp at h) (by unfold maxLen; omega) (by omega) HB11.out.size ?_
        intro v2 W12 hown2 hgrow2 _
        have HB12 : Hid (Below W9.heap.size W9 W12) := HB11.out.grown hgrow2 HB11.out.size (fun j e => (HO1.out.lt j e).1)
        have HO2 : Hid (W12.ownsRow W9.heap.size 108 3 v2 (n - 1) (((r.less k).highs).flatMap High.enc)) := by
          have e : 0 + k + (n - (k + 1)) = n - 1 := by omega
          rw [e, List.nil_append, List.append_nil] at hown2
          have e2 : r.highs.take k = (r.less k).highs := by unfold Rec.less; dsimp only; rw [← erase_eq, List.drop_of_length_le (by have := HNk.out; omega), List.append_nil]
          rw [e2] at hown2
          exact hown2
        have hll : (r.less k).highs.length = n - 1 := by unfold Rec.less; dsimp only; rw [List.length_eraseIdx, if_pos (by omega)]; omega
        obtain ⟨A2, c2, hv2, _, _, _⟩ := rd_of_own high_len HO2.out hll
        subst hv2
        clear hgrow2 hown2 HO1 HO0 HRaa HRb
        go_wp2
        refine mix_post (fun h => absurd h (by decide)) ?_
        refine ord_op rfl ?_
        go_wp2
        refine mix_post (fun h => absurd h (by decide)) ?_
        have NU2 := NU.out.later HB12.out
        have v20 := NU2.cell (i := 2) rfl
        have v21 := NU2.frozen 2
        have HNU := Lib.hid NU2
        clear NU2
        refine ord_op rfl ?_
        go_wp2
        refine mix_post (fun h => absurd h (by decide)) ?_
        refine ord_nil (NoPanic.normal ?_)
        have HO3 : Hid ((W12.setCell ⟨W4.heap.size + 1, 2, none⟩ (.slice A2 (n - 1) c2)).ownsRow W9.heap.size 108 3 (.slice A2 (n - 1) c2) (n - 1) (((r.less k).highs).flatMap High.enc)) := own_low HO2.out (p := ⟨W4.heap.size + 1, 2, none⟩) NU.out.lt _
        have HU3 := Lib.hid (HNU.out.set 2 (.slice A2 (n - 1) c2))
        have hb3 : Below w.heap.size w (W12.setCell ⟨W4.heap.size + 1, 2, none⟩ (.slice A2 (n - 1) c2)) := (HB9.out.trans (HB12.out.mono HB9.out.size)).setCell (p := ⟨W4.heap.size + 1, 2, none⟩) (by have := HBU0.out; dsimp only; omega) _
        have HB13 := Lib.hid hb3
        have N13 := Lib.hid ((N1.out.later HB12.out).far (p := ⟨W4.heap.size + 1, 2, none⟩) (by have := N1.out.lt; have := HBU0.out; dsimp only; omega) (.slice A2 (n - 1) c2))
        have P13 := Lib.hid ((N2.out.later HB12.out).far (p := ⟨W4.heap.size + 1, 2, none⟩) (by have := N2.out.lt; have := HBU0.out; dsimp only; omega) (.slice A2 (n - 1) c2))
        have A13 := Lib.hid ((NA.out.later HB12.out).far (p := ⟨W4.heap.size + 1, 2, none⟩) (by have := NA.out.lt; have := HBU1.out; dsimp only; omega) (.slice A2 (n - 1) c2))
        have B13 := Lib.hid ((NB.out.later HB12.out).far (p := ⟨W4.heap.size + 1, 2, none⟩) (by have := HBU2.out; dsimp only; omega) (.slice A2 (n - 1) c2))
        clear v20 v21 hb3 HO2 HNU N1 N2 NA NB NU
        generalize W12.setCell ⟨W4.heap.size + 1, 2, none⟩ (.slice A2 (n - 1) c2) = W13 at *
        have j0 := HU3.out.cell (i := 0) rfl
        have j1 := HU3.out.cell (i := 1) rfl
        have j2 := HU3.out.cell (i := 2) rfl
        have p0 := P13.out.cell (i := 0) rfl
        have p1 := P13.out.cell (i := 1) rfl
        have p2 := P13.out.cell (i := 2) rfl
        have hz1 := HU3.out.lt
        have hz2 := P13.out.lt
        obtain ⟨A3, c3, hv3, hrd3, _, _⟩ := rd_of_own high_len HO3.out hll
        injection hv3 with ha3 _ hc3
        subst ha3 hc3
        have HRu : Hid (Calls Try.prog 27 #[.agg #[.int .i64 r.first, .int .i64 r.years, .slice A2 (n - 1) c2], .int .i64 d, .int .i64 m, .int .i64 lvl] W13 fun e w' => e = .returned (.tuple #[.agg #[.int .i64 (riskF (r.less k) d m lvl).1, .int .i64 (riskF (r.less k) d m lvl).2], .int .i64 0]) ∧ Below W13.heap.size W13 w') := by
          have h := Risk_any (r.less k) d m lvl A2 (n - 1) c2 W13 hrd3
          rw [riskTop_ok (HA.out.less k) d0 d1 m0 m1 l0 l1] at h
          exact h
        have HLs := Lib.hid (riskF_less (r := r) (d := d) (n := m) (lvl := lvl) k)
        rw [HRa'.out] at HLs
        clear hrd3 HO3
        generalize riskF (r.less k) d m lvl = Ru at *
        obtain ⟨z1, z2⟩ := Ru
        have e3 : decide (z1 ≤ a1) = true := by have := HLs.out.1; dsimp only at this; simpa using this
        have e4 : (z2 == a2) = true := by have := HLs.out.2; dsimp only at this; simpa using this
        clear HLs
        go_wp2_with fail
        refine HRu.out.mono ?_
        rintro e W14 ⟨rfl, hb14⟩
        dsimp only
        have HB14 : Hid (Below w.heap.size w W14) := HB13.out.trans (hb14.mono HB13.out.size)
        have A14 := A13.out.later hb14
        have B14 := B13.out.later hb14
        clear hb14 j0 j1 j2 p0 p1 p2 hz1 hz2
        have f0 := B14.cell (i := 0) rfl
        have f1 := B14.cell (i := 1) rfl
        have f2 := B14.frozen 0
        have f3 := B14.frozen 1
        have f4 := A14.cell (i := 0) rfl
        have f5 := A14.cell (i := 1) rfl
        have hz3 := B14.lt
        have hz4 := A14.lt
        have hz5 := HAB.out
        clear A14 B14
        go_wp2_with fail
        refine (Awake_any _).mono ?_
        rintro e W15 ⟨rfl, hb15⟩
        have h15 : Below w.heap.size w ((W14.setCell ⟨W4.heap.size, 0, none⟩ (.int .i64 z1)).setCell ⟨W4.heap.size, 1, none⟩ (.int .i64 z2)) := (HB14.out.setCell (p := ⟨W4.heap.size, 0, none⟩) (by have := HBU3.out; dsimp only; omega) _).setCell (p := ⟨W4.heap.size, 1, none⟩) (by have := HBU3.out; dsimp only; omega) _
        have HB15 := Lib.hid (h15.trans (hb15.mono h15.size))
        clear hb15 h15
        go_wp2_with fail
        go_ret
        exact ⟨rfl, HB15.out⟩
      · have hck' : ¬ c = k + 1 := hck
        have hkc := hnc
        have q2' := later_cell (N1.out.cell (i := 2) rfl)
        have HS0 : Hid ((fun w' => ∃ u : Later W9, w' = u.w) W9.drew) := ⟨⟨W9.drew, (Below.refl _ _).drew⟩, rfl⟩
        refine wp_region_noPanic ?_
        refine wp_region_ord (fun w' => ∃ u : Later W9, w' = u.w) 11 (fun k => !(k == 0 || k == 5 || k == 11 || k == 12 || k == 13)) (ordOf _ [1, 2, 3, 4, 6, 7, 8, 9, 10, 0, 5, 11, 12, 13]) (by kernel_rfl) (by kernel_rfl) (ordOf_mem _ _) (fun _ _ _ _ _ h => h) ?_
        simp only [ordOf, List.filterMap_cons, List.filterMap_nil, List.getElem?_cons_zero, List.getElem?_cons_succ, Option.map_some]
        iterate 9 ((first | refine ord_quiet rfl rfl rfl HS0.out ?_ | refine ord_slice rfl _ _ _ _ _ rfl rfl HS0.out ?_); intro K hK; go_big_quiet_op; go_big_quiet_on)
        clear q2'
        have hbs := build22
        refine ord_op rfl ?_
        go_wp2_with fail
        refine mix_post (fun _ => ⟨⟨_, ((Below.refl _ W9).alloc (Nat.le_refl _) (.cells #[] 108)).drew⟩, rfl⟩) ?_
        clear hbs
        have HO0 : Hid ((W9.alloc (.cells #[] 108)).drew.ownsRow W9.heap.size 108 3 (.slice (some ⟨W9.heap.size, 0, none⟩) 0 0) 0 []) := own_drew (own_empty W9 W9.heap.size (Nat.le_refl _) 108 3)
        have HRaa : Hid (RdH (W9.alloc (.cells #[] 108)).drew (some ad) n r.highs) := (HR.out.below HB9.out).below (((Below.refl _ W9).alloc (Nat.le_refl _) (.cells #[] 108)).drew)
        refine ord_op rfl ?_
        refine wpList_append_own _ rfl _ _ 22 rfl W9.heap.size 108 i0 (.agg #[.int .i64 0, .int .i64 0, .int .i64 0]) 3 24 Try.underlying22 hi hz0' hz1' hz2' rfl (by decide) _ 0 [] rfl HO0.out ad k _ ((r.highs.take k).flatMap High.enc) rfl (by rw [flat_len high_len, List.length_take]; omega) (news_take high_len HRaa.out k) (enc_one high_one _) (by unfold maxLen; omega) (by omega) (by simp [World.drew]) ?_
        intro v1 W11 hown1 hgrow1 _
        have HB11 : Hid (Below W9.heap.size W9 W11) := ((Below.refl _ W9).alloc (Nat.le_refl _) (.cells #[] 108)).drew.grown hgrow1 (by simp [World.drew]) (fun j e => by cases e; exact Nat.le_refl _)
        have HO1 := Lib.hid hown1
        clear hgrow1 hown1
        go_wp2
        refine mix_post (fun _ => ⟨⟨_, HB11.out⟩, rfl⟩) ?_
        refine ord_op rfl ?_
        have HRb : Hid (RdH W11 (some ad) n r.highs) := (HR.out.below HB9.out).below HB11.out
        refine wpList_append_own _ rfl _ _ 22 rfl W9.heap.size 108 i0 (.agg #[.int .i64 0, .int .i64 0, .int .i64 0]) 3 24 Try.underlying22 hi hz0' hz1' hz2' rfl (by decide) _ _ _ rfl HO1.out (ad.add ((k + 1) * 3)) (n - (k + 1)) _ ((r.highs.drop (k + 1)).flatMap High.enc) rfl (by rw [flat_len high_len, List.length_drop]; omega) (news_drop high_len HRb.out (k + 1)) (enc_one high_one _) (by unfold maxLen; omega) (by omega) HB11.out.size ?_
        intro v2 W12 hown2 hgrow2 _
        have HB12 : Hid (Below W9.heap.size W9 W12) := HB11.out.grown hgrow2 HB11.out.size (fun j e => (HO1.out.lt j e).1)
        have HO2 : Hid (W12.ownsRow W9.heap.size 108 3 v2 (n - 1) (((r.less k).highs).flatMap High.enc)) := by
          have e : 0 + k + (n - (k + 1)) = n - 1 := by omega
          rw [e, List.nil_append, flat_app, erase_eq] at hown2
          exact hown2
        have hll : (r.less k).highs.length = n - 1 := by unfold Rec.less; dsimp only; rw [List.length_eraseIdx, if_pos (by omega)]; omega
        obtain ⟨A2, c2, hv2, _, _, _⟩ := rd_of_own high_len HO2.out hll
        subst hv2
        clear hgrow2 hown2 HO1 HO0 HRaa HRb
        go_wp2
        refine mix_post (fun h => absurd h (by decide)) ?_
        refine ord_op rfl ?_
        go_wp2
        refine mix_post (fun h => absurd h (by decide)) ?_
        have NU2 := NU.out.later HB12.out
        have v20 := NU2.cell (i := 2) rfl
        have v21 := NU2.frozen 2
        have HNU := Lib.hid NU2
        clear NU2
        refine ord_op rfl ?_
        go_wp2
        refine mix_post (fun h => absurd h (by decide)) ?_
        refine ord_nil (NoPanic.normal ?_)
        have HO3 : Hid ((W12.setCell ⟨W4.heap.size + 1, 2, none⟩ (.slice A2 (n - 1) c2)).ownsRow W9.heap.size 108 3 (.slice A2 (n - 1) c2) (n - 1) (((r.less k).highs).flatMap High.enc)) := own_low HO2.out (p := ⟨W4.heap.size + 1, 2, none⟩) NU.out.lt _
        have HU3 := Lib.hid (HNU.out.set 2 (.slice A2 (n - 1) c2))
        have hb3 : Below w.heap.size w (W12.setCell ⟨W4.heap.size + 1, 2, none⟩ (.slice A2 (n - 1) c2)) := (HB9.out.trans (HB12.out.mono HB9.out.size)).setCell (p := ⟨W4.heap.size + 1, 2, none⟩) (by have := HBU0.out; dsimp only; omega) _
        have HB13 := Lib.hid hb3
        have N13 := Lib.hid ((N1.out.later HB12.out).far (p := ⟨W4.heap.size + 1, 2, none⟩) (by have := N1.out.lt; have := HBU0.out; dsimp only; omega) (.slice A2 (n - 1) c2))
        have P13 := Lib.hid ((N2.out.later HB12.out).far (p := ⟨W4.heap.size + 1, 2, none⟩) (by have := N2.out.lt; have := HBU0.out; dsimp only; omega) (.slice A2 (n - 1) c2))
        have A13 := Lib.hid ((NA.out.later HB12.out).far (p := ⟨W4.heap.size + 1, 2, none⟩) (by have := NA.out.lt; have := HBU1.out; dsimp only; omega) (.slice A2 (n - 1) c2))
        have B13 := Lib.hid ((NB.out.later HB12.out).far (p := ⟨W4.heap.size + 1, 2, none⟩) (by have := HBU2.out; dsimp only; omega) (.slice A2 (n - 1) c2))
        clear v20 v21 hb3 HO2 HNU N1 N2 NA NB NU
        generalize W12.setCell ⟨W4.heap.size + 1, 2, none⟩ (.slice A2 (n - 1) c2) = W13 at *
        have j0 := HU3.out.cell (i := 0) rfl
        have j1 := HU3.out.cell (i := 1) rfl
        have j2 := HU3.out.cell (i := 2) rfl
        have p0 := P13.out.cell (i := 0) rfl
        have p1 := P13.out.cell (i := 1) rfl
        have p2 := P13.out.cell (i := 2) rfl
        have hz1 := HU3.out.lt
        have hz2 := P13.out.lt
        obtain ⟨A3, c3, hv3, hrd3, _, _⟩ := rd_of_own high_len HO3.out hll
        injection hv3 with ha3 _ hc3
        subst ha3 hc3
        have HRu : Hid (Calls Try.prog 27 #[.agg #[.int .i64 r.first, .int .i64 r.years, .slice A2 (n - 1) c2], .int .i64 d, .int .i64 m, .int .i64 lvl] W13 fun e w' => e = .returned (.tuple #[.agg #[.int .i64 (riskF (r.less k) d m lvl).1, .int .i64 (riskF (r.less k) d m lvl).2], .int .i64 0]) ∧ Below W13.heap.size W13 w') := by
          have h := Risk_any (r.less k) d m lvl A2 (n - 1) c2 W13 hrd3
          rw [riskTop_ok (HA.out.less k) d0 d1 m0 m1 l0 l1] at h
          exact h
        have HLs := Lib.hid (riskF_less (r := r) (d := d) (n := m) (lvl := lvl) k)
        rw [HRa'.out] at HLs
        clear hrd3 HO3
        generalize riskF (r.less k) d m lvl = Ru at *
        obtain ⟨z1, z2⟩ := Ru
        have e3 : decide (z1 ≤ a1) = true := by have := HLs.out.1; dsimp only at this; simpa using this
        have e4 : (z2 == a2) = true := by have := HLs.out.2; dsimp only at this; simpa using this
        clear HLs
        go_wp2_with fail
        refine HRu.out.mono ?_
        rintro e W14 ⟨rfl, hb14⟩
        dsimp only
        have HB14 : Hid (Below w.heap.size w W14) := HB13.out.trans (hb14.mono HB13.out.size)
        have A14 := A13.out.later hb14
        have B14 := B13.out.later hb14
        clear hb14 j0 j1 j2 p0 p1 p2 hz1 hz2
        have f0 := B14.cell (i := 0) rfl
        have f1 := B14.cell (i := 1) rfl
        have f2 := B14.frozen 0
        have f3 := B14.frozen 1
        have f4 := A14.cell (i := 0) rfl
        have f5 := A14.cell (i := 1) rfl
        have hz3 := B14.lt
        have hz4 := A14.lt
        have hz5 := HAB.out
        clear A14 B14
        go_wp2_with fail
        refine (Awake_any _).mono ?_
        rintro e W15 ⟨rfl, hb15⟩
        have h15 : Below w.heap.size w ((W14.setCell ⟨W4.heap.size, 0, none⟩ (.int .i64 z1)).setCell ⟨W4.heap.size, 1, none⟩ (.int .i64 z2)) := (HB14.out.setCell (p := ⟨W4.heap.size, 0, none⟩) (by have := HBU3.out; dsimp only; omega) _).setCell (p := ⟨W4.heap.size, 1, none⟩) (by have := HBU3.out; dsimp only; omega) _
        have HB15 := Lib.hid (h15.trans (hb15.mono h15.size))
        clear hb15 h15
        go_wp2_with fail
        go_ret
        exact ⟨rfl, HB15.out⟩
    · have hbb : d + x2 % (x1 % max 1 m + 1) < 365 := by simpa using hb
      have HWd := Lib.hid (fun he => riskF_window (r := r) (d := d) (n := m) (d' := d + x2 % (x1 % max 1 m + 1)) (n' := m - x1 % max 1 m) (lvl := lvl) (by omega) (by omega) he)
      go_wp2_with fail
      obtain ⟨W5, hW5⟩ : ∃ W5, W4.alloc (Obj.cells #[.int .i64 b1, .int .i64 b2] 27) = W5 := ⟨_, rfl⟩
      have hb5 : Below W4.heap.size W4 W5 := by rw [← hW5]; exact (Below.refl _ _).alloc (Nat.le_refl _) _
      have KB : Hid (Blk W5 W4.heap.size 27 #[.int .i64 b1, .int .i64 b2]) := by rw [← hW5]; exact Blk.new _ _ _ rfl
      rw [hW5]
      clear hW5 q0 q1 q2 p0 p1 p2 s0 s1 s2 s3 t0 t1 hz hz1 hz2 hz3
      have HB5 : Hid (Below w.heap.size w W5) := HB4.out.trans (hb5.mono HB4.out.size)
      refine (HRk.out W5 _ _ lvl HB5.out (by omega) (by omega) (by omega) (by omega) l0 l1).mono ?_
      rw [HRa.out] at HWd
      generalize riskF r (d + x2 % (x1 % max 1 m + 1)) (m - x1 % max 1 m) lvl = Rc at *
      obtain ⟨rc1, rc2⟩ := Rc
      rintro e W6 ⟨rfl, hb6⟩
      dsimp only at *
      have hb56 : Below W4.heap.size W4 W6 := hb5.trans (hb6.mono hb5.size)
      have HB6 : Hid (Below w.heap.size w W6) := HB4.out.trans (hb56.mono HB4.out.size)
      have J1 := Lib.hid (L1.out.later hb56); have J2 := Lib.hid (L2.out.later hb56); have J3 := Lib.hid (L3.out.later hb56); have JA := Lib.hid (KA4.out.later hb56); have JB := Lib.hid (KB.out.later hb6)
      have HAB : Hid (W2.heap.size ≠ W4.heap.size) := by have := KA4.out.lt; exact (by omega : W2.heap.size ≠ W4.heap.size)
      have HL4 : Hid (w.heap.size + 1 + 1 < W4.heap.size) := L3.out.lt
      clear hb5 hb6 hb56 L1 L2 L3 KA4 KB
      have q0 := J1.out.cell (i := 0) rfl
      have q1 := J1.out.cell (i := 1) rfl
      have q2 := J1.out.cell (i := 2) rfl
      have s3 := J3.out.cell (i := 3) rfl
      have t0 := JA.out.cell (i := 0) rfl
      have t1 := JA.out.cell (i := 1) rfl
      have f0 := JB.out.cell (i := 0) rfl
      have f1 := JB.out.cell (i := 1) rfl
      have f2 := JB.out.frozen 0
      have f3 := JB.out.frozen 1
      have hz := J3.out.lt
      have hz1 := J1.out.lt
      have hz3 := JA.out.lt
      have hz4 := JB.out.lt
      have hz5 := HAB.out
      have hz6 := HL4.out
      have hz7 : w.heap.size < W4.heap.size := by omega
      have hz8 : w.heap.size + 1 < W4.heap.size := by omega
      have JB2 := Lib.hid ((JB.out.set 0 (.int .i64 rc1)).set 1 (.int .i64 rc2))
      have X1 := Lib.hid ((J1.out.far (p := ⟨W4.heap.size, 0, none⟩) (by dsimp only; omega) (.int .i64 rc1)).far (p := ⟨W4.heap.size, 1, none⟩) (by dsimp only; omega) (.int .i64 rc2))
      have X2 := Lib.hid ((J2.out.far (p := ⟨W4.heap.size, 0, none⟩) (by dsimp only; omega) (.int .i64 rc1)).far (p := ⟨W4.heap.size, 1, none⟩) (by dsimp only; omega) (.int .i64 rc2))
      have XA := Lib.hid ((JA.out.far (p := ⟨W4.heap.size, 0, none⟩) (by dsimp only; omega) (.int .i64 rc1)).far (p := ⟨W4.heap.size, 1, none⟩) (by dsimp only; omega) (.int .i64 rc2))
      have HB7 : Hid (Below w.heap.size w ((W6.setCell ⟨W4.heap.size, 0, none⟩ (.int .i64 rc1)).setCell ⟨W4.heap.size, 1, none⟩ (.int .i64 rc2))) := (HB6.out.setCell (p := ⟨W4.heap.size, 0, none⟩) (by dsimp only; omega) _).setCell (p := ⟨W4.heap.size, 1, none⟩) (by dsimp only; omega) _
      have hrc : (rc2 == a2) = false ∨ ((rc2 == a2) = true ∧ decide (a1 < rc1) = false) := by
        cases hq : (rc2 == a2)
        · exact .inl rfl
        · have := HWd.out (by simpa using hq)
          exact .inr ⟨rfl, by simp; omega⟩
      clear HWd
      have HRa' : Hid (riskF r d m lvl = (a1, a2)) := HRa.out
      have HBU3 : Hid (w.heap.size ≤ W4.heap.size) := HB4.out.size
      rcases hrc with hq | ⟨hq, hq2⟩
      all_goals
        go_wp2_with fail
        rw [hk]
        have HHk := Lib.hid hk
        clear hk q0 q1 q2 s3 t0 t1 f0 f1 f2 f3 hz hz1 hz3 hz4 hz5 hz6 hz7 hz8
        obtain ⟨W7, hW7⟩ : ∃ W7, (W6.setCell ⟨W4.heap.size, 0, none⟩ (.int .i64 rc1)).setCell ⟨W4.heap.size, 1, none⟩ (.int .i64 rc2) = W7 := ⟨_, rfl⟩
        have hsz7 : W7.heap.size = W6.heap.size := by rw [← hW7]; simp [World.setCell]
        rw [hW7] at JB2 X1 X2 XA HB7 ⊢
        have HW7 := Lib.hid hW7
        clear hW7
        have HSZ := Lib.hid hsz7
        have hbl : W6.heap.size = W7.heap.size := hsz7.symm
        rw [hbl]
        clear hsz7 hbl
        obtain ⟨W9, hW9⟩ : ∃ W9, W7.alloc (Obj.cells #[.int .i64 r.first, .int .i64 r.years, .slice (some ad) n c] 24) = W9 := ⟨_, rfl⟩
        have hb9 : Below W7.heap.size W7 W9 := by rw [← hW9]; exact (Below.refl _ _).alloc (Nat.le_refl _) _
        have NB := Lib.hid (JB2.out.later hb9)
        have NU : Hid (Blk W9 W7.heap.size 24 #[.int .i64 r.first, .int .i64 r.years, .slice (some ad) n c]) := by rw [← hW9]; exact Blk.new _ _ _ rfl
        rw [hW9]
        clear hW9
        have N1 := Lib.hid (X1.out.later hb9); have N2 := Lib.hid (X2.out.later hb9); have NA := Lib.hid (XA.out.later hb9)
        have HB9 : Hid (Below w.heap.size w W9) := HB7.out.trans (hb9.mono HB7.out.size)
        have HBU0 : Hid (w.heap.size + 1 + 1 < W7.heap.size) := by have := HL4.out; have := JB2.out.lt; exact (by omega : w.heap.size + 1 + 1 < W7.heap.size)
        have HBU1 : Hid (W2.heap.size < W7.heap.size) := XA.out.lt
        have HBU2 : Hid (W4.heap.size ≠ W7.heap.size) := by have := JB2.out.lt; exact (by omega : W4.heap.size ≠ W7.heap.size)
        clear hb9 JB2 X1 X2 XA JA JB J1 J2 J3
        by_cases hck : c = k + 1
        · have HNk : Hid (n = k + 1) := by exact (by omega : n = k + 1)
          have hkc := hnc
          have q2' := later_cell (N1.out.cell (i := 2) rfl)
          have HS0 : Hid ((fun w' => ∃ u : Later W9, w' = u.w) W9.drew) := ⟨⟨W9.drew, (Below.refl _ _).drew⟩, rfl⟩
          refine wp_region_noPanic ?_
          refine wp_region_ord (fun w' => ∃ u : Later W9, w' = u.w) 11 (fun k => !(k == 0 || k == 5 || k == 11 || k == 12 || k == 13)) (ordOf _ [1, 2, 3, 4, 6, 7, 8, 9, 10, 0, 5, 11, 12, 13]) (by kernel_rfl) (by kernel_rfl) (ordOf_mem _ _) (fun _ _ _ _ _ h => h) ?_
          simp only [ordOf, List.filterMap_cons, List.filterMap_nil, List.getElem?_cons_zero, List.getElem?_cons_succ, Option.map_some]
          iterate 9 ((first | refine ord_quiet rfl rfl rfl HS0.out ?_ | refine ord_slice rfl _ _ _ _ _ rfl rfl HS0.out ?_); intro K hK; go_big_quiet_op; go_big_quiet_on)
          clear q2'
          have hbs := build22
          refine ord_op rfl ?_
          go_wp2_with fail
          refine mix_post (fun _ => ⟨⟨_, ((Below.refl _ W9).alloc (Nat.le_refl _) (.cells #[] 108)).drew⟩, rfl⟩) ?_
          clear hbs
          have HO0 : Hid ((W9.alloc (.cells #[] 108)).drew.ownsRow W9.heap.size 108 3 (.slice (some ⟨W9.heap.size, 0, none⟩) 0 0) 0 []) := own_drew (own_empty W9 W9.heap.size (Nat.le_refl _) 108 3)
          have HRaa : Hid (RdH (W9.alloc (.cells #[] 108)).drew (some ad) n r.highs) := (HR.out.below HB9.out).below (((Below.refl _ W9).alloc (Nat.le_refl _) (.cells #[] 108)).drew)
          refine ord_op rfl ?_
          refine wpList_append_own _ rfl _ _ 22 rfl W9.heap.size 108 i0 (.agg #[.int .i64 0, .int .i64 0, .int .i64 0]) 3 24 Try.underlying22 hi hz0' hz1' hz2' rfl (by decide) _ 0 [] rfl HO0.out ad k _ ((r.highs.take k).flatMap High.enc) rfl (by rw [flat_len high_len, List.length_take]; omega) (news_take high_len HRaa.out k) (enc_one high_one _) (by unfold maxLen; omega) (by omega) (by simp [World.drew]) ?_
          intro v1 W11 hown1 hgrow1 _
          have HB11 : Hid (Below W9.heap.size W9 W11) := ((Below.refl _ W9).alloc (Nat.le_refl _) (.cells #[] 108)).drew.grown hgrow1 (by simp [World.drew]) (fun j e => by cases e; exact Nat.le_refl _)
          have HO1 := Lib.hid hown1
          clear hgrow1 hown1
          go_wp2
          refine mix_post (fun _ => ⟨⟨_, HB11.out⟩, rfl⟩) ?_
          refine ord_op rfl ?_
          have HRb : Hid (RdH W11 (some ad) n r.highs) := (HR.out.below HB9.out).below HB11.out
          refine wpList_append_own _ rfl _ _ 22 rfl W9.heap.size 108 i0 (.agg #[.int .i64 0, .int .i64 0, .int .i64 0]) 3 24 Try.underlying22 hi hz0' hz1' hz2' rfl (by decide) _ _ _ rfl HO1.out ad (n - (k + 1)) _ [] rfl (by have := HNk.out; simp; omega) (fun j u h => by simp at h) (fun u h => by simp at h) (by unfold maxLen; omega) (by omega) HB11.out.size ?_
          intro v2 W12 hown2 hgrow2 _
          have HB12 : Hid (Below W9.heap.size W9 W12) := HB11.out.grown hgrow2 HB11.out.size (fun j e => (HO1.out.lt j e).1)
          have HO2 : Hid (W12.ownsRow W9.heap.size 108 3 v2 (n - 1) (((r.less k).highs).flatMap High.enc)) := by
            have e : 0 + k + (n - (k + 1)) = n - 1 := by omega
            rw [e, List.nil_append, List.append_nil] at hown2
            have e2 : r.highs.take k = (r.less k).highs := by unfold Rec.less; dsimp only; rw [← erase_eq, List.drop_of_length_le (by have := HNk.out; omega), List.append_nil]
            rw [e2] at hown2
            exact hown2
          have hll : (r.less k).highs.length = n - 1 := by unfold Rec.less; dsimp only; rw [List.length_eraseIdx, if_pos (by omega)]; omega
          obtain ⟨A2, c2, hv2, _, _, _⟩ := rd_of_own high_len HO2.out hll
          subst hv2
          clear hgrow2 hown2 HO1 HO0 HRaa HRb
          go_wp2
          refine mix_post (fun h => absurd h (by decide)) ?_
          refine ord_op rfl ?_
          go_wp2
          refine mix_post (fun h => absurd h (by decide)) ?_
          have NU2 := NU.out.later HB12.out
          have v20 := NU2.cell (i := 2) rfl
          have v21 := NU2.frozen 2
          have HNU := Lib.hid NU2
          clear NU2
          refine ord_op rfl ?_
          go_wp2
          refine mix_post (fun h => absurd h (by decide)) ?_
          refine ord_nil (NoPanic.normal ?_)
          have HO3 : Hid ((W12.setCell ⟨W7.heap.size, 2, none⟩ (.slice A2 (n - 1) c2)).ownsRow W9.heap.size 108 3 (.slice A2 (n - 1) c2) (n - 1) (((r.less k).highs).flatMap High.enc)) := own_low HO2.out (p := ⟨W7.heap.size, 2, none⟩) NU.out.lt _
          have HU3 := Lib.hid (HNU.out.set 2 (.slice A2 (n - 1) c2))
          have hb3 : Below w.heap.size w (W12.setCell ⟨W7.heap.size, 2, none⟩ (.slice A2 (n - 1) c2)) := (HB9.out.trans (HB12.out.mono HB9.out.size)).setCell (p := ⟨W7.heap.size, 2, none⟩) (by have := HBU0.out; dsimp only; omega) _
          have HB13 := Lib.hid hb3
          have N13 := Lib.hid ((N1.out.later HB12.out).far (p := ⟨W7.heap.size, 2, none⟩) (by have := N1.out.lt; have := HBU0.out; dsimp only; omega) (.slice A2 (n - 1) c2))
          have P13 := Lib.hid ((N2.out.later HB12.out).far (p := ⟨W7.heap.size, 2, none⟩) (by have := N2.out.lt; have := HBU0.out; dsimp only; omega) (.slice A2 (n - 1) c2))
          have A13 := Lib.hid ((NA.out.later HB12.out).far (p := ⟨W7.heap.size, 2, none⟩) (by have := NA.out.lt; have := HBU1.out; dsimp only; omega) (.slice A2 (n - 1) c2))
          have B13 := Lib.hid ((NB.out.later HB12.out).far (p := ⟨W7.heap.size, 2, none⟩) (by have := HBU2.out; dsimp only; omega) (.slice A2 (n - 1) c2))
          clear v20 v21 hb3 HO2 HNU N1 N2 NA NB NU
          generalize W12.setCell ⟨W7.heap.size, 2, none⟩ (.slice A2 (n - 1) c2) = W13 at *
          have j0 := HU3.out.cell (i := 0) rfl
          have j1 := HU3.out.cell (i := 1) rfl
          have j2 := HU3.out.cell (i := 2) rfl
          have p0 := P13.out.cell (i := 0) rfl
          have p1 := P13.out.cell (i := 1) rfl
          have p2 := P13.out.cell (i := 2) rfl
          have hz1 := HU3.out.lt
          have hz2 := P13.out.lt
          obtain ⟨A3, c3, hv3, hrd3, _, _⟩ := rd_of_own high_len HO3.out hll
          injection hv3 with ha3 _ hc3
          subst ha3 hc3
          have HRu : Hid (Calls Try.prog 27 #[.agg #[.int .i64 r.first, .int .i64 r.years, .slice A2 (n - 1) c2], .int .i64 d, .int .i64 m, .int .i64 lvl] W13 fun e w' => e = .returned (.tuple #[.agg #[.int .i64 (riskF (r.less k) d m lvl).1, .int .i64 (riskF (r.less k) d m lvl).2], .int .i64 0]) ∧ Below W13.heap.size W13 w') := by
            have h := Risk_any (r.less k) d m lvl A2 (n - 1) c2 W13 hrd3
            rw [riskTop_ok (HA.out.less k) d0 d1 m0 m1 l0 l1] at h
            exact h
          have HLs := Lib.hid (riskF_less (r := r) (d := d) (n := m) (lvl := lvl) k)
          rw [HRa'.out] at HLs
          clear hrd3 HO3
          generalize riskF (r.less k) d m lvl = Ru at *
          obtain ⟨z1, z2⟩ := Ru
          have e3 : decide (z1 ≤ a1) = true := by have := HLs.out.1; dsimp only at this; simpa using this
          have e4 : (z2 == a2) = true := by have := HLs.out.2; dsimp only at this; simpa using this
          clear HLs
          go_wp2_with fail
          refine HRu.out.mono ?_
          rintro e W14 ⟨rfl, hb14⟩
          dsimp only
          have HB14 : Hid (Below w.heap.size w W14) := HB13.out.trans (hb14.mono HB13.out.size)
          have A14 := A13.out.later hb14
          have B14 := B13.out.later hb14
          clear hb14 j0 j1 j2 p0 p1 p2 hz1 hz2
          have f0 := B14.cell (i := 0) rfl
          have f1 := B14.cell (i := 1) rfl
          have f2 := B14.frozen 0
          have f3 := B14.frozen 1
          have f4 := A14.cell (i := 0) rfl
          have f5 := A14.cell (i := 1) rfl
          have hz3 := B14.lt
          have hz4 := A14.lt
          have hz5 := HAB.out
          clear A14 B14
          go_wp2_with fail
          refine (Awake_any _).mono ?_
          rintro e W15 ⟨rfl, hb15⟩
          have h15 : Below w.heap.size w ((W14.setCell ⟨W4.heap.size, 0, none⟩ (.int .i64 z1)).setCell ⟨W4.heap.size, 1, none⟩ (.int .i64 z2)) := (HB14.out.setCell (p := ⟨W4.heap.size, 0, none⟩) (by have := HBU3.out; dsimp only; omega) _).setCell (p := ⟨W4.heap.size, 1, none⟩) (by have := HBU3.out; dsimp only; omega) _
          have HB15 := Lib.hid (h15.trans (hb15.mono h15.size))
          clear hb15 h15
          go_wp2_with fail
          go_ret
          exact ⟨rfl, HB15.out⟩
        · have hck' : ¬ c = k + 1 := hck
          have hkc := hnc
          have q2' := later_cell (N1.out.cell (i := 2) rfl)
          have HS0 : Hid ((fun w' => ∃ u : Later W9, w' = u.w) W9.drew) := ⟨⟨W9.drew, (Below.refl _ _).drew⟩, rfl⟩
          refine wp_region_noPanic ?_
          refine wp_region_ord (fun w' => ∃ u : Later W9, w' = u.w) 11 (fun k => !(k == 0 || k == 5 || k == 11 || k == 12 || k == 13)) (ordOf _ [1, 2, 3, 4, 6, 7, 8, 9, 10, 0, 5, 11, 12, 13]) (by kernel_rfl) (by kernel_rfl) (ordOf_mem _ _) (fun _ _ _ _ _ h => h) ?_
          simp only [ordOf, List.filterMap_cons, List.filterMap_nil, List.getElem?_cons_zero, List.getElem?_cons_succ, Option.map_some]
          iterate 9 ((first | refine ord_quiet rfl rfl rfl HS0.out ?_ | refine ord_slice rfl _ _ _ _ _ rfl rfl HS0.out ?_); intro K hK; go_big_quiet_op; go_big_quiet_on)
          clear q2'
          have hbs := build22
          refine ord_op rfl ?_
          go_wp2_with fail
          refine mix_post (fun _ => ⟨⟨_, ((Below.refl _ W9).alloc (Nat.le_refl _) (.cells #[] 108)).drew⟩, rfl⟩) ?_
          clear hbs
          have HO0 : Hid ((W9.alloc (.cells #[] 108)).drew.ownsRow W9.heap.size 108 3 (.slice (some ⟨W9.heap.size, 0, none⟩) 0 0) 0 []) := own_drew (own_empty W9 W9.heap.size (Nat.le_refl _) 108 3)
          have HRaa : Hid (RdH (W9.alloc (.cells #[] 108)).drew (some ad) n r.highs) := (HR.out.below HB9.out).below (((Below.refl _ W9).alloc (Nat.le_refl _) (.cells #[] 108)).drew)
          refine ord_op rfl ?_
          refine wpList_append_own _ rfl _ _ 22 rfl W9.heap.size 108 i0 (.agg #[.int .i64 0, .int .i64 0, .int .i64 0]) 3 24 Try.underlying22 hi hz0' hz1' hz2' rfl (by decide) _ 0 [] rfl HO0.out ad k _ ((r.highs.take k).flatMap High.enc) rfl (by rw [flat_len high_len, List.length_take]; omega) (news_take high_len HRaa.out k) (enc_one high_one _) (by unfold maxLen; omega) (by omega) (by simp [World.drew]) ?_
          intro v1 W11 hown1 hgrow1 _
          have HB11 : Hid (Below W9.heap.size W9 W11) := ((Below.refl _ W9).alloc (Nat.le_refl _) (.cells #[] 108)).drew.grown hgrow1 (by simp [World.drew]) (fun j e => by cases e; exact Nat.le_refl _)
          have HO1 := Lib.hid hown1
          clear hgrow1 hown1
          go_wp2
          refine mix_post (fun _ => ⟨⟨_, HB11.out⟩, rfl⟩) ?_
          refine ord_op rfl ?_
          have HRb : Hid (RdH W11 (some ad) n r.highs) := (HR.out.below HB9.out).below HB11.out
          refine wpList_append_own _ rfl _ _ 22 rfl W9.heap.size 108 i0 (.agg #[.int .i64 0, .int .i64 0, .int .i64 0]) 3 24 Try.underlying22 hi hz0' hz1' hz2' rfl (by decide) _ _ _ rfl HO1.out (ad.add ((k + 1) * 3)) (n - (k + 1)) _ ((r.highs.drop (k + 1)).flatMap High.enc) rfl (by rw [flat_len high_len, List.length_drop]; omega) (news_drop high_len HRb.out (k + 1)) (enc_one high_one _) (by unfold maxLen; omega) (by omega) HB11.out.size ?_
          intro v2 W12 hown2 hgrow2 _
          have HB12 : Hid (Below W9.heap.size W9 W12) := HB11.out.grown hgrow2 HB11.out.size (fun j e => (HO1.out.lt j e).1)
          have HO2 : Hid (W12.ownsRow W9.heap.size 108 3 v2 (n - 1) (((r.less k).highs).flatMap High.enc)) := by
            have e : 0 + k + (n - (k + 1)) = n - 1 := by omega
            rw [e, List.nil_append, flat_app, erase_eq] at hown2
            exact hown2
          have hll : (r.less k).highs.length = n - 1 := by unfold Rec.less; dsimp only; rw [List.length_eraseIdx, if_pos (by omega)]; omega
          obtain ⟨A2, c2, hv2, _, _, _⟩ := rd_of_own high_len HO2.out hll
          subst hv2
          clear hgrow2 hown2 HO1 HO0 HRaa HRb
          go_wp2
          refine mix_post (fun h => absurd h (by decide)) ?_
          refine ord_op rfl ?_
          go_wp2
          refine mix_post (fun h => absurd h (by decide)) ?_
          have NU2 := NU.out.later HB12.out
          have v20 := NU2.cell (i := 2) rfl
          have v21 := NU2.frozen 2
          have HNU := Lib.hid NU2
          clear NU2
          refine ord_op rfl ?_
          go_wp2
          refine mix_post (fun h => absurd h (by decide)) ?_
          refine ord_nil (NoPanic.normal ?_)
          have HO3 : Hid ((W12.setCell ⟨W7.heap.size, 2, none⟩ (.slice A2 (n - 1) c2)).ownsRow W9.heap.size 108 3 (.slice A2 (n - 1) c2) (n - 1) (((r.less k).highs).flatMap High.enc)) := own_low HO2.out (p := ⟨W7.heap.size, 2, none⟩) NU.out.lt _
          have HU3 := Lib.hid (HNU.out.set 2 (.slice A2 (n - 1) c2))
          have hb3 : Below w.heap.size w (W12.setCell ⟨W7.heap.size, 2, none⟩ (.slice A2 (n - 1) c2)) := (HB9.out.trans (HB12.out.mono HB9.out.size)).setCell (p := ⟨W7.heap.size, 2, none⟩) (by have := HBU0.out; dsimp only; omega) _
          have HB13 := Lib.hid hb3
          have N13 := Lib.hid ((N1.out.later HB12.out).far (p := ⟨W7.heap.size, 2, none⟩) (by have := N1.out.lt; have := HBU0.out; dsimp only; omega) (.slice A2 (n - 1) c2))
          have P13 := Lib.hid ((N2.out.later HB12.out).far (p := ⟨W7.heap.size, 2, none⟩) (by have := N2.out.lt; have := HBU0.out; dsimp only; omega) (.slice A2 (n - 1) c2))
          have A13 := Lib.hid ((NA.out.later HB12.out).far (p := ⟨W7.heap.size, 2, none⟩) (by have := NA.out.lt; have := HBU1.out; dsimp only; omega) (.slice A2 (n - 1) c2))
          have B13 := Lib.hid ((NB.out.later HB12.out).far (p := ⟨W7.heap.size, 2, none⟩) (by have := HBU2.out; dsimp only; omega) (.slice A2 (n - 1) c2))
          clear v20 v21 hb3 HO2 HNU N1 N2 NA NB NU
          generalize W12.setCell ⟨W7.heap.size, 2, none⟩ (.slice A2 (n - 1) c2) = W13 at *
          have j0 := HU3.out.cell (i := 0) rfl
          have j1 := HU3.out.cell (i := 1) rfl
          have j2 := HU3.out.cell (i := 2) rfl
          have p0 := P13.out.cell (i := 0) rfl
          have p1 := P13.out.cell (i := 1) rfl
          have p2 := P13.out.cell (i := 2) rfl
          have hz1 := HU3.out.lt
          have hz2 := P13.out.lt
          obtain ⟨A3, c3, hv3, hrd3, _, _⟩ := rd_of_own high_len HO3.out hll
          injection hv3 with ha3 _ hc3
          subst ha3 hc3
          have HRu : Hid (Calls Try.prog 27 #[.agg #[.int .i64 r.first, .int .i64 r.years, .slice A2 (n - 1) c2], .int .i64 d, .int .i64 m, .int .i64 lvl] W13 fun e w' => e = .returned (.tuple #[.agg #[.int .i64 (riskF (r.less k) d m lvl).1, .int .i64 (riskF (r.less k) d m lvl).2], .int .i64 0]) ∧ Below W13.heap.size W13 w') := by
            have h := Risk_any (r.less k) d m lvl A2 (n - 1) c2 W13 hrd3
            rw [riskTop_ok (HA.out.less k) d0 d1 m0 m1 l0 l1] at h
            exact h
          have HLs := Lib.hid (riskF_less (r := r) (d := d) (n := m) (lvl := lvl) k)
          rw [HRa'.out] at HLs
          clear hrd3 HO3
          generalize riskF (r.less k) d m lvl = Ru at *
          obtain ⟨z1, z2⟩ := Ru
          have e3 : decide (z1 ≤ a1) = true := by have := HLs.out.1; dsimp only at this; simpa using this
          have e4 : (z2 == a2) = true := by have := HLs.out.2; dsimp only at this; simpa using this
          clear HLs
          go_wp2_with fail
          refine HRu.out.mono ?_
          rintro e W14 ⟨rfl, hb14⟩
          dsimp only
          have HB14 : Hid (Below w.heap.size w W14) := HB13.out.trans (hb14.mono HB13.out.size)
          have A14 := A13.out.later hb14
          have B14 := B13.out.later hb14
          clear hb14 j0 j1 j2 p0 p1 p2 hz1 hz2
          have f0 := B14.cell (i := 0) rfl
          have f1 := B14.cell (i := 1) rfl
          have f2 := B14.frozen 0
          have f3 := B14.frozen 1
          have f4 := A14.cell (i := 0) rfl
          have f5 := A14.cell (i := 1) rfl
          have hz3 := B14.lt
          have hz4 := A14.lt
          have hz5 := HAB.out
          clear A14 B14
          go_wp2_with fail
          refine (Awake_any _).mono ?_
          rintro e W15 ⟨rfl, hb15⟩
          have h15 : Below w.heap.size w ((W14.setCell ⟨W4.heap.size, 0, none⟩ (.int .i64 z1)).setCell ⟨W4.heap.size, 1, none⟩ (.int .i64 z2)) := (HB14.out.setCell (p := ⟨W4.heap.size, 0, none⟩) (by have := HBU3.out; dsimp only; omega) _).setCell (p := ⟨W4.heap.size, 1, none⟩) (by have := HBU3.out; dsimp only; omega) _
          have HB15 := Lib.hid (h15.trans (hb15.mono h15.size))
          clear hb15 h15
          go_wp2_with fail
          go_ret
          exact ⟨rfl, HB15.out⟩

theorem UpkeepLess_any (r : Rec) (d m lvl : Int) (Y : Value) (x0 x1 x2 x3 : Int) (A : Option Addr) (n c : Nat) (w : World) (hr : RdH w A n r.highs) (hnc : n ≤ c) (u0 : 0 ≤ x0 ∧ x0 ≤ 65535) (u1 : 0 ≤ x1 ∧ x1 ≤ 65535) (u2 : 0 ≤ x2 ∧ x2 ≤ 65535) (u3 : 0 ≤ x3 ∧ x3 ≤ 65535) :
    Calls Try.prog 6 #[.agg #[.int .i64 r.first, .int .i64 r.years, .slice A n c], .agg #[.int .i64 d, .int .i64 m, .int .i64 lvl, Y], .agg #[.int .u16 x0, .int .u16 x1, .int .u16 x2, .int .u16 x3]] w fun e w' => e = .returned (.bool true) ∧ Below w.heap.size w w' := by
  by_cases he : ((riskTop r d m lvl).2 != 0) = true
  · exact UpkeepLess_err r d m lvl Y x0 x1 x2 x3 A n c w hr he
  · have h0 : (riskTop r d m lvl).2 = 0 := by simpa using he
    have hc : (chkRec r).2 = 0 := by
      unfold riskTop at h0
      by_cases h1 : ((chkRec r).2 != 0) = true
      · rw [if_pos h1] at h0; exact h0
      · simpa using h1
    exact UpkeepLess_ok r d m lvl Y x0 x1 x2 x3 A n c w hr hnc (riskOK_of h0) (recAll_of hc) u0 u1 u2 u3
end Go.Proofs.Ytkkajemahehoaaa
