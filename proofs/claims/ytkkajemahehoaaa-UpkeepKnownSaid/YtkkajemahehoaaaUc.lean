import Derived.Test.YtkkajemahehoaaaLh
namespace Go.Proofs.Ytkkajemahehoaaa
open Go.RowKit

theorem two (w : World) (a b : Array Value) (ta tb : TypeId) :
    Below w.heap.size w ((w.alloc (.cells a ta)).alloc (.cells b tb)) ∧ Blk ((w.alloc (.cells a ta)).alloc (.cells b tb)) w.heap.size ta a ∧ Blk ((w.alloc (.cells a ta)).alloc (.cells b tb)) (w.heap.size + 1) tb b := by
  have h1 : (w.alloc (.cells a ta)).heap.size = w.heap.size + 1 := by simp
  exact ⟨((Below.refl _ w).alloc (Nat.le_refl _) _).alloc (by omega) _, (Blk.new _ _ _ rfl).alloc _, Blk.new _ _ _ h1.symm⟩

set_option maxRecDepth 100000 in
set_option maxHeartbeats 2000000 in
theorem UpkeepCounts_err (r : Rec) (d m lvl : Int) (Y : Value) (A : Option Addr) (n c : Nat) (w : World) (hr : RdH w A n r.highs) (he : ((riskTop r d m lvl).2 != 0) = true) :
    Calls Try.prog 5 #[.agg #[.int .i64 r.first, .int .i64 r.years, .slice A n c], .agg #[.int .i64 d, .int .i64 m, .int .i64 lvl, Y]] w fun e w' => e = .returned (.bool true) ∧ Below w.heap.size w w' := by
  obtain ⟨b1, b2, b3⟩ := two w #[.int .i64 r.first, .int .i64 r.years, .slice A n c] #[.int .i64 d, .int .i64 m, .int .i64 lvl, Y] 24 43
  have HRk := Lib.hid (Risk_any r d m lvl A n c _ (hr.below b1))
  generalize riskTop r d m lvl = X at *
  obtain ⟨⟨x1, x2⟩, x3⟩ := X
  have he' : (x3 != 0) = true := he
  go_enter Try.func5, Try.ntmps5
  go_wp2_with fail
  refine HRk.out.mono ?_
  rintro e W2 ⟨rfl, hb2⟩
  have HB2 : Hid (Below w.heap.size w W2) := b1.trans (hb2.mono b1.size)
  clear hb2 b1 b2 b3
  go_wp2_with fail
  refine (Awake_any _).mono ?_
  rintro e W3 ⟨rfl, hb3⟩
  have h2 : Below w.heap.size w (W2.alloc (Obj.cells #[.int .i64 x1, .int .i64 x2] 27)) := HB2.out.alloc HB2.out.size _
  have HB3 := Lib.hid (h2.trans (hb3.mono h2.size))
  clear h2 hb3
  go_wp2_with fail
  go_ret
  exact ⟨rfl, HB3.out⟩

/-- How many of the years f .. f + k - 1 have P. -/
def cntB (P : Int → Bool) (f : Int) (k : Nat) : Nat := (yearsL f k P).length
theorem cntB_succ (P : Int → Bool) (f : Int) (k : Nat) : cntB P f (k + 1) = cntB P f k + (if P (f + k) then 1 else 0) := by
  unfold cntB yearsL
  simp only [Int.toNat_natCast]
  rw [List.range_succ, List.map_append, List.filter_append, List.length_append]
  simp only [List.map_cons, List.map_nil, List.filter_cons, List.filter_nil]
  split <;> simp
theorem cntB_le (P : Int → Bool) (f : Int) (k : Nat) : cntB P f k ≤ k := by
  unfold cntB yearsL
  refine Nat.le_trans (List.length_filter_le _ _) (by simp)
structure RiskOK (r : Rec) (d m lvl : Int) : Prop where
  rc : RecOK r
  d0 : 0 ≤ d
  d1 : d ≤ 364
  m0 : 1 ≤ m
  m1 : m ≤ 365
  l0 : -20000 ≤ lvl
  l1 : lvl ≤ 20000
  eq : riskTop r d m lvl = (riskF r d m lvl, 0)
theorem riskOK_of {r : Rec} {d m lvl : Int} (h : (riskTop r d m lvl).2 = 0) : RiskOK r d m lvl := by
  unfold riskTop at h
  by_cases h1 : ((chkRec r).2 != 0) = true
  · rw [if_pos h1] at h
    simp at h1
    exact absurd h h1
  · rw [if_neg h1] at h
    by_cases h2 : (lateB d || outB m 1 365 || highB lvl) = true
    · rw [if_pos h2] at h
      simp at h
    · have e : riskTop r d m lvl = (riskF r d m lvl, 0) := by unfold riskTop; rw [if_neg h1, if_neg h2]
      simp only [Bool.not_eq_true, Bool.or_eq_false_iff] at h2
      have a1 := outB_false h2.1.1
      have a2 := outB_false h2.1.2
      have a3 := outB_false h2.2
      exact ⟨recOK_of (by simpa using h1), a1.1, a1.2, a2.1, a2.2, a3.1, a3.2, e⟩
theorem lawHit_exc {r : Rec} {d m lvl : Int} (h : RiskOK r d m lvl) (y : Int) : r.highs.any (lawHit d m lvl y) = excB r.highs d m lvl y := by
  unfold excB
  rw [Bool.eq_iff_iff, List.any_eq_true, List.any_eq_true]
  have hd : ∀ z ∈ r.highs, lawHit d m lvl y z = (decide (lvl < z.level) && winB d m z y) := fun z hz => by
    obtain ⟨i, hi, rfl⟩ := List.getElem_of_mem hz
    have := h.rc.rows i _ (List.getElem?_eq_getElem hi)
    unfold lawHit
    rw [inB_win h.d0 h.d1 h.m0 h.m1 this.2.2.1 this.2.2.2.1]
  constructor
  · rintro ⟨z, hz, hp⟩; exact ⟨z, hz, by rw [← hd z hz]; exact hp⟩
  · rintro ⟨z, hz, hp⟩; exact ⟨z, hz, by rw [hd z hz]; exact hp⟩

theorem ofF_true (y : Int) : ofF y true = y - 1 := rfl
theorem ofF_false (y : Int) : ofF y false = y := rfl

set_option maxRecDepth 100000 in
set_option maxHeartbeats 4000000 in
theorem UpkeepCounts_ok (r : Rec) (d m lvl : Int) (Y : Value) (A : Option Addr) (n c : Nat) (w : World) (hr : RdH w A n r.highs) (hK : RiskOK r d m lvl) (b : Bool) (hwb : decide (365 < d + m) = b) :
    Calls Try.prog 5 #[.agg #[.int .i64 r.first, .int .i64 r.years, .slice A n c], .agg #[.int .i64 d, .int .i64 m, .int .i64 lvl, Y]] w fun e w' => e = .returned (.bool true) ∧ Below w.heap.size w w' := by
  obtain ⟨b1, b2, b3⟩ := two w #[.int .i64 r.first, .int .i64 r.years, .slice A n c] #[.int .i64 d, .int .i64 m, .int .i64 lvl, Y] 24 43
  have HRk := Lib.hid (Risk_any r d m lvl A n c _ (hr.below b1))
  rw [hK.eq] at HRk
  have hlen : n ≤ 300 := by have := hK.rc.len; have := hr.1; omega
  have HLh : Hid (∀ (y : Int) (W : World), Below w.heap.size w W → 0 ≤ y → y ≤ 100000 → Calls Try.prog 28 #[.agg #[.int .i64 r.first, .int .i64 r.years, .slice A n c], .int .i64 d, .int .i64 m, .int .i64 lvl, .int .i64 y] W fun e w' => e = .returned (.bool (excB r.highs d m lvl y)) ∧ Below W.heap.size W w') := fun y W hW y0 y1 => by
    have := lawHarm_any r.highs r.first r.years d m lvl y A n c W (hr.below hW) (by omega) hK.d0 hK.d1 hK.m0 hK.m1 y0 y1 (fun h hh => by
      obtain ⟨i, hi, rfl⟩ := List.getElem_of_mem hh
      have := hK.rc.rows i _ (List.getElem?_eq_getElem hi)
      exact ⟨this.2.2.1, this.2.2.2.1⟩)
    rw [lawHit_exc hK] at this
    exact this
  obtain ⟨d0, d1, m0, m1⟩ : 0 ≤ d ∧ d ≤ 364 ∧ 1 ≤ m ∧ m ≤ 365 := ⟨hK.d0, hK.d1, hK.m0, hK.m1⟩
  obtain ⟨f0, f1, y0, y1⟩ : 0 ≤ r.first ∧ r.first ≤ 9999 ∧ 2 ≤ r.years ∧ r.years ≤ 200 := ⟨hK.rc.f0, hK.rc.f1, hK.rc.y0, hK.rc.y1⟩
  have HX : Hid (riskF r d m lvl = ((cntB (excB r.highs d m lvl) r.first (ofF r.years b).toNat : Int), ofF r.years b)) := by
    have h1 := ofF_bounds (wrapsB d m) y0 y1
    unfold riskF cntB
    have e : wrapsB d m = b := hwb
    rw [e] at h1 ⊢
    rw [show (((ofF r.years b).toNat : Nat) : Int) = ofF r.years b by omega]
    rfl
  rw [HX.out] at HRk
  clear HX hK hr
  generalize excB r.highs d m lvl = P at *
  have HB1 : Hid (Below w.heap.size w ((w.alloc (.cells #[.int .i64 r.first, .int .i64 r.years, .slice A n c] 24)).alloc (.cells #[.int .i64 d, .int .i64 m, .int .i64 lvl, Y] 43))) := b1
  have K2 := Lib.hid b2; have K3 := Lib.hid b3
  clear b1 b2 b3
  have HW : Hid (decide (365 < d + m) = b) := hwb
  clear hwb
  have hob := ofF_bounds b y0 y1
  obtain ⟨o, ho⟩ : ∃ o : Int, ofF r.years b = o := ⟨_, rfl⟩
  rw [ho] at HRk hob
  obtain ⟨K, rfl⟩ : ∃ K : Nat, o = (K : Int) := ⟨o.toNat, by omega⟩
  obtain ⟨C, hC⟩ : ∃ C : Int, ((cntB P r.first K : Nat) : Int) = C := ⟨_, rfl⟩
  rw [show ((K : Int).toNat) = K from rfl, hC] at HRk
  have HC := Lib.hid hC
  clear hC
  cases b
  all_goals
    first | rw [ofF_true] at ho | rw [ofF_false] at ho
    have hk1 := Int.le_of_eq ho
    have hk2 := Int.le_of_eq ho.symm
    have HO := Lib.hid ho
    clear ho
    have hwc := HW.out
    have hyr : decide (200 < r.years) = false := by simpa using y1
    go_enter Try.func5, Try.ntmps5
    go_wp2_with fail
    refine HRk.out.mono ?_
    rintro e W2 ⟨rfl, hb2⟩
    have J2 := K2.out.later hb2
    have J3 := K3.out.later hb2
    have HB2 : Hid (Below w.heap.size w W2) := HB1.out.trans (hb2.mono HB1.out.size)
    clear hb2
    have r0 := J2.cell (i := 0) rfl
    have r1 := J2.cell (i := 1) rfl
    have r2 := J2.cell (i := 2) rfl
    have s0 := J3.cell (i := 0) rfl
    have s1 := J3.cell (i := 1) rfl
    have s2 := J3.cell (i := 2) rfl
    have hsz2 := J2.lt
    have hsz3 := J3.lt
    have N2 := Lib.hid J2; have N3 := Lib.hid J3
    clear J2 J3
    go_wp2_with fail
    clear r0 r1 r2 s0 s1 s2
    obtain ⟨W3, hW3⟩ : ∃ W3, W2.alloc (Obj.cells #[.int .i64 C, .int .i64 (K : Int)] 27) = W3 := ⟨_, rfl⟩
    rw [hW3]
    have P2 : Hid (Blk W3 w.heap.size 24 #[.int .i64 r.first, .int .i64 r.years, .slice A n c]) := by rw [← hW3]; exact N2.out.alloc _
    have P3 : Hid (Blk W3 (w.heap.size + 1) 43 #[.int .i64 d, .int .i64 m, .int .i64 lvl, Y]) := by rw [← hW3]; exact N3.out.alloc _
    have P4 : Hid (Blk W3 W2.heap.size 27 #[.int .i64 C, .int .i64 (K : Int)]) := by rw [← hW3]; exact Blk.new _ _ _ rfl
    have HB3 : Hid (Below w.heap.size w W3) := by rw [← hW3]; exact HB2.out.alloc HB2.out.size _
    clear hW3 N2 N3
    go_loopw [8, 9] (fun x y wr => ∃ k : Nat, k ≤ K ∧ x = .int .i64 (cntB P r.first k : Nat) ∧ y = .int .i64 (r.first + k) ∧ Below W3.heap.size W3 wr) (fun _ y _ => (r.first + K - intOf y).toNat)
    case atStart => exact ⟨0, Nat.zero_le _, rfl, by simp, Below.refl _ _⟩
    case round =>
      obtain ⟨k, hk, rfl, rfl, hB⟩ := hrel
      have hcl := cntB_le P r.first k
      have HB := Lib.hid hB; clear hB
      have HBw : Hid (Below w.heap.size w wr) := HB3.out.trans (HB.out.mono HB3.out.size)
      have Q2 := P2.out.later HB.out
      have Q3 := P3.out.later HB.out
      have r0 := Q2.cell (i := 0) rfl
      have r1 := Q2.cell (i := 1) rfl
      have r2 := Q2.cell (i := 2) rfl
      have s0 := Q3.cell (i := 0) rfl
      have s1 := Q3.cell (i := 1) rfl
      have s2 := Q3.cell (i := 2) rfl
      have hq2 := Q2.lt
      have hq3 := Q3.lt
      clear Q2 Q3
      by_cases hlt : k < K
      · have HS := Lib.hid (cntB_succ P r.first k)
        go_wp2_with fail
        refine (HLh.out _ _ HBw.out (by omega) (by omega)).mono ?_
        rintro e W5 ⟨rfl, hb5⟩
        have HB5 : Hid (Below W3.heap.size W3 W5) := HB.out.trans (hb5.mono HB.out.size)
        clear hb5
        cases hP : P (r.first + k)
        · have HS2 : Hid (cntB P r.first (k + 1) = cntB P r.first k) := by rw [HS.out, hP]; rfl
          clear hP HS
          go_wp2_with fail
          go_roundw
          case rel => exact ⟨k + 1, by omega, by rw [HS2.out], by go_num, HB5.out⟩
          case measure => simp [intOf]; omega
        · have HS2 : Hid (cntB P r.first (k + 1) = cntB P r.first k + 1) := by rw [HS.out, hP]; rfl
          clear hP HS
          go_wp2_with fail
          go_roundw
          case rel => exact ⟨k + 1, by omega, by rw [HS2.out]; go_num, by go_num, HB5.out⟩
          case measure => simp [intOf]; omega
      · obtain rfl : k = K := by omega
        have Q4 := P4.out.later HB.out
        have t0 := Q4.cell (i := 0) rfl
        have t1 := Q4.cell (i := 1) rfl
        have hq4 := Q4.lt
        clear Q4
        have hC2 := HC.out
        have hKe : ((k : Int) == _) = true := beq_iff_eq.2 HO.out.symm
        go_wp2_with fail
        refine (Awake_any _).mono ?_
        rintro e W6 ⟨rfl, hb6⟩
        have HB6 := Lib.hid (HBw.out.trans (hb6.mono HBw.out.size))
        clear hb6
        go_wp2_with fail
        go_ret
        exact ⟨rfl, HB6.out⟩

/-- UpkeepCounts returns true. -/
theorem UpkeepCounts_any (r : Rec) (d m lvl : Int) (Y : Value) (A : Option Addr) (n c : Nat) (w : World) (hr : RdH w A n r.highs) :
    Calls Try.prog 5 #[.agg #[.int .i64 r.first, .int .i64 r.years, .slice A n c], .agg #[.int .i64 d, .int .i64 m, .int .i64 lvl, Y]] w fun e w' => e = .returned (.bool true) ∧ Below w.heap.size w w' := by
  by_cases he : ((riskTop r d m lvl).2 != 0) = true
  · exact UpkeepCounts_err r d m lvl Y A n c w hr he
  · exact UpkeepCounts_ok r d m lvl Y A n c w hr (riskOK_of (by simpa using he)) _ rfl
end Go.Proofs.Ytkkajemahehoaaa
