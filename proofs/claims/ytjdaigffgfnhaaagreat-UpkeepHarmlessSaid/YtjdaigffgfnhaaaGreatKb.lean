/- The walk of the basin's Check. -/
import Derived.Test.YtjdaigffgfnhaaaGreatKs
import Derived.Test.YtjdaigffgfnhaaaGreatCk
namespace Go.Proofs.YtjdaigffgfnhaaaGreat
open Go.RowKit

/-- What Check returns: some part and index, and the error. -/
def BPost (X : Int) (w : World) (e : Ending) (w' : World) : Prop := (∃ a b : Int, e = .returned (.tuple #[.int .i64 a, .int .i64 b, .int .i64 X])) ∧ Below w.heap.size w w'
theorem BPost.mk' {X a b q : Int} {w w' : World} (h : q = X) (hb : Below w.heap.size w w') : BPost X w (.returned (.tuple #[.int .i64 a, .int .i64 b, .int .i64 q])) w' := ⟨⟨a, b, by rw [h]⟩, hb⟩

theorem or2_cases {a b : Bool} (h : (a || b) = true) : a = true ∨ (a = false ∧ b = true) := by
  cases a <;> cases b <;> simp_all

/-- A name is put into the set, for the walk. -/
theorem wpList_names {w : World} {ops : Array Oper} {rest : List Oper} {o : Oper} {a : Act} {Q : Exit → Act → World → Prop} {B k : Nat} {S : List UInt8 → Bool} {s : ByteArray}
    (hg : o.guard = none) (m x v : Operand) (hop : o.op = Op.mapUpdate 129 m x v) (hm : a.eval m = .map (some B)) (hx : a.eval x = .string s) (hv : a.eval v = .bool true)
    (h : Nset w B k S) (hk : k < 1000) (hs : s.size ≤ maxLen)
    (hK : ∀ w', Nset w' B (k + 1) (fun x => S x || x == s.data.toList) → w.grownBy w' (some B) → wpList Tryz.prog ops Q rest (a.put o.dst undef) w') :
    wpList Tryz.prog ops Q (o :: rest) a w := by
  refine wpList_plain hg fun K' hK' => ?_
  obtain ⟨w', hrun, r1, r2⟩ := h.put hk hs
  unfold Oper.wp
  simp [execOp, hop, hm, hx, hv, hrun, Result.andThen]
  exact hK' _ _ (hK w' r1 r2)

theorem bout_is {n lo hi : Int} {b : Bool} (h : outB n lo hi = b) (w : World) :
    Calls Tryz.prog 54 #[.int .i64 n, .int .i64 lo, .int .i64 hi] w fun e w' => e = .returned (.bool b) ∧ w = w' := by
  rw [← h]; exact bout_any n lo hi w
theorem add_zero' (a : Addr) : a.add 0 = a := by unfold Addr.add; simp
theorem row_bounds {rows : List (Int × Int)} {j : Nat} {x : Int × Int} (h : rowErr rows j = 0) (hx : rows[j]? = some x) : -20000 ≤ x.1 ∧ x.1 ≤ 20000 ∧ 0 ≤ x.2 ∧ x.2 ≤ 1000000000 := by
  unfold rowErr at h
  rw [hx] at h
  dsimp only at h
  by_cases g : (lvlB x.1 || outB x.2 0 1000000000) = true
  · rw [if_pos g] at h; exact absurd h (by decide)
  · have g' : (lvlB x.1 || outB x.2 0 1000000000) = false := by simpa using g
    simp only [Bool.or_eq_false_iff] at g'
    have h1 := outB_false (show outB x.1 (-20000) 20000 = false from g'.1)
    have h2 := outB_false g'.2
    omega
theorem takeM_succ (B : Bas) (k : Nat) (x : Pol) (h : B.pols[k]? = some x) : takeM B (k + 1) = max (takeM B k) x.take := by
  unfold takeM
  rw [List.take_add_one, h]
  simp
def nmS (pols : List Pol) (k : Nat) (x : List UInt8) : Bool := (pols.take k).any fun y => y.nm.data.toList == x
theorem nmS_succ (pols : List Pol) (k : Nat) (p : Pol) (h : pols[k]? = some p) : nmS pols (k + 1) = fun x => nmS pols k x || x == p.nm.data.toList := by
  funext x
  unfold nmS
  rw [List.take_add_one, h]
  simp [Bool.beq_comm]

set_option maxRecDepth 100000 in
set_option maxHeartbeats 4000000 in
theorem bcheck_any (B : Bas) (A : Option Addr) (n c : Nat) (A' : Option Addr) (n' c' : Nat) (w : World) (hr : RdR w A n B.rows) (hp : RdP w A' n' B.pols) (hc : n ≤ c) (hnm : ∀ (i : Nat) (v : Pol), B.pols[i]? = some v → v.nm.size ≤ 9223372036854775807) :
    Calls Tryz.prog 18 #[.agg #[.slice A n c, .int .i64 B.leak, .int .i64 B.crest, .int .i64 B.over, .slice A' n' c']] w (BPost (basErr B) w) := by
  generalize hX : basErr B = X
  have HX := Lib.hid hX; clear hX
  have HR := Lib.hid hr; clear hr
  have HP := Lib.hid hp; clear hp
  have HNM := Lib.hid hnm; clear hnm
  obtain ⟨rows, leak, crest, over, pols⟩ := B
  dsimp only at *
  have hl1 := HR.out.1
  have hl2 := HP.out.1
  by_cases g1 : outB n 2 12 = true
  · have HT : Hid ((3 : Int) = X) := by have := HX.out; unfold basErr at this; dsimp only at this; rw [hl1, if_pos g1] at this; exact this
    clear hl1 hl2
    go_enter Tryz.func18, Tryz.ntmps18
    go_wp2_with (first | (go_at_call 54; refine (bout_any _ _ _ _).mono ?_; rintro e w' ⟨rfl, rfl⟩))
    go_ret3
    exact BPost.mk' HT.out ((Below.refl _ _).alloc (Nat.le_refl _) _)
  have g1' : outB n 2 12 = false := by simpa using g1
  obtain ⟨n0, n1⟩ := outB_false g1'
  have hY : ∃ Y, firstErr (rowErr rows) 0 (n - 0) = Y := ⟨_, rfl⟩
  obtain ⟨Y, hY⟩ := hY
  have HT : Hid ((if Y.2 ≠ 0 then Y.2 else if parErr ⟨rows, leak, crest, over, pols⟩ ≠ 0 then parErr ⟨rows, leak, crest, over, pols⟩
    else if (firstErr (polErr ⟨rows, leak, crest, over, pols⟩) 0 (n' - 0)).2 ≠ 0 then (firstErr (polErr ⟨rows, leak, crest, over, pols⟩) 0 (n' - 0)).2
    else (firstErr (slopeErr ⟨rows, leak, crest, over, pols⟩) 0 (n - 1 - 0)).2) = X) := by
    have := HX.out; unfold basErr at this; dsimp only at this; rw [hl1, hl2, if_neg g1, hY] at this; exact this
  have HY := Lib.hid hY; clear hY HX hl1 hl2 g1
  go_enter Tryz.func18, Tryz.ntmps18
  go_wp2_with fail
  obtain ⟨W1, hW1⟩ : ∃ W1, w.alloc (Obj.cells #[Value.slice A n c, Value.int IntKind.i64 leak, Value.int IntKind.i64 crest, Value.int IntKind.i64 over, Value.slice A' n' c'] 30) = W1 := ⟨_, rfl⟩
  have hB1 : Below w.heap.size w W1 := by rw [← hW1]; exact (Below.refl _ w).alloc (Nat.le_refl _) _
  have k0 : Blk W1 w.heap.size 30 #[Value.slice A n c, Value.int IntKind.i64 leak, Value.int IntKind.i64 crest, Value.int IntKind.i64 over, Value.slice A' n' c'] := by rw [← hW1]; exact Blk.new _ _ _ rfl
  rw [hW1]
  clear hW1
  refine (bout_any _ _ _ _).mono ?_
  rintro e w2 ⟨rfl, rfl⟩
  have q0 := k0.cell (i := 0) rfl
  have K1 := Lib.hid k0; clear k0
  have HB1 := Lib.hid hB1; clear hB1
  go_wp2
  go_loopw [21] (fun i wr => ∃ k : Nat, k ≤ n ∧ i = .int .i64 k ∧ Below W1.heap.size W1 wr ∧ (∀ j, j < k → rowErr rows j = 0) ∧ firstErr (rowErr rows) k (n - k) = Y) (fun i _ => n - (intOf i).toNat)
  case atStart => exact ⟨0, Nat.zero_le _, rfl, Below.refl _ _, fun _ h => by omega, HY.out⟩
  case round =>
    obtain ⟨k, hk, rfl, hB, hZ, hE⟩ := hrel
    have HE := Lib.hid hE; clear hE
    have HZ := Lib.hid hZ; clear hZ
    have HB := Lib.hid hB; clear hB
    have KR := Lib.hid (K1.out.later HB.out)
    have HBW : Hid (Below w.heap.size w wr) := HB1.out.trans (HB.out.mono HB1.out.size)
    clear q0
    have q0 := KR.out.cell (i := 0) rfl
    have hszw : w.heap.size < wr.heap.size := KR.out.lt
    by_cases hlt : k < n
    · obtain ⟨v, ad, hv, rfl, ha⟩ := (HR.out.below HBW.out).get hlt
      obtain ⟨c0, c1⟩ := ha.two
      obtain ⟨v1, v2⟩ := v
      dsimp only at c0 c1
      have HV := Lib.hid hv
      have hs : rowErr rows k = if (lvlB v1 || outB v2 0 1000000000) = true then 7 else if (decide (0 < k) && prevB rows k (v1, v2)) = true then 2 else 0 := by unfold rowErr; rw [hv]
      have HS := Lib.hid hs
      have hfin : ∀ q : Int, rowErr rows k = q → q ≠ 0 → q = X := fun q hq hne => by
        have h1 := firstErr_not hlt (show rowErr rows k ≠ 0 by rw [hq]; exact hne)
        rw [hq] at h1
        have h2 := h1.symm.trans HE.out
        have h3 := HT.out
        rw [← h2] at h3
        dsimp only at h3
        rw [if_pos hne] at h3
        exact h3
      have HFIN := Lib.hid hfin; clear hfin
      clear hs hv ha
      by_cases g2 : (lvlB v1 || outB v2 0 1000000000) = true
      · have F := Lib.hid (HFIN.out 7 (by rw [HS.out, if_pos g2]) (by decide))
        rcases or2_cases g2 with h1 | ⟨h1, h2⟩
        all_goals
          clear g2
          go_wp2_with (first | (go_at_call 54; refine (bout_any _ _ _ _).mono ?_; rintro e w' ⟨rfl, rfl⟩) | (go_at_call 55; refine (lvl_any _ _).mono ?_; rintro e w' ⟨rfl, rfl⟩))
          go_ret3
          exact BPost.mk' F.out (HBW.out.alloc HBW.out.size _)
      · have g2' : (lvlB v1 || outB v2 0 1000000000) = false := by simpa using g2
        have g3 := g2'
        simp only [Bool.or_eq_false_iff] at g3
        obtain ⟨g4, g5⟩ := g3
        by_cases hk0 : 0 < k
        · have hd : decide ((0 : Int) < (k : Int)) = true := by simp; omega
          obtain ⟨p, ad', hp, e', hap⟩ := (HR.out.below HBW.out).get (i := k - 1) (by omega)
          cases e'
          obtain ⟨p0, p1⟩ := hap.two
          obtain ⟨p1', p2'⟩ := p
          dsimp only at p0 p1
          have hpv : prevB rows k (v1, v2) = (decide (v1 ≤ p1') || decide (v2 ≤ p2')) := by unfold prevB; rw [hp]
          have HPV := Lib.hid hpv
          clear hpv hp hap
          have hdk : decide (0 < k) = true := by simp; omega
          by_cases g6 : (decide (v1 ≤ p1') || decide (v2 ≤ p2')) = true
          · have F := Lib.hid (HFIN.out 2 (by rw [HS.out, if_neg g2, HPV.out, hdk, g6]; rfl) (by decide))
            rcases or2_cases g6 with h1 | ⟨h1, h2⟩
            all_goals
              clear g6 g2 hdk
              go_wp2_with (first | (go_at_call 54; refine (bout_any _ _ _ _).mono ?_; rintro e w' ⟨rfl, rfl⟩) | (go_at_call 55; refine (lvl_any _ _).mono ?_; rintro e w' ⟨rfl, rfl⟩))
              obtain ⟨W, hW⟩ : ∃ W, wr.alloc (.cells #[.int .i64 v1, .int .i64 v2] 82) = W := ⟨_, rfl⟩
              have q0' : ∀ u : Later W, u.w.cell? ⟨w.heap.size, 0, none⟩ = some (.slice (some ad) n c) := later_cell (by rw [← hW]; exact cell_alloc q0 _)
              have q3 : ∀ u : Later W, u.w.cell? ⟨wr.heap.size, 0, none⟩ = some (.int .i64 v1) := later_cell (by rw [← hW]; simp)
              have q4 : ∀ u : Later W, u.w.cell? ⟨wr.heap.size, 1, none⟩ = some (.int .i64 v2) := later_cell (by rw [← hW]; simp)
              have r0 := later_cell (by rw [← hW]; exact cell_alloc p0 _ : W.cell? _ = _)
              have r1 := later_cell (by rw [← hW]; exact cell_alloc p1 _ : W.cell? _ = _)
              rw [hW]
              have HG : Hid (Below w.heap.size w W) := by rw [← hW]; exact HBW.out.alloc HBW.out.size _
              have HI : Hid (Below W1.heap.size W1 W) := by rw [← hW]; exact HB.out.alloc HB.out.size _
              clear hW q0 p0 p1 c0 c1
              refine wp_region_later (by kernel_rfl) (by kernel_rfl) ?_
              repeat (first | go_big_quiet_skip | (go_big_quiet_want; go_big_quiet_op; first | go_big_quiet_on | (apply Exists.intro; refine ⟨fun _ => ?_, ?_⟩; (· fail); go_big_quiet_on)))
              refine wpQuiet_nil ?_
              intro _ hw'
              obtain ⟨u, hu⟩ := hw'
              subst hu
              clear q0' q3 q4 r0 r1
              have HU : Hid (Below w.heap.size w u.w) := HG.out.trans (u.h.mono HG.out.size)
              have HJ : Hid (Below W1.heap.size W1 u.w) := HI.out.trans (u.h.mono (by have := HI.out.size; simpa using this))
              go_wp2
              go_ret3
              exact BPost.mk' F.out HU.out
          · have g6' : (decide (v1 ≤ p1') || decide (v2 ≤ p2')) = false := by simpa using g6
            have F := Lib.hid (show rowErr rows k = 0 by rw [HS.out, if_neg g2, HPV.out, hdk, g6']; rfl)
            simp only [Bool.or_eq_false_iff] at g6'
            obtain ⟨h1, h2⟩ := g6'
            clear g6 g2 hdk
            go_wp2_with (first | (go_at_call 54; refine (bout_any _ _ _ _).mono ?_; rintro e w' ⟨rfl, rfl⟩) | (go_at_call 55; refine (lvl_any _ _).mono ?_; rintro e w' ⟨rfl, rfl⟩))
            obtain ⟨W, hW⟩ : ∃ W, wr.alloc (.cells #[.int .i64 v1, .int .i64 v2] 82) = W := ⟨_, rfl⟩
            have q0' : ∀ u : Later W, u.w.cell? ⟨w.heap.size, 0, none⟩ = some (.slice (some ad) n c) := later_cell (by rw [← hW]; exact cell_alloc q0 _)
            have q3 : ∀ u : Later W, u.w.cell? ⟨wr.heap.size, 0, none⟩ = some (.int .i64 v1) := later_cell (by rw [← hW]; simp)
            have q4 : ∀ u : Later W, u.w.cell? ⟨wr.heap.size, 1, none⟩ = some (.int .i64 v2) := later_cell (by rw [← hW]; simp)
            have r0 := later_cell (by rw [← hW]; exact cell_alloc p0 _ : W.cell? _ = _)
            have r1 := later_cell (by rw [← hW]; exact cell_alloc p1 _ : W.cell? _ = _)
            rw [hW]
            have HG : Hid (Below w.heap.size w W) := by rw [← hW]; exact HBW.out.alloc HBW.out.size _
            have HI : Hid (Below W1.heap.size W1 W) := by rw [← hW]; exact HB.out.alloc HB.out.size _
            clear hW q0 p0 p1 c0 c1
            refine wp_region_later (by kernel_rfl) (by kernel_rfl) ?_
            repeat (first | go_big_quiet_skip | (go_big_quiet_want; go_big_quiet_op; first | go_big_quiet_on | (apply Exists.intro; refine ⟨fun _ => ?_, ?_⟩; (· fail); go_big_quiet_on)))
            refine wpQuiet_nil ?_
            intro _ hw'
            obtain ⟨u, hu⟩ := hw'
            subst hu
            clear q0' q3 q4 r0 r1
            have HU : Hid (Below w.heap.size w u.w) := HG.out.trans (u.h.mono HG.out.size)
            have HJ : Hid (Below W1.heap.size W1 u.w) := HI.out.trans (u.h.mono (by have := HI.out.size; simpa using this))
            go_wp2
            go_roundw
            case rel => exact ⟨k + 1, by omega, by go_num, HJ.out, all_succ HZ.out F.out, (firstErr_zero hlt F.out).symm.trans HE.out⟩
            case measure => simp [intOf]; omega
        · have hd : decide ((0 : Int) < (k : Int)) = false := by simp; omega
          have hdk : decide (0 < k) = false := by simp; omega
          have F := Lib.hid (show rowErr rows k = 0 by rw [HS.out, if_neg g2, hdk]; rfl)
          clear g2 hdk
          go_wp2_with (first | (go_at_call 54; refine (bout_any _ _ _ _).mono ?_; rintro e w' ⟨rfl, rfl⟩) | (go_at_call 55; refine (lvl_any _ _).mono ?_; rintro e w' ⟨rfl, rfl⟩))
          go_quiet (fail)
          go_wp2
          go_roundw
          case rel => exact ⟨k + 1, by omega, by go_num, below_drewN' (HB.out.alloc HB.out.size _) _, all_succ HZ.out F.out, (firstErr_zero hlt F.out).symm.trans HE.out⟩
          case measure => simp [intOf]; omega
    · obtain rfl : k = n := by omega
      have hyz : Y = (0, 0) := (HE.out.symm.trans (firstErr_end (Nat.le_refl _)))
      have HT1 : Hid ((if parErr ⟨rows, leak, crest, over, pols⟩ ≠ 0 then parErr ⟨rows, leak, crest, over, pols⟩
        else if (firstErr (polErr ⟨rows, leak, crest, over, pols⟩) 0 (n' - 0)).2 ≠ 0 then (firstErr (polErr ⟨rows, leak, crest, over, pols⟩) 0 (n' - 0)).2
        else (firstErr (slopeErr ⟨rows, leak, crest, over, pols⟩) 0 (k - 1 - 0)).2) = X) := by
        have := HT.out; rw [hyz] at this; dsimp only at this; rw [if_neg (by simp)] at this; exact this
      clear HT HE HY hyz hlt
      have q1 := KR.out.cell (i := 1) rfl
      have q2 := KR.out.cell (i := 2) rfl
      have q3 := KR.out.cell (i := 3) rfl
      have q4 := KR.out.cell (i := 4) rfl
      have hlp := HP.out.1
      by_cases g2 : (outB leak 0 10000 || outB over 0 10000 || lvlB crest) = true
      · have F : Hid ((7 : Int) = X) := by
          have := HT1.out
          have e : parErr ⟨rows, leak, crest, over, pols⟩ = 7 := by unfold parErr; dsimp only; rw [if_pos g2]
          rw [e] at this
          exact this
        clear hlp
        rcases or3_cases g2 with h1 | ⟨h1, h2⟩ | ⟨h1, h2, h3⟩
        all_goals
          clear g2
          go_wp2_with (first | (go_at_call 54; refine (bout_any _ _ _ _).mono ?_; rintro e w' ⟨rfl, rfl⟩) | (go_at_call 55; refine (lvl_any _ _).mono ?_; rintro e w' ⟨rfl, rfl⟩))
          go_ret3
          exact BPost.mk' F.out HBW.out
      have g2' : (outB leak 0 10000 || outB over 0 10000 || lvlB crest) = false := by simpa using g2
      by_cases g3 : 6 < n'
      · have F : Hid ((3 : Int) = X) := by
          have := HT1.out
          have e : parErr ⟨rows, leak, crest, over, pols⟩ = 3 := by unfold parErr; dsimp only; rw [if_neg g2, hlp, if_pos g3]
          rw [e] at this
          exact this
        clear hlp g2
        simp only [Bool.or_eq_false_iff] at g2'
        obtain ⟨⟨h1, h2⟩, h3⟩ := g2'
        have g3' : decide ((6 : Int) < (n' : Int)) = true := by simp; omega
        go_wp2_with (first | (go_at_call 54; refine (bout_any _ _ _ _).mono ?_; rintro e w' ⟨rfl, rfl⟩) | (go_at_call 55; refine (lvl_any _ _).mono ?_; rintro e w' ⟨rfl, rfl⟩))
        go_ret3
        exact BPost.mk' F.out HBW.out
      have HT2 : Hid ((if (firstErr (polErr ⟨rows, leak, crest, over, pols⟩) 0 (n' - 0)).2 ≠ 0 then (firstErr (polErr ⟨rows, leak, crest, over, pols⟩) 0 (n' - 0)).2
        else (firstErr (slopeErr ⟨rows, leak, crest, over, pols⟩) 0 (k - 1 - 0)).2) = X) := by
          have := HT1.out
          have e : parErr ⟨rows, leak, crest, over, pols⟩ = 0 := by unfold parErr; dsimp only; rw [if_neg g2, hlp, if_neg g3]
          rw [e, if_neg (by simp)] at this
          exact this
      have hY2 : ∃ Y2, firstErr (polErr ⟨rows, leak, crest, over, pols⟩) 0 (n' - 0) = Y2 := ⟨_, rfl⟩
      obtain ⟨Y2, hY2⟩ := hY2
      rw [hY2] at HT2
      have hY2' := Lib.hid hY2
      clear hY2 HT1 hlp g2
      simp only [Bool.or_eq_false_iff] at g2'
      obtain ⟨⟨h1, h2⟩, h3⟩ := g2'
      have g3' : decide ((6 : Int) < (n' : Int)) = false := by simp; omega
      obtain ⟨lk0, lk1⟩ := outB_false h1
      have hmm := @run_makeMap Tryz.prog
      go_wp2_with (first | (go_at_call 54; refine (bout_any _ _ _ _).mono ?_; rintro e w' ⟨rfl, rfl⟩) | (go_at_call 55; refine (lvl_any _ _).mono ?_; rintro e w' ⟨rfl, rfl⟩))
      obtain ⟨W2, hW2⟩ : ∃ W2, wr.alloc (Obj.map #[] 0) = W2 := ⟨_, rfl⟩
      have HN2 : Hid (Nset W2 wr.heap.size 0 (nmS pols 0)) := by
        rw [← hW2]
        have := Nset.made wr
        have e : nmS pols 0 = fun _ => false := by funext x; rfl
        rw [e]; exact this
      have HB2 : Hid (Below w.heap.size w W2) := by rw [← hW2]; exact HBW.out.alloc HBW.out.size _
      have K2 : Hid (Blk W2 w.heap.size 30 #[Value.slice A k c, Value.int IntKind.i64 leak, Value.int IntKind.i64 crest, Value.int IntKind.i64 over, Value.slice A' n' c']) := by rw [← hW2]; exact KR.out.alloc _
      have hmb : ∃ mb, wr.heap.size = mb := ⟨_, rfl⟩
      obtain ⟨mb, hmb⟩ := hmb
      have hmb' : w.heap.size < mb := by rw [← hmb]; exact KR.out.lt
      rw [hW2, hmb]
      rw [hmb] at HN2
      obtain ⟨r0, ad0, hr0, rfl, ha0⟩ := HR.out.get (i := 0) (by omega)
      have hrow : row0 ⟨rows, leak, crest, over, pols⟩ = r0.1 := by unfold row0; dsimp only; cases rows with
        | nil => simp at hr0
        | cons a b => simp at hr0; simp [hr0]
      have HROW := Lib.hid hrow
      have HA0 := Lib.hid ha0
      clear hW2 hmb q0 q1 q2 q3 q4 K1 HB1 HBW HB hszw hmm g3' h1 h2 h3 hr0 hrow ha0
      go_loopw [8, 90] (fun g i wr => ∃ m : Nat, m ≤ n' ∧ i = .int .i64 m ∧ (∃ G : Int, g = .int .i64 G ∧ takeM ⟨rows, leak, crest, over, pols⟩ m = G ∧ 0 ≤ G ∧ G ≤ 10000) ∧ W2.grownBy wr (some mb) ∧ Nset wr mb m (nmS pols m) ∧ firstErr (polErr ⟨rows, leak, crest, over, pols⟩) m (n' - m) = Y2) (fun _ i _ => n' - (intOf i).toNat)
      case atStart => exact ⟨0, Nat.zero_le _, rfl, ⟨leak, rfl, rfl, lk0, lk1⟩, grown_refl _ _, HN2.out, hY2'.out⟩
      case round =>
        obtain ⟨m, hm, rfl, ⟨G, rfl, hG, hG0, hG1⟩, hg, hN, hE⟩ := hrel
        have HG := Lib.hid hG; clear hG
        have HE := Lib.hid hE; clear hE
        have HNr := Lib.hid hN; clear hN
        have HGr := Lib.hid hg; clear hg
        have hBv := HB2.out.grown HGr.out HB2.out.size (fun k e => by cases e; omega)
        have HBv : Hid (Below w.heap.size w wr) := hBv
        have KV : Hid (Blk wr w.heap.size 30 #[Value.slice (some ad0) k c, Value.int IntKind.i64 leak, Value.int IntKind.i64 crest, Value.int IntKind.i64 over, Value.slice A' n' c']) := K2.out.grown HGr.out (by intro e; cases e; omega)
        have hszm : mb < wr.heap.size := HNr.out.lt
        have hszv : w.heap.size < wr.heap.size := KV.out.lt
        clear hBv
        by_cases hlt : m < n'
        · obtain ⟨v, ad, hv, rfl, ha⟩ := (HP.out.below HBv.out).get hlt
          obtain ⟨c0, c1, c2, c3⟩ := ha.four
          have hsz := HNM.out m v hv
          have HV := Lib.hid hv
          have htk := takeM_succ ⟨rows, leak, crest, over, pols⟩ m v hv
          have HTK := Lib.hid htk
          have hs : polErr ⟨rows, leak, crest, over, pols⟩ m = if nameB v.nm = false then 6 else if nmS pols m v.nm.data.toList = true then 5 else if (outB v.sill r0.1 20000 || outB v.take 0 10000 || outB v.room 0 1000000000) = true then 7 else 0 := by
            unfold polErr nmS; dsimp only; rw [hv, HROW.out]
          have HS := Lib.hid hs
          have hfin : ∀ q : Int, polErr ⟨rows, leak, crest, over, pols⟩ m = q → q ≠ 0 → q = X := fun q hq hne => by
            have h1 := firstErr_not hlt (show polErr ⟨rows, leak, crest, over, pols⟩ m ≠ 0 by rw [hq]; exact hne)
            rw [hq] at h1
            have h2 := h1.symm.trans HE.out
            have h3 := HT2.out
            rw [← h2] at h3
            dsimp only at h3
            rw [if_pos hne] at h3
            exact h3
          have HFIN := Lib.hid hfin
          clear hfin hs hv ha htk
          go_wp2_with fail
          refine (name_any _ _ hsz).mono ?_
          rintro e w' ⟨rfl, rfl⟩
          obtain ⟨W3, hW3⟩ : ∃ W3, wr.alloc (Obj.cells #[Value.string v.nm, Value.int IntKind.i64 v.sill, Value.int IntKind.i64 v.take, Value.int IntKind.i64 v.room] 85) = W3 := ⟨_, rfl⟩
          have B3 : Hid (Blk W3 wr.heap.size 85 #[Value.string v.nm, Value.int IntKind.i64 v.sill, Value.int IntKind.i64 v.take, Value.int IntKind.i64 v.room]) := by rw [← hW3]; exact Blk.new _ _ _ rfl
          have HB3 : Hid (Below wr.heap.size wr W3) := by rw [← hW3]; exact (Below.refl _ _).alloc (Nat.le_refl _) _
          have K3 : Hid (Blk W3 w.heap.size 30 #[Value.slice (some ad0) k c, Value.int IntKind.i64 leak, Value.int IntKind.i64 crest, Value.int IntKind.i64 over, Value.slice (some ad) n' c']) := KV.out.later HB3.out
          have HN3 : Hid (Nset W3 mb m (nmS pols m)) := HNr.out.later HB3.out
          have HBW3 : Hid (Below w.heap.size w W3) := HBv.out.trans (HB3.out.mono HBv.out.size)
          rw [hW3]
          clear hW3 c0 c1 c2 c3
          by_cases n1 : nameB v.nm = false
          · have F := Lib.hid (HFIN.out 6 (by rw [HS.out, if_pos n1]) (by decide))
            go_wp2
            go_ret3
            exact BPost.mk' F.out HBW3.out
          · have n1' : nameB v.nm = true := by simpa using n1
            have d0 := B3.out.cell (i := 0) rfl
            have hlk := HN3.out.look (s := v.nm) (by unfold maxLen; omega)
            by_cases n2 : nmS pols m v.nm.data.toList = true
            · have F := Lib.hid (HFIN.out 5 (by rw [HS.out, if_neg n1, if_pos n2]) (by decide))
              rw [n2] at hlk
              clear n2
              go_wp2
              go_ret3
              exact BPost.mk' F.out HBW3.out
            · have n2' : nmS pols m v.nm.data.toList = false := by simpa using n2
              rw [n2'] at hlk
              by_cases n3 : (outB v.sill r0.1 20000 || outB v.take 0 10000 || outB v.room 0 1000000000) = true
              · have F := Lib.hid (HFIN.out 7 (by rw [HS.out, if_neg n1, if_neg n2, if_pos n3]) (by decide))
                clear n2 n2'
                rcases or3_cases n3 with h1 | ⟨h1, h2⟩ | ⟨h1, h2, h3⟩
                all_goals
                  clear n3
                  go_wp2
                  have z1 := later_cell (B3.out.cell (i := 1) rfl)
                  have z2 := later_cell (B3.out.cell (i := 2) rfl)
                  have z3 := later_cell (B3.out.cell (i := 3) rfl)
                  have zq := later_cell (K3.out.cell (i := 0) rfl)
                  have zr : ∀ u : Later W3, u.w.cell? ad0 = some (.int .i64 r0.1) := later_cell (cell_below HBW3.out (by have := HA0.out 0 _ rfl; rwa [Nat.zero_mul, add_zero', add_zero'] at this))
                  refine wp_region_later (by kernel_rfl) (by kernel_rfl) ?_
                  repeat (first | go_big_quiet_skip | (go_big_quiet_want; go_big_quiet_op; first | go_big_quiet_on | (apply Exists.intro; refine ⟨fun _ => ?_, ?_⟩; (· (go_at_call 54; first | with_reducible exact later_same (bout_is h1 _) | with_reducible exact later_same (bout_is h2 _) | with_reducible exact later_same (bout_is h3 _))); go_big_quiet_on)))
                  refine wpQuiet_nil ?_
                  intro _ hw'
                  obtain ⟨u, hu⟩ := hw'
                  subst hu
                  clear z1 z2 z3 zq zr d0
                  go_wp2
                  go_ret3
                  exact BPost.mk' F.out (HBW3.out.trans (u.h.mono HBW3.out.size))
              · have n3' : (outB v.sill r0.1 20000 || outB v.take 0 10000 || outB v.room 0 1000000000) = false := by simpa using n3
                have F := Lib.hid (show polErr ⟨rows, leak, crest, over, pols⟩ m = 0 by rw [HS.out, if_neg n1, if_neg n2, if_neg n3])
                clear n2 n2' n3
                simp only [Bool.or_eq_false_iff] at n3'
                obtain ⟨⟨h1, h2⟩, h3⟩ := n3'
                obtain ⟨tk0, tk1⟩ := outB_false h2
                go_wp2
                have z1 := later_cell (B3.out.cell (i := 1) rfl)
                have z2 := later_cell (B3.out.cell (i := 2) rfl)
                have z3 := later_cell (B3.out.cell (i := 3) rfl)
                have zq := later_cell (K3.out.cell (i := 0) rfl)
                have zr : ∀ u : Later W3, u.w.cell? ad0 = some (.int .i64 r0.1) := later_cell (cell_below HBW3.out (by have := HA0.out 0 _ rfl; rwa [Nat.zero_mul, add_zero', add_zero'] at this))
                refine wp_region_later (by kernel_rfl) (by kernel_rfl) ?_
                repeat (first | go_big_quiet_skip | (go_big_quiet_want; go_big_quiet_op; first | go_big_quiet_on | (apply Exists.intro; refine ⟨fun _ => ?_, ?_⟩; (· (go_at_call 54; first | with_reducible exact later_same (bout_is h1 _) | with_reducible exact later_same (bout_is h2 _) | with_reducible exact later_same (bout_is h3 _))); go_big_quiet_on)))
                refine wpQuiet_nil ?_
                intro _ hw'
                obtain ⟨u, hu⟩ := hw'
                subst hu
                clear z1 z2 z3 zq zr d0
                have HB6 := Lib.hid (B3.out.later u.h)
                have y0 := HB6.out.cell (i := 0) rfl
                have HN6 : Hid (Nset u.w mb m (nmS pols m)) := HN3.out.later u.h
                clear hlk
                go_wp2_with (at_mapUpdate; refine wpList_names rfl _ _ _ rfl rfl rfl rfl HN6.out (by omega) (by unfold maxLen; omega) ?_; intro w6 hN6 hG6; have HN7 := Lib.hid hN6; have HG7 := Lib.hid hG6; have HB7 := Lib.hid (HB6.out.grown hG6 (by intro e; cases e; omega)); have y2 := HB7.out.cell (i := 2) rfl; clear hN6 hG6)
                go_roundw
                case rel => exact ⟨m + 1, by omega, by go_num, ⟨max G v.take, rfl, by rw [HTK.out, HG.out], by omega, by omega⟩, grown_tr (grown_tr HGr.out (grown_of_below (HB3.out.trans (u.h.mono HB3.out.size)) none) (by simp)) HG7.out (by intro r e; cases e; exact .inl rfl), by rw [nmS_succ pols m v HV.out]; exact HN7.out, (firstErr_zero hlt F.out).symm.trans HE.out⟩
                case measure => simp [intOf]; omega
        · obtain rfl : m = n' := by omega
          have hyz : Y2 = (0, 0) := (HE.out.symm.trans (firstErr_end (Nat.le_refl _)))
          have hY3 : ∃ Y3, firstErr (slopeErr ⟨rows, leak, crest, over, pols⟩) 0 (k - 1 - 0) = Y3 := ⟨_, rfl⟩
          obtain ⟨Y3, hY3⟩ := hY3
          have HT3 : Hid (Y3.2 = X) := by have := HT2.out; rw [hyz, hY3] at this; dsimp only at this; rw [if_neg (by simp)] at this; exact this
          have HY3 := Lib.hid hY3
          clear hyz hY3 HE HT2 hY2' hlt
          have hlp := HP.out.1
          have hsl : ∀ (j : Nat) (x y : Int × Int), rows[j]? = some x → rows[j + 1]? = some y → slopeErr ⟨rows, leak, crest, over, pols⟩ j = if y.2 - x.2 < G * (y.1 - x.1) then 2 else 0 := fun j x y hx hy => by
            unfold slopeErr; dsimp only; rw [hx, hy, hlp, HG.out]
          have HSL := Lib.hid hsl
          clear hsl hlp
          have q0 := KV.out.cell (i := 0) rfl
          obtain ⟨W4, hW4⟩ : ∃ W4, W4 = wr := ⟨_, rfl⟩
          subst hW4
          clear hszm
          go_wp2
          go_loopw [139] (fun i wq => ∃ j : Nat, j ≤ k - 1 ∧ i = .int .i64 j ∧ Below W4.heap.size W4 wq ∧ firstErr (slopeErr ⟨rows, leak, crest, over, pols⟩) j (k - 1 - j) = Y3) (fun i _ => k - 1 - (intOf i).toNat)
          case atStart => exact ⟨0, Nat.zero_le _, rfl, Below.refl _ _, HY3.out⟩
          case round =>
            obtain ⟨j, hj, rfl, hB, hE⟩ := hrel
            have HE := Lib.hid hE; clear hE
            have HB5 := Lib.hid hB; clear hB
            have KW := Lib.hid (KV.out.later HB5.out)
            have HBW5 : Hid (Below w.heap.size w wr) := HBv.out.trans (HB5.out.mono HBv.out.size)
            clear q0
            have q0 := KW.out.cell (i := 0) rfl
            have hszw : w.heap.size < wr.heap.size := KW.out.lt
            by_cases hlt : j < k - 1
            · obtain ⟨x, bd, hx, e1, hax⟩ := (HR.out.below HBW5.out).get (i := j) (by omega)
              cases e1
              obtain ⟨y, bd2, hy, e2, hay⟩ := (HR.out.below HBW5.out).get (i := j + 1) (by omega)
              cases e2
              obtain ⟨x0, x1, x2, x3⟩ := row_bounds (HZ.out j (by omega)) hx
              obtain ⟨y0, y1, y2, y3⟩ := row_bounds (HZ.out (j + 1) (by omega)) hy
              have hsl := HSL.out j x y hx hy
              have HSJ := Lib.hid hsl
              have eb : (ad0.add ((j + 1) * 2)) = ⟨ad0.block, ad0.off + 2 + j * 2, none⟩ := by
                unfold Addr.add
                rw [if_neg (by omega)]
                congr 1
                omega
              rw [eb] at hay
              obtain ⟨c0, c1⟩ := hax.two
              obtain ⟨d0, d1⟩ := hay.two
              clear hsl hx hy hax hay eb
              obtain ⟨xa, xb⟩ := x
              obtain ⟨ya, yb⟩ := y
              dsimp only at c0 c1 d0 d1 x0 x1 x2 x3 y0 y1 y2 y3
              have e0 := cell_alloc c0 (Obj.cells #[Value.int .i64 ya, Value.int .i64 yb] 82)
              have e1 := cell_alloc c1 (Obj.cells #[Value.int .i64 ya, Value.int .i64 yb] 82)
              clear c0 c1
              have m1 : G * (ya - xa) ≤ G * 40000 := Int.mul_le_mul_of_nonneg_left (by omega) hG0
              have m2 : G * (-40000) ≤ G * (ya - xa) := Int.mul_le_mul_of_nonneg_left (by omega) hG0
              have hm1 : G * (ya - xa) ≤ 400000000 := by omega
              have hm2 : -400000000 ≤ G * (ya - xa) := by omega
              clear m1 m2
              by_cases hg : yb - xb < G * (ya - xa)
              · have F : Hid ((2 : Int) = X) := by
                  have h0 : slopeErr ⟨rows, leak, crest, over, pols⟩ j = 2 := by rw [HSJ.out, if_pos hg]
                  have h1 := firstErr_not hlt (show slopeErr ⟨rows, leak, crest, over, pols⟩ j ≠ 0 by rw [h0]; decide)
                  rw [h0] at h1
                  have h2 := h1.symm.trans HE.out
                  have h3 := HT3.out
                  rw [← h2] at h3
                  exact h3
                go_wp2
                go_ret3
                exact BPost.mk' F.out ((HBW5.out.alloc HBW5.out.size _).alloc (by simp; omega) _)
              · have F := Lib.hid (show slopeErr ⟨rows, leak, crest, over, pols⟩ j = 0 by rw [HSJ.out, if_neg hg])
                go_wp2
                go_roundw
                case rel => exact ⟨j + 1, by omega, by go_num, (HB5.out.alloc HB5.out.size _).alloc (by simp; exact Nat.le_succ_of_le HB5.out.size) _, (firstErr_zero hlt F.out).symm.trans HE.out⟩
                case measure => simp [intOf]; omega
            · have hyz : Y3 = (0, 0) := by
                have := HE.out
                rw [firstErr_end (Nat.le_of_not_lt hlt)] at this
                exact this.symm
              have F : Hid ((0 : Int) = X) := by have := HT3.out; rw [hyz] at this; exact this
              clear hyz
              go_wp2
              go_ret3
              exact BPost.mk' F.out HBW5.out
end Go.Proofs.YtjdaigffgfnhaaaGreat
