import Derived.Test.YtjdaigffgfnhaaaGreatCk
namespace Go.Proofs.YtjdaigffgfnhaaaGreat
open Go.RowKit

theorem or6_cases {a b c d e f : Bool} (h : (a || b || c || d || e || f) = true) : a = true ∨ (a = false ∧ b = true) ∨ (a = false ∧ b = false ∧ c = true) ∨ (a = false ∧ b = false ∧ c = false ∧ d = true) ∨ (a = false ∧ b = false ∧ c = false ∧ d = false ∧ e = true) ∨ (a = false ∧ b = false ∧ c = false ∧ d = false ∧ e = false ∧ f = true) := by
  cases a <;> cases b <;> cases c <;> cases d <;> cases e <;> cases f <;> simp_all
theorem or4_cases {a b c d : Bool} (h : (a || b || c || d) = true) : a = true ∨ (a = false ∧ b = true) ∨ (a = false ∧ b = false ∧ c = true) ∨ (a = false ∧ b = false ∧ c = false ∧ d = true) := by
  cases a <;> cases b <;> cases c <;> cases d <;> simp_all

abbrev Task.val (t : Task) (A : Option Addr) (n c : Nat) (A' : Option Addr) (n' c' : Nat) : Array Value := #[.int .i64 t.rd.first, .int .i64 t.rd.years, .slice A n c, .slice A' n' c', .int .i64 t.gap, .int .i64 t.width, .int .i64 t.day.1, .int .i64 t.day.2, .int .i64 t.plan.1, .int .i64 t.plan.2]

set_option maxRecDepth 100000 in
set_option maxHeartbeats 4000000 in
theorem check_any (t : Task) (A : Option Addr) (n c : Nat) (A' : Option Addr) (n' c' : Nat) (w : World) (hr : RdH w A n t.rd.highs) (hr' : RdW w A' n' t.works) (hc' : n' ≤ c') (hnm : ∀ (i : Nat) (v : Work), t.works[i]? = some v → v.name.size ≤ 9223372036854775807) :
    Calls Tryz.prog 67 #[.agg (t.val A n c A' n' c')] w fun e w' => e = .returned (.tuple #[.int .i64 (chkTask t).1, .int .i64 (chkTask t).2.1, .int .i64 (chkTask t).2.2]) ∧ Below w.heap.size w w' := by
  generalize hX : chkTask t = X
  have HX := Lib.hid hX; clear hX
  have HR := Lib.hid hr; clear hr
  have HR' := Lib.hid hr'; clear hr'
  have HNM := Lib.hid hnm; clear hnm
  obtain ⟨rd, works, gap, width, ⟨dy, dof⟩, ⟨py, pof⟩⟩ := t
  dsimp only [Task.val] at *
  go_enter Tryz.func67, Tryz.ntmps67
  go_wp2_with fail
  obtain ⟨W1, hW1⟩ : ∃ W1, (w.alloc (Obj.cells #[Value.int IntKind.i64 rd.first, Value.int IntKind.i64 rd.years, Value.slice A n c, Value.slice A' n' c', Value.int IntKind.i64 gap, Value.int IntKind.i64 width, Value.int IntKind.i64 dy, Value.int IntKind.i64 dof, Value.int IntKind.i64 py, Value.int IntKind.i64 pof] 73)) = W1 := ⟨_, rfl⟩
  have hB1 : Below w.heap.size w W1 := by rw [← hW1]; exact (Below.refl _ w).alloc (Nat.le_refl _) _
  have k0 : Blk W1 w.heap.size 73 #[Value.int IntKind.i64 rd.first, Value.int IntKind.i64 rd.years, Value.slice A n c, Value.slice A' n' c', Value.int IntKind.i64 gap, Value.int IntKind.i64 width, Value.int IntKind.i64 dy, Value.int IntKind.i64 dof, Value.int IntKind.i64 py, Value.int IntKind.i64 pof] := by rw [← hW1]; exact Blk.new _ _ _ rfl
  rw [hW1]
  clear hW1
  refine (checkRecord_rec rd _ _ _ _ (HR.out.below hB1)).mono ?_
  rintro e W2 ⟨rfl, hb2⟩
  have K2 := Lib.hid (k0.later hb2)
  have HB2 : Hid (Below w.heap.size w W2) := hB1.trans (hb2.mono hB1.size)
  clear k0 hB1 hb2
  have q3 := K2.out.cell (i := 3) rfl
  by_cases he : ((chkRec rd).2 != 0) = true
  · have HT : Hid (((1 : Int), (chkRec rd).1, (chkRec rd).2) = X) := by have := HX.out; unfold chkTask at this; dsimp only at this; rw [if_pos he] at this; exact this
    generalize (chkRec rd).1 = a at *
    generalize (chkRec rd).2 = b at *
    go_wp2
    go_ret3
    exact ⟨by rw [← HT.out]; rfl, HB2.out⟩
  · have he' : ((chkRec rd).2 != 0) = false := by simpa using he
    have hlen := HR'.out.1
    by_cases h4 : 4 < n'
    · have HT : Hid (((2 : Int), (0 : Int), (3 : Int)) = X) := by have := HX.out; unfold chkTask at this; dsimp only at this; rw [if_neg he, hlen, if_pos h4] at this; exact this
      generalize (chkRec rd).1 = a at *
      generalize (chkRec rd).2 = b at *
      clear hlen he
      have h4' : decide ((4 : Int) < (n' : Int)) = true := by simp; omega
      go_wp2
      go_ret3
      exact ⟨by rw [← HT.out]; rfl, HB2.out⟩
    · have HT : Hid ((if (firstErr (wErr works) 0 (n' - 0)).2 = 0 then chkTail ⟨rd, works, gap, width, (dy, dof), (py, pof)⟩ else (2, (firstErr (wErr works) 0 (n' - 0)).1, (firstErr (wErr works) 0 (n' - 0)).2)) = X) := by have := HX.out; unfold chkTask at this; dsimp only at this; rw [if_neg he, hlen, if_neg h4] at this; exact this
      generalize (chkRec rd).1 = a at *
      generalize (chkRec rd).2 = b at *
      clear hlen he
      have h4' : decide ((4 : Int) < (n' : Int)) = false := by simp; omega
      generalize hY : firstErr (wErr works) 0 (n' - 0) = Y at *
      have HY := Lib.hid hY; clear hY
      go_wp2
      go_loopw [24] (fun i wr => ∃ k : Nat, k ≤ n' ∧ i = .int .i64 k ∧ Below W2.heap.size W2 wr ∧ firstErr (wErr works) k (n' - k) = Y) (fun i _ => n' - (intOf i).toNat)
      case atStart => exact ⟨0, Nat.zero_le _, rfl, Below.refl _ _, HY.out⟩
      case round =>
        obtain ⟨k, hk, rfl, hB, hE⟩ := hrel
        have HE := Lib.hid hE; clear hE
        have HB := Lib.hid hB; clear hB
        have KR := Lib.hid (K2.out.later HB.out)
        have HBW : Hid (Below w.heap.size w wr) := HB2.out.trans (HB.out.mono HB2.out.size)
        clear q3
        have q3 := KR.out.cell (i := 3) rfl
        have hszw : w.heap.size < wr.heap.size := KR.out.lt
        by_cases hlt : k < n'
        · obtain ⟨v, ad, hv, rfl, ha⟩ := (HR'.out.below HBW.out).get hlt
          have HRW : Hid (RdW wr (some ad) n' works) := HR'.out.below HBW.out
          obtain ⟨c0, c1, c2, c3, c4, c5, c6⟩ := ha.seven
          have hs : wErr works k = vErr works k v := by unfold wErr; rw [hv]
          have HS := Lib.hid hs
          have hnv := HNM.out k v hv
          clear hs hv ha
          -- what an error at this work comes to
          have hfin : ∀ q : Int, vErr works k v = q → q ≠ 0 → ((2 : Int), (k : Int), q) = X := fun q hq hne => by
            have h1 := firstErr_not hlt (show wErr works k ≠ 0 by rw [HS.out, hq]; exact hne)
            rw [HS.out, hq] at h1
            have h2 := h1.symm.trans HE.out
            have h3 := HT.out
            rw [← h2] at h3
            dsimp only at h3
            rw [if_neg hne] at h3
            exact h3
          have HFIN := Lib.hid hfin; clear hfin
          go_wp2_with fail
          refine (name_any _ _ hnv).mono ?_
          rintro e w' ⟨rfl, rfl⟩
          obtain ⟨W3, hW3⟩ : ∃ W3, wr.alloc (Obj.cells #[Value.string v.name, Value.int IntKind.i64 v.gate, Value.int IntKind.i64 v.days, Value.int IntKind.i64 v.frm, Value.int IntKind.i64 v.til, Value.int IntKind.i64 v.step, Value.int IntKind.i64 v.level] 128) = W3 := ⟨_, rfl⟩
          have B3 : Blk W3 wr.heap.size 128 #[Value.string v.name, Value.int IntKind.i64 v.gate, Value.int IntKind.i64 v.days, Value.int IntKind.i64 v.frm, Value.int IntKind.i64 v.til, Value.int IntKind.i64 v.step, Value.int IntKind.i64 v.level] := by rw [← hW3]; exact Blk.new _ _ _ rfl
          have HB3 : Hid (Below wr.heap.size wr W3) := by rw [← hW3]; exact (Below.refl _ _).alloc (Nat.le_refl _) _
          have q3' := cell_below HB3.out q3
          rw [hW3]
          clear hW3 c0 c1 c2 c3 c4 c5 c6 q3
          have HBW3 : Hid (Below w.heap.size w W3) := HBW.out.trans (HB3.out.mono HBW.out.size)
          have BB3 := Lib.hid B3; clear B3
          by_cases g1 : nameB v.name = false
          · have F := Lib.hid (HFIN.out 6 (by unfold vErr; rw [if_pos g1]) (by decide))
            go_wp2
            go_ret3
            exact ⟨by rw [← F.out]; rfl, HBW3.out⟩
          · have g1' : nameB v.name = true := by simpa using g1
            have hcw := containsWork_any (works.take k) (some ad) k c' wr.heap.size v.name W3 ((HRW.out.below HB3.out).take (by omega)) (by omega) (BB3.out.cell (i := 0) rfl)
            rw [anyB_take] at hcw
            have HCW := Lib.hid hcw; clear hcw
            go_wp2_with fail
            refine HCW.out.mono ?_
            rintro e W4 ⟨rfl, hb4⟩
            have B4 := BB3.out.later hb4
            have d1 := B4.cell (i := 1) rfl
            have d2 := B4.cell (i := 2) rfl
            have d3 := B4.cell (i := 3) rfl
            have d4 := B4.cell (i := 4) rfl
            have d5 := B4.cell (i := 5) rfl
            have d6 := B4.cell (i := 6) rfl
            have HBW4 : Hid (Below w.heap.size w W4) := HBW3.out.trans (hb4.mono HBW3.out.size)
            have HB4 : Hid (Below W2.heap.size W2 W4) := HB.out.trans ((HB3.out.trans (hb4.mono HB3.out.size)).mono HB.out.size)
            clear hb4 B4 q3'
            by_cases g2 : anyB works v.name k = true
            · have F := Lib.hid (HFIN.out 5 (by unfold vErr; rw [if_neg g1, if_pos g2]) (by decide))
              go_wp2
              go_ret3
              exact ⟨by rw [← F.out]; rfl, HBW4.out⟩
            · have g2' : anyB works v.name k = false := by simpa using g2
              by_cases g3 : wOut v = true
              · have F := Lib.hid (HFIN.out 7 (by unfold vErr; rw [if_neg g1, if_neg g2, if_pos g3]) (by decide))
                unfold wOut at g3
                rcases or6_cases g3 with h1 | ⟨h1, h2⟩ | ⟨h1, h2, h3⟩ | ⟨h1, h2, h3, h4⟩ | ⟨h1, h2, h3, h4, h5⟩ | ⟨h1, h2, h3, h4, h5, h6⟩
                all_goals
                  clear g3 g1 g2
                  go_wp2_with (first | (go_at_call 37; refine (out_any _ _ _ _).mono ?_; rintro e w' ⟨rfl, rfl⟩) | (go_at_call 38; refine (late_any _ _).mono ?_; rintro e w' ⟨rfl, rfl⟩) | (go_at_call 11; refine (high_any _ _).mono ?_; rintro e w' ⟨rfl, rfl⟩))
                  go_ret3
                  exact ⟨by rw [← F.out]; rfl, HBW4.out⟩
              · have g3' : wOut v = false := by simpa using g3
                have g4 := g3'
                unfold wOut at g4
                simp only [Bool.or_eq_false_iff] at g4
                obtain ⟨⟨⟨⟨⟨h1, h2⟩, h3⟩, h4⟩, h5⟩, h6⟩ := g4
                obtain ⟨x1, x2⟩ := outB_false h3
                obtain ⟨x3, x4⟩ := outB_false h4
                obtain ⟨x5, x6⟩ := outB_false h5
                by_cases g5 : 40 ≤ (v.til - v.frm) / v.step
                · have F := Lib.hid (HFIN.out 3 (by unfold vErr; rw [if_neg g1, if_neg g2, if_neg g3, if_pos g5]) (by decide))
                  have g5' : decide (40 ≤ (v.til - v.frm) / v.step) = true := by simpa using g5
                  clear g1 g2 g3 g3'
                  go_wp2_with (first | (go_at_call 37; refine (out_any _ _ _ _).mono ?_; rintro e w' ⟨rfl, rfl⟩) | (go_at_call 38; refine (late_any _ _).mono ?_; rintro e w' ⟨rfl, rfl⟩) | (go_at_call 11; refine (high_any _ _).mono ?_; rintro e w' ⟨rfl, rfl⟩))
                  go_ret3
                  exact ⟨by rw [← F.out]; rfl, HBW4.out⟩
                · have hz : wErr works k = 0 := by rw [HS.out]; unfold vErr; rw [if_neg g1, if_neg g2, if_neg g3, if_neg g5]
                  have F := Lib.hid (firstErr_zero hlt hz)
                  have g5' : decide (40 ≤ (v.til - v.frm) / v.step) = false := by simpa using g5
                  clear g1 g2 g3 g3' hz
                  go_wp2_with (first | (go_at_call 37; refine (out_any _ _ _ _).mono ?_; rintro e w' ⟨rfl, rfl⟩) | (go_at_call 38; refine (late_any _ _).mono ?_; rintro e w' ⟨rfl, rfl⟩) | (go_at_call 11; refine (high_any _ _).mono ?_; rintro e w' ⟨rfl, rfl⟩))
                  go_roundw
                  case rel => exact ⟨k + 1, by omega, by go_num, HB4.out, F.out.symm.trans HE.out⟩
                  case measure => simp [intOf]; omega
        · have hy0 : ((0 : Int), (0 : Int)) = Y := (firstErr_end (Nat.le_of_not_lt hlt)).symm.trans HE.out
          have HT2 : Hid (chkTail ⟨rd, works, gap, width, (dy, dof), (py, pof)⟩ = X) := by have := HT.out; rw [← hy0] at this; exact this
          clear hy0
          have q4 := KR.out.cell (i := 4) rfl
          have q5 := KR.out.cell (i := 5) rfl
          have q6 := KR.out.cell (i := 6) rfl
          have q7 := KR.out.cell (i := 7) rfl
          have q8 := KR.out.cell (i := 8) rfl
          have q9 := KR.out.cell (i := 9) rfl
          by_cases g1 : (outB gap 0 365 || outB width 1 365 || wildB (dy, dof) || wildB (py, pof)) = true
          · have F : Hid (((3 : Int), (0 : Int), (7 : Int)) = X) := by have := HT2.out; unfold chkTail at this; dsimp only at this; rw [if_pos g1] at this; exact this
            clear HT2
            rcases or4_cases g1 with h1 | ⟨h1, h2⟩ | ⟨h1, h2, h3⟩ | ⟨h1, h2, h3, h4⟩
            · clear g1
              go_wp2_with (go_at_call 37; refine (out_any _ _ _ _).mono ?_; rintro e w' ⟨rfl, rfl⟩)
              go_ret3
              exact ⟨by rw [← F.out]; rfl, HBW.out⟩
            · clear g1
              go_wp2_with (go_at_call 37; refine (out_any _ _ _ _).mono ?_; rintro e w' ⟨rfl, rfl⟩)
              go_ret3
              exact ⟨by rw [← F.out]; rfl, HBW.out⟩
            · clear g1
              go_wp2_with (go_at_call 37; refine (out_any _ _ _ _).mono ?_; rintro e w' ⟨rfl, rfl⟩)
              refine (wild_any _ _ _).mono ?_
              rintro e W5 ⟨rfl, hb5⟩
              have HB5 : Hid (Below w.heap.size w W5) := HBW.out.trans (hb5.mono HBW.out.size)
              have r8 := cell_below hb5 q8
              have r9 := cell_below hb5 q9
              clear hb5 q4 q5 q6 q7 q8 q9 q3
              go_wp2
              go_ret3
              exact ⟨by rw [← F.out]; rfl, HB5.out⟩
            · clear g1
              go_wp2_with (go_at_call 37; refine (out_any _ _ _ _).mono ?_; rintro e w' ⟨rfl, rfl⟩)
              refine (wild_any _ _ _).mono ?_
              rintro e W5 ⟨rfl, hb5⟩
              have HB5 : Hid (Below w.heap.size w W5) := HBW.out.trans (hb5.mono HBW.out.size)
              have r8 := cell_below hb5 q8
              have r9 := cell_below hb5 q9
              clear hb5 q4 q5 q6 q7 q8 q9 q3
              go_wp2_with fail
              refine (wild_any _ _ _).mono ?_
              rintro e W6 ⟨rfl, hb6⟩
              have HB6 : Hid (Below w.heap.size w W6) := HB5.out.trans (hb6.mono HB5.out.size)
              clear hb6 r8 r9
              go_wp2
              go_ret3
              exact ⟨by rw [← F.out]; rfl, HB6.out⟩
          · have g2 : (outB gap 0 365 || outB width 1 365 || wildB (dy, dof) || wildB (py, pof)) = false := by simpa using g1
            have F : Hid (((0 : Int), (0 : Int), (0 : Int)) = X) := by have := HT2.out; unfold chkTail at this; dsimp only at this; rw [if_neg g1] at this; exact this
            simp only [Bool.or_eq_false_iff] at g2
            obtain ⟨⟨⟨h1, h2⟩, h3⟩, h4⟩ := g2
            clear HT2 g1
            go_wp2_with (go_at_call 37; refine (out_any _ _ _ _).mono ?_; rintro e w' ⟨rfl, rfl⟩)
            refine (wild_any _ _ _).mono ?_
            rintro e W5 ⟨rfl, hb5⟩
            have HB5 : Hid (Below w.heap.size w W5) := HBW.out.trans (hb5.mono HBW.out.size)
            have r8 := cell_below hb5 q8
            have r9 := cell_below hb5 q9
            clear hb5 q4 q5 q6 q7 q8 q9 q3
            go_wp2_with fail
            refine (wild_any _ _ _).mono ?_
            rintro e W6 ⟨rfl, hb6⟩
            have HB6 : Hid (Below w.heap.size w W6) := HB5.out.trans (hb6.mono HB5.out.size)
            clear hb6 r8 r9
            go_wp2
            go_ret3
            exact ⟨by rw [← F.out]; rfl, HB6.out⟩
end Go.Proofs.YtjdaigffgfnhaaaGreat
