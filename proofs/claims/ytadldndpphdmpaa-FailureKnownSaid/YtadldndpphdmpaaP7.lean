/- Run, by the program: the walk of its head. -/
import Derived.Test.YtadldndpphdmpaaP6
import Derived.Test.YtadldndpphdmpaaQP
namespace Go.Proofs.Ytadldndpphdmpaa
open Go.RowKit Go.Shelf

/-- New lists of spans, and an error. -/
def SpsErr (w : World) (X : List (List Sp) × Int) (e : Ending) (w' : World) : Prop :=
  ∃ v ps, e = .returned (.tuple #[v, .int .i64 X.2]) ∧ Rows w' w.heap.size v ps ∧ ps.map (·.1) = X.1 ∧ Below w.heap.size w w'
theorem Rows.lower {w : World} {base base' : Nat} {v : Value} {ps : List SpP} (h : Rows w base v ps) (hb : base' ≤ base) : Rows w base' v ps := ⟨own_lower h.row hb, h.all⟩
theorem three_box (w : World) (cs ds es : Array Value) (t1 t2 t3 : TypeId) : ∀ W, ((w.alloc (.cells cs t1)).alloc (.cells ds t2)).alloc (.cells es t3) = W →
    Below w.heap.size w W ∧ Blk W w.heap.size t1 cs ∧ Blk W (w.heap.size + 1) t2 ds ∧ Blk W (w.heap.size + 1 + 1) t3 es := by
  rintro W rfl
  exact ⟨(((Below.refl _ w).alloc (Nat.le_refl _) _).alloc (by simp) _).alloc (by simp; omega) _, ((Blk.new _ _ _ rfl).alloc _).alloc _, (Blk.new _ _ _ (by simp)).alloc _, Blk.new _ _ _ (by simp)⟩

set_option maxRecDepth 100000 in
set_option maxHeartbeats 8000000 in
theorem Run_any (t : List Nd) (l : List Sp) (N : Int) (A : Option Addr) (n c : Nat) (ms : List NdM) (L : Option Addr) (cl : Nat) (w : World) (hT : TrM w t A n ms) (hc : n ≤ c) (hL : RdS w L l.length l) (hl : l.length ≤ 1000000000000000) :
    Calls Try.prog 36 #[.agg #[.slice A n c], .slice L l.length cl, .int .i64 N] w (SpsErr w (runT t l N)) := by
  obtain ⟨W1, hW1⟩ : ∃ W1, ((w.alloc (.cells #[.slice A n c] 24)).alloc (.cells #[.slice L l.length cl] 56)).alloc (.cells #[.int .i64 N] 3) = W1 := ⟨_, rfl⟩
  obtain ⟨b1, k1, k2, k3⟩ := three_box w _ _ _ _ _ _ W1 hW1
  have HB1 := Lib.hid b1; have K1 := Lib.hid k1; have K2 := Lib.hid k2; have K3 := Lib.hid k3
  have HPl := Lib.hid (plant_any t A n c ms W1 (hT.below b1) hc)
  have HL := Lib.hid hL
  have HW1 := Lib.hid hW1
  have HX : Hid (runT t l N = if (chkT t).2 ≠ 0 then ([], (chkT t).2) else if (decide (30 < (l.length : Int)) || decide (400 < N)) = true then ([], 3) else if N < 0 then ([], 7) else if spErr t l ≠ 0 then ([], spErr t l) else ((List.range t.length).map (spL t (ownR l N)), 0)) := rfl
  have HErr : Hid (∀ x, runT t l N = ([], x) → ∀ w', Below w.heap.size w w' → SpsErr w (runT t l N) (.returned (.tuple #[.slice none 0 0, .int .i64 x])) w') := fun x hx w' hb => by
    rw [hx]; exact ⟨_, [], rfl, Rows.nil _ _, rfl, hb⟩
  have HOkk : Hid (∀ r, runT t l N = (r, 0) → ∀ v ps w', Rows w' w.heap.size v ps → ps.map (·.1) = r → Below w.heap.size w w' → SpsErr w (runT t l N) (.returned (.tuple #[v, .int .i64 0])) w') := fun r hx v ps w' h1 h2 h3 => by
    rw [hx]; exact ⟨v, ps, rfl, h1, h2, h3⟩
  generalize SpsErr w (runT t l N) = PP at *
  generalize runT t l N = X at *
  clear hW1 hT hL b1 k1 k2 k3
  go_enter Try.func36, Try.ntmps36
  go_wp2_with fail
  rw [HW1.out]
  refine HPl.out.mono ?_
  rintro e W2 (⟨h0, rfl, hb⟩ | ⟨h0, T, M, cr, R, rfl, hF, hb, hM, hTb⟩)
  · have HB2 := Lib.hid (HB1.out.trans (hb.mono HB1.out.size))
    have F := Lib.hid (HErr.out _ (by rw [HX.out, if_pos h0]) _ HB2.out)
    have hne : ((chkT t).2 != 0) = true := by simpa using h0
    generalize (chkT t).2 = x at *
    clear h0 hb HPl
    go_wp2_with fail
    first | exact F.out | (go_ret2; exact F.out)
  · have HB2 := Lib.hid (HB1.out.trans (hb.mono HB1.out.size))
    have HX2 : Hid (X = if (decide (30 < (l.length : Int)) || decide (400 < N)) = true then ([], 3) else if N < 0 then ([], 7) else if spErr t l ≠ 0 then ([], spErr t l) else ((List.range t.length).map (spL t (ownR l N)), 0)) := by have := HX.out; rw [if_neg (fun c => c h0)] at this; exact this
    have HF := Lib.hid hF
    have hok := hF.ok
    have HOK := Lib.hid hok
    have hln := hF.tr.len
    have hn40 := hok.l40
    have hn1 := hok.l1
    rw [hln] at hn40 hn1
    have HLn := Lib.hid hln
    have HM : Hid (w.heap.size ≤ M) := by have := HB1.out.size; show _ ≤ _; omega
    have HK1 := Lib.hid (K1.out.later hb); have HK2 := Lib.hid (K2.out.later hb); have HK3 := Lib.hid (K3.out.later hb)
    have q1 := HK2.out.cell (i := 0) rfl
    have z1 := HK2.out.lt
    have q2 := HK3.out.cell (i := 0) rfl
    have z2 := HK3.out.lt
    clear h0 hb HPl hF hok hln hM hTb HX K1 K2 K3 HW1
    cases hb1 : decide (30 < (l.length : Int))
    · have hl30 : l.length ≤ 30 := by simp at hb1; omega
      cases hb2 : decide (400 < N)
      · have hN4 : N ≤ 400 := by simp at hb2; omega
        by_cases hN0 : N < 0
        · have F := Lib.hid (HErr.out 7 (by rw [HX2.out, hb1, hb2, if_neg (by decide), if_pos hN0]) _ HB2.out)
          have hb3 : decide (N < 0) = true := by simpa using hN0
          go_wp2_with fail
          first | exact F.out | (go_ret2; exact F.out)
        · have HX3 : Hid (X = if spErr t l ≠ 0 then ([], spErr t l) else ((List.range t.length).map (spL t (ownR l N)), 0)) := by have := HX2.out; rw [hb1, hb2, if_neg (by decide), if_neg hN0] at this; exact this
          have hb3 : decide (N < 0) = false := by simpa using hN0
          have hN0' : 0 ≤ N := by omega
          clear hN0 HX2
          go_wp2_with fail
          clear hb1 hb2 hb3 q1 q2
          go_loopw [34] (fun i wr => ∃ j : Nat, j ≤ l.length ∧ i = .int .i64 j ∧ spErr t l = spErr t (l.drop j) ∧ Below W2.heap.size W2 wr) (fun i _ => l.length - (intOf i).toNat)
          case atStart => exact ⟨0, Nat.zero_le _, rfl, rfl, Below.refl _ _⟩
          case round =>
            obtain ⟨j, hj, rfl, hE, hB⟩ := hrel
            have HE := Lib.hid hE; have HB := Lib.hid hB
            have HBw : Hid (Below w.heap.size w wr) := HB2.out.trans (hB.mono HB2.out.size)
            clear hE hB
            by_cases hlt : j < l.length
            · obtain ⟨s, sd, hs, hLs, hcs⟩ := (HL.out.below HBw.out).get hlt
              have HSt := Lib.hid (spErr_step (t := t) hs)
              obtain ⟨d0, d1, d2⟩ := hcs.three
              subst hLs
              obtain ⟨sn, sa, sb⟩ := s
              dsimp only at *
              have HSpE : Hid (spE t ⟨sn, sa, sb⟩ = if basI t sn = false then 4 else if outB sb 0 400 = true then 7 else if outB sa 0 sb = true then 7 else 0) := rfl
              have HBas : Hid (basI t sn = (!outB sn 0 ((n : Int) - 1) && isBas t sn.toNat)) := by rw [← HLn.out]; exact rfl
              have HHas := Lib.hid (fun (i : Nat) (W : World) (hi : i ≤ 63) => has_any (bas t) i W (by have := pow_40 HOK.out (bas_lt t); omega) hi)
              have hjl : (j : Int) < (l.length : Int) := by omega
              have HXe : Hid (spE t ⟨sn, sa, sb⟩ ≠ 0 → X = ([], spE t ⟨sn, sa, sb⟩)) := fun h => by
                have h1 := HE.out
                rw [HSt.out, if_neg h] at h1
                rw [HX3.out, if_pos (by rw [h1]; exact h), h1]
              have HXn : Hid (spE t ⟨sn, sa, sb⟩ = 0 → spErr t l = spErr t (l.drop (j + 1))) := fun h => by
                have h1 := HE.out
                rw [HSt.out, if_pos h] at h1
                exact h1
              clear hs hcs
              obtain ⟨W3, hW3⟩ : ∃ W3, wr.alloc (.cells #[.int .i64 sn, .int .i64 sa, .int .i64 sb] 65) = W3 := ⟨_, rfl⟩
              have HB3 : Hid (Below wr.heap.size wr W3) := by rw [← hW3]; exact (Below.refl _ _).alloc (Nat.le_refl _) _
              have HKs : Hid (Blk W3 wr.heap.size 65 #[.int .i64 sn, .int .i64 sa, .int .i64 sb]) := by rw [← hW3]; exact Blk.new _ _ _ rfl
              have HW3 := Lib.hid hW3
              have HB23 : Hid (Below W2.heap.size W2 W3) := HB.out.trans (HB3.out.mono HB.out.size)
              have HBw3 : Hid (Below w.heap.size w W3) := HB2.out.trans (HB23.out.mono HB2.out.size)
              clear hW3
              go_wp2_with fail
              rw [HW3.out]
              clear d0 d1 d2
              have x0 := later_cell (HKs.out.cell (i := 0) rfl)
              have x1 := later_cell ((HK1.out.later HB23.out).cell (i := 0) rfl)
              have x2 := later_cell ((HF.out.blk.later HB23.out).cell (i := 2) rfl)
              have hwr : IntKind.i64.wrap ((n : Int) - 1) = (n : Int) - 1 := IntWalk.i64_in _ ⟨by omega, by omega⟩
              have HS0 : Hid ((fun w' => ∃ u : Later W3, w' = u.w) W3.drew) := ⟨⟨W3.drew, (Below.refl _ _).drew⟩, rfl⟩
              refine wp_region_noPanic ?_
              refine wp_region_ord (fun w' => ∃ u : Later W3, w' = u.w) 14 (fun k => decide (k < 14) && !(k == 6)) (ordOf _ [0, 1, 2, 3, 4, 5, 6, 7, 8, 9, 10, 11, 12, 13, 14, 15, 16, 17]) (by kernel_rfl) (by kernel_rfl) (ordOf_mem _ _) (fun _ _ _ _ _ h => h) ?_
              simp only [ordOf, List.filterMap_cons, List.filterMap_nil, List.getElem?_cons_zero, List.getElem?_cons_succ, Option.map_some]
              iterate 6 ((first | refine ord_quiet rfl rfl rfl HS0.out ?_ | refine ord_len rfl _ _ _ Try.underlying22 _ _ _ rfl rfl rfl HS0.out ?_); intro K hK; go_big_quiet_op; go_big_quiet_on)
              clear hwr
              refine ord_op rfl ?_
              go_wp2_with (go_at_call 43; refine (out_any _ _ _ _).mono ?_; rintro e w' ⟨rfl, rfl⟩)
              refine mix_post (fun _ => HS0.out) ?_
              have y1 := HKs.out.cell (i := 1) rfl
              have y2 := HKs.out.cell (i := 2) rfl
              have yz := HKs.out.lt
              cases ho : outB sn 0 ((n : Int) - 1)
              · obtain ⟨o0, o1⟩ := outB_false ho
                obtain ⟨ndn, rfl⟩ : ∃ ndn : Nat, sn = (ndn : Int) := ⟨sn.toNat, by omega⟩
                have hnd : ndn ≤ 63 := by omega
                have HH := Lib.hid (fun W => HHas.out ndn W hnd)
                have HBas2 : Hid (basI t ndn = (bas t).testBit ndn) := by have := HBas.out; rw [ho, Bool.not_false, Bool.true_and, Int.toNat_natCast] at this; rw [this, bas_bit]; exact rfl
                iterate 7 ((first | refine ord_quiet rfl rfl rfl HS0.out ?_ | refine ord_valQ rfl _ (run_nilCheck _ _ rfl rfl) rfl HS0.out ?_); intro K hK; go_big_quiet_op; go_big_quiet_on)
                clear x0 x1 x2 HS0 ho
                generalize (bas t).testBit ndn = bq at *
                refine ord_op rfl ?_
                go_wp2_with (go_at_call 53; refine (HH.out _).mono ?_; rintro e w' ⟨rfl, rfl⟩)
                refine mix_post (fun h => absurd h (by decide)) ?_
                cases bq
                · have F := Lib.hid (HErr.out 4 (by
                    have h1 : spE t ⟨ndn, sa, sb⟩ = 4 := by rw [HSpE.out, HBas2.out, if_pos rfl]
                    rw [HXe.out (by rw [h1]; decide), h1]) W3.drew HBw3.out.drew)
                  iterate 3 (refine ord_op rfl ?_; go_wp2_with fail; refine mix_post (fun h => absurd h (by decide)) ?_)
                  refine ord_nil ?_
                  refine NoPanic.normal ?_
                  go_wp2_with fail
                  first | exact F.out | (go_ret2; exact F.out)
                · have HSpE2 : Hid (spE t ⟨ndn, sa, sb⟩ = if outB sb 0 400 = true then 7 else if outB sa 0 sb = true then 7 else 0) := by have := HSpE.out; rw [HBas2.out, if_neg (by decide)] at this; exact this
                  iterate 3 (refine ord_op rfl ?_; go_wp2_with fail; refine mix_post (fun h => absurd h (by decide)) ?_)
                  refine ord_nil ?_
                  refine NoPanic.normal ?_
                  cases h1 : outB sb 0 400
                  · cases h2 : outB sa 0 sb
                    · have HN : Hid (spErr t l = spErr t (l.drop (j + 1))) := HXn.out (by rw [HSpE2.out, h1, h2]; rfl)
                      go_wp2_with (go_at_call 43; refine (out_any _ _ _ _).mono ?_; rintro e w' ⟨rfl, rfl⟩)
                      go_roundw
                      case rel => exact ⟨j + 1, by omega, by go_num, HN.out, HB23.out.drew⟩
                      case measure => simp [intOf]; omega
                    · have F := Lib.hid (HErr.out 7 (by
                        have h3 : spE t ⟨ndn, sa, sb⟩ = 7 := by rw [HSpE2.out, h1, h2]; rfl
                        rw [HXe.out (by rw [h3]; decide), h3]) W3.drew HBw3.out.drew)
                      go_wp2_with (go_at_call 43; refine (out_any _ _ _ _).mono ?_; rintro e w' ⟨rfl, rfl⟩)
                      first | exact F.out | (go_ret2; exact F.out)
                  · have F := Lib.hid (HErr.out 7 (by
                      have h3 : spE t ⟨ndn, sa, sb⟩ = 7 := by rw [HSpE2.out, h1]; rfl
                      rw [HXe.out (by rw [h3]; decide), h3]) W3.drew HBw3.out.drew)
                    go_wp2_with (go_at_call 43; refine (out_any _ _ _ _).mono ?_; rintro e w' ⟨rfl, rfl⟩)
                    first | exact F.out | (go_ret2; exact F.out)
              · have F := Lib.hid (HErr.out 4 (by
                  have h1 : spE t ⟨sn, sa, sb⟩ = 4 := by rw [HSpE.out, HBas.out, ho, Bool.not_true, Bool.false_and, if_pos rfl]
                  rw [HXe.out (by rw [h1]; decide), h1]) W3.drew HBw3.out.drew)
                refine ord_quiet rfl rfl rfl HS0.out ?_; intro K hK; go_big_quiet_op; go_big_quiet_on
                iterate 6 (refine ord_skip rfl rfl HS0.out ?_; simp only [Act.put, List.setIfInBounds_toArray, List.set_cons_succ, List.set_cons_zero])
                clear x0 x1 x2 HS0 ho
                iterate 4 (refine ord_op rfl ?_; go_wp2_with fail; refine mix_post (fun h => absurd h (by decide)) ?_)
                refine ord_nil ?_
                refine NoPanic.normal ?_
                go_wp2_with fail
                first | exact F.out | (go_ret2; exact F.out)
            · have hE0 : spErr t l = 0 := by have := HE.out; rw [List.drop_eq_nil_iff.2 (by omega)] at this; exact this
              have HX4 : Hid (X = ((List.range t.length).map (spL t (ownR l N)), 0)) := by have := HX3.out; rw [if_neg (fun c => c hE0)] at this; exact this
              have HE0 := Lib.hid hE0
              have HKl := Lib.hid (HK2.out.later HB.out); have HKn := Lib.hid (HK3.out.later HB.out)
              have HRun := Lib.hid (run2_any t (ownR l N) 70 #[.pointer (some ⟨w.heap.size + 1, 0, none⟩), .pointer (some ⟨w.heap.size + 1 + 1, 0, none⟩)] 400 (l.map fun s => min s.b N) T A n c ms R cr M 0 wr (HF.out.below HB.out) (enters_of Try.func70 (by kernel_rfl) rfl)
                (fun i W _ hW => run1_any l i N (w.heap.size + 1) (w.heap.size + 1 + 1) L cl W (by omega) ((HKl.out.later hW).cell (i := 0) rfl) ((HKn.out.later hW).cell (i := 0) rfl) (HL.out.below (HBw.out.trans (hW.mono HBw.out.size))))
                (fun i _ s hs => by have := ownR_inR HE0.out (N := N) i s hs; omega) (by omega)
                (fun i _ s hs => by unfold ownR at hs; rw [List.mem_map] at hs ⊢; obtain ⟨u, hu, rfl⟩ := hs; exact ⟨u, (List.mem_filter.1 hu).1, rfl⟩)
                (by rw [List.length_map]; omega) (fun i _ => by have := ownR_len l N i; omega))
              obtain rfl : j = l.length := by omega
              clear hE0
              go_wp2_with fail
              refine HRun.out.mono ?_
              rintro e W6 ⟨v, ps, rfl, hRo, hps, hb6⟩
              have F := Lib.hid (HOkk.out _ HX4.out v ps W6 (hRo.lower HBw.out.size) hps (HBw.out.trans (hb6.mono HBw.out.size)))
              clear hRo hps hb6
              go_wp2_with fail
              first | exact F.out | (go_ret2; exact F.out)
      · have F := Lib.hid (HErr.out 3 (by rw [HX2.out, hb1, hb2, if_pos (show (false || true) = true from rfl)]) _ HB2.out)
        go_wp2_with fail
        first | exact F.out | (go_ret2; exact F.out)
    · have F := Lib.hid (HErr.out 3 (by rw [HX2.out, hb1, Bool.true_or, if_pos rfl]) _ HB2.out)
      go_wp2_with fail
      first | exact F.out | (go_ret2; exact F.out)
end Go.Proofs.Ytadldndpphdmpaa
