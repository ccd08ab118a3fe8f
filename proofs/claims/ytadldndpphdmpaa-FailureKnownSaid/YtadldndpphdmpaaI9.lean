/- The document's ran: a walk. -/
import Derived.Test.YtadldndpphdmpaaI8
import Derived.Test.YtadldndpphdmpaaI4
namespace Go.Proofs.Ytadldndpphdmpaa
open Go.RowKit Go.Shelf

theorem bb_grown {B M : Nat} {a b : World} (h : BB B M a b) (hB : a.heap.size ≤ B) : a.grownBy b (some M) := ⟨h.os, h.tape, h.output, h.size, fun k hk hne => h.block k (by omega) (fun e => hne (by rw [e]))⟩
set_option maxRecDepth 100000 in
set_option maxHeartbeats 8000000 in
theorem ran_any (t : List Nd) (l : List Sp) (A : Option Addr) (n c : Nat) (ms : List NdM) (L : Option Addr) (cl N : Nat) (w : World) (hT : TrM w t A n ms) (hO : TrOk t) (hL : RdS w L l.length l) (hl : l.length ≤ 1000000) (hN : N ≤ 100000) :
    Calls Try.prog 71 #[.agg #[.slice A n c], .slice L l.length cl, .int .i64 (N : Int)] w (RanPost w t (spB l) n N) := by
  have hln := hT.len
  have hn := hO.l40
  rw [hln] at hn
  have HO := Lib.hid hO
  have HP : Hid (∀ v ps w', BRows w' w.heap.size v ps → ps.map (·.1) = (List.range N).map (rowB t (spB l) n) → Below w.heap.size w w' → RanPost w t (spB l) n N (.returned v) w') := fun v ps w' h1 h2 h3 => ⟨v, ps, rfl, h1, h2, h3⟩
  have HSp : Hid (∀ i k, spB l i k = l.any fun s => s.nd == (i : Int) && (decide (s.a ≤ (k : Int)) && decide ((k : Int) < s.b))) := fun _ _ => rfl
  generalize RanPost w t (spB l) n N = PP at *
  generalize spB l = B at *
  have HB1 : Hid (Below w.heap.size w (w.alloc (.cells #[.slice A n c] 24))) := (Below.refl _ w).alloc (Nat.le_refl _) _
  have K1 : Hid (Blk (w.alloc (.cells #[.slice A n c] 24)) w.heap.size 24 #[.slice A n c]) := Blk.new w _ _ rfl
  have HG1 : Hid ((w.alloc (.cells #[.slice A n c] 24)).heap.size = w.heap.size + 1) := by show _ = _; simp
  have HT := Lib.hid hT
  have HL := Lib.hid hL
  have HLn := Lib.hid hln
  clear hT hL hO hln
  obtain ⟨i0, hi, hzi0, hzi1, hzi2⟩ := info_parts infoI
  have hzb : i0.bytes * n ≤ 281474976710656 := by rw [hzi2]; omega
  go_enter Try.func71, Try.ntmps71
  go_wp2_with (at_make; refine wpList_make_full _ rfl _ _ 30 rfl (w.heap.size + 1) 3 i0 (.int .i64 0) 1 Try.underlying30 hi hzi0 hzi1 .i64 .i64 _ _ n rfl rfl rfl rfl hzb (by unfold maxLen; omega) (Nat.le_of_eq HG1.out.symm) ?_; intro W2 hrow2 hg2; rw [HG1.out] at hrow2; have HRow2 := Lib.hid hrow2; have HB12 : Hid (Below (w.alloc (.cells #[.slice A n c] 24)).heap.size (w.alloc (.cells #[.slice A n c] 24)) W2) := (Below.refl _ _).grown hg2 (Nat.le_refl _) (fun r e => by cases e); clear hrow2 hg2)
  have HLg0 : Hid (W2.ownsRow (w.heap.size + 1) 3 1 (.slice (some ⟨w.heap.size + 1, 0, none⟩) n n) n ((longR t B n 0 0).map (Value.int .i64))) := by
    have h := HRow2.out
    rw [longR_start t B n] at h
    exact h
  have hz2 : w.heap.size + 1 < W2.heap.size := (HLg0.out.lt (w.heap.size + 1) rfl).2
  have HKb : Hid (Blk W2 w.heap.size 24 #[.slice A n c]) := K1.out.later HB12.out
  have HBw2 : Hid (Below w.heap.size w W2) := HB1.out.trans (HB12.out.mono HB1.out.size)
  clear hi hzi0 hzi1 hzi2 hzb HRow2 HB12 K1 HG1 HB1
  have hz1 : w.heap.size < w.heap.size + 1 := by omega
  generalize w.heap.size + 1 = G at *
  obtain ⟨bb, hbi, hzb0, hzb1, hzb2⟩ := info_parts infoB
  obtain ⟨bs, hsi, hzs0, hzs1, hzs2⟩ := info_parts infoBs
  go_loopw [8, 9] (fun v i wr => ∃ (k : Nat) (ps : List BoP), k ≤ N ∧ i = .int .i64 k ∧ BRows wr W2.heap.size v ps ∧ ps.map (·.1) = (List.range k).map (rowB t B n) ∧ wr.ownsRow G 3 1 (.slice (some ⟨G, 0, none⟩) n n) n ((longR t B n k 0).map (Value.int .i64)) ∧ BB W2.heap.size G W2 wr) (fun _ i _ => N - (intOf i).toNat)
  case atStart => exact ⟨0, [], Nat.zero_le _, rfl, BRows.nil _ _, rfl, HLg0.out, BB.refl _ _ _⟩
  case round =>
    obtain ⟨k, ps, hk, rfl, hRo, hPs, hLg, hBB⟩ := hrel
    have HRo := Lib.hid hRo; have HPs := Lib.hid hPs; have HLg := Lib.hid hLg; have HBB := Lib.hid hBB
    have hpl : ps.length = k := by have := congrArg List.length hPs; simpa using this
    have HPl := Lib.hid hpl
    have HBw : Hid (Below w.heap.size w wr) := HBw2.out.trans (hBB.below (by omega) (by omega))
    have HKw : Hid (Blk wr w.heap.size 24 #[.slice A n c]) := (hBB.block w.heap.size (by omega) (by omega)).trans HKb.out
    clear hRo hPs hLg hBB hpl
    by_cases hlt : k < N
    · have hkN : (k : Int) < (N : Int) := by omega
      have hwz : G < wr.heap.size := (HLg.out.lt G rfl).2
      have HFrom : Hid (∀ wz, BB wr.heap.size G wr wz → Below w.heap.size w wz ∧ Blk wz w.heap.size 24 #[.slice A n c]) := fun wz h =>
        ⟨HBw.out.trans (h.below (by omega) HBw.out.size), (h.block w.heap.size (by omega) (by omega)).trans HKw.out⟩
      go_wp2_with fail
      obtain ⟨wo, rfl⟩ : ∃ wo : World, wo = wr := ⟨_, rfl⟩
      go_loopw [10, 11] (fun v i wr => ∃ i' : Nat, i' ≤ n ∧ i = .int .i64 i' ∧ wr.ownsRow wo.heap.size 4 1 v i' (((List.range i').map fun m => ft t B m k).map Value.bool) ∧ wr.ownsRow G 3 1 (.slice (some ⟨G, 0, none⟩) n n) n ((longR t B n k i').map (Value.int .i64)) ∧ BB wo.heap.size G wo wr) (fun _ i _ => n - (intOf i).toNat)
      case atStart => exact ⟨0, Nat.zero_le _, rfl, World.ownsRow_nil _ _ _ _, HLg.out, BB.refl _ _ _⟩
      case round =>
        obtain ⟨i, hin, rfl, hNow, hLg5, hBB5⟩ := hrel
        have HNow := Lib.hid hNow; have HLg5 := Lib.hid hLg5; have HBB5 := Lib.hid hBB5
        obtain ⟨hBw5, hK5⟩ := HFrom.out wr hBB5
        have HBw5 := Lib.hid hBw5; have HK5 := Lib.hid hK5
        have hz5 := hBB5.size
        have HZ5 := Lib.hid hz5
        clear hNow hLg5 hBB5 hBw5 hK5
        by_cases hilt : i < n
        · obtain ⟨m, ad, hm, hA, ha, hN⟩ := HT.out.get hilt
          subst hA
          obtain ⟨⟨na, ki, li, cn, ho⟩, A2, c2'⟩ := m
          obtain ⟨c0, c1, c2, c3, c4⟩ := ha.five
          dsimp only at *
          have HC4 := Lib.hid c4
          have HNd := Lib.hid (HO.out.nd i _ hm)
          have hft := ft_long HO.out B hm k
          have hraw : rawF t B i ⟨na, ki, li, cn, ho⟩ k = if ki = 1 then B i k else so ⟨na, ki, li, cn, ho⟩ (fun m => ft t B m k) := rfl
          have hget := longR_get (B := B) (k := k) (i := i) hilt hm
          have hget2 := longR_get (B := B) (k := k) (i := i + 1) hilt hm
          have hset := longR_set (B := B) (k := k) hilt hm
          rw [if_neg (by omega)] at hget
          rw [if_pos (by omega)] at hget2
          generalize rawF t B i ⟨na, ki, li, cn, ho⟩ = raw at *
          have HLsucc : Hid (longF raw (k + 1) = if raw k = true then longF raw k + 1 else 0) := rfl
          have hlf := longF_le raw k
          generalize longF raw k = lf at *
          have HFt := Lib.hid hft
          have HRaw := Lib.hid hraw; have HLget := Lib.hid hget; have HLget2 := Lib.hid hget2; have HLset := Lib.hid hset
          have k0 := HK5.out.cell (i := 0) rfl
          have kz := HK5.out.lt
          have d0 := cell_below HBw5.out c0
          have d1 := cell_below HBw5.out c1
          have d2 := cell_below HBw5.out c2
          have d3 := cell_below HBw5.out c3
          have d4 := cell_below HBw5.out c4
          have hdz := cell_lt d0
          have hin' : (i : Int) < (n : Int) := by omega
          have HNr := Lib.hid hN
          clear hm ha hft hraw hget hget2 hset c0 c1 c2 c3 c4 hN
          by_cases hk1 : ki = 1
          · have hq : (ki == 1) = true := by simpa using hk1
            have HRaw2 : Hid (raw k = B i k) := by have := HRaw.out; rw [if_pos hk1] at this; exact this
            clear hk1
            go_wp2_with fail
            go_loop [12, 13] (fun f j => ∃ q : Nat, q ≤ l.length ∧ j = .int .i64 q ∧ f = .bool ((l.take q).any fun s => s.nd == (i : Int) && (decide (s.a ≤ (k : Int)) && decide ((k : Int) < s.b)))) (fun _ j => l.length - (intOf j).toNat)
            case atStart => exact ⟨0, Nat.zero_le _, rfl, by simp⟩
            case round =>
              obtain ⟨q, hq2, rfl, rfl⟩ := hrel
              by_cases hql : q < l.length
              · obtain ⟨s, sd, hs, rfl, hcs⟩ := (HL.out.below HBw5.out).get hql
                have HSt := Lib.hid (any_step (fun s : Sp => s.nd == (i : Int) && (decide (s.a ≤ (k : Int)) && decide ((k : Int) < s.b))) hs)
                obtain ⟨e0, e1, e2⟩ := hcs.three
                have hql' : (q : Int) < (l.length : Int) := by omega
                clear hs hcs
                generalize hf0 : ((l.take q).any fun s => s.nd == (i : Int) && (decide (s.a ≤ (k : Int)) && decide ((k : Int) < s.b))) = f0 at *
                clear hf0
                cases f0
                · cases b1 : (s.nd == (i : Int))
                  · have HS2 : Hid ((l.take (q + 1)).any (fun s => s.nd == (i : Int) && (decide (s.a ≤ (k : Int)) && decide ((k : Int) < s.b))) = false) := by have := HSt.out; rw [b1, Bool.false_and, Bool.or_false] at this; exact this
                    go_wp2_with fail
                    go_round
                    case rel => exact ⟨q + 1, by omega, by go_num, by rw [HS2.out]⟩
                    case measure => simp [intOf]; omega
                  · cases b2 : decide (s.a ≤ (k : Int))
                    · have HS2 : Hid ((l.take (q + 1)).any (fun s => s.nd == (i : Int) && (decide (s.a ≤ (k : Int)) && decide ((k : Int) < s.b))) = false) := by have := HSt.out; rw [b1, b2, Bool.false_and, Bool.and_false, Bool.or_false] at this; exact this
                      go_wp2_with fail
                      go_round
                      case rel => exact ⟨q + 1, by omega, by go_num, by rw [HS2.out]⟩
                      case measure => simp [intOf]; omega
                    · cases b3 : decide ((k : Int) < s.b)
                      all_goals
                        have HS2 := HSt.out
                        rw [b1, b2, b3] at HS2
                        simp only [Bool.true_and, Bool.false_or] at HS2
                        have HS3 := Lib.hid HS2
                        clear HS2
                        go_wp2_with fail
                        go_round
                        case rel => exact ⟨q + 1, by omega, by go_num, by rw [HS3.out]⟩
                        case measure => simp [intOf]; omega
                · have HS2 : Hid ((l.take (q + 1)).any (fun s => s.nd == (i : Int) && (decide (s.a ≤ (k : Int)) && decide ((k : Int) < s.b))) = true) := by have := HSt.out; rw [Bool.true_or] at this; exact this
                  go_wp2_with fail
                  go_round
                  case rel => exact ⟨q + 1, by omega, by go_num, by rw [HS2.out]⟩
                  case measure => simp [intOf]; omega
              · obtain rfl : q = l.length := by omega
                rw [List.take_length, ← HSp.out]
                have HIs0 : Hid (raw k = B i k) := HRaw2.out
                generalize B i k = isv at *
                have HIs : Hid (raw k = isv) := HIs0.out
                have HBBz := HBB5; have HNowz := HNow; have HLgz := HLg5
                have HTy : Hid (∃ o : Obj, wr.heap[G]? = some o ∧ ∀ cs m, o ≠ .cells cs 4 m) := own_typed HLgz.out (by decide) G rfl
                have hcell : wr.cell? ⟨G, i, none⟩ = some (.int .i64 (lf : Int)) := by rw [← add0]; exact HLgz.out.cells (g := G) rfl i (.int .i64 (lf : Int)) (by rw [List.getElem?_map, HLget.out]; rfl)
                have hfr := HLgz.out.frozenAt i
                have hgz := (HLgz.out.lt G rfl).2
                have hzz := HBBz.out.size
                obtain ⟨nv, hnv⟩ : ∃ nv : Int, nv = if isv = true then (lf : Int) + 1 else 0 := ⟨_, rfl⟩
                have HNv : Hid ((longF raw (k + 1) : Int) = nv) := by
                  have h := HLsucc.out
                  try rw [HIs.out] at h
                  rw [hnv, h]
                  show _ = _
                  cases isv
                  · rfl
                  · show ((lf + 1 : Nat) : Int) = (lf : Int) + 1; omega
                obtain ⟨W8, hW8⟩ : ∃ W8, wr.setCell ⟨G, i, none⟩ (.int .i64 nv) = W8 := ⟨_, rfl⟩
                obtain ⟨st1, st2⟩ := HLgz.out.stored i (.int .i64 nv)
                rw [hW8, ← List.map_set, ← HNv.out, HLset.out] at st1
                rw [hW8] at st2
                have HLg8 := Lib.hid st1
                have HBB8 : Hid (BB wo.heap.size G wo W8) := HBBz.out.grown st2 (fun r e => .inl (by cases e; rfl)) hzz
                have HNow8 : Hid (W8.ownsRow wo.heap.size 4 1 u10 i (((List.range i).map fun m => ft t B m k).map Value.bool)) := own_far HNowz.out st2 (fun r e => .inr (by cases e; exact HTy.out))
                obtain ⟨hBw8, hK8⟩ := HFrom.out W8 HBB8.out
                have HW8 := Lib.hid hW8
                have x0 := later_cell (hK8.cell (i := 0) rfl)
                have x1 : ∀ u : Later W8, u.w.cell? ⟨G, i, none⟩ = some (.int .i64 nv) := later_cell (by rw [← add0]; exact HLg8.out.cells (g := G) rfl i (.int .i64 nv) (by rw [List.getElem?_map, HLget2.out, ← HNv.out]; rfl))
                have x2 := later_cell (cell_below hBw8 HC4.out)
                have HHold : Hid (ft t B i k = decide (ho < nv)) := by have := HFt.out; rw [HNv.out] at this; exact this
                have HSu := Lib.hid (range_map_succ (fun m => ft t B m k) i)
                have HZ8 := Lib.hid HBB8.out.size
                clear st1 st2 hBw8 hK8 hW8
                have HB89 : Hid (Below W8.heap.size W8 W8.drew) := (Below.refl _ _).drew
                have HNow9 : Hid (W8.drew.ownsRow wo.heap.size 4 1 u10 i (((List.range i).map fun m => ft t B m k).map Value.bool)) := own_far HNow8.out (grown_of_below HB89.out none) (fun r e => by cases e)
                have HLg9 : Hid (W8.drew.ownsRow G 3 1 (.slice (some ⟨G, 0, none⟩) n n) n ((longR t B n k (i + 1)).map (Value.int .i64))) := own_far HLg8.out (grown_of_below HB89.out none) (fun r e => by cases e)
                have HBB9 : Hid (BB wo.heap.size G wo W8.drew) := HBB8.out.trans (BB.of_below HB89.out HZ8.out)
                have HZ9 : Hid (wo.heap.size ≤ W8.drew.heap.size) := HZ8.out
                have HNv2 := Lib.hid hnv
                clear hnv
                cases isv
                all_goals
                  have hnv := HNv2.out
                  simp only [Bool.false_eq_true, if_false, if_true] at hnv
                  subst hnv
                  clear HNv2
                  go_wp2_with fail
                  rw [HW8.out]
                  clear hcell hfr hgz hzz HLgz HNowz HBBz HTy
                  have HS8 : Hid ((fun w' => ∃ u : Later W8, w' = u.w) W8.drew) := ⟨⟨W8.drew, (Below.refl _ _).drew⟩, rfl⟩
                  refine wp_region_noPanic ?_
                  refine wp_region_ord (fun w' => ∃ u : Later W8, w' = u.w) 13 (fun k => decide (k < 12)) (ordOf _ [0, 1, 2, 3, 4, 5, 6, 7, 8, 9, 10, 11, 12, 13, 14]) (by kernel_rfl) (by kernel_rfl) (ordOf_mem _ _) (fun _ _ _ _ _ h => h) ?_
                  simp only [ordOf, List.filterMap_cons, List.filterMap_nil, List.getElem?_cons_zero, List.getElem?_cons_succ, Option.map_some]
                  iterate 12 (refine ord_quiet rfl rfl rfl HS8.out ?_; intro K hK; go_big_quiet_op; go_big_quiet_on)
                  clear x0 x1 x2 HS8
                  rw [← HHold.out]
                  refine ord_op rfl ?_
                  go_wp2_with fail
                  refine mix_post (fun _ => ⟨⟨_, HB89.out.alloc HB89.out.size _⟩, rfl⟩) ?_
                  refine ord_op rfl ?_
                  generalize ft t B i k = fb at *
                  go_wp2_with (at_builtin; refine wpList_append_one rfl _ _ 85 rfl wo.heap.size 4 bb (.bool false) 1 Try.underlying85 hbi hzb0 hzb1 hzb2 rfl _ _ _ rfl HNow9.out (.bool fb) W8.drew.heap.size rfl rfl (by simp [Value.oneCell']) (by unfold maxLen; omega) (by omega) HZ9.out ?_; intro A' c'' w2 hown' hgrow _; have HO2 := Lib.hid hown'; have HG2 := Lib.hid hgrow; clear hown' hgrow)
                  refine mix_post (fun h => absurd h (by decide)) ?_
                  refine ord_op rfl ?_
                  go_wp2_with fail
                  refine mix_post (fun h => absurd h (by decide)) ?_
                  refine ord_nil ?_
                  refine NoPanic.normal ?_
                  go_wp2_with fail
                  go_roundw
                  case rel => exact ⟨i + 1, by omega, by go_num, by rw [HSu.out, List.map_append]; exact HO2.out, own_far HLg9.out HG2.out (fun r e => .inr (own_typed HNow9.out (by decide) r e)), HBB9.out.grown HG2.out (fun r e => .inr (HNow9.out.lt r e).1) HZ9.out⟩
                  case measure => simp [intOf]; omega
          · have hq : (ki == 1) = false := by simpa using hk1
            have HRaw2 : Hid (raw k = so ⟨na, ki, li, cn, ho⟩ (fun m => ft t B m k)) := by have := HRaw.out; rw [if_neg hk1] at this; exact this
            obtain ⟨A4, c4', e4, hr4, _, _⟩ := rdB_of_own HNow.out (by simp)
            subst e4
            have hC := so_any ⟨⟨na, ki, li, cn, ho⟩, A2, c2'⟩ ((List.range i).map fun m => ft t B m k) A4 i c4' wr (HNr.out.below HBw5.out) (by have := HNd.out.l10; dsimp only at *; omega) hr4 HNd.out.ins
            have HE2 : Hid (so ⟨na, ki, li, cn, ho⟩ (fun j => ((List.range i).map fun m => ft t B m k).getD j false) = so ⟨na, ki, li, cn, ho⟩ (fun m => ft t B m k)) :=
              so_congr fun y hy => range_getD (fun m => ft t B m k) (by have := HNd.out.ins y hy; omega)
            dsimp only [NdM.val] at hC
            rw [HE2.out, ← HRaw2.out] at hC
            generalize hisv : raw k = isv at *
            have HIs : Hid (raw k = isv) := hisv
            have HC := Lib.hid hC
            clear hC hr4 HE2 HRaw2 hk1 hisv
            go_wp2_with fail
            refine HC.out.mono ?_
            rintro e W6 ⟨rfl, hb6⟩
            have HB6 : Hid (Below wr.heap.size wr W6) := hb6
            have HBBz : Hid (BB wo.heap.size G wo W6) := HBB5.out.trans (BB.of_below hb6 HZ5.out)
            have HNowz : Hid (W6.ownsRow wo.heap.size 4 1 (.slice A4 i c4') i (((List.range i).map fun m => ft t B m k).map Value.bool)) := own_far HNow.out (grown_of_below HB6.out none) (fun r e => by cases e)
            have HLgz : Hid (W6.ownsRow G 3 1 (.slice (some ⟨G, 0, none⟩) n n) n ((longR t B n k i).map (Value.int .i64))) := own_far HLg5.out (grown_of_below HB6.out none) (fun r e => by cases e)
            clear hb6 HC k0 kz d0 d1 d2 d3 d4 hdz
            have HTy : Hid (∃ o : Obj, W6.heap[G]? = some o ∧ ∀ cs m, o ≠ .cells cs 4 m) := own_typed HLgz.out (by decide) G rfl
            have hcell : W6.cell? ⟨G, i, none⟩ = some (.int .i64 (lf : Int)) := by rw [← add0]; exact HLgz.out.cells (g := G) rfl i (.int .i64 (lf : Int)) (by rw [List.getElem?_map, HLget.out]; rfl)
            have hfr := HLgz.out.frozenAt i
            have hgz := (HLgz.out.lt G rfl).2
            have hzz := HBBz.out.size
            obtain ⟨nv, hnv⟩ : ∃ nv : Int, nv = if isv = true then (lf : Int) + 1 else 0 := ⟨_, rfl⟩
            have HNv : Hid ((longF raw (k + 1) : Int) = nv) := by
              have h := HLsucc.out
              try rw [HIs.out] at h
              rw [hnv, h]
              show _ = _
              cases isv
              · rfl
              · show ((lf + 1 : Nat) : Int) = (lf : Int) + 1; omega
            obtain ⟨W8, hW8⟩ : ∃ W8, W6.setCell ⟨G, i, none⟩ (.int .i64 nv) = W8 := ⟨_, rfl⟩
            obtain ⟨st1, st2⟩ := HLgz.out.stored i (.int .i64 nv)
            rw [hW8, ← List.map_set, ← HNv.out, HLset.out] at st1
            rw [hW8] at st2
            have HLg8 := Lib.hid st1
            have HBB8 : Hid (BB wo.heap.size G wo W8) := HBBz.out.grown st2 (fun r e => .inl (by cases e; rfl)) hzz
            have HNow8 : Hid (W8.ownsRow wo.heap.size 4 1 (.slice A4 i c4') i (((List.range i).map fun m => ft t B m k).map Value.bool)) := own_far HNowz.out st2 (fun r e => .inr (by cases e; exact HTy.out))
            obtain ⟨hBw8, hK8⟩ := HFrom.out W8 HBB8.out
            have HW8 := Lib.hid hW8
            have x0 := later_cell (hK8.cell (i := 0) rfl)
            have x1 : ∀ u : Later W8, u.w.cell? ⟨G, i, none⟩ = some (.int .i64 nv) := later_cell (by rw [← add0]; exact HLg8.out.cells (g := G) rfl i (.int .i64 nv) (by rw [List.getElem?_map, HLget2.out, ← HNv.out]; rfl))
            have x2 := later_cell (cell_below hBw8 HC4.out)
            have HHold : Hid (ft t B i k = decide (ho < nv)) := by have := HFt.out; rw [HNv.out] at this; exact this
            have HSu := Lib.hid (range_map_succ (fun m => ft t B m k) i)
            have HZ8 := Lib.hid HBB8.out.size
            clear st1 st2 hBw8 hK8 hW8
            have HB89 : Hid (Below W8.heap.size W8 W8.drew) := (Below.refl _ _).drew
            have HNow9 : Hid (W8.drew.ownsRow wo.heap.size 4 1 (.slice A4 i c4') i (((List.range i).map fun m => ft t B m k).map Value.bool)) := own_far HNow8.out (grown_of_below HB89.out none) (fun r e => by cases e)
            have HLg9 : Hid (W8.drew.ownsRow G 3 1 (.slice (some ⟨G, 0, none⟩) n n) n ((longR t B n k (i + 1)).map (Value.int .i64))) := own_far HLg8.out (grown_of_below HB89.out none) (fun r e => by cases e)
            have HBB9 : Hid (BB wo.heap.size G wo W8.drew) := HBB8.out.trans (BB.of_below HB89.out HZ8.out)
            have HZ9 : Hid (wo.heap.size ≤ W8.drew.heap.size) := HZ8.out
            have HNv2 := Lib.hid hnv
            clear hnv
            cases isv
            all_goals
              have hnv := HNv2.out
              simp only [Bool.false_eq_true, if_false, if_true] at hnv
              subst hnv
              clear HNv2
              go_wp2_with fail
              rw [HW8.out]
              clear hcell hfr hgz hzz HLgz HNowz HBBz HTy
              have HS8 : Hid ((fun w' => ∃ u : Later W8, w' = u.w) W8.drew) := ⟨⟨W8.drew, (Below.refl _ _).drew⟩, rfl⟩
              refine wp_region_noPanic ?_
              refine wp_region_ord (fun w' => ∃ u : Later W8, w' = u.w) 13 (fun k => decide (k < 12)) (ordOf _ [0, 1, 2, 3, 4, 5, 6, 7, 8, 9, 10, 11, 12, 13, 14]) (by kernel_rfl) (by kernel_rfl) (ordOf_mem _ _) (fun _ _ _ _ _ h => h) ?_
              simp only [ordOf, List.filterMap_cons, List.filterMap_nil, List.getElem?_cons_zero, List.getElem?_cons_succ, Option.map_some]
              iterate 12 (refine ord_quiet rfl rfl rfl HS8.out ?_; intro K hK; go_big_quiet_op; go_big_quiet_on)
              clear x0 x1 x2 HS8
              rw [← HHold.out]
              refine ord_op rfl ?_
              go_wp2_with fail
              refine mix_post (fun _ => ⟨⟨_, HB89.out.alloc HB89.out.size _⟩, rfl⟩) ?_
              refine ord_op rfl ?_
              generalize ft t B i k = fb at *
              go_wp2_with (at_builtin; refine wpList_append_one rfl _ _ 85 rfl wo.heap.size 4 bb (.bool false) 1 Try.underlying85 hbi hzb0 hzb1 hzb2 rfl _ _ _ rfl HNow9.out (.bool fb) W8.drew.heap.size rfl rfl (by simp [Value.oneCell']) (by unfold maxLen; omega) (by omega) HZ9.out ?_; intro A' c'' w2 hown' hgrow _; have HO2 := Lib.hid hown'; have HG2 := Lib.hid hgrow; clear hown' hgrow)
              refine mix_post (fun h => absurd h (by decide)) ?_
              refine ord_op rfl ?_
              go_wp2_with fail
              refine mix_post (fun h => absurd h (by decide)) ?_
              refine ord_nil ?_
              refine NoPanic.normal ?_
              go_wp2_with fail
              go_roundw
              case rel => exact ⟨i + 1, by omega, by go_num, by rw [HSu.out, List.map_append]; exact HO2.out, own_far HLg9.out HG2.out (fun r e => .inr (own_typed HNow9.out (by decide) r e)), HBB9.out.grown HG2.out (fun r e => .inr (HNow9.out.lt r e).1) HZ9.out⟩
              case measure => simp [intOf]; omega
        · obtain rfl : n = i := by omega
          obtain ⟨A10, c10, e10, hr10, _, _⟩ := rdB_of_own HNow.out (by simp)
          subst e10
          have HRow : Hid (rowB t B n k = (List.range n).map fun m => ft t B m k) := rfl
          have HRoN : Hid (BRows wr W2.heap.size u8 ps) := HRo.out.far (bb_grown HBB5.out (Nat.le_refl _)) (fun r e => by
            cases e
            rcases HLg.out.2 with ⟨h', _⟩ | ⟨g', cap', cur, h', _, hg, _⟩
            · simp at h'
            · simp only [Value.slice.injEq, Option.some.injEq, Addr.mk.injEq, and_true, true_and] at h'
              obtain ⟨rfl, rfl⟩ := h'
              exact ⟨_, hg, (fun cs m e => by cases e), (fun cs m e => by cases e)⟩)
          have HBo : Hid (BoO wr ((List.range n).map (fun m => ft t B m k), A10, c10)) := by
            refine BoO.of (base := wo.heap.size) ?_
            simp only [List.length_map, List.length_range]
            exact HNow.out
          have HLn2 : Hid (((List.range n).map (fun m => ft t B m k)).length = n) := by show _ = _; simp
          have hpk : ps.length ≤ 100000 := by have := HPl.out; omega
          have HZw : Hid (W2.heap.size ≤ wr.heap.size) := by have := HBB.out.size; have := HZ5.out; show _ ≤ _; omega
          have HLgN : Hid (wr.ownsRow G 3 1 (.slice (some ⟨G, 0, none⟩) n n) n ((longR t B n (k + 1) 0).map (Value.int .i64))) := by have := HLg5.out; rw [longR_next] at this; exact this
          clear hr10
          have k0 := HK5.out.cell (i := 0) rfl
          have kz := HK5.out.lt
          go_wp2_with (at_builtin; refine wpList_append_one rfl _ _ 110 rfl W2.heap.size 85 bs (.slice none 0 0) 24 Try.underlying110 hsi hzs0 hzs1 hzs2 rfl _ _ _ rfl HRoN.out.row (.slice A10 n c10) wr.heap.size rfl rfl (by simp [Value.oneCell']) (by unfold maxLen; omega) (by omega) HZw.out ?_; intro A' c'' w2 hown' hgrow _; have HO2 := Lib.hid hown'; have HG2 := Lib.hid hgrow; clear hown' hgrow)
          go_roundw
          case rel =>
            have hv : (.slice A10 n c10 : Value) = BoP.v ((List.range n).map (fun m => ft t B m k), A10, c10) := by show _ = Value.slice _ _ _; rw [HLn2.out]
            refine ⟨k + 1, ps ++ [((List.range n).map (fun m => ft t B m k), A10, c10)], by omega, by go_num, HRoN.out.snoc HBo.out HG2.out (by rw [← hv]; exact HO2.out), ?_, own_far HLgN.out HG2.out (fun r e => .inr (own_typed HRoN.out.row (by decide) r e)), (HBB.out.trans (HBB5.out.lower (by have := HBB.out.size; omega))).grown HG2.out (fun r e => .inr (HRoN.out.row.lt r e).1) HZw.out⟩
            rw [List.map_append, HPs.out, List.range_succ, List.map_append]
            rfl
          case measure => simp [intOf]; omega
    · obtain rfl : N = k := by omega
      have HRl : Hid (BRows wr w.heap.size u8 ps) := ⟨own_lower HRo.out.row (by omega), HRo.out.all⟩
      go_wp2_with fail
      first | exact HP.out _ _ _ HRl.out HPs.out HBw.out | (go_ret; exact HP.out _ _ _ HRl.out HPs.out HBw.out)
end Go.Proofs.Ytadldndpphdmpaa
