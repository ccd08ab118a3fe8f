/- The document's Run: a walk. -/
import Derived.Test.YtadldndpphdmpaaHp
import Derived.Test.YtadldndpphdmpaaHn
import Derived.Test.YtadldndpphdmpaaI10
import Derived.Test.YtadldndpphdmpaaP7
namespace Go.Proofs.Ytadldndpphdmpaa
open Go.RowKit Go.Shelf

/-- What ran returns, read. -/
theorem ran_at {W7 : World} {base N n : Nat} {v : Value} {ps : List BoP} {t : List Nd} {B : Nat → Nat → Bool} (hr : BRows W7 base v ps) (hps : ps.map (·.1) = (List.range N).map (rowB t B n)) :
    ∃ A c, v = .slice A N c ∧ ∀ W, Below W7.heap.size W7 W → ∀ k i, k < N → i < n → ∃ ad bd pc, A = some ad ∧ W.cell? (ad.add k) = some (.slice (some bd) n pc) ∧ W.cell? (bd.add i) = some (.bool (ft t B i k)) := by
  have hpl : ps.length = N := by have := congrArg List.length hps; simpa using this
  obtain ⟨A, c, rfl, hget⟩ := hr.get
  rw [hpl]
  refine ⟨A, c, rfl, fun W hW k i hk hi => ?_⟩
  have hpk : ps[k]? = some (ps[k]'(by omega)) := List.getElem?_eq_getElem _
  generalize ps[k]'(by omega) = p at hpk
  obtain ⟨ad, rfl, hc0, hrB⟩ := hget k p hpk
  have hp1 : p.1 = rowB t B n k := by
    have h := congrArg (fun l => l[k]?) hps
    simp only [List.getElem?_map, hpk, Option.map_some] at h
    rw [List.getElem?_range hk] at h
    exact Option.some.inj h
  obtain ⟨pl, pA, pc⟩ := p
  dsimp only at *
  subst hp1
  have hrl : (rowB t B n k).length = n := by unfold rowB; simp
  rw [hrl] at hrB
  have hc1 : W7.cell? (ad.add k) = some (.slice pA n pc) := by rw [← hrl]; exact hc0
  obtain ⟨b, bd, hbv, rfl, hcb⟩ := rdB_get hrB hi
  have hbe : b = ft t B i k := by
    unfold rowB at hbv
    rw [List.getElem?_map, List.getElem?_range hi] at hbv
    exact (Option.some.inj hbv).symm
  rw [hbe] at hcb
  exact ⟨ad, bd, pc, rfl, cell_below hW hc1, cell_below hW hcb⟩

set_option maxRecDepth 100000 in
set_option maxHeartbeats 8000000 in
theorem rRun_any (t : List Nd) (l : List Sp) (N : Int) (A : Option Addr) (n c : Nat) (ms : List NdM) (L : Option Addr) (cl : Nat) (w : World) (hT : TrM w t A n ms) (hL : RdS w L l.length l) (hl : l.length ≤ 1000000000000000) :
    Calls Try.prog 37 #[.agg #[.slice A n c], .slice L l.length cl, .int .i64 N] w (SpsErr w (runT t l N)) := by
  obtain ⟨W1, hW1⟩ : ∃ W1, w.alloc (.cells #[.slice A n c] 24) = W1 := ⟨_, rfl⟩
  have HB1 : Hid (Below w.heap.size w W1) := by rw [← hW1]; exact (Below.refl _ w).alloc (Nat.le_refl _) _
  have K1 : Hid (Blk W1 w.heap.size 24 #[.slice A n c]) := by rw [← hW1]; exact Blk.new w _ _ rfl
  have C1 := Lib.hid (rcheck_any t A n c ms W1 (hT.below HB1.out))
  have HL := Lib.hid hL
  have HT := Lib.hid hT
  have HW1 := Lib.hid hW1
  have HErr : Hid (∀ x, runT t l N = ([], x) → ∀ w', Below w.heap.size w w' → SpsErr w (runT t l N) (.returned (.tuple #[.slice none 0 0, .int .i64 x])) w') := fun x hx w' hb => by
    rw [hx]; exact ⟨_, [], rfl, Rows.nil _ _, rfl, hb⟩
  have HOkk : Hid (∀ r, runT t l N = (r, 0) → ∀ v ps w', Rows w' w.heap.size v ps → ps.map (·.1) = r → Below w.heap.size w w' → SpsErr w (runT t l N) (.returned (.tuple #[v, .int .i64 0])) w') := fun r hx v ps w' h1 h2 h3 => by
    rw [hx]; exact ⟨v, ps, rfl, h1, h2, h3⟩
  have F1 : Hid ((chkT t).2 ≠ 0 → runT t l N = ([], (chkT t).2)) := fun h => by unfold runT; rw [if_pos h]
  have F2 : Hid ((chkT t).2 = 0 → (decide (30 < (l.length : Int)) || decide (400 < N)) = true → runT t l N = ([], 3)) := fun h h2 => by unfold runT; rw [if_neg (fun c => c h), if_pos h2]
  have F3 : Hid ((chkT t).2 = 0 → (decide (30 < (l.length : Int)) || decide (400 < N)) = false → N < 0 → runT t l N = ([], 7)) := fun h h2 h3 => by unfold runT; rw [if_neg (fun c => c h), if_neg (by rw [h2]; decide), if_pos h3]
  have F4 : Hid ((chkT t).2 = 0 → (decide (30 < (l.length : Int)) || decide (400 < N)) = false → ¬ N < 0 → runT t l N = if spErr t l ≠ 0 then ([], spErr t l) else ((List.range t.length).map (spL t (ownR l N)), 0)) := fun h h2 h3 => by unfold runT; rw [if_neg (fun c => c h), if_neg (by rw [h2]; decide), if_neg h3]
  have HChk := Lib.hid (fun h => (chkT_ok (t := t)).1 h)
  generalize SpsErr w (runT t l N) = PP at *
  generalize runT t l N = X at *
  generalize chkT t = c12 at *
  obtain ⟨c1, c2⟩ := c12
  dsimp only at *
  clear hW1 hT hL
  go_enter Try.func37, Try.ntmps37
  go_wp2_with fail
  rw [HW1.out]
  have k0 := K1.out.cell (i := 0) rfl
  have kz := K1.out.lt
  go_wp2_with fail
  refine C1.out.mono ?_
  rintro e W2 ⟨rfl, hb2⟩
  have HB2 : Hid (Below w.heap.size w W2) := HB1.out.trans (hb2.mono HB1.out.size)
  have HM1 := Lib.hid (K1.out.later hb2)
  have HT2 := Lib.hid (HT.out.below HB2.out)
  have HL2 := Lib.hid (HL.out.below HB2.out)
  clear hb2 k0 kz K1 C1 HW1 HT HL HB1
  dsimp only
  by_cases hc2 : c2 = 0
  · subst hc2
    have hok := HChk.out rfl
    have HOk := Lib.hid hok
    have h40 : n ≤ 40 := by have := hok.l40; have := HT2.out.len; omega
    clear hok HChk F1
    by_cases h30 : 30 < (l.length : Int)
    · have b1 : decide (30 < (l.length : Int)) = true := by simpa using h30
      have HE := Lib.hid (F2.out rfl (by rw [b1]; rfl))
      clear h30
      go_wp2_with fail
      go_wp2_with fail
      go_loopw [9, 10] (fun v i wr => v = .int .i64 3 ∧ i = .int .i64 0 ∧ wr = W2) (fun _ _ _ => 0)
      case atStart => exact ⟨rfl, rfl, rfl⟩
      case round =>
        obtain ⟨rfl, rfl, rfl⟩ := hrel
        by_cases hl0 : 0 < l.length
        · have F := Lib.hid (HErr.out _ HE.out _ HB2.out)
          go_wp2_with fail
          first | exact F.out | (go_ret2; exact F.out)
        · have F := Lib.hid (HErr.out _ HE.out _ HB2.out)
          go_wp2_with fail
          first | exact F.out | (go_ret2; exact F.out)
    have b1 : decide (30 < (l.length : Int)) = false := by simpa using h30
    by_cases h400 : 400 < N
    · have b2 : decide (400 < N) = true := by simpa using h400
      have HE := Lib.hid (F2.out rfl (by rw [b1, b2]; rfl))
      clear h400
      go_wp2_with fail
      go_wp2_with fail
      go_loopw [9, 10] (fun v i wr => v = .int .i64 3 ∧ i = .int .i64 0 ∧ wr = W2) (fun _ _ _ => 0)
      case atStart => exact ⟨rfl, rfl, rfl⟩
      case round =>
        obtain ⟨rfl, rfl, rfl⟩ := hrel
        by_cases hl0 : 0 < l.length
        · have F := Lib.hid (HErr.out _ HE.out _ HB2.out)
          go_wp2_with fail
          first | exact F.out | (go_ret2; exact F.out)
        · have F := Lib.hid (HErr.out _ HE.out _ HB2.out)
          go_wp2_with fail
          first | exact F.out | (go_ret2; exact F.out)
    have b2 : decide (400 < N) = false := by simpa using h400
    by_cases hN0 : N < 0
    · have b3 : decide (N < 0) = true := by simpa using hN0
      have HE := Lib.hid (F3.out rfl (by rw [b1, b2]; rfl) hN0)
      clear hN0 h400
      go_wp2_with fail
      go_wp2_with fail
      go_loopw [9, 10] (fun v i wr => v = .int .i64 7 ∧ i = .int .i64 0 ∧ wr = W2) (fun _ _ _ => 0)
      case atStart => exact ⟨rfl, rfl, rfl⟩
      case round =>
        obtain ⟨rfl, rfl, rfl⟩ := hrel
        by_cases hl0 : 0 < l.length
        · have F := Lib.hid (HErr.out _ HE.out _ HB2.out)
          go_wp2_with fail
          first | exact F.out | (go_ret2; exact F.out)
        · have F := Lib.hid (HErr.out _ HE.out _ HB2.out)
          go_wp2_with fail
          first | exact F.out | (go_ret2; exact F.out)
    have b3 : decide (N < 0) = false := by simpa using hN0
    have HF4 := Lib.hid (F4.out rfl (by rw [b1, b2]; rfl) (by omega))
    obtain ⟨N, rfl⟩ : ∃ N' : Nat, N = (N' : Int) := ⟨N.toNat, by omega⟩
    have hN4 : N ≤ 400 := by omega
    have hl30 : l.length ≤ 30 := by omega
    clear F2 F3 F4 hN0
    go_wp2_with fail
    clear b1 b2 b3
    go_loopw [9, 10] (fun v i wr => ∃ (k : Nat) (e : Int), k ≤ l.length ∧ v = .int .i64 e ∧ i = .int .i64 k ∧ (e = 0 ∧ spErr t (l.drop k) = spErr t l ∨ e ≠ 0 ∧ spErr t l = e) ∧ Below W2.heap.size W2 wr) (fun _ i _ => l.length - (intOf i).toNat)
    case atStart => exact ⟨0, 0, Nat.zero_le _, rfl, rfl, .inl ⟨rfl, rfl⟩, Below.refl _ _⟩
    case round =>
      obtain ⟨k, e, hk, rfl, rfl, hE, hB⟩ := hrel
      have HB := Lib.hid hB
      have HBw : Hid (Below w.heap.size w wr) := HB2.out.trans (HB.out.mono HB2.out.size)
      have HM := Lib.hid (HM1.out.later HB.out)
      clear hB
      by_cases he : e = 0
      · subst he
        have hE0 : spErr t (l.drop k) = spErr t l := by
          rcases hE with hE | hE
          · exact hE.2
          · exact absurd rfl hE.1
        have HE0 := Lib.hid hE0
        clear hE hE0
        by_cases hlt : k < l.length
        · obtain ⟨s, sd, hs, rfl, hcs⟩ := (HL2.out.below HB.out).get hlt
          have HSt := Lib.hid (spErr_step (t := t) hs)
          rw [HE0.out, spE_doc] at HSt
          obtain ⟨d0, d1, d2⟩ := hcs.three
          have HD0 := Lib.hid d0; have HD1 := Lib.hid d1; have HD2 := Lib.hid d2
          have hkl : (k : Int) < (l.length : Int) := by omega
          have HBd : Hid (Below wr.heap.size wr wr.drew) := (Below.refl _ _).drew
          have HBas := Lib.hid (basics_any t A n c ms wr.drew ((HT2.out.below HB.out).below HBd.out) (by omega))
          clear d0 d1 d2 hs hcs HE0
          obtain ⟨sn, sa, sb⟩ := s
          dsimp only at *
          go_wp2_with fail
          have x0 := later_cell (HM.out.cell (i := 0) rfl)
          have x1 := later_cell HD0.out
          have HS0 : Hid ((fun w' => ∃ u : Later wr, w' = u.w) wr.drew) := ⟨⟨wr.drew, HBd.out⟩, rfl⟩
          refine wp_region_noPanic ?_
          refine wp_region_ord (fun w' => ∃ u : Later wr, w' = u.w) 8 (fun k => k == 0 || k == 2 || k == 3 || k == 4 || k == 5 || k == 6) (ordOf _ [0, 2, 3, 4, 5, 6, 1, 7, 8]) (by kernel_rfl) (by kernel_rfl) (ordOf_mem _ _) (fun _ _ _ _ _ h => h) ?_
          simp only [ordOf, List.filterMap_cons, List.filterMap_nil, List.getElem?_cons_zero, List.getElem?_cons_succ, Option.map_some]
          iterate 6 (refine ord_quiet rfl rfl rfl HS0.out ?_; intro K hK; go_big_quiet_op; go_big_quiet_on)
          clear x0 x1 HS0
          refine ord_op rfl ?_
          go_wp2_with fail
          refine HBas.out.mono ?_
          rintro e W3 ⟨v, rfl, hrw, hb2⟩
          have HB3 : Hid (Below wr.heap.size wr W3) := HBd.out.trans hb2
          obtain ⟨Ab, cb, rfl, hrb, _, _⟩ := rdI_of_own hrw rfl
          have hbl := basL_le HOk.out
          have hH := rhas_any (basL t) sn Ab (basL t).length cb W3 hrb (by omega)
          rw [mem_basI] at hH
          have HH := Lib.hid hH
          clear hrw hb2 hrb hH HBas HBd
          go_wp2_with fail
          refine mix_post (fun _ => ⟨⟨_, HB3.out⟩, rfl⟩) ?_
          refine ord_op rfl ?_
          go_wp2_with fail
          refine HH.out.mono ?_
          rintro e W4 ⟨rfl, hb3⟩
          have HB4 : Hid (Below wr.heap.size wr W4) := HB3.out.trans (hb3.mono HB3.out.size)
          have HB24 : Hid (Below W2.heap.size W2 W4) := HB.out.trans (HB4.out.mono HB.out.size)
          clear hb3 HH HB3
          go_wp2_with fail
          refine mix_post (fun _ => ⟨⟨_, HB4.out⟩, rfl⟩) ?_
          generalize basI t sn = bb at *
          cases bb
          · have HE4 : Hid (spErr t l = 4) := by rw [HSt.out]; exact rfl
            iterate 1 (refine ord_op rfl ?_; go_wp2_with fail; refine mix_post (fun h => absurd h (by decide)) ?_)
            refine ord_nil ?_
            refine NoPanic.normal ?_
            go_wp2_with fail
            go_roundw
            case rel => exact ⟨k + 1, 4, by omega, rfl, by go_num, .inr ⟨by decide, HE4.out⟩, HB24.out⟩
            case measure => simp [intOf]; omega
          iterate 1 (refine ord_op rfl ?_; go_wp2_with fail; refine mix_post (fun h => absurd h (by decide)) ?_)
          refine ord_nil ?_
          refine NoPanic.normal ?_
          have HBd : Hid (Below W4.heap.size W4 W4.drew) := (Below.refl _ _).drew
          have HIn1 := Lib.hid (in_any sa 0 400 W4.drew)
          have HIn2 := Lib.hid (in_any sb sa 400 W4.drew)
          go_wp2_with fail
          have x1 := later_cell (cell_below HB4.out HD1.out)
          have x2 := later_cell (cell_below HB4.out HD2.out)
          have HS0 : Hid ((fun w' => ∃ u : Later W4, w' = u.w) W4.drew) := ⟨⟨W4.drew, HBd.out⟩, rfl⟩
          refine wp_region_noPanic ?_
          refine wp_region_ord (fun w' => ∃ u : Later W4, w' = u.w) 18 (fun k => decide (k < 18) && !(k == 5)) (ordOf _ [0, 1, 2, 3, 4, 5, 6, 7, 8, 9, 10, 11, 12, 13, 14, 15, 16, 17, 18, 19, 20]) (by kernel_rfl) (by kernel_rfl) (ordOf_mem _ _) (fun _ _ _ _ _ h => h) ?_
          simp only [ordOf, List.filterMap_cons, List.filterMap_nil, List.getElem?_cons_zero, List.getElem?_cons_succ, Option.map_some]
          iterate 5 (refine ord_quiet rfl rfl rfl HS0.out ?_; intro K hK; go_big_quiet_op; go_big_quiet_on)
          refine ord_op rfl ?_
          go_wp2_with fail
          refine HIn1.out.mono ?_
          rintro e W5 ⟨rfl, rfl⟩
          go_wp2_with fail
          refine mix_post (fun _ => HS0.out) ?_
          cases ha : outB sa 0 400
          · iterate 12 (refine ord_quiet rfl rfl rfl HS0.out ?_; intro K hK; go_big_quiet_op; go_big_quiet_on)
            clear x1 x2
            refine ord_op rfl ?_
            go_wp2_with fail
            refine HIn2.out.mono ?_
            rintro e W5 ⟨rfl, rfl⟩
            go_wp2_with fail
            refine mix_post (fun h => absurd h (by decide)) ?_
            cases hbb : outB sb sa 400
            · have HE7 : Hid (spErr t (l.drop (k + 1)) = spErr t l) := by rw [HSt.out, ha, hbb]; exact rfl
              iterate 2 (refine ord_op rfl ?_; go_wp2_with fail; refine mix_post (fun h => absurd h (by decide)) ?_)
              refine ord_nil ?_
              refine NoPanic.normal ?_
              clear HS0
              go_wp2_with fail
              go_roundw
              case rel => exact ⟨k + 1, 0, by omega, rfl, by go_num, .inl ⟨rfl, HE7.out⟩, HB24.out.drew⟩
              case measure => simp [intOf]; omega
            · have HE7 : Hid (spErr t l = 7) := by rw [HSt.out, ha, hbb]; exact rfl
              iterate 2 (refine ord_op rfl ?_; go_wp2_with fail; refine mix_post (fun h => absurd h (by decide)) ?_)
              refine ord_nil ?_
              refine NoPanic.normal ?_
              clear HS0
              go_wp2_with fail
              go_roundw
              case rel => exact ⟨k + 1, 7, by omega, rfl, by go_num, .inr ⟨by decide, HE7.out⟩, HB24.out.drew⟩
              case measure => simp [intOf]; omega
          · have HE7 : Hid (spErr t l = 7) := by rw [HSt.out, ha]; exact rfl
            iterate 2 (refine ord_quiet rfl rfl rfl HS0.out ?_; intro K hK; go_big_quiet_op; go_big_quiet_on)
            iterate 10 (refine ord_skip rfl rfl HS0.out ?_; simp only [Act.put, List.setIfInBounds_toArray, List.set_cons_succ, List.set_cons_zero])
            clear x1 x2 HS0
            iterate 3 (refine ord_op rfl ?_; go_wp2_with fail; refine mix_post (fun h => absurd h (by decide)) ?_)
            refine ord_nil ?_
            refine NoPanic.normal ?_
            go_wp2_with fail
            go_roundw
            case rel => exact ⟨k + 1, 7, by omega, rfl, by go_num, .inr ⟨by decide, HE7.out⟩, HB24.out.drew⟩
            case measure => simp [intOf]; omega
        · obtain rfl : k = l.length := by omega
          have hsp : spErr t l = 0 := by rw [← HE0.out, List.drop_length]; rfl
          have hX := HF4.out
          rw [if_neg (fun c => c hsp)] at hX
          have HX := Lib.hid hX
          have HSp := Lib.hid hsp
          clear hX hsp HE0 HF4
          have k0 := HM.out.cell (i := 0) rfl
          have kz := HM.out.lt
          go_wp2_with fail
          refine (ran_any t l A n c ms L cl N wr (HT2.out.below HB.out) HOk.out (HL2.out.below HB.out) (by omega) (by omega)).mono ?_
          rintro e W7 ⟨v, ps, rfl, hr, hps, hb7⟩
          have HB7 : Hid (Below w.heap.size w W7) := HBw.out.trans (hb7.mono HBw.out.size)
          have HM7 := Lib.hid (HM.out.later hb7)
          obtain ⟨AV, cV, rfl, hget⟩ := ran_at hr hps
          have HGet := Lib.hid hget
          have HRu := Lib.hid (fun i (hi : i < t.length) L hL => ref_run HOk.out HSp.out hi (L := L) hL (N := N))
          have HTn : Hid (t.length = n) := HT2.out.len
          rw [HTn.out] at HX HRu
          clear hr hps hb7 hget k0 kz HM HB HBw HT2 HL2 HM1 HB2 HErr HTn
          go_wp2_with fail
          go_loopw [12, 13, 14, 15] (fun v i _ _ wr => ∃ (q : Nat) (qs : List SpP), q ≤ n ∧ i = .int .i64 q ∧ qs.length = q ∧ Rows wr W7.heap.size v qs ∧ qs.map (·.1) = (List.range q).map (spL t (ownR l N)) ∧ Below W7.heap.size W7 wr) (fun _ i _ _ _ => n - (intOf i).toNat)
          case atStart => exact ⟨0, [], Nat.zero_le _, rfl, rfl, Rows.nil _ _, rfl, Below.refl _ _⟩
          case round =>
            obtain ⟨q, qs, hq, rfl, hql, hRo, hqs, hB8⟩ := hrel
            have HRo := Lib.hid hRo; have HQs := Lib.hid hqs; have HB8 := Lib.hid hB8; have HQl := Lib.hid hql
            clear hRo hqs hB8 hql
            have k0 := (HM7.out.later HB8.out).cell (i := 0) rfl
            have kz := (HM7.out.later HB8.out).lt
            by_cases hlt : q < n
            · have hqn : (q : Int) < (n : Int) := by omega
              go_wp2_with fail
              obtain ⟨wo, rfl⟩ : ∃ wo : World, wo = wr := ⟨_, rfl⟩
              clear k0 kz
              obtain ⟨jj, hij, hzj0, hzj1, hzj2⟩ := info_parts infoSp
              have HI0 := Lib.hid hij; have HZ0 := Lib.hid hzj0; have HZ1 := Lib.hid hzj1; have HZ2 := Lib.hid hzj2
              clear hij hzj0 hzj1 hzj2
              go_loopw [14, 15] (fun v i wr => ∃ (j : Nat) (sp : List Sp), j ≤ N ∧ i = .int .i64 j ∧ RunInv q (ft t (spB l) q) j sp ∧ sp.length ≤ j ∧ wr.ownsRow wo.heap.size 65 3 v sp.length (sp.flatMap Sp.enc) ∧ Below wo.heap.size wo wr) (fun _ i _ => N - (intOf i).toNat)
              case atStart => exact ⟨0, [], Nat.zero_le _, rfl, RunInv.zero _ _, Nat.zero_le _, World.ownsRow_nil _ _ _ _, Below.refl _ _⟩
              case round =>
                obtain ⟨j, sp, hj, rfl, hRi, hspl, hrw, hB9⟩ := hrel
                have HRi := Lib.hid hRi; have HRw := Lib.hid hrw; have HB9 := Lib.hid hB9
                have HB79 : Hid (Below W7.heap.size W7 wr) := HB8.out.trans (HB9.out.mono HB8.out.size)
                clear hRi hrw hB9
                by_cases hjl : j < N
                · have hjN : (j : Int) < (N : Int) := by omega
                  obtain ⟨ad, bd, pc, rfl, c0, c1⟩ := HGet.out wr HB79.out j q hjl hlt
                  cases hb : ft t (spB l) q j
                  · rw [hb] at c1
                    have HR2 := Lib.hid (HRi.out.no hb)
                    clear hb
                    go_wp2_with fail
                    go_roundw
                    case rel => exact ⟨j + 1, sp, by omega, by go_num, HR2.out, by omega, HRw.out, HB9.out⟩
                    case measure => simp [intOf]; omega
                  · rw [hb] at c1
                    have HBt := Lib.hid hb
                    clear hb
                    have hij := HI0.out; have hzj0 := HZ0.out; have hzj1 := HZ1.out; have hzj2 := HZ2.out
                    have HBz : Hid (wo.heap.size ≤ wr.heap.size) := HB9.out.size
                    have HEn : Hid ((sp ++ [(⟨(q : Int), (j : Int), (j : Int) + 1⟩ : Sp)]).flatMap Sp.enc = sp.flatMap Sp.enc ++ [.int .i64 q, .int .i64 j, .int .i64 (j + 1)]) := by show _ = _; simp
                    by_cases h0 : 0 < j
                    · have b5 : decide ((0 : Int) < (j : Int)) = true := by simpa using h0
                      obtain ⟨p, hp⟩ : ∃ p, j = p + 1 := ⟨j - 1, by omega⟩
                      have hw : (j : Int) - 1 = (p : Int) := by omega
                      have hpN : (p : Int) < (N : Int) := by omega
                      obtain ⟨ad', bd', pc', had, e0, e1⟩ := HGet.out wr HB79.out p q (by omega) hlt
                      cases had
                      cases hb' : ft t (spB l) q p
                      · rw [hb'] at e1
                        have HR2 := Lib.hid (HRi.out.new HBt.out (.inr (by rw [show j - 1 = p by omega]; exact hb')))
                        clear hb' hp
                        go_wp2_with (first | (refine wpList_buildSlice_one rfl 56 65 _ rfl 3 _ #[.int .i64 q, .int .i64 j, .int .i64 (j + 1)] rfl Try.underlying56 (Try.sizeOf65 _) (Try.zeroValue65 _) rfl (by omega) (by omega) ?_) | (at_builtin; refine wpList_append_st rfl _ _ 56 rfl wo.heap.size 65 jj (.agg #[.int .i64 0, .int .i64 0, .int .i64 0]) 3 24 Try.underlying56 hij hzj0 hzj1 hzj2 rfl (by decide) _ _ _ rfl HRw.out #[.int .i64 q, .int .i64 j, .int .i64 (j + 1)] rfl wr.heap.size rfl rfl (by simp [Value.oneCell']) (by unfold maxLen; omega) (by omega) HBz.out ?_; intro A' c'' w2 hown' hgrow _; have HO2 := Lib.hid hown'; have HG2 := Lib.hid hgrow; clear hown' hgrow))
                        go_roundw
                        case rel => exact ⟨j + 1, sp ++ [⟨q, j, j + 1⟩], by omega, by go_num, HR2.out, by rw [List.length_append]; simp; omega, by rw [HEn.out, List.length_append]; exact HO2.out, HB9.out.grown HG2.out HBz.out (fun r e => (HRw.out.lt r e).1)⟩
                        case measure => simp [intOf]; omega
                      · rw [hb'] at e1
                        obtain ⟨l', a, hla⟩ := HRi.out.last h0 (by rw [show j - 1 = p by omega]; exact hb')
                        subst hla
                        have HR2 := Lib.hid (HRi.out.more HBt.out)
                        have HE1 : Hid ((l' ++ [(⟨(q : Int), a, (j : Int)⟩ : Sp)]).length = l'.length + 1) := by show _ = _; simp
                        have HE2 : Hid ((l' ++ [(⟨(q : Int), a, (j : Int)⟩ : Sp)]).flatMap Sp.enc = l'.flatMap Sp.enc ++ [.int .i64 q, .int .i64 a, .int .i64 j]) := by show _ = _; simp
                        have hrow := HRw.out
                        rw [HE1.out, HE2.out] at hrow
                        rw [HE1.out] at hspl
                        rcases hrow.2 with ⟨_, h00⟩ | ⟨gb, cap, cur, rfl, hgb⟩
                        · omega
                        have cu : wr.cell? ⟨gb, l'.length * 3 + 2, none⟩ = some (.int .i64 j) := by rw [hrow.cellAt (l'.length * 3 + 2) (by omega), last_get]
                        have cf := hrow.frozenAt (l'.length * 3 + 2)
                        have cg : gb < wr.heap.size := (hrow.lt gb rfl).2
                        have HSt := Lib.hid (hrow.stored (l'.length * 3 + 2) (.int .i64 ((j : Int) + 1)))
                        have HGb : Hid (wo.heap.size ≤ gb) := (hrow.lt gb rfl).1
                        have HE3 : Hid ((l' ++ [(⟨(q : Int), a, (j : Int) + 1⟩ : Sp)]).length = l'.length + 1) := by show _ = _; simp
                        have HE4 : Hid ((l' ++ [(⟨(q : Int), a, (j : Int) + 1⟩ : Sp)]).flatMap Sp.enc = l'.flatMap Sp.enc ++ [.int .i64 q, .int .i64 a, .int .i64 (j + 1)]) := by show _ = _; simp
                        clear hb' hp hgb hrow HRw
                        go_wp2_with fail
                        go_roundw
                        case rel => exact ⟨j + 1, l' ++ [⟨q, a, j + 1⟩], by omega, by go_num, HR2.out, by rw [HE3.out]; omega, by rw [HE3.out, HE4.out, ← last_set l' _ _ (.int .i64 j)]; exact HSt.out.1, HB9.out.grown HSt.out.2 HBz.out (fun r e => by cases e; exact HGb.out)⟩
                        case measure => simp [intOf]; omega
                    · have b5 : decide ((0 : Int) < (j : Int)) = false := by simp; omega
                      have HR2 := Lib.hid (HRi.out.new HBt.out (.inl (by omega)))
                      go_wp2_with (first | (refine wpList_buildSlice_one rfl 56 65 _ rfl 3 _ #[.int .i64 q, .int .i64 j, .int .i64 (j + 1)] rfl Try.underlying56 (Try.sizeOf65 _) (Try.zeroValue65 _) rfl (by omega) (by omega) ?_) | (at_builtin; refine wpList_append_st rfl _ _ 56 rfl wo.heap.size 65 jj (.agg #[.int .i64 0, .int .i64 0, .int .i64 0]) 3 24 Try.underlying56 hij hzj0 hzj1 hzj2 rfl (by decide) _ _ _ rfl HRw.out #[.int .i64 q, .int .i64 j, .int .i64 (j + 1)] rfl wr.heap.size rfl rfl (by simp [Value.oneCell']) (by unfold maxLen; omega) (by omega) HBz.out ?_; intro A' c'' w2 hown' hgrow _; have HO2 := Lib.hid hown'; have HG2 := Lib.hid hgrow; clear hown' hgrow))
                      go_roundw
                      case rel => exact ⟨j + 1, sp ++ [⟨q, j, j + 1⟩], by omega, by go_num, HR2.out, by rw [List.length_append]; simp; omega, by rw [HEn.out, List.length_append]; exact HO2.out, HB9.out.grown HG2.out HBz.out (fun r e => (HRw.out.lt r e).1)⟩
                      case measure => simp [intOf]; omega
                · obtain rfl : j = N := by omega
                  have HFin := Lib.hid (HRu.out q hlt sp HRi.out)
                  obtain ⟨A7, c7, e0, _⟩ := own_slice HRw.out
                  subst e0
                  have HRoN := Lib.hid (HRo.out.below HB9.out)
                  have HSpO : Hid (SpO wr (sp, A7, c7)) := SpO.of HRw.out
                  have HWz : Hid (W7.heap.size ≤ wr.heap.size) := HB79.out.size
                  obtain ⟨ii, hii, hzi0, hzi1, hzi2⟩ := info_parts infoSs
                  have hpq : qs.length ≤ 40 := by rw [HQl.out]; omega
                  go_wp2_with (at_builtin; refine wpList_append_one rfl _ _ 57 rfl W7.heap.size 56 ii (.slice none 0 0) 24 Try.underlying57 hii hzi0 hzi1 hzi2 rfl _ _ _ rfl HRoN.out.row (.slice A7 sp.length c7) wr.heap.size rfl rfl (by simp [Value.oneCell']) (by unfold maxLen; omega) (by omega) HWz.out ?_; intro A' c'' w2 hown' hgrow _; have HO2 := Lib.hid hown'; have HG2 := Lib.hid hgrow; clear hown' hgrow)
                  go_roundw
                  case rel =>
                    refine ⟨q + 1, qs ++ [(sp, A7, c7)], by omega, by go_num, by rw [List.length_append, HQl.out]; rfl, HRoN.out.snoc HSpO.out HG2.out HO2.out, ?_, HB79.out.grown HG2.out HWz.out (fun r e => (HRoN.out.row.lt r e).1)⟩
                    rw [List.map_append, HQs.out, List.range_succ, List.map_append]
                    show _ ++ [sp] = _ ++ [spL t (ownR l j) q]
                    rw [HFin.out]
                  case measure => simp [intOf]; omega
            · obtain rfl : n = q := by omega
              have F := Lib.hid (HOkk.out _ HX.out _ qs wr (HRo.out.lower HB7.out.size) HQs.out (HB7.out.trans (HB8.out.mono HB7.out.size)))
              go_wp2_with fail
              first | exact F.out | (go_ret2; exact F.out)
      · have hE0 : spErr t l = e := by
          rcases hE with hE | hE
          · exact absurd hE.1 he
          · exact hE.2
        have hX := HF4.out
        rw [if_pos (by rw [hE0]; exact he), hE0] at hX
        have HX := Lib.hid hX
        have b1 : (e == 0) = false := by simpa using he
        have b2 : (e != 0) = true := by simpa using he
        clear hX hE0 hE he HF4
        by_cases hlt : k < l.length
        · have hkl : (k : Int) < (l.length : Int) := by omega
          have F := Lib.hid (HErr.out _ HX.out _ HBw.out)
          go_wp2_with fail
          first | exact F.out | (go_ret2; exact F.out)
        · obtain rfl : k = l.length := by omega
          have F := Lib.hid (HErr.out _ HX.out _ HBw.out)
          go_wp2_with fail
          first | exact F.out | (go_ret2; exact F.out)
  · have HE := Lib.hid (F1.out hc2)
    have b1 : (c2 == 0) = false := by simpa using hc2
    have b2 : (c2 != 0) = true := by simpa using hc2
    clear hc2 F1 F2 F3 F4 HChk
    go_wp2_with fail
    go_wp2_with fail
    go_loopw [9, 10] (fun v i wr => v = .int .i64 c2 ∧ i = .int .i64 0 ∧ wr = W2) (fun _ _ _ => 0)
    case atStart => exact ⟨rfl, rfl, rfl⟩
    case round =>
      obtain ⟨rfl, rfl, rfl⟩ := hrel
      by_cases hl0 : 0 < l.length
      · have F := Lib.hid (HErr.out _ HE.out _ HB2.out)
        go_wp2_with fail
        first | exact F.out | (go_ret2; exact F.out)
      · have F := Lib.hid (HErr.out _ HE.out _ HB2.out)
        go_wp2_with fail
        first | exact F.out | (go_ret2; exact F.out)
end Go.Proofs.Ytadldndpphdmpaa
