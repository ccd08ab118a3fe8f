/- The error of a node, by the program. -/
import Derived.Test.YtadldndpphdmpaaGreatG4
import Derived.Test.YtadldndpphdmpaaGreatQB
namespace Go.Proofs.YtadldndpphdmpaaGreat
open Go.RowKit Go.Shelf

theorem adj_nodup {l : List Int} (hs : l.Pairwise (· ≤ ·)) (h : ∀ j, 0 < j → (hj : j < l.length) → l[j] ≠ l[j - 1]) : l.Nodup := by
  rw [List.nodup_iff_pairwise_ne, List.pairwise_iff_getElem]
  intro i j hi hj hij e
  have h1 : l[i] ≤ l[j - 1] := by
    rcases Nat.lt_or_ge i (j - 1) with q | q
    · exact (List.pairwise_iff_getElem.1 hs) i (j - 1) hi (by omega) q
    · have : i = j - 1 := by omega
      subst this; exact Int.le_refl _
  have h2 : l[j - 1] ≤ l[j] := (List.pairwise_iff_getElem.1 hs) (j - 1) j (by omega) hj (by omega)
  have h3 := h j (by omega) hj
  omega
theorem compact_short {l : List Int} (hs : l.Pairwise (· ≤ ·)) : decide ((Lib.compact l).length < l.length) = dupB l := by
  unfold dupB
  rw [Bool.eq_iff_iff, decide_eq_true_eq]
  simp only [Bool.not_eq_true', decide_eq_false_iff_not]
  have hlen : (Lib.compact l).length = ((List.range l.length).filter (Lib.keeps l.toArray)).length := by
    unfold Lib.compact Lib.compactUpTo; rw [List.length_map]
  constructor
  · intro h hn
    rw [Lib.compact_all l (fun j hj => ?_)] at h
    · omega
    · by_cases h0 : j = 0
      · subst h0; exact Lib.keeps_lt_one _ 0 (by omega)
      · refine Lib.keeps_pos ?_
        rw [getElem!_pos l.toArray j (by simpa using hj), getElem!_pos l.toArray (j - 1) (by simp; omega)]
        intro e
        simp at e
        have := (List.pairwise_iff_getElem.1 (List.nodup_iff_pairwise_ne.1 hn)) (j - 1) j (by omega) hj (by omega)
        exact this e.symm
  · intro hn
    apply Classical.byContradiction
    intro hc
    apply hn
    refine adj_nodup hs fun j h0 hj e => ?_
    have hk : Lib.keeps l.toArray j = false := by
      refine Lib.keeps_neg h0 ?_
      rw [getElem!_pos l.toArray j (by simpa using hj), getElem!_pos l.toArray (j - 1) (by simp; omega)]
      simpa using e
    have hle := List.length_filter_le (Lib.keeps l.toArray) (List.range l.length)
    rw [List.length_range] at hle
    have : ((List.range l.length).filter (Lib.keeps l.toArray)).length = (List.range l.length).length := by rw [List.length_range]; omega
    rw [List.length_filter_eq_length_iff] at this
    have := this j (List.mem_range.2 hj)
    rw [hk] at this
    cases this
/-- The sorted list. -/
def sortI (l : List Int) : List Int := l.mergeSort fun x y => decide (x ≤ y)
theorem sortI_perm (l : List Int) : (sortI l).Perm l := List.mergeSort_perm l _
theorem sortI_len (l : List Int) : (sortI l).length = l.length := List.length_mergeSort l
theorem sortI_sorted (l : List Int) : (sortI l).Pairwise (· ≤ ·) := by
  have hs := List.pairwise_mergeSort (le := fun x y : Int => decide (x ≤ y)) (fun a b c h1 h2 => by simp at *; omega) (fun a b => by simp; omega) l
  exact hs.imp fun h => by simpa using h
theorem compact_dup (l : List Int) : decide (((Lib.compact (sortI l)).length : Int) < (l.length : Int)) = dupB l := by
  have h := compact_short (sortI_sorted l)
  rw [sortI_len] at h
  have e : dupB (sortI l) = dupB l := by
    unfold dupB
    rw [Bool.eq_iff_iff]
    simp only [Bool.not_eq_true', decide_eq_false_iff_not]
    rw [(sortI_perm l).nodup_iff]
  rw [← e, ← h, decide_eq_decide]
  omega
theorem grownBy_putRow {w : World} {g n : Nat} (d : Array Int) : w.grownBy (Sort.putRow (Value.int .i64) (Sort.ahead w n) g 0 d) (some g) := by
  refine ⟨rfl, rfl, rfl, by simp [Sort.putRow, Sort.mapBlock, Sort.ahead], fun k hk hne => ?_⟩
  have : g ≠ k := fun e => hne (by rw [e])
  simp [Sort.putRow, Sort.mapBlock, Sort.ahead, Array.getElem?_modify, this]
theorem compact_any {w : World} {base : Nat} {v : Value} {zs : List Int} (h : w.ownsRow base 3 1 v zs.length (zs.map (Value.int .i64))) (hn : zs.length ≤ 1000000000000000) (hw : base ≤ w.heap.size) :
    Calls Tryz.prog 96 #[v] w fun e w' => (∃ A c, e = .returned (.slice A (Lib.compact zs).length c)) ∧ Below base w w' := by
  rcases h.2 with ⟨rfl, h0⟩ | ⟨g, cap, cur, rfl, hbase, hb, h1, h2, h3, h4⟩
  · have hz : zs = [] := List.length_eq_zero_iff.1 h0
    subst hz
    exact (Tryz.slices_Compact_int_empty none 0 w).mono fun e w' ⟨he, hw'⟩ => ⟨⟨none, 0, he⟩, by rw [hw']; exact Below.refl _ _⟩
  · have hH := holds_of_blockI hb (by simpa using h4)
    refine (Tryz.slices_Compact_int g 0 cap zs w hH (by omega) h1).mono fun e w' ⟨he, q, hw'⟩ => ⟨⟨_, _, he⟩, ?_⟩
    rw [hw']
    exact (Below.refl _ _).grown (grownBy_putRow _) hw (fun j e => by cases e; exact hbase)

theorem node_blocks (w : World) (cs ms : Array Value) (i : Int) (t1 t2 t3 : TypeId) : ∀ W, ((w.alloc (.cells cs t1)).alloc (.cells #[.int .i64 i] t2)).alloc (.cells ms t3) = W →
    Below w.heap.size w W ∧ Blk W w.heap.size t1 cs ∧ Blk W (w.heap.size + 1) t2 #[.int .i64 i] ∧ Blk W (w.heap.size + 1 + 1) t3 ms := by
  rintro W rfl
  refine ⟨(((Below.refl _ w).alloc (Nat.le_refl _) _).alloc (by simp) _).alloc (by simp; omega) _, ((Blk.new _ _ _ rfl).alloc _).alloc _, (Blk.new _ _ _ (by simp)).alloc _, Blk.new _ _ _ (by simp)⟩

set_option maxRecDepth 100000 in
set_option maxHeartbeats 4000000 in
theorem node_any (t : List Nd) (A : Option Addr) (n c : Nat) (ms : List NdM) (i : Nat) (x : Nd) (w : World) (hT : TrM w t A n ms) (hc : n ≤ c) (hx : t[i]? = some x) :
    Calls Tryz.prog 76 #[.agg #[.slice A n c], .int .i64 (i : Int)] w fun e w' => e = .returned (.int .i64 (ndErr t i x)) ∧ Below w.heap.size w w' := by
  have hin : i < n := by have := (List.getElem?_eq_some_iff.1 hx).1; have := hT.len; omega
  obtain ⟨m, ad, hm, hA, ha, hN⟩ := hT.get hin
  rw [hx] at hm
  cases hm
  obtain ⟨Ai, c', hmm⟩ : ∃ Ai c', m = ⟨m.nd, Ai, c'⟩ := ⟨m.A, m.c, rfl⟩
  have hbig := hT.big
  have HT := Lib.hid hT; clear hT
  have HNR := Lib.hid hN
  have hll := hN.len
  have hlc := hN.cap
  have hnm := hN.nam
  clear hN hx
  generalize hX : ndErr t i m.nd = X
  have HX := Lib.hid hX; clear hX
  obtain ⟨⟨na, ki, li, cn, ho⟩, A2, c2⟩ := m
  clear hmm Ai c'
  dsimp only at *
  subst hA
  obtain ⟨c0, c1, c2', c3, c4⟩ := (ha.below ((((Below.refl _ w).alloc (Nat.le_refl _) (.cells #[.slice (some ad) n c] 24)).alloc (by simp) (.cells #[.int .i64 (i : Int)] 3)))).five
  clear ha
  have hii : (i : Int) < (n : Int) := by omega
  have HII := Lib.hid hii
  rcases (by
      by_cases h1 : ki = 1
      · exact .inl h1
      · by_cases h4 : ki = 4
        · exact .inr (.inl h4)
        · exact .inr (.inr ⟨h1, h4⟩) : ki = 1 ∨ ki = 4 ∨ (ki ≠ 1 ∧ ki ≠ 4)) with hk | hk | ⟨hk1, hk4⟩
  · have q1 : (ki == 1) = true := by simpa using hk
    have q4 : (ki == 4) = false := by rw [hk]; rfl
    obtain ⟨lb, hlb⟩ : ∃ lb, outB (li.length : Int) 0 0 = lb := ⟨_, rfl⟩
    have HL10 : Hid (lb = false → li.length ≤ 10000) := fun e => by rw [e] at hlb; have := outB_false hlb; omega
    have HLen : Hid (lenBad ⟨na, ki, li, cn, ho⟩ = lb) := by
      rw [← hlb]
      clear hlb HL10
      unfold lenBad
      show _ = _
      rw [if_pos hk]
      clear hlc hll c2' HT HNR HX
      rcases li with _ | ⟨a, r⟩
      · rfl
      · unfold outB
        rw [Bool.eq_iff_iff]
        simp
    obtain ⟨cb, hcb⟩ : ∃ cb, (cn != 0) = cb := ⟨_, rfl⟩
    have HCnt : Hid (cntBad ⟨na, ki, li, cn, ho⟩ = cb) := by rw [← hcb]; unfold cntBad; show _ = _; rw [if_neg (show ¬ ki = 4 by omega)]; rfl
    clear hk
    go_enter Tryz.func76, Tryz.ntmps76
    go_wp2_with fail
    all_goals
      refine (name_any _ _ hnm).mono ?_
      rintro e w' ⟨rfl, rfl⟩
      obtain ⟨W1, hW1⟩ : ∃ W1, ((w.alloc (.cells #[.slice (some ad) n c] 24)).alloc (.cells #[.int .i64 (i : Int)] 3)).alloc (.cells #[.string na, .int .i64 ki, .slice A2 li.length c2, .int .i64 cn, .int .i64 ho] 40) = W1 := ⟨_, rfl⟩
      obtain ⟨b1, b2, b3, b4⟩ := node_blocks w _ _ _ _ _ _ W1 hW1
      rw [hW1]
      have HB1 := Lib.hid b1; have K1 := Lib.hid b2; have K2 := Lib.hid b3; have K3 := Lib.hid b4
      clear hW1 c0 c1 c2' c3 c4 b1 b2 b3 b4
      by_cases g1 : nameB na = false
      · have F : Hid (6 = X) := by have := HX.out; unfold ndErr at this; rw [if_pos g1] at this; exact this
        go_wp2_with fail
        go_ret
        exact ⟨ret_int F.out, HB1.out⟩
      have g1' : nameB na = true := by simpa using g1
      have HX2 : Hid ((if anyB t na i = true then 5 else if outB ki 1 4 = true then 2 else if lenBad ⟨na, ki, li, cn, ho⟩ = true then 3 else if insBad i ⟨na, ki, li, cn, ho⟩ = true then 4 else if dupB li = true then 5 else if rangeBad ⟨na, ki, li, cn, ho⟩ = true then 7 else 0) = X) := by have := HX.out; unfold ndErr at this; rw [if_neg g1] at this; exact this
      have CN := containsN_any (t.take i) (some ad) i c (ms.take i) (w.heap.size + 1 + 1) na W1 ((HT.out.below HB1.out).take (by omega)) (K3.out.cell (i := 0) rfl)
      rw [anyB_take] at CN
      have HCN := Lib.hid CN
      clear CN g1
      have hci : (i : Int) ≤ (c : Int) := by omega
      have k10 := K1.out.cell (i := 0) rfl
      have k20 := K2.out.cell (i := 0) rfl
      have k30 := K3.out.cell (i := 0) rfl
      go_wp2_with fail
      refine HCN.out.mono ?_
      rintro e W2 ⟨rfl, hb2⟩
      have HB2 : Hid (Below w.heap.size w W2) := HB1.out.trans (hb2.mono HB1.out.size)
      have L2 := Lib.hid (K2.out.later hb2)
      have L3 := Lib.hid (K3.out.later hb2)
      clear hb2 k10 k20 k30 HCN K1 K2 K3
      have k20 := L2.out.cell (i := 0) rfl
      have k31 := L3.out.cell (i := 1) rfl
      have k32 := L3.out.cell (i := 2) rfl
      have k33 := L3.out.cell (i := 3) rfl
      have k34 := L3.out.cell (i := 4) rfl
      have HNR2 : Hid (NdR W2 ⟨⟨na, ki, li, cn, ho⟩, A2, c2⟩) := HNR.out.below HB2.out
      by_cases g2 : anyB t na i = true
      · have F : Hid (5 = X) := by have := HX2.out; rw [if_pos g2] at this; exact this
        go_wp2_with fail
        go_ret
        exact ⟨ret_int F.out, HB2.out⟩
      have g2' : anyB t na i = false := by simpa using g2
      have HX3 : Hid ((if outB ki 1 4 = true then 2 else if lenBad ⟨na, ki, li, cn, ho⟩ = true then 3 else if insBad i ⟨na, ki, li, cn, ho⟩ = true then 4 else if dupB li = true then 5 else if rangeBad ⟨na, ki, li, cn, ho⟩ = true then 7 else 0) = X) := by have := HX2.out; rw [if_neg g2] at this; exact this
      clear g2 HX HX2
      by_cases g3 : outB ki 1 4 = true
      · have F : Hid (2 = X) := by have := HX3.out; rw [if_pos g3] at this; exact this
        go_wp2_with (go_at_call 37; refine (out_any _ _ _ _).mono ?_; rintro e w' ⟨rfl, rfl⟩)
        go_ret
        exact ⟨ret_int F.out, HB2.out⟩
      have g3' : outB ki 1 4 = false := by simpa using g3
      have HX4 : Hid ((if lenBad ⟨na, ki, li, cn, ho⟩ = true then 3 else if insBad i ⟨na, ki, li, cn, ho⟩ = true then 4 else if dupB li = true then 5 else if rangeBad ⟨na, ki, li, cn, ho⟩ = true then 7 else 0) = X) := by have := HX3.out; rw [if_neg g3] at this; exact this
      clear g3 HX3
      cases lb with
      | true =>
        have F : Hid (3 = X) := by have := HX4.out; rw [if_pos HLen.out] at this; exact this
        go_wp2_with (go_at_call 37; refine (out_any _ _ _ _).mono ?_; rintro e w' ⟨rfl, rfl⟩)
        go_ret
        exact ⟨ret_int F.out, HB2.out⟩
      | false =>
        have hl10 := HL10.out rfl
        have HX5 : Hid ((if insBad i ⟨na, ki, li, cn, ho⟩ = true then 4 else if dupB li = true then 5 else if rangeBad ⟨na, ki, li, cn, ho⟩ = true then 7 else 0) = X) := by have := HX4.out; rw [HLen.out, if_neg (by decide)] at this; exact this
        have CI := containsI_any li i A2 li.length c2 (w.heap.size + 1) W2 HNR2.out.ins (by omega) k20 (by omega) (by omega)
        rw [← insP_any li i ⟨na, ki, li, cn, ho⟩ rfl] at CI
        have HCI := Lib.hid CI
        clear CI HX4
        generalize insBad i ⟨na, ki, li, cn, ho⟩ = ib at *
        go_wp2_with (first | (go_at_call 37; refine (out_any _ _ _ _).mono ?_; rintro e w' ⟨rfl, rfl⟩) | fail)
        refine HCI.out.mono ?_
        rintro e W3 ⟨rfl, hb3⟩
        have HB3 : Hid (Below w.heap.size w W3) := HB2.out.trans (hb3.mono HB2.out.size)
        have M3 := Lib.hid (L3.out.later hb3)
        have HNR3 : Hid (NdR W3 ⟨⟨na, ki, li, cn, ho⟩, A2, c2⟩) := HNR.out.below HB3.out
        clear hb3 HCI k20 k31 k32 k33 k34 L2 L3 HNR2 HB2
        cases ib with
        | true =>
          have F : Hid (4 = X) := by have := HX5.out; rw [if_pos rfl] at this; exact this
          go_wp2_with fail
          go_ret
          exact ⟨ret_int F.out, HB3.out⟩
        | false =>
          have HX6 : Hid ((if dupB li = true then 5 else if rangeBad ⟨na, ki, li, cn, ho⟩ = true then 7 else 0) = X) := by have := HX5.out; rw [if_neg (by decide)] at this; exact this
          clear HX5
          have k32 := later_cell (M3.out.cell (i := 2) rfl)
          go_wp2_with fail
          have HS0 : Hid ((fun w' => ∃ u : Later W3, w' = u.w) W3.drew) := ⟨⟨W3.drew, (Below.refl _ _).drew⟩, rfl⟩
          refine wp_region_noPanic ?_
          refine wp_region_ord (fun w' => ∃ u : Later W3, w' = u.w) 9 (fun k => k == 0 || k == 1 || k == 6 || k == 7 || k == 8) (ordOf _ [0, 1, 6, 7, 8, 2, 3, 4, 5, 9, 10]) (by kernel_rfl) (by kernel_rfl) (ordOf_mem _ _) (fun _ _ _ _ _ h => h) ?_
          simp only [ordOf, List.filterMap_cons, List.filterMap_nil, List.getElem?_cons_zero, List.getElem?_cons_succ, Option.map_some]
          iterate 5 ((first | refine ord_quiet rfl rfl rfl HS0.out ?_ | refine ord_len rfl _ _ _ Tryz.underlying38 _ _ _ rfl rfl rfl HS0.out ?_); intro K hK; go_big_quiet_op; go_big_quiet_on)
          clear k32
          have HBd : Hid (Below w.heap.size w W3.drew) := HB3.out.drew
          have hzd : W3.drew.heap.size = W3.heap.size := rfl
          refine ord_op rfl ?_
          go_wp2_with (go_at_call 98; refine (values_any _ _ _ _).mono ?_; rintro e w' ⟨rfl, rfl⟩)
          have HV1 : Hid (Below W3.heap.size W3 (W3.alloc (.cells #[.slice A2 li.length c2] 38)).drew) := ((Below.refl _ W3).alloc (Nat.le_refl _) _).drew
          have HSt := sorted_any W3.heap.size A2 li.length c2 li (W3.alloc (.cells #[.slice A2 li.length c2] 38)).drew (cell_at_new (w := W3) rfl rfl) (HNR3.out.ins.below HV1.out) hl10
          have HSt := Lib.hid HSt
          refine mix_post (fun _ => ⟨⟨_, HV1.out⟩, rfl⟩) ?_
          refine ord_op rfl ?_
          generalize hV1 : (W3.alloc (.cells #[.slice A2 li.length c2] 38)).drew = V1 at *
          clear hV1 hzd
          go_wp2_with fail
          refine HSt.out.mono ?_
          rintro e V2 ⟨v, rfl, h1, h2⟩
          have HV2 : Hid (Below W3.heap.size W3 V2) := HV1.out.trans (h2.mono HV1.out.size)
          have HZl : (sortI li).length = li.length := sortI_len li
          have HCm := Lib.hid (compact_any (zs := sortI li) (own_lower h1 HV1.out.size) (by rw [HZl]; omega) HV2.out.size)
          rw [List.length_mergeSort] at h1
          obtain ⟨Av, cv, rfl, _⟩ := own_slice h1
          clear h1 h2 HSt HZl
          go_wp2_with fail
          refine mix_post (fun _ => ⟨⟨_, HV2.out⟩, rfl⟩) ?_
          refine ord_op rfl ?_
          have HCm2 : Hid (Calls Tryz.prog 96 #[.slice Av li.length cv] V2 fun e w' => (∃ A c, e = .returned (.slice A (Lib.compact (sortI li)).length c)) ∧ Below W3.heap.size V2 w') := HCm.out
          clear HCm
          have HDu := Lib.hid (compact_dup li)
          generalize (Lib.compact (sortI li)).length = cl at *
          generalize dupB li = db at *
          go_wp2_with fail
          refine HCm2.out.mono ?_
          rintro e V3 ⟨⟨A3, c3, rfl⟩, h3⟩
          have HV3 : Hid (Below W3.heap.size W3 V3) := HV2.out.trans h3
          clear h3 HCm2
          go_wp2_with fail
          refine mix_post (fun _ => ⟨⟨_, HV3.out⟩, rfl⟩) ?_
          refine ord_op rfl ?_
          go_wp2_with fail
          refine mix_post (fun _ => ⟨⟨_, HV3.out⟩, rfl⟩) ?_
          refine ord_op rfl ?_
          have hdd : decide (cl < li.length) = db := by have := HDu.out; rw [← this, decide_eq_decide]; omega
          cases db
          all_goals
            go_wp2_with fail
            refine mix_post (fun h => absurd h (by decide)) ?_
            refine ord_op rfl ?_
            go_wp2_with fail
            refine mix_post (fun h => absurd h (by decide)) ?_
            refine ord_nil ?_
            refine NoPanic.normal ?_
            clear hdd HDu
          · have HX7 : Hid ((if rangeBad ⟨na, ki, li, cn, ho⟩ = true then 7 else 0) = X) := by have := HX6.out; rw [if_neg (by decide)] at this; exact this
            have HRB : Hid (rangeBad ⟨na, ki, li, cn, ho⟩ = (cb || outB ho 0 100 || ((ki == 1) && decide (0 < ho)))) := by unfold rangeBad; show (cntBad _ || _ || _) = _; rw [HCnt.out]
            have HBV : Hid (Below w.heap.size w V3) := HB3.out.trans (HV3.out.mono HB3.out.size)
            have M4 := Lib.hid (M3.out.later HV3.out)
            have k34 := M4.out.cell (i := 4) rfl
            cases cb
            · cases hb : outB ho 0 100
              · have F : Hid ((if ((ki == 1) && decide (0 < ho)) = true then (7 : Int) else 0) = X) := by have := HX7.out; rw [HRB.out, hb, Bool.false_or, Bool.false_or] at this; exact this
                by_cases h0 : 0 < ho
                · have h0' : decide (0 < ho) = true := by simpa using h0
                  go_wp2_with (go_at_call 37; refine (out_any _ _ _ _).mono ?_; rintro e w' ⟨rfl, rfl⟩)
                  go_ret
                  have := F.out
                  rw [q1, h0'] at this
                  exact ⟨ret_int this, HBV.out⟩
                · have h0' : decide (0 < ho) = false := by simpa using h0
                  go_wp2_with (go_at_call 37; refine (out_any _ _ _ _).mono ?_; rintro e w' ⟨rfl, rfl⟩)
                  go_ret
                  have := F.out
                  rw [q1, h0'] at this
                  exact ⟨ret_int this, HBV.out⟩
              · have F : Hid (7 = X) := by have := HX7.out; rw [HRB.out, hb, Bool.false_or, Bool.true_or, if_pos rfl] at this; exact this
                go_wp2_with (go_at_call 37; refine (out_any _ _ _ _).mono ?_; rintro e w' ⟨rfl, rfl⟩)
                go_ret
                exact ⟨ret_int F.out, HBV.out⟩
            · have F : Hid (7 = X) := by have := HX7.out; rw [HRB.out, Bool.true_or, Bool.true_or, if_pos rfl] at this; exact this
              go_wp2_with (go_at_call 37; refine (out_any _ _ _ _).mono ?_; rintro e w' ⟨rfl, rfl⟩)
              go_ret
              exact ⟨ret_int F.out, HBV.out⟩
          · have F : Hid (5 = X) := by exact HX6.out
            go_wp2_with fail
            go_ret
            exact ⟨ret_int F.out, HB3.out.trans (HV3.out.mono HB3.out.size)⟩
  · have q1 : (ki == 1) = false := by rw [hk]; rfl
    have q4 : (ki == 4) = true := by simpa using hk
    obtain ⟨lb, hlb⟩ : ∃ lb, outB (li.length : Int) 1 10 = lb := ⟨_, rfl⟩
    have HL10 : Hid (lb = false → li.length ≤ 10000) := fun e => by rw [e] at hlb; have := outB_false hlb; omega
    have HLen : Hid (lenBad ⟨na, ki, li, cn, ho⟩ = lb) := by rw [← hlb]; unfold lenBad; show _ = _; rw [if_neg (show ¬ ki = 1 by omega)]
    obtain ⟨cb, hcb⟩ : ∃ cb, outB cn 1 li.length = cb := ⟨_, rfl⟩
    have HCnt : Hid (cntBad ⟨na, ki, li, cn, ho⟩ = cb) := by rw [← hcb]; unfold cntBad; show _ = _; rw [if_pos hk]
    clear hk
    go_enter Tryz.func76, Tryz.ntmps76
    go_wp2_with (go_at_call 37; refine (out_any _ _ _ _).mono ?_; rintro e w' ⟨rfl, rfl⟩)
    all_goals
      refine (name_any _ _ hnm).mono ?_
      rintro e w' ⟨rfl, rfl⟩
      obtain ⟨W1, hW1⟩ : ∃ W1, ((w.alloc (.cells #[.slice (some ad) n c] 24)).alloc (.cells #[.int .i64 (i : Int)] 3)).alloc (.cells #[.string na, .int .i64 ki, .slice A2 li.length c2, .int .i64 cn, .int .i64 ho] 40) = W1 := ⟨_, rfl⟩
      obtain ⟨b1, b2, b3, b4⟩ := node_blocks w _ _ _ _ _ _ W1 hW1
      rw [hW1]
      have HB1 := Lib.hid b1; have K1 := Lib.hid b2; have K2 := Lib.hid b3; have K3 := Lib.hid b4
      clear hW1 c0 c1 c2' c3 c4 b1 b2 b3 b4
      by_cases g1 : nameB na = false
      · have F : Hid (6 = X) := by have := HX.out; unfold ndErr at this; rw [if_pos g1] at this; exact this
        go_wp2_with fail
        go_ret
        exact ⟨ret_int F.out, HB1.out⟩
      have g1' : nameB na = true := by simpa using g1
      have HX2 : Hid ((if anyB t na i = true then 5 else if outB ki 1 4 = true then 2 else if lenBad ⟨na, ki, li, cn, ho⟩ = true then 3 else if insBad i ⟨na, ki, li, cn, ho⟩ = true then 4 else if dupB li = true then 5 else if rangeBad ⟨na, ki, li, cn, ho⟩ = true then 7 else 0) = X) := by have := HX.out; unfold ndErr at this; rw [if_neg g1] at this; exact this
      have CN := containsN_any (t.take i) (some ad) i c (ms.take i) (w.heap.size + 1 + 1) na W1 ((HT.out.below HB1.out).take (by omega)) (K3.out.cell (i := 0) rfl)
      rw [anyB_take] at CN
      have HCN := Lib.hid CN
      clear CN g1
      have hci : (i : Int) ≤ (c : Int) := by omega
      have k10 := K1.out.cell (i := 0) rfl
      have k20 := K2.out.cell (i := 0) rfl
      have k30 := K3.out.cell (i := 0) rfl
      go_wp2_with fail
      refine HCN.out.mono ?_
      rintro e W2 ⟨rfl, hb2⟩
      have HB2 : Hid (Below w.heap.size w W2) := HB1.out.trans (hb2.mono HB1.out.size)
      have L2 := Lib.hid (K2.out.later hb2)
      have L3 := Lib.hid (K3.out.later hb2)
      clear hb2 k10 k20 k30 HCN K1 K2 K3
      have k20 := L2.out.cell (i := 0) rfl
      have k31 := L3.out.cell (i := 1) rfl
      have k32 := L3.out.cell (i := 2) rfl
      have k33 := L3.out.cell (i := 3) rfl
      have k34 := L3.out.cell (i := 4) rfl
      have HNR2 : Hid (NdR W2 ⟨⟨na, ki, li, cn, ho⟩, A2, c2⟩) := HNR.out.below HB2.out
      by_cases g2 : anyB t na i = true
      · have F : Hid (5 = X) := by have := HX2.out; rw [if_pos g2] at this; exact this
        go_wp2_with fail
        go_ret
        exact ⟨ret_int F.out, HB2.out⟩
      have g2' : anyB t na i = false := by simpa using g2
      have HX3 : Hid ((if outB ki 1 4 = true then 2 else if lenBad ⟨na, ki, li, cn, ho⟩ = true then 3 else if insBad i ⟨na, ki, li, cn, ho⟩ = true then 4 else if dupB li = true then 5 else if rangeBad ⟨na, ki, li, cn, ho⟩ = true then 7 else 0) = X) := by have := HX2.out; rw [if_neg g2] at this; exact this
      clear g2 HX HX2
      by_cases g3 : outB ki 1 4 = true
      · have F : Hid (2 = X) := by have := HX3.out; rw [if_pos g3] at this; exact this
        go_wp2_with (go_at_call 37; refine (out_any _ _ _ _).mono ?_; rintro e w' ⟨rfl, rfl⟩)
        go_ret
        exact ⟨ret_int F.out, HB2.out⟩
      have g3' : outB ki 1 4 = false := by simpa using g3
      have HX4 : Hid ((if lenBad ⟨na, ki, li, cn, ho⟩ = true then 3 else if insBad i ⟨na, ki, li, cn, ho⟩ = true then 4 else if dupB li = true then 5 else if rangeBad ⟨na, ki, li, cn, ho⟩ = true then 7 else 0) = X) := by have := HX3.out; rw [if_neg g3] at this; exact this
      clear g3 HX3
      cases lb with
      | true =>
        have F : Hid (3 = X) := by have := HX4.out; rw [if_pos HLen.out] at this; exact this
        go_wp2_with (go_at_call 37; refine (out_any _ _ _ _).mono ?_; rintro e w' ⟨rfl, rfl⟩)
        go_ret
        exact ⟨ret_int F.out, HB2.out⟩
      | false =>
        have hl10 := HL10.out rfl
        have HX5 : Hid ((if insBad i ⟨na, ki, li, cn, ho⟩ = true then 4 else if dupB li = true then 5 else if rangeBad ⟨na, ki, li, cn, ho⟩ = true then 7 else 0) = X) := by have := HX4.out; rw [HLen.out, if_neg (by decide)] at this; exact this
        have CI := containsI_any li i A2 li.length c2 (w.heap.size + 1) W2 HNR2.out.ins (by omega) k20 (by omega) (by omega)
        rw [← insP_any li i ⟨na, ki, li, cn, ho⟩ rfl] at CI
        have HCI := Lib.hid CI
        clear CI HX4
        generalize insBad i ⟨na, ki, li, cn, ho⟩ = ib at *
        go_wp2_with (first | (go_at_call 37; refine (out_any _ _ _ _).mono ?_; rintro e w' ⟨rfl, rfl⟩) | fail)
        refine HCI.out.mono ?_
        rintro e W3 ⟨rfl, hb3⟩
        have HB3 : Hid (Below w.heap.size w W3) := HB2.out.trans (hb3.mono HB2.out.size)
        have M3 := Lib.hid (L3.out.later hb3)
        have HNR3 : Hid (NdR W3 ⟨⟨na, ki, li, cn, ho⟩, A2, c2⟩) := HNR.out.below HB3.out
        clear hb3 HCI k20 k31 k32 k33 k34 L2 L3 HNR2 HB2
        cases ib with
        | true =>
          have F : Hid (4 = X) := by have := HX5.out; rw [if_pos rfl] at this; exact this
          go_wp2_with fail
          go_ret
          exact ⟨ret_int F.out, HB3.out⟩
        | false =>
          have HX6 : Hid ((if dupB li = true then 5 else if rangeBad ⟨na, ki, li, cn, ho⟩ = true then 7 else 0) = X) := by have := HX5.out; rw [if_neg (by decide)] at this; exact this
          clear HX5
          have k32 := later_cell (M3.out.cell (i := 2) rfl)
          go_wp2_with fail
          have HS0 : Hid ((fun w' => ∃ u : Later W3, w' = u.w) W3.drew) := ⟨⟨W3.drew, (Below.refl _ _).drew⟩, rfl⟩
          refine wp_region_noPanic ?_
          refine wp_region_ord (fun w' => ∃ u : Later W3, w' = u.w) 9 (fun k => k == 0 || k == 1 || k == 6 || k == 7 || k == 8) (ordOf _ [0, 1, 6, 7, 8, 2, 3, 4, 5, 9, 10]) (by kernel_rfl) (by kernel_rfl) (ordOf_mem _ _) (fun _ _ _ _ _ h => h) ?_
          simp only [ordOf, List.filterMap_cons, List.filterMap_nil, List.getElem?_cons_zero, List.getElem?_cons_succ, Option.map_some]
          iterate 5 ((first | refine ord_quiet rfl rfl rfl HS0.out ?_ | refine ord_len rfl _ _ _ Tryz.underlying38 _ _ _ rfl rfl rfl HS0.out ?_); intro K hK; go_big_quiet_op; go_big_quiet_on)
          clear k32
          have HBd : Hid (Below w.heap.size w W3.drew) := HB3.out.drew
          have hzd : W3.drew.heap.size = W3.heap.size := rfl
          refine ord_op rfl ?_
          go_wp2_with (go_at_call 98; refine (values_any _ _ _ _).mono ?_; rintro e w' ⟨rfl, rfl⟩)
          have HV1 : Hid (Below W3.heap.size W3 (W3.alloc (.cells #[.slice A2 li.length c2] 38)).drew) := ((Below.refl _ W3).alloc (Nat.le_refl _) _).drew
          have HSt := sorted_any W3.heap.size A2 li.length c2 li (W3.alloc (.cells #[.slice A2 li.length c2] 38)).drew (cell_at_new (w := W3) rfl rfl) (HNR3.out.ins.below HV1.out) hl10
          have HSt := Lib.hid HSt
          refine mix_post (fun _ => ⟨⟨_, HV1.out⟩, rfl⟩) ?_
          refine ord_op rfl ?_
          generalize hV1 : (W3.alloc (.cells #[.slice A2 li.length c2] 38)).drew = V1 at *
          clear hV1 hzd
          go_wp2_with fail
          refine HSt.out.mono ?_
          rintro e V2 ⟨v, rfl, h1, h2⟩
          have HV2 : Hid (Below W3.heap.size W3 V2) := HV1.out.trans (h2.mono HV1.out.size)
          have HZl : (sortI li).length = li.length := sortI_len li
          have HCm := Lib.hid (compact_any (zs := sortI li) (own_lower h1 HV1.out.size) (by rw [HZl]; omega) HV2.out.size)
          rw [List.length_mergeSort] at h1
          obtain ⟨Av, cv, rfl, _⟩ := own_slice h1
          clear h1 h2 HSt HZl
          go_wp2_with fail
          refine mix_post (fun _ => ⟨⟨_, HV2.out⟩, rfl⟩) ?_
          refine ord_op rfl ?_
          have HCm2 : Hid (Calls Tryz.prog 96 #[.slice Av li.length cv] V2 fun e w' => (∃ A c, e = .returned (.slice A (Lib.compact (sortI li)).length c)) ∧ Below W3.heap.size V2 w') := HCm.out
          clear HCm
          have HDu := Lib.hid (compact_dup li)
          generalize (Lib.compact (sortI li)).length = cl at *
          generalize dupB li = db at *
          go_wp2_with fail
          refine HCm2.out.mono ?_
          rintro e V3 ⟨⟨A3, c3, rfl⟩, h3⟩
          have HV3 : Hid (Below W3.heap.size W3 V3) := HV2.out.trans h3
          clear h3 HCm2
          go_wp2_with fail
          refine mix_post (fun _ => ⟨⟨_, HV3.out⟩, rfl⟩) ?_
          refine ord_op rfl ?_
          go_wp2_with fail
          refine mix_post (fun _ => ⟨⟨_, HV3.out⟩, rfl⟩) ?_
          refine ord_op rfl ?_
          have hdd : decide (cl < li.length) = db := by have := HDu.out; rw [← this, decide_eq_decide]; omega
          cases db
          all_goals
            go_wp2_with fail
            refine mix_post (fun h => absurd h (by decide)) ?_
            refine ord_op rfl ?_
            go_wp2_with fail
            refine mix_post (fun h => absurd h (by decide)) ?_
            refine ord_nil ?_
            refine NoPanic.normal ?_
            clear hdd HDu
          · have HX7 : Hid ((if rangeBad ⟨na, ki, li, cn, ho⟩ = true then 7 else 0) = X) := by have := HX6.out; rw [if_neg (by decide)] at this; exact this
            have HRB : Hid (rangeBad ⟨na, ki, li, cn, ho⟩ = (cb || outB ho 0 100 || ((ki == 1) && decide (0 < ho)))) := by unfold rangeBad; show (cntBad _ || _ || _) = _; rw [HCnt.out]
            have HBV : Hid (Below w.heap.size w V3) := HB3.out.trans (HV3.out.mono HB3.out.size)
            have M4 := Lib.hid (M3.out.later HV3.out)
            have k34 := M4.out.cell (i := 4) rfl
            cases cb
            · cases hb : outB ho 0 100
              · have F : Hid ((if ((ki == 1) && decide (0 < ho)) = true then (7 : Int) else 0) = X) := by have := HX7.out; rw [HRB.out, hb, Bool.false_or, Bool.false_or] at this; exact this
                by_cases h0 : 0 < ho
                · have h0' : decide (0 < ho) = true := by simpa using h0
                  go_wp2_with (go_at_call 37; refine (out_any _ _ _ _).mono ?_; rintro e w' ⟨rfl, rfl⟩)
                  go_ret
                  have := F.out
                  rw [q1, h0'] at this
                  exact ⟨ret_int this, HBV.out⟩
                · have h0' : decide (0 < ho) = false := by simpa using h0
                  go_wp2_with (go_at_call 37; refine (out_any _ _ _ _).mono ?_; rintro e w' ⟨rfl, rfl⟩)
                  go_ret
                  have := F.out
                  rw [q1, h0'] at this
                  exact ⟨ret_int this, HBV.out⟩
              · have F : Hid (7 = X) := by have := HX7.out; rw [HRB.out, hb, Bool.false_or, Bool.true_or, if_pos rfl] at this; exact this
                go_wp2_with (go_at_call 37; refine (out_any _ _ _ _).mono ?_; rintro e w' ⟨rfl, rfl⟩)
                go_ret
                exact ⟨ret_int F.out, HBV.out⟩
            · have F : Hid (7 = X) := by have := HX7.out; rw [HRB.out, Bool.true_or, Bool.true_or, if_pos rfl] at this; exact this
              go_wp2_with (go_at_call 37; refine (out_any _ _ _ _).mono ?_; rintro e w' ⟨rfl, rfl⟩)
              go_ret
              exact ⟨ret_int F.out, HBV.out⟩
          · have F : Hid (5 = X) := by exact HX6.out
            go_wp2_with fail
            go_ret
            exact ⟨ret_int F.out, HB3.out.trans (HV3.out.mono HB3.out.size)⟩
  · have q1 : (ki == 1) = false := by simpa using hk1
    have q4 : (ki == 4) = false := by simpa using hk4
    obtain ⟨lb, hlb⟩ : ∃ lb, outB (li.length : Int) 1 10 = lb := ⟨_, rfl⟩
    have HL10 : Hid (lb = false → li.length ≤ 10000) := fun e => by rw [e] at hlb; have := outB_false hlb; omega
    have HLen : Hid (lenBad ⟨na, ki, li, cn, ho⟩ = lb) := by rw [← hlb]; unfold lenBad; show _ = _; rw [if_neg hk1]
    obtain ⟨cb, hcb⟩ : ∃ cb, (cn != 0) = cb := ⟨_, rfl⟩
    have HCnt : Hid (cntBad ⟨na, ki, li, cn, ho⟩ = cb) := by rw [← hcb]; unfold cntBad; show _ = _; rw [if_neg hk4]; rfl
    clear hk1 hk4
    go_enter Tryz.func76, Tryz.ntmps76
    go_wp2_with fail
    all_goals
      refine (name_any _ _ hnm).mono ?_
      rintro e w' ⟨rfl, rfl⟩
      obtain ⟨W1, hW1⟩ : ∃ W1, ((w.alloc (.cells #[.slice (some ad) n c] 24)).alloc (.cells #[.int .i64 (i : Int)] 3)).alloc (.cells #[.string na, .int .i64 ki, .slice A2 li.length c2, .int .i64 cn, .int .i64 ho] 40) = W1 := ⟨_, rfl⟩
      obtain ⟨b1, b2, b3, b4⟩ := node_blocks w _ _ _ _ _ _ W1 hW1
      rw [hW1]
      have HB1 := Lib.hid b1; have K1 := Lib.hid b2; have K2 := Lib.hid b3; have K3 := Lib.hid b4
      clear hW1 c0 c1 c2' c3 c4 b1 b2 b3 b4
      by_cases g1 : nameB na = false
      · have F : Hid (6 = X) := by have := HX.out; unfold ndErr at this; rw [if_pos g1] at this; exact this
        go_wp2_with fail
        go_ret
        exact ⟨ret_int F.out, HB1.out⟩
      have g1' : nameB na = true := by simpa using g1
      have HX2 : Hid ((if anyB t na i = true then 5 else if outB ki 1 4 = true then 2 else if lenBad ⟨na, ki, li, cn, ho⟩ = true then 3 else if insBad i ⟨na, ki, li, cn, ho⟩ = true then 4 else if dupB li = true then 5 else if rangeBad ⟨na, ki, li, cn, ho⟩ = true then 7 else 0) = X) := by have := HX.out; unfold ndErr at this; rw [if_neg g1] at this; exact this
      have CN := containsN_any (t.take i) (some ad) i c (ms.take i) (w.heap.size + 1 + 1) na W1 ((HT.out.below HB1.out).take (by omega)) (K3.out.cell (i := 0) rfl)
      rw [anyB_take] at CN
      have HCN := Lib.hid CN
      clear CN g1
      have hci : (i : Int) ≤ (c : Int) := by omega
      have k10 := K1.out.cell (i := 0) rfl
      have k20 := K2.out.cell (i := 0) rfl
      have k30 := K3.out.cell (i := 0) rfl
      go_wp2_with fail
      refine HCN.out.mono ?_
      rintro e W2 ⟨rfl, hb2⟩
      have HB2 : Hid (Below w.heap.size w W2) := HB1.out.trans (hb2.mono HB1.out.size)
      have L2 := Lib.hid (K2.out.later hb2)
      have L3 := Lib.hid (K3.out.later hb2)
      clear hb2 k10 k20 k30 HCN K1 K2 K3
      have k20 := L2.out.cell (i := 0) rfl
      have k31 := L3.out.cell (i := 1) rfl
      have k32 := L3.out.cell (i := 2) rfl
      have k33 := L3.out.cell (i := 3) rfl
      have k34 := L3.out.cell (i := 4) rfl
      have HNR2 : Hid (NdR W2 ⟨⟨na, ki, li, cn, ho⟩, A2, c2⟩) := HNR.out.below HB2.out
      by_cases g2 : anyB t na i = true
      · have F : Hid (5 = X) := by have := HX2.out; rw [if_pos g2] at this; exact this
        go_wp2_with fail
        go_ret
        exact ⟨ret_int F.out, HB2.out⟩
      have g2' : anyB t na i = false := by simpa using g2
      have HX3 : Hid ((if outB ki 1 4 = true then 2 else if lenBad ⟨na, ki, li, cn, ho⟩ = true then 3 else if insBad i ⟨na, ki, li, cn, ho⟩ = true then 4 else if dupB li = true then 5 else if rangeBad ⟨na, ki, li, cn, ho⟩ = true then 7 else 0) = X) := by have := HX2.out; rw [if_neg g2] at this; exact this
      clear g2 HX HX2
      by_cases g3 : outB ki 1 4 = true
      · have F : Hid (2 = X) := by have := HX3.out; rw [if_pos g3] at this; exact this
        go_wp2_with (go_at_call 37; refine (out_any _ _ _ _).mono ?_; rintro e w' ⟨rfl, rfl⟩)
        go_ret
        exact ⟨ret_int F.out, HB2.out⟩
      have g3' : outB ki 1 4 = false := by simpa using g3
      have HX4 : Hid ((if lenBad ⟨na, ki, li, cn, ho⟩ = true then 3 else if insBad i ⟨na, ki, li, cn, ho⟩ = true then 4 else if dupB li = true then 5 else if rangeBad ⟨na, ki, li, cn, ho⟩ = true then 7 else 0) = X) := by have := HX3.out; rw [if_neg g3] at this; exact this
      clear g3 HX3
      cases lb with
      | true =>
        have F : Hid (3 = X) := by have := HX4.out; rw [if_pos HLen.out] at this; exact this
        go_wp2_with (go_at_call 37; refine (out_any _ _ _ _).mono ?_; rintro e w' ⟨rfl, rfl⟩)
        go_ret
        exact ⟨ret_int F.out, HB2.out⟩
      | false =>
        have hl10 := HL10.out rfl
        have HX5 : Hid ((if insBad i ⟨na, ki, li, cn, ho⟩ = true then 4 else if dupB li = true then 5 else if rangeBad ⟨na, ki, li, cn, ho⟩ = true then 7 else 0) = X) := by have := HX4.out; rw [HLen.out, if_neg (by decide)] at this; exact this
        have CI := containsI_any li i A2 li.length c2 (w.heap.size + 1) W2 HNR2.out.ins (by omega) k20 (by omega) (by omega)
        rw [← insP_any li i ⟨na, ki, li, cn, ho⟩ rfl] at CI
        have HCI := Lib.hid CI
        clear CI HX4
        generalize insBad i ⟨na, ki, li, cn, ho⟩ = ib at *
        go_wp2_with (first | (go_at_call 37; refine (out_any _ _ _ _).mono ?_; rintro e w' ⟨rfl, rfl⟩) | fail)
        refine HCI.out.mono ?_
        rintro e W3 ⟨rfl, hb3⟩
        have HB3 : Hid (Below w.heap.size w W3) := HB2.out.trans (hb3.mono HB2.out.size)
        have M3 := Lib.hid (L3.out.later hb3)
        have HNR3 : Hid (NdR W3 ⟨⟨na, ki, li, cn, ho⟩, A2, c2⟩) := HNR.out.below HB3.out
        clear hb3 HCI k20 k31 k32 k33 k34 L2 L3 HNR2 HB2
        cases ib with
        | true =>
          have F : Hid (4 = X) := by have := HX5.out; rw [if_pos rfl] at this; exact this
          go_wp2_with fail
          go_ret
          exact ⟨ret_int F.out, HB3.out⟩
        | false =>
          have HX6 : Hid ((if dupB li = true then 5 else if rangeBad ⟨na, ki, li, cn, ho⟩ = true then 7 else 0) = X) := by have := HX5.out; rw [if_neg (by decide)] at this; exact this
          clear HX5
          have k32 := later_cell (M3.out.cell (i := 2) rfl)
          go_wp2_with fail
          have HS0 : Hid ((fun w' => ∃ u : Later W3, w' = u.w) W3.drew) := ⟨⟨W3.drew, (Below.refl _ _).drew⟩, rfl⟩
          refine wp_region_noPanic ?_
          refine wp_region_ord (fun w' => ∃ u : Later W3, w' = u.w) 9 (fun k => k == 0 || k == 1 || k == 6 || k == 7 || k == 8) (ordOf _ [0, 1, 6, 7, 8, 2, 3, 4, 5, 9, 10]) (by kernel_rfl) (by kernel_rfl) (ordOf_mem _ _) (fun _ _ _ _ _ h => h) ?_
          simp only [ordOf, List.filterMap_cons, List.filterMap_nil, List.getElem?_cons_zero, List.getElem?_cons_succ, Option.map_some]
          iterate 5 ((first | refine ord_quiet rfl rfl rfl HS0.out ?_ | refine ord_len rfl _ _ _ Tryz.underlying38 _ _ _ rfl rfl rfl HS0.out ?_); intro K hK; go_big_quiet_op; go_big_quiet_on)
          clear k32
          have HBd : Hid (Below w.heap.size w W3.drew) := HB3.out.drew
          have hzd : W3.drew.heap.size = W3.heap.size := rfl
          refine ord_op rfl ?_
          go_wp2_with (go_at_call 98; refine (values_any _ _ _ _).mono ?_; rintro e w' ⟨rfl, rfl⟩)
          have HV1 : Hid (Below W3.heap.size W3 (W3.alloc (.cells #[.slice A2 li.length c2] 38)).drew) := ((Below.refl _ W3).alloc (Nat.le_refl _) _).drew
          have HSt := sorted_any W3.heap.size A2 li.length c2 li (W3.alloc (.cells #[.slice A2 li.length c2] 38)).drew (cell_at_new (w := W3) rfl rfl) (HNR3.out.ins.below HV1.out) hl10
          have HSt := Lib.hid HSt
          refine mix_post (fun _ => ⟨⟨_, HV1.out⟩, rfl⟩) ?_
          refine ord_op rfl ?_
          generalize hV1 : (W3.alloc (.cells #[.slice A2 li.length c2] 38)).drew = V1 at *
          clear hV1 hzd
          go_wp2_with fail
          refine HSt.out.mono ?_
          rintro e V2 ⟨v, rfl, h1, h2⟩
          have HV2 : Hid (Below W3.heap.size W3 V2) := HV1.out.trans (h2.mono HV1.out.size)
          have HZl : (sortI li).length = li.length := sortI_len li
          have HCm := Lib.hid (compact_any (zs := sortI li) (own_lower h1 HV1.out.size) (by rw [HZl]; omega) HV2.out.size)
          rw [List.length_mergeSort] at h1
          obtain ⟨Av, cv, rfl, _⟩ := own_slice h1
          clear h1 h2 HSt HZl
          go_wp2_with fail
          refine mix_post (fun _ => ⟨⟨_, HV2.out⟩, rfl⟩) ?_
          refine ord_op rfl ?_
          have HCm2 : Hid (Calls Tryz.prog 96 #[.slice Av li.length cv] V2 fun e w' => (∃ A c, e = .returned (.slice A (Lib.compact (sortI li)).length c)) ∧ Below W3.heap.size V2 w') := HCm.out
          clear HCm
          have HDu := Lib.hid (compact_dup li)
          generalize (Lib.compact (sortI li)).length = cl at *
          generalize dupB li = db at *
          go_wp2_with fail
          refine HCm2.out.mono ?_
          rintro e V3 ⟨⟨A3, c3, rfl⟩, h3⟩
          have HV3 : Hid (Below W3.heap.size W3 V3) := HV2.out.trans h3
          clear h3 HCm2
          go_wp2_with fail
          refine mix_post (fun _ => ⟨⟨_, HV3.out⟩, rfl⟩) ?_
          refine ord_op rfl ?_
          go_wp2_with fail
          refine mix_post (fun _ => ⟨⟨_, HV3.out⟩, rfl⟩) ?_
          refine ord_op rfl ?_
          have hdd : decide (cl < li.length) = db := by have := HDu.out; rw [← this, decide_eq_decide]; omega
          cases db
          all_goals
            go_wp2_with fail
            refine mix_post (fun h => absurd h (by decide)) ?_
            refine ord_op rfl ?_
            go_wp2_with fail
            refine mix_post (fun h => absurd h (by decide)) ?_
            refine ord_nil ?_
            refine NoPanic.normal ?_
            clear hdd HDu
          · have HX7 : Hid ((if rangeBad ⟨na, ki, li, cn, ho⟩ = true then 7 else 0) = X) := by have := HX6.out; rw [if_neg (by decide)] at this; exact this
            have HRB : Hid (rangeBad ⟨na, ki, li, cn, ho⟩ = (cb || outB ho 0 100 || ((ki == 1) && decide (0 < ho)))) := by unfold rangeBad; show (cntBad _ || _ || _) = _; rw [HCnt.out]
            have HBV : Hid (Below w.heap.size w V3) := HB3.out.trans (HV3.out.mono HB3.out.size)
            have M4 := Lib.hid (M3.out.later HV3.out)
            have k34 := M4.out.cell (i := 4) rfl
            cases cb
            · cases hb : outB ho 0 100
              · have F : Hid ((if ((ki == 1) && decide (0 < ho)) = true then (7 : Int) else 0) = X) := by have := HX7.out; rw [HRB.out, hb, Bool.false_or, Bool.false_or] at this; exact this
                by_cases h0 : 0 < ho
                · have h0' : decide (0 < ho) = true := by simpa using h0
                  go_wp2_with (go_at_call 37; refine (out_any _ _ _ _).mono ?_; rintro e w' ⟨rfl, rfl⟩)
                  go_ret
                  have := F.out
                  rw [q1, h0'] at this
                  exact ⟨ret_int this, HBV.out⟩
                · have h0' : decide (0 < ho) = false := by simpa using h0
                  go_wp2_with (go_at_call 37; refine (out_any _ _ _ _).mono ?_; rintro e w' ⟨rfl, rfl⟩)
                  go_ret
                  have := F.out
                  rw [q1, h0'] at this
                  exact ⟨ret_int this, HBV.out⟩
              · have F : Hid (7 = X) := by have := HX7.out; rw [HRB.out, hb, Bool.false_or, Bool.true_or, if_pos rfl] at this; exact this
                go_wp2_with (go_at_call 37; refine (out_any _ _ _ _).mono ?_; rintro e w' ⟨rfl, rfl⟩)
                go_ret
                exact ⟨ret_int F.out, HBV.out⟩
            · have F : Hid (7 = X) := by have := HX7.out; rw [HRB.out, Bool.true_or, Bool.true_or, if_pos rfl] at this; exact this
              go_wp2_with (go_at_call 37; refine (out_any _ _ _ _).mono ?_; rintro e w' ⟨rfl, rfl⟩)
              go_ret
              exact ⟨ret_int F.out, HBV.out⟩
          · have F : Hid (5 = X) := by exact HX6.out
            go_wp2_with fail
            go_ret
            exact ⟨ret_int F.out, HB3.out.trans (HV3.out.mono HB3.out.size)⟩
end Go.Proofs.YtadldndpphdmpaaGreat
