/- The document's Count. -/
import Derived.Test.YtadldndpphdmpaaGreatTC
import Derived.Test.YtadldndpphdmpaaGreatP9
namespace Go.Proofs.YtadldndpphdmpaaGreat
open Go.RowKit Go.Shelf

theorem basL_bits {t : List Nd} (h : TrOk t) : basL t = bitsL (bas t) := by
  refine sorted_uniq ?_ (bitsL_sorted _) fun x => ?_
  · unfold basL
    rw [List.pairwise_map]
    exact (List.pairwise_lt_range.filter _).imp fun h => by show (_ : Int) < _; exact Int.ofNat_lt.2 h
  · rw [mem_basL, mem_bitsL (bas_lt_64 h), bas_bit]
theorem mem_fun {s : Nat} (h : s < 2 ^ 64) : (fun j : Nat => decide ((j : Int) ∈ bitsL s)) = s.testBit := by
  funext j
  rw [Bool.eq_iff_iff, decide_eq_true_eq, mem_bitsL h, Int.toNat_natCast]
  exact ⟨fun h => h.2, fun h => ⟨by omega, h⟩⟩
/-- What the document says of a set: does it make a node fail? -/
def docF (t : List Nd) (y : Nat) (l : List Int) : Bool := ef t (fun j => decide ((j : Int) ∈ l)) y
theorem doc_bits {t : List Nd} (hT : TrOk t) {s : Nat} (hs : Sub t s) (y : Nat) : docF t y (bitsL s) = (eff t s).testBit y := by
  unfold docF
  rw [mem_fun (sub_lt_64 hT hs), eff_bit hT hs]
theorem cnt_sets {m : Nat} (hm : m < 2 ^ 64) {f : List Int → Bool} {g : Nat → Bool} (hfg : ∀ s, SubN s m → f (bitsL s) = g s) : ((setsL (bitsL m)).filter f).length = ((subL m).filter g).length := by
  obtain ⟨L, h1, h2⟩ := sets_all hm
  rw [h1, List.filter_map, List.length_map, ← cnt_perm h2]
  congr 1
  refine List.filter_congr fun s hs => ?_
  exact hfg s (mem_subL.1 (h2.mem_iff.1 hs))
theorem cnt_doc {t : List Nd} (hT : TrOk t) (y : Nat) : ((setsL (basL t)).filter (docF t y)).length = cntN t y := by
  rw [basL_bits hT]
  exact cnt_sets (bas_lt_64 hT) fun s hs => doc_bits hT (sub_bas_iff.1 hs) y
theorem flt_map (f : List Int → Bool) (ps : List LsP) : (ps.filter fun p => f p.1).length = ((ps.map (·.1)).filter f).length := by
  rw [List.filter_map, List.length_map]
  rfl
theorem flt_take {α : Type} (q : α → Bool) {l : List α} {k : Nat} {x : α} (h : l[k]? = some x) : ((l.take (k + 1)).filter q).length = ((l.take k).filter q).length + if q x = true then 1 else 0 := filter_step q h
theorem basL_short {t : List Nd} (h : TrOk t) : (basL t).length ≤ 10 := basL_le h

set_option maxRecDepth 100000 in
set_option maxHeartbeats 8000000 in
theorem rCount_any (t : List Nd) (node : Int) (A : Option Addr) (n c : Nat) (ms : List NdM) (w : World) (hT : TrM w t A n ms) :
    Calls Tryz.prog 13 #[.agg #[.slice A n c], .int .i64 node] w fun e w' => e = .returned (.tuple #[.int .i64 (countT t node).1, .int .i64 (countT t node).2]) ∧ Below w.heap.size w w' := by
  obtain ⟨W1, hW1⟩ : ∃ W1, w.alloc (.cells #[.slice A n c] 24) = W1 := ⟨_, rfl⟩
  have HB1 : Hid (Below w.heap.size w W1) := by rw [← hW1]; exact (Below.refl _ w).alloc (Nat.le_refl _) _
  have K1 : Hid (Blk W1 w.heap.size 24 #[.slice A n c]) := by rw [← hW1]; exact Blk.new w _ _ rfl
  have HT := Lib.hid hT
  have HAs := Lib.hid (rasked_any t node A n c ms W1 (hT.below HB1.out))
  have HW1 := Lib.hid hW1
  have HLn := Lib.hid hT.len
  have HCT : Hid (countT t node = if askT t node ≠ 0 then (0, askT t node) else ((cntN t node.toNat : Int), 0)) := rfl
  generalize countT t node = CT at *
  clear hW1 hT
  go_enter Tryz.func13, Tryz.ntmps13
  go_wp2_with fail
  rw [HW1.out]
  refine HAs.out.mono ?_
  rintro e W2 ⟨rfl, hb2⟩
  have HB2 : Hid (Below w.heap.size w W2) := HB1.out.trans (hb2.mono HB1.out.size)
  have HK2 := Lib.hid (K1.out.later hb2)
  clear hb2 HAs HW1 K1
  by_cases ha : askT t node = 0
  · have F : CT = ((cntN t node.toNat : Int), 0) := by have := HCT.out; rw [if_neg (fun c => c ha)] at this; exact this
    subst F
    obtain ⟨hok, n0, n1⟩ := ask_ok ha
    rw [ha]
    clear HCT
    obtain ⟨nn, rfl⟩ : ∃ nn : Nat, node = (nn : Int) := ⟨node.toNat, by omega⟩
    have hn40 : n ≤ 40 := by have := hok.l40; have := HLn.out; omega
    have hnn : nn < n := by have := HLn.out; omega
    have HOk := Lib.hid hok
    have HBs := Lib.hid (basics_any t A n c ms W2 (HT.out.below HB2.out) (by omega))
    have HF : Hid (∀ ps : List LsP, ps.map (·.1) = setsL (basL t) → (ps.filter fun p => docF t nn p.1).length = cntN t (nn : Int).toNat) := fun ps hps => by rw [flt_map, hps]; exact cnt_doc hok nn
    have HC := Lib.hid (fun (l : List Int) (L : Option Addr) (cl : Nat) (W : World) (h : Below w.heap.size w W) (hL : RdI W L l.length l) (hl : l.length ≤ 10) => rcauses_any t nn l A n c ms L cl W (HT.out.below h) hok hL (by omega) hnn)
    have HBL := Lib.hid (basL_short hok)
    have q0 := HK2.out.cell (i := 0) rfl
    have qz := HK2.out.lt
    clear hok ha n0 n1
    go_wp2_with fail
    refine HBs.out.mono ?_
    rintro e W3 ⟨v3, rfl, hr3, hb3⟩
    have HB3 : Hid (Below w.heap.size w W3) := HB2.out.trans (hb3.mono HB2.out.size)
    have HK3 := Lib.hid (HK2.out.later hb3)
    obtain ⟨A3, c3, rfl, hI3, hc3, _⟩ := rdI_of_own hr3 rfl
    have HSt := Lib.hid (sets_any _ (basL t) A3 c3 W3 rfl hI3 hc3 HBL.out)
    have HSl := Lib.hid (sets_mem_len _ (basL t) rfl)
    clear hr3 hb3 hI3 hc3 HBs q0 qz
    go_wp2_with fail
    refine HSt.out.mono ?_
    rintro e W4 ⟨v4, ps, rfl, hR4, hps, hb4⟩
    have HB4 : Hid (Below w.heap.size w W4) := HB3.out.trans (hb4.mono HB3.out.size)
    have HK4 := Lib.hid (HK3.out.later hb4)
    have hlen : ∀ p ∈ ps, p.1.length ≤ 10 := fun p hp => by
      have h1 := HSl.out p.1 (by rw [← hps]; exact List.mem_map_of_mem hp)
      have h2 := HBL.out
      omega
    have hpl : ps.length ≤ 1024 := by
      have h := congrArg List.length hps
      rw [List.length_map, setsL_len] at h
      rw [h]
      exact Nat.le_trans (Nat.pow_le_pow_right (by decide) HBL.out) (by decide)
    obtain ⟨V, cv, rfl, hLs⟩ := hR4.lsm (fun p hp => by have := hlen p hp; omega)
    have HLs := Lib.hid hLs; have HAl := Lib.hid hR4.all; have HLen := Lib.hid hlen
    have HFi := Lib.hid (HF.out ps hps)
    clear hR4 hps hb4 hLs hlen HSt HSl HF
    go_wp2_with fail
    go_loopw [8, 9] (fun v i wr => ∃ k : Nat, k ≤ ps.length ∧ i = .int .i64 k ∧ v = .int .i64 (((ps.take k).filter fun p => docF t nn p.1).length : Nat) ∧ Below W4.heap.size W4 wr) (fun _ i _ => ps.length - (intOf i).toNat)
    case atStart => exact ⟨0, Nat.zero_le _, rfl, rfl, Below.refl _ _⟩
    case round =>
      obtain ⟨k, hk, rfl, rfl, hB⟩ := hrel
      have HB := Lib.hid hB
      have HBw : Hid (Below w.heap.size w wr) := HB4.out.trans (hB.mono HB4.out.size)
      have HKw := Lib.hid (HK4.out.later hB)
      clear hB
      have hfl : ((ps.take k).filter fun p => docF t nn p.1).length ≤ k := Nat.le_trans (List.length_filter_le _ _) (by rw [List.length_take]; omega)
      by_cases hlt : k < ps.length
      · obtain ⟨p, rd, hp, rfl, hcell⟩ := (HLs.out.below HB.out).getP hlt
        have hpm := List.mem_of_getElem? hp
        have HCa := Lib.hid (HC.out p.1 p.2.1 p.2.2 wr.drew HBw.out.drew ((((HAl.out p hpm).below HB.out).below (Below.refl wr.heap.size wr).drew).rd) (HLen.out p hpm))
        have HSt := Lib.hid (flt_take (fun p : LsP => docF t nn p.1) hp)
        have x0 := later_cell (HKw.out.cell (i := 0) rfl)
        have x1 := later_cell hcell
        have hkn : (k : Int) < (ps.length : Int) := by omega
        clear hp hpm hcell
        try dsimp only at HSt
        go_wp2_with fail
        have HS0 : Hid ((fun w' => ∃ u : Later wr, w' = u.w) wr.drew) := ⟨⟨wr.drew, (Below.refl _ _).drew⟩, rfl⟩
        refine wp_region_noPanic ?_
        refine wp_region_ord (fun w' => ∃ u : Later wr, w' = u.w) 6 (fun k => decide (k < 6)) (ordOf _ [0, 1, 2, 3, 4, 5, 6]) (by kernel_rfl) (by kernel_rfl) (ordOf_mem _ _) (fun _ _ _ _ _ h => h) ?_
        simp only [ordOf, List.filterMap_cons, List.filterMap_nil, List.getElem?_cons_zero, List.getElem?_cons_succ, Option.map_some]
        iterate 6 (refine ord_quiet rfl rfl rfl HS0.out ?_; intro K hK; go_big_quiet_op; go_big_quiet_on)
        clear x0 x1 HS0
        refine ord_op rfl ?_
        go_wp2_with fail
        refine HCa.out.mono ?_
        rintro e W6 ⟨rfl, hb6⟩
        have HB6 : Hid (Below W4.heap.size W4 W6) := HB.out.trans ((below_of_drew hb6).mono HB.out.size)
        clear hb6 HCa
        have HDf : Hid (ef t (fun j => decide ((j : Int) ∈ p.1)) nn = docF t nn p.1) := rfl
        rw [HDf.out]
        generalize docF t nn p.1 = dd at *
        generalize ((ps.take k).filter fun p => docF t nn p.1).length = cc at *
        go_wp2_with fail
        refine mix_post (fun h => absurd h (by decide)) ?_
        refine ord_nil ?_
        refine NoPanic.normal ?_
        cases dd
        · have HS2 : Hid (((ps.take (k + 1)).filter fun p => docF t nn p.1).length = cc) := by show _ = _; rw [HSt.out]; rfl
          go_wp2_with fail
          go_roundw
          case rel => exact ⟨k + 1, by omega, by go_num, by rw [HS2.out], HB6.out⟩
          case measure => simp [intOf]; omega
        · have HS2 : Hid (((ps.take (k + 1)).filter fun p => docF t nn p.1).length = cc + 1) := by show _ = _; rw [HSt.out]; rfl
          go_wp2_with fail
          go_roundw
          case rel => exact ⟨k + 1, by omega, by go_num, by rw [HS2.out]; go_num, HB6.out⟩
          case measure => simp [intOf]; omega
      · obtain rfl : k = ps.length := by omega
        rw [List.take_length, HFi.out]
        go_wp2_with fail
        first | exact ⟨rfl, HBw.out⟩ | (go_ret2; exact ⟨rfl, HBw.out⟩)
  · have F : CT = (0, askT t node) := by have := HCT.out; rw [if_pos ha] at this; exact this
    subst F
    have hne : (askT t node != 0) = true := by simpa using ha
    clear HCT ha
    generalize hee : askT t node = ee at *
    have HEe := Lib.hid hee
    clear hee
    go_wp2_with fail
    first | exact ⟨by rw [HEe.out]; rfl, HB2.out⟩ | (go_ret2; exact ⟨by rw [HEe.out]; rfl, HB2.out⟩)
end Go.Proofs.YtadldndpphdmpaaGreat
