/- The document's Weight. -/
import Derived.Test.YtadldndpphdmpaaGreatTD
import Derived.Test.YtadldndpphdmpaaGreatP10
namespace Go.Proofs.YtadldndpphdmpaaGreat
open Go.RowKit Go.Shelf
section
variable {P : Program} {ops : Array Oper} {Q : Exit → Act → World → Prop} {S : World → Prop}

theorem fk_skip {n k : Nat} {q : Nat → Bool} {o : Oper} {t : Fk} {a : Act} {w : World} (hq : q k = true) (hw : Region.wanted o (yielded ops a.tmps) = false) (hS : S w)
    (h : wpFk P ops Q S n q t (a.put o.dst undef) w) : wpFk P ops Q S n q (.op k o t) a w := by
  rw [wpFk, if_pos hq]
  exact ⟨hS, undef, .inr ⟨hw, rfl⟩, h⟩
end
/-- append([]int{}, l...), the operation guarded and wanted. -/
theorem wpList_copy_ints_g {w : World} {ops : Array Oper} {rest : List Oper} {o : Oper} {a : Act} {Q : Exit → Act → World → Prop} (hw : Region.wanted o (yielded ops a.tmps) = true) (s x : Operand)
    (ho : o.op = .call { callee := .builtin .append, args := #[s, x], argTypes := #[38, 38] }) (base : Nat) (v : Value) (A : Option Addr) (c : Nat) (l : List Int)
    (hs : a.eval s = v) (hown : w.ownsRow base 3 1 v 0 []) (hx : a.eval x = .slice A l.length c) (hL : RdI w A l.length l) (hA : A = none → c = 0)
    (hl : l.length ≤ 2000000) (hbase : base ≤ w.heap.size)
    (h : ∀ v' w', w'.ownsRow base 3 1 v' l.length (l.map (Value.int .i64)) → w.grownBy w' v.ownBlock → wpList Tryz.prog ops Q rest (a.put o.dst v') w') : wpList Tryz.prog ops Q (o :: rest) a w := by
  obtain ⟨i0, hi0, hz0, hz1, hz2⟩ := info_parts infoI
  rw [wpList, if_pos hw]
  refine .inl ?_
  cases A with
  | none =>
    have hl0 : l = [] := by
      cases l with
      | nil => rfl
      | cons x r =>
        obtain ⟨_, _, _, e, _⟩ := rdI_get hL (k := 0) (by simp)
        cases e
    subst hl0
    have hc := hA rfl
    subst hc
    have hrun := run_append_owned_none (P := Tryz.prog) (w := w) base 38 o.type 3 i0 1 Tryz.underlying38 hi0 v 0 [] hown
    have hx' : a.eval x = .slice none 0 0 := hx
    unfold Oper.wp
    simp [execOp, ho, resolve, invoke, builtin, hs, hx', hrun, Result.andThen]
    exact h v w (by simpa using hown) ⟨rfl, rfl, rfl, Nat.le_refl _, fun _ _ _ => rfl⟩
  | some ad =>
    refine wp_append_own (P := Tryz.prog) w s x 38 ho base 3 i0 _ 1 8 Tryz.underlying38 hi0 hz0 hz1 hz2 rfl (by decide) v 0 [] hs hown ad l.length c (l.map (Value.int .i64)) hx (by simp) (rdI_news hL) (fun u hu => ?_) (by unfold maxLen; omega) (by omega) hbase ?_
    · obtain ⟨x, _, rfl⟩ := List.mem_map.1 hu
      rfl
    · intro v' w' h2 h3 _
      rw [List.nil_append, Nat.zero_add] at h2
      exact h v' w' h2 h3
/-- append(v, x), the operation guarded and wanted. -/
theorem wpList_append_x_g {w : World} {ops : Array Oper} {rest : List Oper} {o : Oper} {a : Act} {Q : Exit → Act → World → Prop} (hw : Region.wanted o (yielded ops a.tmps) = true) (s y : Operand)
    (ho : o.op = .call { callee := .builtin .append, args := #[s, y], argTypes := #[38, 38] }) (base : Nat) (v : Value) (n : Nat) (xs : List Value)
    (hs : a.eval s = v) (hown : w.ownsRow base 3 1 v n xs) (ad : Addr) (x : Int) (hy : a.eval y = .slice (some ad) 1 1) (hc : w.cell? ad = some (.int .i64 x))
    (hn : n ≤ 2000000) (hbase : base ≤ w.heap.size)
    (h : ∀ A' c' w', w'.ownsRow base 3 1 (.slice A' (n + 1) c') (n + 1) (xs ++ [.int .i64 x]) → w.grownBy w' v.ownBlock → wpList Tryz.prog ops Q rest (a.put o.dst (.slice A' (n + 1) c')) w') : wpList Tryz.prog ops Q (o :: rest) a w := by
  obtain ⟨i0, hi0, hz0, hz1, hz2⟩ := info_parts infoI
  rw [wpList, if_pos hw]
  refine .inl ?_
  refine wp_append_own (P := Tryz.prog) w s y 38 ho base 3 i0 _ 1 8 Tryz.underlying38 hi0 hz0 hz1 hz2 rfl (by decide) v n xs hs hown ad 1 1 [.int .i64 x] hy rfl (fun j u hu => ?_) (fun u hu => by rw [List.mem_singleton] at hu; subst hu; rfl) (by unfold maxLen; omega) (by omega) hbase ?_
  · match j, hu with
    | 0, hu => cases hu; exact hc
  · intro v' w' h2 h3 _
    obtain ⟨A', c', rfl, _⟩ := own_slice h2
    exact h A' c' w' h2 h3
def docW (t : List Nd) (y : Nat) (b : Int) (l : List Int) : Bool := !docF t y l && docF t y (l ++ [b])
theorem doc_with {t : List Nd} (hT : TrOk t) {s b : Nat} (hs : Sub t s) (hb : isBas t b = true) (y : Nat) : docF t y (bitsL s ++ [(b : Int)]) = (eff t (withN s b)).testBit y := by
  unfold docF
  rw [eff_bit hT (hs.with hb)]
  congr 1
  funext j
  rw [Bool.eq_iff_iff, decide_eq_true_eq, List.mem_append, List.mem_singleton, mem_bitsL (sub_lt_64 hT hs), Int.toNat_natCast, withN_bit, Bool.or_eq_true, decide_eq_true_eq]
  constructor
  · rintro (⟨_, h⟩ | h)
    · exact .inl h
    · exact .inr (by omega)
  · rintro (h | h)
    · exact .inl ⟨by omega, h⟩
    · exact .inr (by omega)
theorem oth_bitsL {t : List Nd} (hT : TrOk t) (b : Nat) : (basL t).filter (fun n => n != (b : Int)) = bitsL (othN t b) := by
  rw [basL_bits hT, bits_without (bas_lt_64 hT)]
  rfl
theorem oth_sub1 {t : List Nd} {b s : Nat} (h : SubN s (othN t b)) : Sub t s := fun j hj => by
  have h1 := h j hj
  unfold othN at h1
  exact sub_bas t _ j h1
theorem cnt_docW {t : List Nd} (hT : TrOk t) (y b : Nat) (hb : isBas t b = true) : ((setsL ((basL t).filter fun n => n != (b : Int))).filter (docW t y b)).length = wtN t y b := by
  rw [oth_bitsL hT]
  have h64 : othN t b < 2 ^ 64 := sub_lt_64 hT (sub_bas t _)
  refine cnt_sets h64 fun s hs => ?_
  unfold docW wtB
  rw [doc_bits hT (oth_sub1 hs), doc_with hT (oth_sub1 hs) hb, Bool.and_comm]
theorem mem_basIb {t : List Nd} (b : Int) : decide (b ∈ basL t) = basI t b := by
  rw [Bool.eq_iff_iff, decide_eq_true_eq, mem_basL, basI_iff]

set_option maxRecDepth 100000 in
set_option maxHeartbeats 8000000 in
theorem rWeight_any (t : List Nd) (node b : Int) (A : Option Addr) (n c : Nat) (ms : List NdM) (w : World) (hT : TrM w t A n ms) :
    Calls Tryz.prog 15 #[.agg #[.slice A n c], .int .i64 node, .int .i64 b] w fun e w' => e = .returned (.tuple #[.int .i64 (weightT t node b).1, .int .i64 (weightT t node b).2]) ∧ Below w.heap.size w w' := by
  obtain ⟨W1, hW1⟩ : ∃ W1, w.alloc (.cells #[.slice A n c] 24) = W1 := ⟨_, rfl⟩
  have HB1 : Hid (Below w.heap.size w W1) := by rw [← hW1]; exact (Below.refl _ w).alloc (Nat.le_refl _) _
  have K1 : Hid (Blk W1 w.heap.size 24 #[.slice A n c]) := by rw [← hW1]; exact Blk.new w _ _ rfl
  have HT := Lib.hid hT
  have HAs := Lib.hid (rasked_any t node A n c ms W1 (hT.below HB1.out))
  have HW1 := Lib.hid hW1
  have HLn := Lib.hid hT.len
  have HCT : Hid (weightT t node b = if askT t node ≠ 0 then (0, askT t node) else if basI t b = false then (0, 4) else ((wtN t node.toNat b.toNat : Int), 0)) := rfl
  generalize weightT t node b = CT at *
  clear hW1 hT
  go_enter Tryz.func15, Tryz.ntmps15
  go_wp2_with fail
  rw [HW1.out]
  refine HAs.out.mono ?_
  rintro e W2 ⟨rfl, hb2⟩
  have HB2 : Hid (Below w.heap.size w W2) := HB1.out.trans (hb2.mono HB1.out.size)
  have HK2 := Lib.hid (K1.out.later hb2)
  clear hb2 HAs HW1 K1
  by_cases ha : askT t node = 0
  · obtain ⟨hok, n0, n1⟩ := ask_ok ha
    have HCT2 : Hid (CT = if basI t b = false then (0, 4) else ((wtN t node.toNat b.toNat : Int), 0)) := by have := HCT.out; rw [if_neg (fun c => c ha)] at this; exact this
    rw [ha]
    clear HCT
    obtain ⟨nn, rfl⟩ : ∃ nn : Nat, node = (nn : Int) := ⟨node.toNat, by omega⟩
    have hn40 : n ≤ 40 := by have := hok.l40; have := HLn.out; omega
    have hnn : nn < n := by have := HLn.out; omega
    have HOk := Lib.hid hok
    have HBs := Lib.hid (fun (W : World) (h : Below w.heap.size w W) => basics_any t A n c ms W (HT.out.below h) (by omega))
    have HC := Lib.hid (fun (l : List Int) (L : Option Addr) (cl : Nat) (W : World) (h : Below w.heap.size w W) (hL : RdI W L l.length l) (hl : l.length ≤ 20) => rcauses_any t nn l A n c ms L cl W (HT.out.below h) hok hL (by omega) hnn)
    have HBL := Lib.hid (basL_short hok)
    have q0 := HK2.out.cell (i := 0) rfl
    have qz := HK2.out.lt
    clear hok ha n0 n1
    go_wp2_with fail
    refine (HBs.out _ HB2.out).mono ?_
    rintro e W3 ⟨v3, rfl, hr3, hb3⟩
    have HB3 : Hid (Below w.heap.size w W3) := HB2.out.trans (hb3.mono HB2.out.size)
    have HK3 := Lib.hid (HK2.out.later hb3)
    obtain ⟨A3, c3, rfl, hI3, hc3, _⟩ := rdI_of_own hr3 rfl
    have hHas := rhas_any (basL t) b A3 (basL t).length c3 W3 hI3 (by have := HBL.out; omega)
    rw [mem_basIb] at hHas
    have HHas := Lib.hid hHas
    clear hr3 hb3 hI3 hc3 q0 qz hHas
    go_wp2_with fail
    refine HHas.out.mono ?_
    rintro e W4 ⟨rfl, hb4⟩
    have HB4 : Hid (Below w.heap.size w W4) := HB3.out.trans (hb4.mono HB3.out.size)
    have HK4 := Lib.hid (HK3.out.later hb4)
    clear hb4 HHas
    cases hbI : basI t b
    · have F : CT = (0, 4) := by have := HCT2.out; rw [if_pos hbI] at this; exact this
      subst F
      go_wp2_with fail
      first | exact ⟨rfl, HB4.out⟩ | (go_ret2; exact ⟨rfl, HB4.out⟩)
    · obtain ⟨i0, i1, i2⟩ := basI_nat hbI
      have F : CT = ((wtN t (nn : Int).toNat b.toNat : Int), 0) := by have := HCT2.out; rw [if_neg (by rw [hbI]; decide)] at this; exact this
      subst F
      obtain ⟨bn, rfl⟩ : ∃ bn : Nat, b = (bn : Int) := ⟨b.toNat, by omega⟩
      rw [Int.toNat_natCast] at i1 i2
      have HF : Hid (∀ ps : List LsP, ps.map (·.1) = setsL ((basL t).filter fun n => n != (bn : Int)) → (ps.filter fun p => docW t nn bn p.1).length = wtN t (nn : Int).toNat (bn : Int).toNat) := fun ps hps => by rw [flt_map, hps]; exact cnt_docW HOk.out nn bn i2
      have HFl : Hid (((basL t).filter fun n => n != (bn : Int)).length ≤ 10) := Nat.le_trans (List.length_filter_le _ _) HBL.out
      have q0 := HK4.out.cell (i := 0) rfl
      have qz := HK4.out.lt
      clear hbI i0 i1 i2 HCT2
      go_wp2_with fail
      refine (HBs.out _ HB4.out).mono ?_
      rintro e W5 ⟨v5, rfl, hr5, hb5⟩
      have HB5 : Hid (Below w.heap.size w W5) := HB4.out.trans (hb5.mono HB4.out.size)
      have HK5 := Lib.hid (HK4.out.later hb5)
      obtain ⟨A5, c5, rfl, hI5, hc5, _⟩ := rdI_of_own hr5 rfl
      have HWo := Lib.hid (rwithout_any (basL t) bn A5 (basL t).length c5 W5 hI5 (by have := HBL.out; omega))
      clear hr5 hb5 hI5 hc5 q0 qz HBs
      go_wp2_with fail
      refine HWo.out.mono ?_
      rintro e W7 ⟨v7, rfl, hr7, hb7⟩
      have HB7 : Hid (Below w.heap.size w W7) := HB5.out.trans (hb7.mono HB5.out.size)
      have HK7 := Lib.hid (HK5.out.later hb7)
      generalize hll : ((basL t).filter fun n => n != (bn : Int)) = ll at *
      obtain ⟨A7, c7, rfl, hI7, hc7, _⟩ := rdI_of_own hr7 rfl
      have HSt := Lib.hid (sets_any _ ll A7 c7 W7 rfl hI7 hc7 HFl.out)
      have HSl := Lib.hid (sets_mem_len _ ll rfl)
      clear hr7 hb7 hI7 hc7 HWo hll
      go_wp2_with fail
      refine HSt.out.mono ?_
      rintro e W8 ⟨v8, ps, rfl, hR8, hps, hb8⟩
      have HB8 : Hid (Below w.heap.size w W8) := HB7.out.trans (hb8.mono HB7.out.size)
      have HK8 := Lib.hid (HK7.out.later hb8)
      have hlen : ∀ p ∈ ps, p.1.length ≤ 10 := fun p hp => by
        have h1 := HSl.out p.1 (by rw [← hps]; exact List.mem_map_of_mem hp)
        have h2 := HFl.out
        omega
      have hpl : ps.length ≤ 1024 := by
        have h := congrArg List.length hps
        rw [List.length_map, setsL_len] at h
        rw [h]
        exact Nat.le_trans (Nat.pow_le_pow_right (by decide) HFl.out) (by decide)
      obtain ⟨V, cv, rfl, hLs⟩ := hR8.lsm (fun p hp => by have := hlen p hp; omega)
      have HLs := Lib.hid hLs; have HAl := Lib.hid hR8.all; have HLen := Lib.hid hlen
      have HFi := Lib.hid (HF.out ps hps)
      clear hR8 hps hb8 hLs hlen HSt HSl HF
      go_wp2_with fail
      go_loopw [10, 11] (fun v i wr => ∃ k : Nat, k ≤ ps.length ∧ i = .int .i64 k ∧ v = .int .i64 (((ps.take k).filter fun p => docW t nn bn p.1).length : Nat) ∧ Below W8.heap.size W8 wr) (fun _ i _ => ps.length - (intOf i).toNat)
      case atStart => exact ⟨0, Nat.zero_le _, rfl, rfl, Below.refl _ _⟩
      case round =>
        obtain ⟨k, hk, rfl, rfl, hB⟩ := hrel
        have HB := Lib.hid hB
        have HBw : Hid (Below w.heap.size w wr) := HB8.out.trans (hB.mono HB8.out.size)
        have HKw := Lib.hid (HK8.out.later hB)
        clear hB
        have hfl : ((ps.take k).filter fun p => docW t nn bn p.1).length ≤ k := Nat.le_trans (List.length_filter_le _ _) (by rw [List.length_take]; omega)
        by_cases hlt : k < ps.length
        · obtain ⟨p, rd, hp, rfl, hcell⟩ := (HLs.out.below HB.out).getP hlt
          have hpm := List.mem_of_getElem? hp
          have HIp := Lib.hid ((HAl.out p hpm).below HB.out)
          have HCp := Lib.hid ((HAl.out p hpm).cap)
          have hp10 := HLen.out p hpm
          have hpl2 : p.1.length ≤ 2000000 := by omega
          have HCa := Lib.hid (HC.out p.1 p.2.1 p.2.2 wr.drew HBw.out.drew ((HIp.out.below (Below.refl wr.heap.size wr).drew).rd) (by omega))
          have HCb : Hid (∀ (Z : World) (A18 : Option Addr) (c18 : Nat), Below wr.heap.size wr Z → Z.ownsRow wr.heap.size 3 1 (.slice A18 (p.1.length + 1) c18) (p.1.length + 1) (p.1.map (Value.int .i64) ++ [Value.int .i64 (bn : Int)]) → Calls Tryz.prog 31 #[.agg #[.slice A n c], .int .i64 (nn : Int), .slice A18 (p.1.length + 1) c18] Z fun e w' => e = .returned (.bool (docF t nn (p.1 ++ [(bn : Int)]))) ∧ Below Z.heap.size Z w') := fun Z A18 c18 hb ho => by
            have h1 : IO Z (p.1 ++ [(bn : Int)], A18, c18) := by
              refine IO.of (base := wr.heap.size) ?_
              rw [List.length_append, List.map_append]
              exact ho
            have h2 := HC.out (p.1 ++ [(bn : Int)]) A18 c18 Z (HBw.out.trans (hb.mono HBw.out.size)) h1.rd (by rw [List.length_append]; simp; omega)
            rw [List.length_append] at h2
            exact h2
          have HSt := Lib.hid (flt_take (fun p : LsP => docW t nn bn p.1) hp)
          have HDw : Hid (docW t nn bn p.1 = (!docF t nn p.1 && docF t nn (p.1 ++ [(bn : Int)]))) := rfl
          have HCell := Lib.hid hcell
          have x0 := later_cell (HKw.out.cell (i := 0) rfl)
          have x1 := later_cell hcell
          have hkn : (k : Int) < (ps.length : Int) := by omega
          clear hp hpm hcell
          try dsimp only at HSt
          go_wp2_with fail
          refine wp_region_noPanic ?_
          refine wp_region_fork (fun w' => ∃ u : Later wr, w' = u.w) 20 (fun k => !(k == 6 || k == 11 || k == 16 || decide (18 ≤ k))) (fkOf _ (.op 0 (.op 1 (.op 2 (.op 3 (.op 4 (.op 5 (.op 6 (.op 7 (.op 8 (.op 9 (.op 10 (.op 12 (.op 13 (.op 14 (.op 15 (.op 17 (.two 11 (.two 16 (.op 18 (.op 19 (.op 20 (.op 21 .nil)))) 18 (.op 16 (.op 19 (.op 20 (.op 21 .nil))))) 18 (.op 11 (.op 16 (.op 19 (.op 20 (.op 21 .nil))))))))))))))))))))))) (by kernel_rfl) (by kernel_rfl) (fkOf_mem _ _) (fun _ _ _ _ _ h => h) ?_
          have HS0 : Hid ((fun w' => ∃ u : Later wr, w' = u.w) wr.drew) := ⟨⟨wr.drew, (Below.refl _ _).drew⟩, rfl⟩
          simp only [fkOf, List.getElem?_cons_zero, List.getElem?_cons_succ]
          iterate 6 (refine fk_quiet rfl rfl rfl HS0.out ?_; intro K hK; go_big_quiet_op; go_big_quiet_on)
          clear HS0
          refine fk_one rfl ?_
          go_wp2_with fail
          refine HCa.out.mono ?_
          rintro e W6 ⟨rfl, hb6⟩
          have HB6 : Hid (Below wr.heap.size wr W6) := below_of_drew hb6
          have HB6w : Hid (Below W8.heap.size W8 W6) := HB.out.trans (HB6.out.mono HB.out.size)
          have HS1 : Hid ((fun w' => ∃ u : Later wr, w' = u.w) W6) := ⟨⟨W6, HB6.out⟩, rfl⟩
          clear hb6 HCa
          have HDf : Hid (ef t (fun j => decide ((j : Int) ∈ p.1)) nn = docF t nn p.1) := rfl
          rw [HDf.out]
          generalize docF t nn p.1 = dd at *
          generalize ((ps.take k).filter fun p => docW t nn bn p.1).length = cc at *
          go_wp2_with fail
          refine mix_post (fun _ => HS1.out) ?_
          iterate 2 (refine fk_quiet rfl rfl rfl HS1.out ?_; intro K hK; go_big_quiet_op; go_big_quiet_on)
          cases dd
          · skip
            iterate 7 (refine fk_quiet rfl rfl rfl HS1.out ?_; intro K hK; go_big_quiet_op; go_big_quiet_on)
            clear x0 x1 HS1
            have hbs := buildI
            refine fk_two ?_ ?_
            · skip
              go_wp2
              have hY : Below wr.heap.size wr (W6.alloc (.cells #[] 3)) := HB6.out.alloc HB6.out.size _
              have hE : ((W6.alloc (.cells #[] 3))).ownsRow wr.heap.size 3 1 (.slice (some ⟨W6.heap.size, 0, none⟩) 0 0) 0 [] := own_emptyI W6 wr.heap.size HB6.out.size 3 1
              have HZ1 : Hid (((W6.alloc (.cells #[] 3))).heap.size = W6.heap.size + 1) := by show (W6.alloc _).heap.size = _; simp
              have HB_1 := Lib.hid hY
              have HE1 := Lib.hid hE
              clear hY hE
              refine mix_post (fun _ => ⟨⟨_, HB_1.out⟩, rfl⟩) ?_
              obtain ⟨Y1, hN⟩ : ∃ N, (W6.alloc (.cells #[] 3)) = N := ⟨_, rfl⟩
              rw [hN] at HB_1 HZ1 HE1 ⊢
              clear hN
              refine fk_two ?_ ?_
              · skip
                have HLa := Lib.hid ((HIp.out.below HB_1.out).rd)
                have hbz : wr.heap.size ≤ Y1.heap.size := HB_1.out.size
                (refine wpList_copy_ints_g rfl _ _ rfl wr.heap.size _ p.2.1 p.2.2 p.1 rfl HE1.out rfl HLa.out HCp.out hpl2 hbz ?_; intro v10 Y2 hO hG; have HO2 := Lib.hid hO; have HB_2 : Hid (Below wr.heap.size wr Y2) := HB_1.out.grown hG hbz (fun r e => by cases e; exact HB6.out.size); clear hO hG hbz)
                go_wp2_with fail
                refine mix_post (fun _ => ⟨⟨_, HB_2.out⟩, rfl⟩) ?_
                refine fk_one rfl ?_
                go_wp2
                have hY : Below wr.heap.size wr (Y2.alloc (.cells #[.int .i64 (bn : Int)] 3)) := HB_2.out.alloc HB_2.out.size _
                have hX : Blk ((Y2.alloc (.cells #[.int .i64 (bn : Int)] 3))) Y2.heap.size 3 #[.int .i64 (bn : Int)] := Blk.new Y2 _ _ rfl
                have hO : ((Y2.alloc (.cells #[.int .i64 (bn : Int)] 3))).ownsRow wr.heap.size 3 1 v10 p.1.length (p.1.map (Value.int .i64)) := HO2.out.alloc _
                have HB_3 := Lib.hid hY
                have HX3 := Lib.hid hX
                have HO3 := Lib.hid hO
                clear hY hX hO
                refine mix_post (fun _ => ⟨⟨_, HB_3.out⟩, rfl⟩) ?_
                obtain ⟨Y3, hN⟩ : ∃ N, (Y2.alloc (.cells #[.int .i64 (bn : Int)] 3)) = N := ⟨_, rfl⟩
                rw [hN] at HB_3 HX3 HO3 ⊢
                clear hN
                refine fk_one rfl ?_
                have hbz : wr.heap.size ≤ Y3.heap.size := HB_3.out.size
                have hcx := HX3.out.cell (i := 0) rfl
                (refine wpList_append_x_g rfl _ _ rfl wr.heap.size v10 p.1.length _ rfl HO3.out ⟨Y2.heap.size, 0, none⟩ bn rfl hcx hpl2 hbz ?_; intro A18 c18 Z hO hG; have HOz := Lib.hid hO; have HBz : Hid (Below wr.heap.size wr Z) := HB_3.out.grown hG hbz (fun r e => (HO3.out.lt r e).1); clear hO hG hbz hcx)
                go_wp2_with fail
                refine mix_post (fun _ => ⟨⟨_, HBz.out⟩, rfl⟩) ?_
                have HCz := Lib.hid (HCb.out Z A18 c18 HBz.out HOz.out)
                refine fk_one rfl ?_
                go_wp2_with fail
                refine HCz.out.mono ?_
                rintro e W9 ⟨rfl, hb9⟩
                have HB9 : Hid (Below W8.heap.size W8 W9) := HB.out.trans ((HBz.out.trans (hb9.mono HBz.out.size)).mono HB.out.size)
                clear hb9 HCz
                generalize docF t nn (p.1 ++ [(bn : Int)]) = d2 at *
                go_wp2_with fail
                refine mix_post (fun h => absurd h (by decide)) ?_
                refine fk_one rfl ?_
                go_wp2_with fail
                refine mix_post (fun h => absurd h (by decide)) ?_
                refine fk_nil (NoPanic.normal ?_)
                cases d2
                · skip
                  have HS2 : Hid (((ps.take (k + 1)).filter fun p => docW t nn bn p.1).length = cc) := by show _ = _; rw [HSt.out, HDw.out]; rfl
                  go_wp2_with fail
                  go_roundw
                  case rel => exact ⟨k + 1, by omega, by go_num, by rw [HS2.out], HB9.out⟩
                  case measure => simp [intOf]; omega
                · skip
                  have HS2 : Hid (((ps.take (k + 1)).filter fun p => docW t nn bn p.1).length = cc + 1) := by show _ = _; rw [HSt.out, HDw.out]; rfl
                  go_wp2_with fail
                  go_roundw
                  case rel => exact ⟨k + 1, by omega, by go_num, by rw [HS2.out]; go_num, HB9.out⟩
                  case measure => simp [intOf]; omega
              · skip
                go_wp2
                have hY : Below wr.heap.size wr (Y1.alloc (.cells #[.int .i64 (bn : Int)] 3)) := HB_1.out.alloc HB_1.out.size _
                have hX : Blk ((Y1.alloc (.cells #[.int .i64 (bn : Int)] 3))) Y1.heap.size 3 #[.int .i64 (bn : Int)] := Blk.new Y1 _ _ rfl
                have hE : ((Y1.alloc (.cells #[.int .i64 (bn : Int)] 3))).ownsRow wr.heap.size 3 1 (.slice (some ⟨W6.heap.size, 0, none⟩) 0 0) 0 [] := HE1.out.alloc _
                have HB_2 := Lib.hid hY
                have HE2 := Lib.hid hE
                have HX2 := Lib.hid hX
                clear hY hE hX
                refine mix_post (fun _ => ⟨⟨_, HB_2.out⟩, rfl⟩) ?_
                obtain ⟨Y2, hN⟩ : ∃ N, (Y1.alloc (.cells #[.int .i64 (bn : Int)] 3)) = N := ⟨_, rfl⟩
                rw [hN] at HB_2 HE2 HX2 ⊢
                clear hN
                refine fk_one rfl ?_
                have HLa := Lib.hid ((HIp.out.below HB_2.out).rd)
                have hbz : wr.heap.size ≤ Y2.heap.size := HB_2.out.size
                (refine wpList_copy_ints_g rfl _ _ rfl wr.heap.size _ p.2.1 p.2.2 p.1 rfl HE2.out rfl HLa.out HCp.out hpl2 hbz ?_; intro v10 Y3 hO hG; have HO3 := Lib.hid hO; have HB_3 : Hid (Below wr.heap.size wr Y3) := HB_2.out.grown hG hbz (fun r e => by cases e; exact HB6.out.size); have HX3 : Hid (Blk Y3 Y1.heap.size 3 #[.int .i64 (bn : Int)]) := HX2.out.grown hG (fun e => by have e' : Y1.heap.size = W6.heap.size := Option.some.inj e; have h1 := HZ1.out; omega); clear hO hG hbz)
                go_wp2_with fail
                refine mix_post (fun _ => ⟨⟨_, HB_3.out⟩, rfl⟩) ?_
                refine fk_one rfl ?_
                have hbz : wr.heap.size ≤ Y3.heap.size := HB_3.out.size
                have hcx := HX3.out.cell (i := 0) rfl
                (refine wpList_append_x_g rfl _ _ rfl wr.heap.size v10 p.1.length _ rfl HO3.out ⟨Y1.heap.size, 0, none⟩ bn rfl hcx hpl2 hbz ?_; intro A18 c18 Z hO hG; have HOz := Lib.hid hO; have HBz : Hid (Below wr.heap.size wr Z) := HB_3.out.grown hG hbz (fun r e => (HO3.out.lt r e).1); clear hO hG hbz hcx)
                go_wp2_with fail
                refine mix_post (fun _ => ⟨⟨_, HBz.out⟩, rfl⟩) ?_
                have HCz := Lib.hid (HCb.out Z A18 c18 HBz.out HOz.out)
                refine fk_one rfl ?_
                go_wp2_with fail
                refine HCz.out.mono ?_
                rintro e W9 ⟨rfl, hb9⟩
                have HB9 : Hid (Below W8.heap.size W8 W9) := HB.out.trans ((HBz.out.trans (hb9.mono HBz.out.size)).mono HB.out.size)
                clear hb9 HCz
                generalize docF t nn (p.1 ++ [(bn : Int)]) = d2 at *
                go_wp2_with fail
                refine mix_post (fun h => absurd h (by decide)) ?_
                refine fk_one rfl ?_
                go_wp2_with fail
                refine mix_post (fun h => absurd h (by decide)) ?_
                refine fk_nil (NoPanic.normal ?_)
                cases d2
                · skip
                  have HS2 : Hid (((ps.take (k + 1)).filter fun p => docW t nn bn p.1).length = cc) := by show _ = _; rw [HSt.out, HDw.out]; rfl
                  go_wp2_with fail
                  go_roundw
                  case rel => exact ⟨k + 1, by omega, by go_num, by rw [HS2.out], HB9.out⟩
                  case measure => simp [intOf]; omega
                · skip
                  have HS2 : Hid (((ps.take (k + 1)).filter fun p => docW t nn bn p.1).length = cc + 1) := by show _ = _; rw [HSt.out, HDw.out]; rfl
                  go_wp2_with fail
                  go_roundw
                  case rel => exact ⟨k + 1, by omega, by go_num, by rw [HS2.out]; go_num, HB9.out⟩
                  case measure => simp [intOf]; omega
            · skip
              go_wp2
              have hY : Below wr.heap.size wr (W6.alloc (.cells #[.int .i64 (bn : Int)] 3)) := HB6.out.alloc HB6.out.size _
              have hX : Blk ((W6.alloc (.cells #[.int .i64 (bn : Int)] 3))) W6.heap.size 3 #[.int .i64 (bn : Int)] := Blk.new W6 _ _ rfl
              have HZ1 : Hid (((W6.alloc (.cells #[.int .i64 (bn : Int)] 3))).heap.size = W6.heap.size + 1) := by show (W6.alloc _).heap.size = _; simp
              have HB_1 := Lib.hid hY
              have HX1 := Lib.hid hX
              clear hY hX
              refine mix_post (fun _ => ⟨⟨_, HB_1.out⟩, rfl⟩) ?_
              obtain ⟨Y1, hN⟩ : ∃ N, (W6.alloc (.cells #[.int .i64 (bn : Int)] 3)) = N := ⟨_, rfl⟩
              rw [hN] at HB_1 HZ1 HX1 ⊢
              clear hN
              refine fk_one rfl ?_
              go_wp2
              have hY : Below wr.heap.size wr (Y1.alloc (.cells #[] 3)) := HB_1.out.alloc HB_1.out.size _
              have hE : ((Y1.alloc (.cells #[] 3))).ownsRow wr.heap.size 3 1 (.slice (some ⟨Y1.heap.size, 0, none⟩) 0 0) 0 [] := own_emptyI Y1 wr.heap.size HB_1.out.size 3 1
              have hX : Blk ((Y1.alloc (.cells #[] 3))) W6.heap.size 3 #[.int .i64 (bn : Int)] := HX1.out.alloc _
              have HB_2 := Lib.hid hY
              have HE2 := Lib.hid hE
              have HX2 := Lib.hid hX
              clear hY hE hX
              refine mix_post (fun _ => ⟨⟨_, HB_2.out⟩, rfl⟩) ?_
              obtain ⟨Y2, hN⟩ : ∃ N, (Y1.alloc (.cells #[] 3)) = N := ⟨_, rfl⟩
              rw [hN] at HB_2 HE2 HX2 ⊢
              clear hN
              refine fk_one rfl ?_
              have HLa := Lib.hid ((HIp.out.below HB_2.out).rd)
              have hbz : wr.heap.size ≤ Y2.heap.size := HB_2.out.size
              (refine wpList_copy_ints_g rfl _ _ rfl wr.heap.size _ p.2.1 p.2.2 p.1 rfl HE2.out rfl HLa.out HCp.out hpl2 hbz ?_; intro v10 Y3 hO hG; have HO3 := Lib.hid hO; have HB_3 : Hid (Below wr.heap.size wr Y3) := HB_2.out.grown hG hbz (fun r e => by cases e; exact HB_1.out.size); have HX3 : Hid (Blk Y3 W6.heap.size 3 #[.int .i64 (bn : Int)]) := HX2.out.grown hG (fun e => by have e' : W6.heap.size = Y1.heap.size := Option.some.inj e; have h1 := HZ1.out; omega); clear hO hG hbz)
              go_wp2_with fail
              refine mix_post (fun _ => ⟨⟨_, HB_3.out⟩, rfl⟩) ?_
              refine fk_one rfl ?_
              have hbz : wr.heap.size ≤ Y3.heap.size := HB_3.out.size
              have hcx := HX3.out.cell (i := 0) rfl
              (refine wpList_append_x_g rfl _ _ rfl wr.heap.size v10 p.1.length _ rfl HO3.out ⟨W6.heap.size, 0, none⟩ bn rfl hcx hpl2 hbz ?_; intro A18 c18 Z hO hG; have HOz := Lib.hid hO; have HBz : Hid (Below wr.heap.size wr Z) := HB_3.out.grown hG hbz (fun r e => (HO3.out.lt r e).1); clear hO hG hbz hcx)
              go_wp2_with fail
              refine mix_post (fun _ => ⟨⟨_, HBz.out⟩, rfl⟩) ?_
              have HCz := Lib.hid (HCb.out Z A18 c18 HBz.out HOz.out)
              refine fk_one rfl ?_
              go_wp2_with fail
              refine HCz.out.mono ?_
              rintro e W9 ⟨rfl, hb9⟩
              have HB9 : Hid (Below W8.heap.size W8 W9) := HB.out.trans ((HBz.out.trans (hb9.mono HBz.out.size)).mono HB.out.size)
              clear hb9 HCz
              generalize docF t nn (p.1 ++ [(bn : Int)]) = d2 at *
              go_wp2_with fail
              refine mix_post (fun h => absurd h (by decide)) ?_
              refine fk_one rfl ?_
              go_wp2_with fail
              refine mix_post (fun h => absurd h (by decide)) ?_
              refine fk_nil (NoPanic.normal ?_)
              cases d2
              · skip
                have HS2 : Hid (((ps.take (k + 1)).filter fun p => docW t nn bn p.1).length = cc) := by show _ = _; rw [HSt.out, HDw.out]; rfl
                go_wp2_with fail
                go_roundw
                case rel => exact ⟨k + 1, by omega, by go_num, by rw [HS2.out], HB9.out⟩
                case measure => simp [intOf]; omega
              · skip
                have HS2 : Hid (((ps.take (k + 1)).filter fun p => docW t nn bn p.1).length = cc + 1) := by show _ = _; rw [HSt.out, HDw.out]; rfl
                go_wp2_with fail
                go_roundw
                case rel => exact ⟨k + 1, by omega, by go_num, by rw [HS2.out]; go_num, HB9.out⟩
                case measure => simp [intOf]; omega
          · skip
            iterate 7 (refine fk_skip rfl rfl HS1.out ?_; simp only [Act.put, List.setIfInBounds_toArray, List.set_cons_succ, List.set_cons_zero])
            clear x0 x1
            refine fk_two ?_ ?_
            · skip
              go_wp2_with fail
              refine mix_post (fun _ => HS1.out) ?_
              refine fk_two ?_ ?_
              · skip
                go_wp2_with fail
                refine mix_post (fun _ => HS1.out) ?_
                refine fk_one rfl ?_; go_wp2_with fail; refine mix_post (fun _ => HS1.out) ?_
                refine fk_one rfl ?_; go_wp2_with fail; refine mix_post (fun _ => HS1.out) ?_
                refine fk_one rfl ?_; go_wp2_with fail; refine mix_post (fun h => absurd h (by decide)) ?_
                refine fk_one rfl ?_; go_wp2_with fail; refine mix_post (fun h => absurd h (by decide)) ?_
                refine fk_nil (NoPanic.normal ?_)
                have HS2 : Hid (((ps.take (k + 1)).filter fun p => docW t nn bn p.1).length = cc) := by show _ = _; rw [HSt.out, HDw.out]; rfl
                go_wp2_with fail
                go_roundw
                case rel => exact ⟨k + 1, by omega, by go_num, by rw [HS2.out], HB6w.out⟩
                case measure => simp [intOf]; omega
              · skip
                go_wp2_with fail
                refine mix_post (fun _ => HS1.out) ?_
                refine fk_one rfl ?_; go_wp2_with fail; refine mix_post (fun _ => HS1.out) ?_
                refine fk_one rfl ?_; go_wp2_with fail; refine mix_post (fun _ => HS1.out) ?_
                refine fk_one rfl ?_; go_wp2_with fail; refine mix_post (fun h => absurd h (by decide)) ?_
                refine fk_one rfl ?_; go_wp2_with fail; refine mix_post (fun h => absurd h (by decide)) ?_
                refine fk_nil (NoPanic.normal ?_)
                have HS2 : Hid (((ps.take (k + 1)).filter fun p => docW t nn bn p.1).length = cc) := by show _ = _; rw [HSt.out, HDw.out]; rfl
                go_wp2_with fail
                go_roundw
                case rel => exact ⟨k + 1, by omega, by go_num, by rw [HS2.out], HB6w.out⟩
                case measure => simp [intOf]; omega
            · skip
              go_wp2_with fail
              refine mix_post (fun _ => HS1.out) ?_
              refine fk_one rfl ?_; go_wp2_with fail; refine mix_post (fun _ => HS1.out) ?_
              refine fk_one rfl ?_; go_wp2_with fail; refine mix_post (fun _ => HS1.out) ?_
              refine fk_one rfl ?_; go_wp2_with fail; refine mix_post (fun _ => HS1.out) ?_
              refine fk_one rfl ?_; go_wp2_with fail; refine mix_post (fun h => absurd h (by decide)) ?_
              refine fk_one rfl ?_; go_wp2_with fail; refine mix_post (fun h => absurd h (by decide)) ?_
              refine fk_nil (NoPanic.normal ?_)
              have HS2 : Hid (((ps.take (k + 1)).filter fun p => docW t nn bn p.1).length = cc) := by show _ = _; rw [HSt.out, HDw.out]; rfl
              go_wp2_with fail
              go_roundw
              case rel => exact ⟨k + 1, by omega, by go_num, by rw [HS2.out], HB6w.out⟩
              case measure => simp [intOf]; omega
        · obtain rfl : k = ps.length := by omega
          rw [List.take_length, HFi.out]
          go_wp2_with fail
          first | exact ⟨rfl, HBw.out⟩ | (go_ret2; exact ⟨rfl, HBw.out⟩)
  · have F : CT = (0, askT t node) := by have := HCT.out; rw [if_pos ha] at this; exact this
    subst F
    have hne : (askT t node != 0) = true := by simpa using ha
    have hne2 : (askT t node == 0) = false := by simpa using ha
    clear HCT ha
    generalize hee : askT t node = ee at *
    have HEe := Lib.hid hee
    clear hee
    go_wp2_with fail
    first | exact ⟨by rw [HEe.out]; rfl, HB2.out⟩ | (go_ret2; exact ⟨by rw [HEe.out]; rfl, HB2.out⟩)
end Go.Proofs.YtadldndpphdmpaaGreat
