/- The document's sets: all sets of some nodes, by the sets without the last one. -/
import Derived.Test.YtadldndpphdmpaaGreatTB
import Derived.Test.YtadldndpphdmpaaGreatMix3
import Derived.Laws.AppendOwnNone
namespace Go.Proofs.YtadldndpphdmpaaGreat
open Go.RowKit Go.Shelf

theorem buildI (w : World) : (Instr.buildSlice 38 0 #[]).run Tryz.prog w = .ok (.slice (some ⟨w.heap.size, 0, none⟩) 0 0) (w.alloc (.cells #[] 3)) := by kernel_rfl
theorem own_emptyI (w : World) (base : Nat) (hb : base ≤ w.heap.size) (e : TypeId) (size : Nat) : (w.alloc (.cells #[] e)).ownsRow base e size (.slice (some ⟨w.heap.size, 0, none⟩) 0 0) 0 [] :=
  ⟨by simp, .inr ⟨w.heap.size, 0, #[], rfl, hb, heap_alloc_new w _, Nat.le_refl _, Nat.zero_le _, by simp, by simp⟩⟩
theorem rdI_news {w : World} {ad : Addr} {n : Nat} {l : List Int} (h : RdI w (some ad) n l) (j : Nat) (u : Value) (hu : (l.map (Value.int .i64))[j]? = some u) : w.cell? (ad.add j) = some u := by
  rw [List.getElem?_map, Option.map_eq_some_iff] at hu
  obtain ⟨x, hx, rfl⟩ := hu
  have hj : j < n := by rw [← h.1]; exact (List.getElem?_eq_some_iff.1 hx).1
  obtain ⟨x', ad', h1, h2, h3⟩ := rdI_get h hj
  cases h2
  rw [hx] at h1
  cases h1
  exact h3
/-- append([]int{}, l...). -/
theorem wpList_copy_ints {w : World} {ops : Array Oper} {rest : List Oper} {o : Oper} {a : Act} {Q : Exit → Act → World → Prop} (hgd : o.guard = none) (s x : Operand)
    (ho : o.op = .call { callee := .builtin .append, args := #[s, x], argTypes := #[38, 38] }) (base : Nat) (v : Value) (A : Option Addr) (c : Nat) (l : List Int)
    (hs : a.eval s = v) (hown : w.ownsRow base 3 1 v 0 []) (hx : a.eval x = .slice A l.length c) (hL : RdI w A l.length l) (hA : A = none → c = 0)
    (hl : l.length ≤ 2000000) (hbase : base ≤ w.heap.size)
    (h : ∀ v' w', w'.ownsRow base 3 1 v' l.length (l.map (Value.int .i64)) → w.grownBy w' v.ownBlock → wpList Tryz.prog ops Q rest (a.put o.dst v') w') : wpList Tryz.prog ops Q (o :: rest) a w := by
  obtain ⟨i0, hi0, hz0, hz1, hz2⟩ := info_parts infoI
  cases A with
  | none =>
    have hl0 : l = [] := by
      cases l with
      | nil => rfl
      | cons x r =>
        obtain ⟨_, _, _, e, _⟩ := rdI_get hL (k := 0) (by simp)
        cases e
    subst hl0
    have hc := hA rfl
    subst hc
    refine wpList_append_own_none hgd s x 38 ho base 3 i0 1 Tryz.underlying38 hi0 v 0 [] hs hown hx ?_
    exact h v w (by simpa using hown) ⟨rfl, rfl, rfl, Nat.le_refl _, fun _ _ _ => rfl⟩
  | some ad =>
    refine wpList_append_own w hgd s x 38 ho base 3 i0 _ 1 8 Tryz.underlying38 hi0 hz0 hz1 hz2 rfl (by decide) v 0 [] hs hown ad l.length c (l.map (Value.int .i64)) hx (by simp) (rdI_news hL) (fun u hu => ?_) (by unfold maxLen; omega) (by omega) hbase ?_
    · obtain ⟨x, _, rfl⟩ := List.mem_map.1 hu
      rfl
    · intro v' w' h2 h3 _
      rw [List.nil_append, Nat.zero_add] at h2
      exact h v' w' h2 h3

section
variable {P : Program} {ops : Array Oper} {Q : Exit → Act → World → Prop} {S : World → Prop}
theorem fk_valQ {n k : Nat} {q : Nat → Bool} {o : Oper} {t : Fk} {a : Act} {w : World} (hq : q k = true) (v : Value) (hrun : ∀ w', (execOp a.eval o).run P w' = .ok (.value v) w') (hw : Region.wanted o (yielded ops a.tmps) = true) (hS : S w)
    (h : ∀ K : Act → Prop, (∀ a', wpFk P ops Q S n q t a' w → K a') → o.quiet P a S K) : wpFk P ops Q S n q (.op k o t) a w := by
  rw [wpFk, if_pos hq]
  obtain ⟨v', h1, h2⟩ := h (fun a' => wpFk P ops Q S n q t a' w) (fun _ h => h)
  have h3 := h1 w hS
  unfold Oper.quietAt at h3
  rw [hrun w] at h3
  obtain ⟨_, rfl⟩ := h3
  exact ⟨hS, _, .inl ⟨hw, fun w' _ => hrun w'⟩, h2⟩
end
/-- append(v, x), the row with x anywhere. -/
theorem wpList_append_x {w : World} {ops : Array Oper} {rest : List Oper} {o : Oper} {a : Act} {Q : Exit → Act → World → Prop} (hgd : o.guard = none) (s y : Operand)
    (ho : o.op = .call { callee := .builtin .append, args := #[s, y], argTypes := #[38, 38] }) (base : Nat) (v : Value) (n : Nat) (xs : List Value)
    (hs : a.eval s = v) (hown : w.ownsRow base 3 1 v n xs) (ad : Addr) (x : Int) (hy : a.eval y = .slice (some ad) 1 1) (hc : w.cell? ad = some (.int .i64 x))
    (hn : n ≤ 2000000) (hbase : base ≤ w.heap.size)
    (h : ∀ A' c' w', w'.ownsRow base 3 1 (.slice A' (n + 1) c') (n + 1) (xs ++ [.int .i64 x]) → w.grownBy w' v.ownBlock → wpList Tryz.prog ops Q rest (a.put o.dst (.slice A' (n + 1) c')) w') : wpList Tryz.prog ops Q (o :: rest) a w := by
  obtain ⟨i0, hi0, hz0, hz1, hz2⟩ := info_parts infoI
  refine wpList_append_own w hgd s y 38 ho base 3 i0 _ 1 8 Tryz.underlying38 hi0 hz0 hz1 hz2 rfl (by decide) v n xs hs hown ad 1 1 [.int .i64 x] hy rfl (fun j u hu => ?_) (fun u hu => by rw [List.mem_singleton] at hu; subst hu; rfl) (by unfold maxLen; omega) (by omega) hbase ?_
  · match j, hu with
    | 0, hu => cases hu; exact hc
  · intro v' w' h2 h3 _
    obtain ⟨A', c', rfl, _⟩ := own_slice h2
    exact h A' c' w' h2 h3
/-- append(v, u...), u a row of two slices. -/
theorem wpList_append_two {w : World} {ops : Array Oper} {rest : List Oper} {o : Oper} {a : Act} {Q : Exit → Act → World → Prop} (hgd : o.guard = none) (s y : Operand)
    (ho : o.op = .call { callee := .builtin .append, args := #[s, y], argTypes := #[27, 27] }) (base : Nat) (v : Value) (n : Nat) (xs : List Value)
    (hs : a.eval s = v) (hown : w.ownsRow base 38 1 v n xs) (g : Nat) (u1 u2 : Value) (hy : a.eval y = .slice (some ⟨g, 0, none⟩) 2 2) (hc : w.cell? ⟨g, 0, none⟩ = some u1) (hd : w.cell? ⟨g, 1, none⟩ = some u2)
    (h1 : u1.oneCell' = true) (h2 : u2.oneCell' = true) (hn : n ≤ 2000000) (hbase : base ≤ w.heap.size)
    (h : ∀ v' w', w'.ownsRow base 38 1 v' (n + 2) (xs ++ [u1, u2]) → w.grownBy w' v.ownBlock → wpList Tryz.prog ops Q rest (a.put o.dst v') w') : wpList Tryz.prog ops Q (o :: rest) a w := by
  obtain ⟨i0, hi0, hz0, hz1, hz2⟩ := info_parts infoIs
  refine wpList_append_own w hgd s y 27 ho base 38 i0 _ 1 24 Tryz.underlying27 hi0 hz0 hz1 hz2 rfl (by decide) v n xs hs hown ⟨g, 0, none⟩ 2 2 [u1, u2] hy rfl (fun j u hu => ?_) (fun u hu => ?_) (by unfold maxLen; omega) (by omega) hbase ?_
  · match j, hu with
    | 0, hu => cases hu; exact hc
    | 1, hu => cases hu; exact hd
  · simp only [List.mem_cons, List.not_mem_nil, or_false] at hu
    rcases hu with rfl | rfl
    · exact h1
    · exact h2
  · intro v' w' h3 h4 _
    exact h v' w' h3 h4
theorem sets_mem_len : ∀ (n : Nat) (l : List Int), l.length = n → ∀ r ∈ setsL l, r.length ≤ n
  | 0, l, h, r, hr => by
    rw [List.eq_nil_of_length_eq_zero h] at hr
    rw [setsL_nil, List.mem_singleton] at hr
    subst hr
    exact Nat.le_refl _
  | n + 1, l, h, r, hr => by
    have hne : l ≠ [] := by intro c; subst c; simp at h
    rw [← List.dropLast_concat_getLast hne, setsL_snoc, List.mem_flatMap] at hr
    obtain ⟨u, hu, hr⟩ := hr
    have := sets_mem_len n l.dropLast (by rw [List.length_dropLast]; omega) u hu
    simp only [List.mem_cons, List.not_mem_nil, or_false] at hr
    rcases hr with rfl | rfl
    · omega
    · rw [List.length_append]; simp; omega
theorem IRows.one (w : World) : IRows (w.alloc (.cells #[.slice none 0 0] 38)) w.heap.size (.slice (some ⟨w.heap.size, 0, none⟩) 1 1) [([], none, 0)] :=
  ⟨⟨rfl, .inr ⟨w.heap.size, 1, _, rfl, Nat.le_refl _, heap_alloc_new w _, Nat.le_refl _, by unfold maxLen; omega, rfl, rfl⟩⟩, fun p hp => by rw [List.mem_singleton] at hp; subst hp; exact World.ownsRow_nil _ _ _ _⟩
def pairs (x : Int) (rs : List LsP) : List (List Int) := (rs.map (·.1)).flatMap fun r => [r, r ++ [x]]
theorem pairs_take (x : Int) {rs : List LsP} {k : Nat} {p : LsP} (h : rs[k]? = some p) : pairs x (rs.take (k + 1)) = pairs x (rs.take k) ++ [p.1, p.1 ++ [x]] := by
  obtain ⟨hk, rfl⟩ := List.getElem?_eq_some_iff.1 h
  unfold pairs
  rw [List.take_succ_eq_append_getElem hk, List.map_append, List.flatMap_append]
  rfl
theorem setsL_last {l : List Int} {x : Int} {k : Nat} (hl : l.length = k + 1) (hx : l[k]? = some x) : setsL l = (setsL (l.take k)).flatMap fun r => [r, r ++ [x]] := by
  obtain ⟨hk, rfl⟩ := List.getElem?_eq_some_iff.1 hx
  have e : l = l.take k ++ [l[k]] := by
    rw [← List.take_succ_eq_append_getElem hk, ← hl, List.take_length]
  generalize l[k] = x at *
  rw [e, setsL_snoc]
  rw [show (l.take k ++ [x]).take k = l.take k by rw [List.take_append_of_le_length (by rw [List.length_take]; omega), List.take_take, Nat.min_self]]
theorem rdI_take {w : World} {A : Option Addr} {l : List Int} (h : RdI w A l.length l) (k : Nat) (hk : k ≤ l.length) : RdI w A (l.take k).length (l.take k) := ⟨rfl, fun i x hx => by
  have hi : i < k := by have := (List.getElem?_eq_some_iff.1 hx).1; rw [List.length_take] at this; omega
  rw [List.getElem?_take_of_lt hi] at hx
  exact h.2 i x hx⟩

set_option maxRecDepth 100000 in
set_option maxHeartbeats 8000000 in
theorem sets_any : ∀ (m : Nat) (l : List Int) (L : Option Addr) (cl : Nat) (w : World), l.length = m → RdI w L l.length l → l.length ≤ cl → l.length ≤ 10 →
    Calls Tryz.prog 29 #[.slice L l.length cl] w fun e w' => ∃ v ps, e = .returned v ∧ IRows w' w.heap.size v ps ∧ ps.map (·.1) = setsL l ∧ Below w.heap.size w w'
  | 0, l, L, cl, w, hm, hL, hcl, h10 => by
    have hl0 := List.eq_nil_of_length_eq_zero hm
    subst hl0
    clear hL
    go_enter Tryz.func29, Tryz.ntmps29
    go_wp2_with fail
    go_ret
    exact ⟨_, _, rfl, IRows.one w, rfl, (Below.refl _ w).alloc (Nat.le_refl _) _⟩
  | m + 1, l, L, cl, w, hm, hL, hcl, h10 => by
    obtain ⟨x, ad, hx, rfl, hcx⟩ := rdI_get hL (k := m) (by omega)
    have hlt : (l.take m).length = m := by rw [List.length_take]; omega
    have HIH := Lib.hid (sets_any m (l.take m) (some ad) cl w hlt (rdI_take hL m (by omega)) (by omega) (by omega))
    have HSe := Lib.hid (setsL_last hm hx)
    have HLt := Lib.hid hlt
    have HL := Lib.hid hL
    have HCx := Lib.hid hcx
    have e1 : (l.length : Int) = (m : Int) + 1 := by omega
    have hcm : m ≤ cl := by omega
    have hsub : (m : Int) + 1 - 1 = (m : Int) := by omega
    rw [hlt] at HIH
    rw [hm] at hcl h10 ⊢
    clear hx hcx hL e1 hlt
    go_enter Tryz.func29, Tryz.ntmps29
    go_wp2_with fail
    refine HIH.out.mono ?_
    rintro e W2 ⟨v2, rs, rfl, hR2, hrs, hb2⟩
    have hrl : rs.length ≤ 1024 := by
      have h := congrArg List.length hrs
      rw [List.length_map, setsL_len, HLt.out] at h
      rw [h]
      exact Nat.le_trans (Nat.pow_le_pow_right (by decide) (show m ≤ 10 by omega)) (by decide)
    have hlen : ∀ p ∈ rs, p.1.length ≤ 10 := fun p hp => by
      have := sets_mem_len m (l.take m) HLt.out p.1 (by rw [← hrs]; exact List.mem_map_of_mem hp)
      omega
    obtain ⟨Ar, cr, rfl, hLs⟩ := hR2.lsm (fun p hp => by have := hlen p hp; omega)
    have HLs := Lib.hid hLs; have HAl := Lib.hid hR2.all; have HRs := Lib.hid hrs; have HLen := Lib.hid hlen
    have HB2 : Hid (Below w.heap.size w W2) := hb2
    clear hR2 hrs hb2 hLs hlen HIH
    go_wp2_with fail
    go_loopw [4, 5] (fun v i wr => ∃ (k : Nat) (ps : List LsP), k ≤ rs.length ∧ i = .int .i64 k ∧ IRows wr W2.heap.size v ps ∧ ps.length = 2 * k ∧ ps.map (·.1) = pairs x (rs.take k) ∧ Below W2.heap.size W2 wr) (fun _ i _ => rs.length - (intOf i).toNat)
    case atStart => exact ⟨0, [], Nat.zero_le _, rfl, IRows.nil _ _, rfl, rfl, Below.refl _ _⟩
    case round =>
      obtain ⟨k, ps, hk, rfl, hR, hpl2, hpm, hB⟩ := hrel
      have HR := Lib.hid hR; have HBo := Lib.hid hB; have HPm := Lib.hid hpm; have HPl := Lib.hid hpl2
      obtain ⟨Ao, co, rfl, _⟩ := own_slice hR.row
      clear hR hB hpm
      by_cases hlt : k < rs.length
      · obtain ⟨p, rd, hp, rfl, hcell⟩ := HLs.out.getP hlt
        have hpm := List.mem_of_getElem? hp
        have HIp := Lib.hid ((HAl.out p hpm).below HBo.out)
        have HCp := Lib.hid ((HAl.out p hpm).cap)
        have hpl : p.1.length ≤ 2000000 := by have := HLen.out p hpm; omega
        have HPt := Lib.hid (pairs_take x hp)
        have hkn : (k : Int) < (rs.length : Int) := by omega
        have hpsl : ps.length ≤ 2000000 := by omega
        have hc1 := cell_below HBo.out hcell
        have hc2 := cell_below (HB2.out.trans (HBo.out.mono HB2.out.size)) HCx.out
        have x0 := later_cell hc1
        have x1 := later_cell hc2
        have hw1 : IntKind.i64.wrap ((m : Int) + 1 - 1) = (m : Int) := by rw [IntWalk.i64_in _ ⟨by omega, by omega⟩]; omega
        clear hp hpm hcell hc1 hc2 hpl2
        go_wp2_with fail
        refine wp_region_noPanic ?_
        refine wp_region_fork (fun w' => ∃ u : Later wr, w' = u.w) 20 (fun k => !(k == 5 || k == 10 || decide (17 ≤ k))) (fkOf _ (.op 0 (.op 1 (.op 2 (.op 3 (.op 4 (.op 6 (.op 7 (.op 8 (.op 9 (.op 11 (.op 12 (.op 13 (.op 14 (.op 15 (.op 16 (.two 5 (.two 10 (.op 17 (.op 18 (.op 19 (.op 20 (.op 21 .nil))))) 17 (.op 10 (.op 18 (.op 19 (.op 20 (.op 21 .nil)))))) 17 (.op 5 (.op 10 (.op 18 (.op 19 (.op 20 (.op 21 .nil))))))))))))))))))))))) (by kernel_rfl) (by kernel_rfl) (fkOf_mem _ _) (fun _ _ _ _ _ h => h) ?_
        have HS0 : Hid ((fun w' => ∃ u : Later wr, w' = u.w) wr.drew) := ⟨⟨wr.drew, (Below.refl _ _).drew⟩, rfl⟩
        simp only [fkOf, List.getElem?_cons_zero, List.getElem?_cons_succ]
        iterate 15 ((first | refine fk_quiet rfl rfl rfl HS0.out ?_ | refine fk_valQ rfl _ (run_len2 _ _ _ Tryz.underlying38 _ _ _ rfl rfl) rfl HS0.out ?_); intro K hK; go_big_quiet_op; go_big_quiet_on)
        clear x0 x1 HS0
        have hbs := buildI
        refine fk_two ?_ ?_
        · skip
          go_wp2
          have hY : Below wr.heap.size wr (wr.alloc (.cells #[] 3)).drew := ((Below.refl _ wr).alloc (Nat.le_refl _) _).drew
          have hE : ((wr.alloc (.cells #[] 3)).drew).ownsRow wr.heap.size 3 1 (.slice (some ⟨wr.heap.size, 0, none⟩) 0 0) 0 [] := own_emptyI wr wr.heap.size (Nat.le_refl _) 3 1
          have HZ1 : Hid (((wr.alloc (.cells #[] 3)).drew).heap.size = wr.heap.size + 1) := by show (wr.alloc _).heap.size = _; simp
          have HB1 := Lib.hid hY
          have HE1 := Lib.hid hE
          clear hY hE
          refine mix_post (fun _ => ⟨⟨_, HB1.out⟩, rfl⟩) ?_
          obtain ⟨Y1, hN⟩ : ∃ N, (wr.alloc (.cells #[] 3)).drew = N := ⟨_, rfl⟩
          rw [hN] at HB1 HZ1 HE1 ⊢
          clear hN
          refine fk_two ?_ ?_
          · skip
            have HLa := Lib.hid ((HIp.out.below HB1.out).rd)
            have hbz : wr.heap.size ≤ Y1.heap.size := HB1.out.size
            go_wp2_with (at_builtin; refine wpList_copy_ints rfl _ _ rfl wr.heap.size _ p.2.1 p.2.2 p.1 rfl HE1.out rfl HLa.out HCp.out hpl hbz ?_; intro v10 Y2 hO hG; have HO2 := Lib.hid hO; have HB2 : Hid (Below wr.heap.size wr Y2) := HB1.out.grown hG hbz (fun r e => by cases e; exact Nat.le_refl _); clear hO hG hbz)
            refine mix_post (fun _ => ⟨⟨_, HB2.out⟩, rfl⟩) ?_
            refine fk_one rfl ?_
            go_wp2
            have hY : Below wr.heap.size wr (Y2.alloc (.cells #[.int .i64 x] 3)) := HB2.out.alloc HB2.out.size _
            have hX : Blk ((Y2.alloc (.cells #[.int .i64 x] 3))) Y2.heap.size 3 #[.int .i64 x] := Blk.new Y2 _ _ rfl
            have hO : ((Y2.alloc (.cells #[.int .i64 x] 3))).ownsRow wr.heap.size 3 1 v10 p.1.length (p.1.map (Value.int .i64)) := HO2.out.alloc _
            have HB3 := Lib.hid hY
            have HX3 := Lib.hid hX
            have HO3 := Lib.hid hO
            clear hY hX hO
            refine mix_post (fun _ => ⟨⟨_, HB3.out⟩, rfl⟩) ?_
            obtain ⟨Y3, hN⟩ : ∃ N, (Y2.alloc (.cells #[.int .i64 x] 3)) = N := ⟨_, rfl⟩
            rw [hN] at HB3 HX3 HO3 ⊢
            clear hN
            refine fk_one rfl ?_
            have hbz : wr.heap.size ≤ Y3.heap.size := HB3.out.size
            have hcx := HX3.out.cell (i := 0) rfl
            go_wp2_with (at_builtin; refine wpList_append_x rfl _ _ rfl wr.heap.size v10 p.1.length _ rfl HO3.out ⟨Y2.heap.size, 0, none⟩ x rfl hcx hpl hbz ?_; intro A18 c18 Z hO hG; have HOz := Lib.hid hO; have HBz : Hid (Below wr.heap.size wr Z) := HB3.out.grown hG hbz (fun r e => (HO3.out.lt r e).1); clear hO hG hbz hcx)
            refine mix_post (fun _ => ⟨⟨_, HBz.out⟩, rfl⟩) ?_
            refine fk_one rfl ?_
            go_wp2
            have hB19 : Below wr.heap.size wr (Z.alloc (.cells #[LsP.v p, .slice A18 (p.1.length + 1) c18] 38)) := HBz.out.alloc HBz.out.size _
            have hK19 : Blk (Z.alloc (.cells #[LsP.v p, .slice A18 (p.1.length + 1) c18] 38)) Z.heap.size 38 #[LsP.v p, .slice A18 (p.1.length + 1) c18] := Blk.new Z _ _ rfl
            have hQ19 : IO (Z.alloc (.cells #[LsP.v p, .slice A18 (p.1.length + 1) c18] 38)) (p.1 ++ [x], A18, c18) := by
              have h := (HOz.out.alloc (.cells #[LsP.v p, .slice A18 (p.1.length + 1) c18] 38))
              refine IO.of (base := wr.heap.size) ?_
              rw [List.length_append, List.map_append]
              exact h
            have HB19 := Lib.hid hB19; have HK19 := Lib.hid hK19; have HQ19 := Lib.hid hQ19
            clear hB19 hK19 hQ19
            refine mix_post (fun _ => ⟨⟨_, HB19.out⟩, rfl⟩) ?_
            obtain ⟨Y19, hN⟩ : ∃ N, Z.alloc (.cells #[LsP.v p, .slice A18 (p.1.length + 1) c18] 38) = N := ⟨_, rfl⟩
            rw [hN] at HB19 HK19 HQ19 ⊢
            clear hN
            have HR19 := Lib.hid (HR.out.below HB19.out)
            have HP19 := Lib.hid (HIp.out.below HB19.out)
            have hbz : W2.heap.size ≤ Y19.heap.size := by have := HBo.out.size; have := HB19.out.size; omega
            have hc0 := HK19.out.cell (i := 0) rfl
            have hc1 := HK19.out.cell (i := 1) rfl
            refine fk_one rfl ?_
            go_wp2_with (at_builtin; refine wpList_append_two rfl _ _ rfl W2.heap.size _ ps.length _ rfl HR19.out.row Z.heap.size _ _ rfl hc0 hc1 rfl rfl hpsl hbz ?_; intro v20 Y20 hO hG; have HO20 := Lib.hid hO; have HG20 := Lib.hid hG; clear hO hG hc0 hc1)
            refine mix_post (fun h => absurd h (by decide)) ?_
            refine fk_one rfl ?_
            go_wp2_with fail
            refine mix_post (fun h => absurd h (by decide)) ?_
            refine fk_nil (NoPanic.normal ?_)
            go_wp2_with fail
            go_roundw
            case rel => exact ⟨k + 1, ps ++ [p, (p.1 ++ [x], A18, c18)], by omega, by go_num, HR19.out.more (qs := [p, (p.1 ++ [x], A18, c18)]) (fun z hz => by
                simp only [List.mem_cons, List.not_mem_nil, or_false] at hz
                rcases hz with rfl | rfl
                · exact HP19.out
                · exact HQ19.out) HG20.out (by
                  have e : (p.1 ++ [x]).length = p.1.length + 1 := by rw [List.length_append]; rfl
                  show Y20.ownsRow W2.heap.size 38 1 v20 (ps.length + 2) (ps.map LsP.v ++ [LsP.v p, .slice A18 (p.1 ++ [x]).length c18])
                  rw [e]
                  exact HO20.out), by rw [List.length_append, HPl.out]; simp; omega, by rw [List.map_append, HPm.out, HPt.out]; rfl, (HBo.out.trans (HB19.out.mono HBo.out.size)).grown HG20.out hbz (fun r e => (HR19.out.row.lt r e).1)⟩
            case measure => simp [intOf]; omega
          · skip
            go_wp2
            have hY : Below wr.heap.size wr (Y1.alloc (.cells #[.int .i64 x] 3)) := HB1.out.alloc HB1.out.size _
            have hX : Blk ((Y1.alloc (.cells #[.int .i64 x] 3))) Y1.heap.size 3 #[.int .i64 x] := Blk.new Y1 _ _ rfl
            have hE : ((Y1.alloc (.cells #[.int .i64 x] 3))).ownsRow wr.heap.size 3 1 (.slice (some ⟨wr.heap.size, 0, none⟩) 0 0) 0 [] := HE1.out.alloc _
            have HB2 := Lib.hid hY
            have HE2 := Lib.hid hE
            have HX2 := Lib.hid hX
            clear hY hE hX
            refine mix_post (fun _ => ⟨⟨_, HB2.out⟩, rfl⟩) ?_
            obtain ⟨Y2, hN⟩ : ∃ N, (Y1.alloc (.cells #[.int .i64 x] 3)) = N := ⟨_, rfl⟩
            rw [hN] at HB2 HE2 HX2 ⊢
            clear hN
            refine fk_one rfl ?_
            have HLa := Lib.hid ((HIp.out.below HB2.out).rd)
            have hbz : wr.heap.size ≤ Y2.heap.size := HB2.out.size
            go_wp2_with (at_builtin; refine wpList_copy_ints rfl _ _ rfl wr.heap.size _ p.2.1 p.2.2 p.1 rfl HE2.out rfl HLa.out HCp.out hpl hbz ?_; intro v10 Y3 hO hG; have HO3 := Lib.hid hO; have HB3 : Hid (Below wr.heap.size wr Y3) := HB2.out.grown hG hbz (fun r e => by cases e; exact Nat.le_refl _); have HX3 : Hid (Blk Y3 Y1.heap.size 3 #[.int .i64 x]) := HX2.out.grown hG (fun e => by have e' : Y1.heap.size = wr.heap.size := Option.some.inj e; have h1 := HZ1.out; omega); clear hO hG hbz)
            refine mix_post (fun _ => ⟨⟨_, HB3.out⟩, rfl⟩) ?_
            refine fk_one rfl ?_
            have hbz : wr.heap.size ≤ Y3.heap.size := HB3.out.size
            have hcx := HX3.out.cell (i := 0) rfl
            go_wp2_with (at_builtin; refine wpList_append_x rfl _ _ rfl wr.heap.size v10 p.1.length _ rfl HO3.out ⟨Y1.heap.size, 0, none⟩ x rfl hcx hpl hbz ?_; intro A18 c18 Z hO hG; have HOz := Lib.hid hO; have HBz : Hid (Below wr.heap.size wr Z) := HB3.out.grown hG hbz (fun r e => (HO3.out.lt r e).1); clear hO hG hbz hcx)
            refine mix_post (fun _ => ⟨⟨_, HBz.out⟩, rfl⟩) ?_
            refine fk_one rfl ?_
            go_wp2
            have hB19 : Below wr.heap.size wr (Z.alloc (.cells #[LsP.v p, .slice A18 (p.1.length + 1) c18] 38)) := HBz.out.alloc HBz.out.size _
            have hK19 : Blk (Z.alloc (.cells #[LsP.v p, .slice A18 (p.1.length + 1) c18] 38)) Z.heap.size 38 #[LsP.v p, .slice A18 (p.1.length + 1) c18] := Blk.new Z _ _ rfl
            have hQ19 : IO (Z.alloc (.cells #[LsP.v p, .slice A18 (p.1.length + 1) c18] 38)) (p.1 ++ [x], A18, c18) := by
              have h := (HOz.out.alloc (.cells #[LsP.v p, .slice A18 (p.1.length + 1) c18] 38))
              refine IO.of (base := wr.heap.size) ?_
              rw [List.length_append, List.map_append]
              exact h
            have HB19 := Lib.hid hB19; have HK19 := Lib.hid hK19; have HQ19 := Lib.hid hQ19
            clear hB19 hK19 hQ19
            refine mix_post (fun _ => ⟨⟨_, HB19.out⟩, rfl⟩) ?_
            obtain ⟨Y19, hN⟩ : ∃ N, Z.alloc (.cells #[LsP.v p, .slice A18 (p.1.length + 1) c18] 38) = N := ⟨_, rfl⟩
            rw [hN] at HB19 HK19 HQ19 ⊢
            clear hN
            have HR19 := Lib.hid (HR.out.below HB19.out)
            have HP19 := Lib.hid (HIp.out.below HB19.out)
            have hbz : W2.heap.size ≤ Y19.heap.size := by have := HBo.out.size; have := HB19.out.size; omega
            have hc0 := HK19.out.cell (i := 0) rfl
            have hc1 := HK19.out.cell (i := 1) rfl
            refine fk_one rfl ?_
            go_wp2_with (at_builtin; refine wpList_append_two rfl _ _ rfl W2.heap.size _ ps.length _ rfl HR19.out.row Z.heap.size _ _ rfl hc0 hc1 rfl rfl hpsl hbz ?_; intro v20 Y20 hO hG; have HO20 := Lib.hid hO; have HG20 := Lib.hid hG; clear hO hG hc0 hc1)
            refine mix_post (fun h => absurd h (by decide)) ?_
            refine fk_one rfl ?_
            go_wp2_with fail
            refine mix_post (fun h => absurd h (by decide)) ?_
            refine fk_nil (NoPanic.normal ?_)
            go_wp2_with fail
            go_roundw
            case rel => exact ⟨k + 1, ps ++ [p, (p.1 ++ [x], A18, c18)], by omega, by go_num, HR19.out.more (qs := [p, (p.1 ++ [x], A18, c18)]) (fun z hz => by
                simp only [List.mem_cons, List.not_mem_nil, or_false] at hz
                rcases hz with rfl | rfl
                · exact HP19.out
                · exact HQ19.out) HG20.out (by
                  have e : (p.1 ++ [x]).length = p.1.length + 1 := by rw [List.length_append]; rfl
                  show Y20.ownsRow W2.heap.size 38 1 v20 (ps.length + 2) (ps.map LsP.v ++ [LsP.v p, .slice A18 (p.1 ++ [x]).length c18])
                  rw [e]
                  exact HO20.out), by rw [List.length_append, HPl.out]; simp; omega, by rw [List.map_append, HPm.out, HPt.out]; rfl, (HBo.out.trans (HB19.out.mono HBo.out.size)).grown HG20.out hbz (fun r e => (HR19.out.row.lt r e).1)⟩
            case measure => simp [intOf]; omega
        · skip
          go_wp2
          have hY : Below wr.heap.size wr (wr.alloc (.cells #[.int .i64 x] 3)).drew := ((Below.refl _ wr).alloc (Nat.le_refl _) _).drew
          have hX : Blk ((wr.alloc (.cells #[.int .i64 x] 3)).drew) wr.heap.size 3 #[.int .i64 x] := Blk.new wr _ _ rfl
          have HZ1 : Hid (((wr.alloc (.cells #[.int .i64 x] 3)).drew).heap.size = wr.heap.size + 1) := by show (wr.alloc _).heap.size = _; simp
          have HB1 := Lib.hid hY
          have HX1 := Lib.hid hX
          clear hY hX
          refine mix_post (fun _ => ⟨⟨_, HB1.out⟩, rfl⟩) ?_
          obtain ⟨Y1, hN⟩ : ∃ N, (wr.alloc (.cells #[.int .i64 x] 3)).drew = N := ⟨_, rfl⟩
          rw [hN] at HB1 HZ1 HX1 ⊢
          clear hN
          refine fk_one rfl ?_
          go_wp2
          have hY : Below wr.heap.size wr (Y1.alloc (.cells #[] 3)) := HB1.out.alloc HB1.out.size _
          have hE : ((Y1.alloc (.cells #[] 3))).ownsRow wr.heap.size 3 1 (.slice (some ⟨Y1.heap.size, 0, none⟩) 0 0) 0 [] := own_emptyI Y1 wr.heap.size HB1.out.size 3 1
          have hX : Blk ((Y1.alloc (.cells #[] 3))) wr.heap.size 3 #[.int .i64 x] := HX1.out.alloc _
          have HB2 := Lib.hid hY
          have HE2 := Lib.hid hE
          have HX2 := Lib.hid hX
          clear hY hE hX
          refine mix_post (fun _ => ⟨⟨_, HB2.out⟩, rfl⟩) ?_
          obtain ⟨Y2, hN⟩ : ∃ N, (Y1.alloc (.cells #[] 3)) = N := ⟨_, rfl⟩
          rw [hN] at HB2 HE2 HX2 ⊢
          clear hN
          refine fk_one rfl ?_
          have HLa := Lib.hid ((HIp.out.below HB2.out).rd)
          have hbz : wr.heap.size ≤ Y2.heap.size := HB2.out.size
          go_wp2_with (at_builtin; refine wpList_copy_ints rfl _ _ rfl wr.heap.size _ p.2.1 p.2.2 p.1 rfl HE2.out rfl HLa.out HCp.out hpl hbz ?_; intro v10 Y3 hO hG; have HO3 := Lib.hid hO; have HB3 : Hid (Below wr.heap.size wr Y3) := HB2.out.grown hG hbz (fun r e => by cases e; exact HB1.out.size); have HX3 : Hid (Blk Y3 wr.heap.size 3 #[.int .i64 x]) := HX2.out.grown hG (fun e => by have e' : wr.heap.size = Y1.heap.size := Option.some.inj e; have h1 := HZ1.out; omega); clear hO hG hbz)
          refine mix_post (fun _ => ⟨⟨_, HB3.out⟩, rfl⟩) ?_
          refine fk_one rfl ?_
          have hbz : wr.heap.size ≤ Y3.heap.size := HB3.out.size
          have hcx := HX3.out.cell (i := 0) rfl
          go_wp2_with (at_builtin; refine wpList_append_x rfl _ _ rfl wr.heap.size v10 p.1.length _ rfl HO3.out ⟨wr.heap.size, 0, none⟩ x rfl hcx hpl hbz ?_; intro A18 c18 Z hO hG; have HOz := Lib.hid hO; have HBz : Hid (Below wr.heap.size wr Z) := HB3.out.grown hG hbz (fun r e => (HO3.out.lt r e).1); clear hO hG hbz hcx)
          refine mix_post (fun _ => ⟨⟨_, HBz.out⟩, rfl⟩) ?_
          refine fk_one rfl ?_
          go_wp2
          have hB19 : Below wr.heap.size wr (Z.alloc (.cells #[LsP.v p, .slice A18 (p.1.length + 1) c18] 38)) := HBz.out.alloc HBz.out.size _
          have hK19 : Blk (Z.alloc (.cells #[LsP.v p, .slice A18 (p.1.length + 1) c18] 38)) Z.heap.size 38 #[LsP.v p, .slice A18 (p.1.length + 1) c18] := Blk.new Z _ _ rfl
          have hQ19 : IO (Z.alloc (.cells #[LsP.v p, .slice A18 (p.1.length + 1) c18] 38)) (p.1 ++ [x], A18, c18) := by
            have h := (HOz.out.alloc (.cells #[LsP.v p, .slice A18 (p.1.length + 1) c18] 38))
            refine IO.of (base := wr.heap.size) ?_
            rw [List.length_append, List.map_append]
            exact h
          have HB19 := Lib.hid hB19; have HK19 := Lib.hid hK19; have HQ19 := Lib.hid hQ19
          clear hB19 hK19 hQ19
          refine mix_post (fun _ => ⟨⟨_, HB19.out⟩, rfl⟩) ?_
          obtain ⟨Y19, hN⟩ : ∃ N, Z.alloc (.cells #[LsP.v p, .slice A18 (p.1.length + 1) c18] 38) = N := ⟨_, rfl⟩
          rw [hN] at HB19 HK19 HQ19 ⊢
          clear hN
          have HR19 := Lib.hid (HR.out.below HB19.out)
          have HP19 := Lib.hid (HIp.out.below HB19.out)
          have hbz : W2.heap.size ≤ Y19.heap.size := by have := HBo.out.size; have := HB19.out.size; omega
          have hc0 := HK19.out.cell (i := 0) rfl
          have hc1 := HK19.out.cell (i := 1) rfl
          refine fk_one rfl ?_
          go_wp2_with (at_builtin; refine wpList_append_two rfl _ _ rfl W2.heap.size _ ps.length _ rfl HR19.out.row Z.heap.size _ _ rfl hc0 hc1 rfl rfl hpsl hbz ?_; intro v20 Y20 hO hG; have HO20 := Lib.hid hO; have HG20 := Lib.hid hG; clear hO hG hc0 hc1)
          refine mix_post (fun h => absurd h (by decide)) ?_
          refine fk_one rfl ?_
          go_wp2_with fail
          refine mix_post (fun h => absurd h (by decide)) ?_
          refine fk_nil (NoPanic.normal ?_)
          go_wp2_with fail
          go_roundw
          case rel => exact ⟨k + 1, ps ++ [p, (p.1 ++ [x], A18, c18)], by omega, by go_num, HR19.out.more (qs := [p, (p.1 ++ [x], A18, c18)]) (fun z hz => by
              simp only [List.mem_cons, List.not_mem_nil, or_false] at hz
              rcases hz with rfl | rfl
              · exact HP19.out
              · exact HQ19.out) HG20.out (by
                have e : (p.1 ++ [x]).length = p.1.length + 1 := by rw [List.length_append]; rfl
                show Y20.ownsRow W2.heap.size 38 1 v20 (ps.length + 2) (ps.map LsP.v ++ [LsP.v p, .slice A18 (p.1 ++ [x]).length c18])
                rw [e]
                exact HO20.out), by rw [List.length_append, HPl.out]; simp; omega, by rw [List.map_append, HPm.out, HPt.out]; rfl, (HBo.out.trans (HB19.out.mono HBo.out.size)).grown HG20.out hbz (fun r e => (HR19.out.row.lt r e).1)⟩
          case measure => simp [intOf]; omega
      · obtain rfl : k = rs.length := by omega
        have HF : Hid (ps.map (·.1) = setsL l) := by
          show _ = _
          rw [HPm.out, List.take_length, HSe.out, ← HRs.out]
          rfl
        go_wp2_with fail
        go_ret
        exact ⟨_, ps, rfl, HR.out.lower HB2.out.size, HF.out, HB2.out.trans (HBo.out.mono HB2.out.size)⟩
end Go.Proofs.YtadldndpphdmpaaGreat
