/- join, by the program: the changes are counted. -/
import Derived.Test.YtadldndpphdmpaaGreatJ1
import Derived.Test.YtadldndpphdmpaaGreatQB
import Derived.Test.YtadldndpphdmpaaGreatQA
namespace Go.Proofs.YtadldndpphdmpaaGreat
open Go.RowKit Go.Shelf

/-- What join returns. -/
def NewSpans (w : World) (l : List Sp) (e : Ending) (w' : World) : Prop :=
  ∃ v, e = .returned v ∧ w'.ownsRow w.heap.size 84 3 v l.length (l.flatMap Sp.enc) ∧ Below w.heap.size w w'

theorem rd_kept {α : Type} {enc : α → List Value} {k : Nat} {w w' : World} {A : Option Addr} {n B : Nat} {xs : List α} (h : Rd enc k w A n xs) (hg : w.grownBy w' (some B)) (hB : ∃ o : Obj, w.heap[B]? = some o ∧ o.isCells = false) : Rd enc k w' A n xs :=
  ⟨h.1, fun i x hx => by
    obtain ⟨ad, e, ha⟩ := h.2 i x hx
    exact ⟨ad, e, fun j v hj => cell_kept (ha j v hj) hg (fun r e => by cases e; exact hB)⟩⟩
/-- One span more. -/
theorem chD_step {D : DataW Unit} {l : List Sp} {s : Sp} (h : ChD D (keyP l) (chg l)) :
    ChD ((D.put (.int .i64 s.a) (.lit (.int .i64 (chg l s.a + 1)))).put (.int .i64 s.b) (.lit (.int .i64 ((if s.b = s.a then chg l s.a + 1 else chg l s.b) - 1)))) (keyP (l ++ [s])) (chg (l ++ [s])) := by
  have h2 := (h.put s.a (chg l s.a + 1)).put s.b ((if s.b = s.a then chg l s.a + 1 else chg l s.b) - 1)
  obtain ⟨h3, h4⟩ := h2
  refine ⟨h3, fun y => ⟨(h4 y).1.trans ?_, (h4 y).2.trans ?_⟩⟩
  · unfold keyP
    simp only [List.mem_append, List.mem_singleton]
    constructor
    · rintro ((⟨u, hu, e⟩ | e) | e)
      · exact ⟨u, .inl hu, e⟩
      · exact ⟨s, .inr rfl, .inl e⟩
      · exact ⟨s, .inr rfl, .inr e⟩
    · rintro ⟨u, hu | rfl, e⟩
      · exact .inl (.inl ⟨u, hu, e⟩)
      · rcases e with e | e
        · exact .inl (.inr e)
        · exact .inr e
  · rw [chg_app, chg_one]
    unfold chS
    dsimp only
    congr 2
    by_cases e1 : y = s.b
    · subst e1
      by_cases e2 : s.b = s.a
      · rw [if_pos rfl, if_pos e2, if_pos e2.symm, if_pos rfl, e2]; omega
      · rw [if_pos rfl, if_neg e2, if_neg (fun e => e2 e.symm), if_pos rfl]; omega
    · by_cases e2 : y = s.a
      · subst e2; rw [if_neg e1, if_pos rfl, if_pos rfl, if_neg (fun e => e1 e.symm)]; omega
      · rw [if_neg e1, if_neg e2, if_neg (fun e => e2 e.symm), if_neg (fun e => e1 e.symm)]; omega

/-- What has been collected. -/
def Coll (D : DataW Unit) (left : Lit → Bool) (ls : List Int) : Prop :=
  ls.Nodup ∧ ∀ y : Int, y ∈ ls ↔ Maps.has D (.int .i64 y) = true ∧ left (.int .i64 y) = false
theorem same_int (x y : Int) : (Lit.int .i64 y).sameKey (.int .i64 x) = decide (y = x) := by
  by_cases h : y = x
  · subst h; rw [WideAt.sameKey_self (show WideAt.IsKeyLit (Lit.int .i64 y) from True.intro)]; simp
  · simp only [h, decide_false]
    cases hs : (Lit.int .i64 y).sameKey (.int .i64 x) with
    | false => rfl
    | true => have := WideAt.sameKey_eq hs; cases this; exact absurd rfl h
theorem Coll.keep {D : DataW Unit} {left : Lit → Bool} {ls : List Int} {x : Int} (h : Coll D left ls) (hl : left (.int .i64 x) = true) (hh : Maps.has D (.int .i64 x) = true) :
    Coll D (fun z => left z && !z.sameKey (.int .i64 x)) (ls ++ [x]) := by
  refine ⟨?_, fun y => ?_⟩
  · rw [List.nodup_append]
    refine ⟨h.1, by simp, ?_⟩
    intro a ha b hb e
    simp at hb
    subst hb e
    have := (h.2 a).1 ha
    rw [hl] at this
    exact absurd this.2 (by simp)
  · dsimp only
    rw [List.mem_append, h.2 y, same_int]
    by_cases e : y = x
    · subst e; simp [hl, hh]
    · simp [e]
/-- The sorted keys. -/
theorem sorted_keys {l : List Sp} {ls : List Int} (hn : ls.Nodup) (hm : ∀ y, y ∈ ls ↔ keyP l y) : sortD ls = keysL l := by
  refine sorted_uniq ?_ (keysL_sorted l) fun y => ?_
  · have h1 := sortD_sorted ls
    have h2 := (sortD_perm ls).nodup_iff.2 hn
    refine (List.Pairwise.and h1 (List.nodup_iff_pairwise_ne.1 h2)).imp ?_
    rintro a b ⟨h3, h4⟩
    omega
  · rw [(sortD_perm ls).mem_iff, hm, mem_keysL]
    exact Iff.rfl

theorem flat_len3 (l : List Sp) : (l.flatMap Sp.enc).length = l.length * 3 := by
  induction l with
  | nil => rfl
  | cons x r ih => rw [List.flatMap_cons, List.length_append, ih, List.length_cons]; simp; omega
theorem last_get (l : List Sp) (x y z : Value) : (l.flatMap Sp.enc ++ [x, y, z])[l.length * 3 + 2]? = some z := by
  rw [List.getElem?_append_right (by rw [flat_len3]; omega), flat_len3, show l.length * 3 + 2 - l.length * 3 = 2 by omega]
  rfl
theorem last_set (l : List Sp) (x y z u : Value) : (l.flatMap Sp.enc ++ [x, y, z]).set (l.length * 3 + 2) u = l.flatMap Sp.enc ++ [x, y, u] := by
  rw [List.set_append_right _ _ (by rw [flat_len3]; omega), flat_len3, show l.length * 3 + 2 - l.length * 3 = 2 by omega]
  rfl

set_option maxRecDepth 100000 in
set_option maxHeartbeats 8000000 in
theorem join_any (ls : List (List Sp)) (node many : Int) (L : Option Addr) (m cl : Nat) (ps : List SpP) (hi : Int) (w : World) (hL : SpsM w L m ls ps) (hm : m ≤ 100000) (hr : InR 0 hi ls.flatten) (hhi : hi ≤ 2000000000) (hlen : ls.flatten.length ≤ 100000) (h1 : 1 ≤ many) (h2 : many ≤ 100000) :
    Calls Tryz.prog 58 #[.slice L m cl, .int .i64 node, .int .i64 many] w (NewSpans w (joinL node many ls.flatten)) := by
  have hlm := hL.len
  have HL := Lib.hid hL
  have HR := Lib.hid hr
  have HLm := Lib.hid hlm
  have HLn := Lib.hid hlen
  clear hL hr hlm hlen
  have hmm := @run_makeMap Tryz.prog
  have hlaw := Maps.int_keyed Tryz.underlying3
  go_enter Tryz.func58, Tryz.ntmps58
  go_wp2_with fail
  have HM0 := Lib.hid (ChM.made w)
  have HB0 : Hid (Below w.heap.size w (w.alloc (.map #[] 0))) := (Below.refl _ _).alloc (Nat.le_refl _) _
  clear hmm
  generalize hW : w.alloc (.map #[] 0) = W0 at *
  have HW0 := Lib.hid hW
  clear hW
  go_loopw [22] (fun i wr => ∃ k : Nat, k ≤ m ∧ i = .int .i64 k ∧ ChM wr w.heap.size (2 * ((ls.take k).flatten).length) (keyP (ls.take k).flatten) (chg (ls.take k).flatten) ∧ Below w.heap.size w wr) (fun i _ => m - (intOf i).toNat)
  case atStart => exact ⟨0, Nat.zero_le _, rfl, HM0.out.ext (Nat.zero_le _) (fun y => by simp [keyP]) (fun y => by simp [chg]), HB0.out⟩
  case round =>
    obtain ⟨k, hk, rfl, hC, hB⟩ := hrel
    have HC := Lib.hid hC; have HB := Lib.hid hB
    clear hC hB
    by_cases hlt : k < m
    · obtain ⟨sp, B, c', ad, hsp, hA, cl0, hRd⟩ := (HL.out.below HB.out).get hlt
      subst hA
      have HTk : Hid ((ls.take (k + 1)).flatten = (ls.take k).flatten ++ sp) := by
        obtain ⟨hk', e⟩ := List.getElem?_eq_some_iff.1 hsp
        rw [List.take_succ_eq_append_getElem hk', List.flatten_append, e]
        show _ = _
        congr 1
        simp
      have HFl : Hid (((ls.take k).flatten).length + sp.length ≤ 100000) := by
        have h := HLn.out
        have e : ls.flatten = (ls.take (k + 1)).flatten ++ (ls.drop (k + 1)).flatten := by rw [← List.flatten_append, List.take_append_drop]
        rw [e, HTk.out, List.length_append, List.length_append] at h
        show _ ≤ _
        omega
      have HMem : Hid (∀ s ∈ sp, 0 ≤ s.a ∧ s.a ≤ s.b ∧ s.b ≤ hi) := fun s hs => HR.out s (List.mem_flatten.2 ⟨sp, List.mem_of_getElem? hsp, hs⟩)
      have HRd := Lib.hid hRd
      have hfl := HFl.out
      have hmk : (k : Int) < (m : Int) := by omega
      obtain ⟨wo, rfl⟩ : ∃ wo : World, wo = wr := ⟨_, rfl⟩
      clear hsp hRd
      generalize hF : (ls.take k).flatten = F at *
      clear hF
      go_wp2_with fail
      go_loopw [28] (fun i wi => ∃ j : Nat, j ≤ sp.length ∧ i = .int .i64 j ∧ ChM wi w.heap.size (2 * (F ++ sp.take j).length) (keyP (F ++ sp.take j)) (chg (F ++ sp.take j)) ∧ Below w.heap.size w wi ∧ wo.grownBy wi (some w.heap.size)) (fun i _ => sp.length - (intOf i).toNat)
      case atStart => exact ⟨0, Nat.zero_le _, rfl, by rw [List.take_zero, List.append_nil]; exact HC.out, HB.out, grown_refl _ _⟩
      case round =>
        obtain ⟨j, hj, rfl, hCi, hBi, hGi⟩ := hrel
        have HGi := Lib.hid hGi
        have HCi := Lib.hid hCi; have HBi := Lib.hid hBi
        clear hCi hBi hGi
        by_cases hjl : j < sp.length
        · have hNo := HC.out.noCells
          obtain ⟨s, bd, hs, hAs, hcs⟩ := (rd_kept HRd.out HGi.out hNo).get hjl
          subst hAs
          obtain ⟨c0, c1, c2⟩ := hcs.three
          have hsb := HMem.out s (List.mem_of_getElem? hs)
          obtain ⟨sb0, sb1, sb2⟩ := hsb
          have HTj : Hid (F ++ sp.take (j + 1) = (F ++ sp.take j) ++ [s]) := by
            obtain ⟨hk', e⟩ := List.getElem?_eq_some_iff.1 hs
            rw [List.take_succ_eq_append_getElem hk', e, List.append_assoc]; exact rfl
          have hbl : (F ++ sp.take j).length ≤ 100000 := by rw [List.length_append, List.length_take]; omega
          have hba := chg_bd (F ++ sp.take j) s.a
          have hbb := chg_bd (F ++ sp.take j) s.b
          obtain ⟨D, hown, hD⟩ := HCi.out
          have HStep := Lib.hid (chD_step (s := s) hD)
          have HDa := Lib.hid (hD.2 s.a).2
          have HDb : Hid ((D.put (.int .i64 s.a) (.lit (.int .i64 (chg (F ++ sp.take j) s.a + 1)))).atKey (.int .i64 s.b) (.lit (.int .i64 0)) = .lit (.int .i64 (if s.b = s.a then chg (F ++ sp.take j) s.a + 1 else chg (F ++ sp.take j) s.b))) := ((hD.put s.a (chg (F ++ sp.take j) s.a + 1)).2 s.b).2
          have HOwn := Lib.hid hown
          have HKa := Lib.hid (Maps.keyOf_int_mk Tryz.underlying3 (wf_i (y := s.a) (by omega) (by omega)))
          have HKb := Lib.hid (Maps.keyOf_int_mk Tryz.underlying3 (wf_i (y := s.b) (by omega) (by omega)))
          clear hs hcs hown hD hNo
          obtain ⟨sn, sa, sb⟩ := s
          dsimp only at *
          generalize hFL : (F ++ sp.take j).length = FL at *
          have HFL := Lib.hid hFL
          clear hFL
          generalize chg (F ++ sp.take j) sa = ga at *
          generalize hgb : (if sb = sa then ga + 1 else chg (F ++ sp.take j) sb) = gb at *
          have hgb1 : -100001 ≤ gb ∧ gb ≤ 100001 := by rw [← hgb]; split <;> omega
          obtain ⟨hga0, hga1⟩ := hba
          obtain ⟨hgb0, hgb2⟩ := hgb1
          have hw1 := wf_i (y := ga + 1) (by omega) (by omega)
          have hw2 := wf_i (y := gb - 1) (by omega) (by omega)
          have HW1 := Lib.hid hw1; have HW2 := Lib.hid hw2
          have HBn := Lib.hid HCi.out.lt
          clear hgb hbb hw1 hw2
          have hsl : (j : Int) < (sp.length : Int) := by omega
          go_wp2_with (first | (at_lookup; refine wpList_lookup_own_int _ rfl _ _ 121 rfl 3 3 .i64 hlaw Tryz.underlying121 Tryz.underlying3 (zeroI _) w.heap.size _ D rfl (HOwn.out.alloc _) _ _ rfl HKa.out ?_; intro c hat hwc; have hcv := HDa.out.symm.trans hat; injection hcv with hcv; injection hcv with _ hcv; subst hcv; clear hat hwc) | (at_mapUpdate; refine wpList_mapUpdate_own _ rfl _ _ _ 121 rfl 3 3 hlaw Tryz.underlying121 _ w.heap.size _ D rfl (HOwn.out.alloc _) (by unfold maxLen; omega) _ _ _ rfl rfl HKa.out _ [] (plainElem_int Tryz.underlying3 HW1.out) ?_; intro w5 hown5 hgrow5; have HO5 := Lib.hid hown5; have HG5 := Lib.hid hgrow5; have K5 := Blk.grown (Blk.new wr 84 #[.int .i64 sn, .int .i64 sa, .int .i64 sb] rfl) hgrow5 (fun e => by have h := HBn.out; injection e with e; omega); have c25 := K5.cell (i := 2) rfl; clear K5; clear hown5 hgrow5) | (at_lookup; refine wpList_lookup_own_int _ rfl _ _ 121 rfl 3 3 .i64 hlaw Tryz.underlying121 Tryz.underlying3 (zeroI _) w.heap.size _ _ rfl HO5.out _ _ rfl HKb.out ?_; intro c hat hwc; have hcv := HDb.out.symm.trans hat; injection hcv with hcv; injection hcv with _ hcv; subst hcv; clear hat hwc) | (at_mapUpdate; refine wpList_mapUpdate_own _ rfl _ _ _ 121 rfl 3 3 hlaw Tryz.underlying121 _ w.heap.size _ _ rfl HO5.out (by unfold maxLen; omega) _ _ _ rfl rfl HKb.out _ [] (plainElem_int Tryz.underlying3 HW2.out) ?_; intro w6 hown6 hgrow6; have HO6 := Lib.hid hown6; have HG6 := Lib.hid hgrow6; clear hown6 hgrow6))
          go_roundw
          case rel =>
            have hG6 : wr.grownBy w6 (some w.heap.size) := ((World.grownBy_alloc wr _ _).trans HG5.out).trans HG6.out
            refine ⟨j + 1, by omega, by go_num, ?_, HBi.out.grown hG6 HBi.out.size (fun r e => by cases e; exact Nat.le_refl _), HGi.out.trans hG6⟩
            rw [HTj.out]
            exact ⟨_, HO6.out.mono (by rw [List.length_append, HFL.out]; simp; omega), HStep.out⟩
          case measure => simp [intOf]; omega
        · obtain rfl : j = sp.length := by omega
          have HC2 := Lib.hid HCi.out
          rw [List.take_length, ← HTk.out] at HC2
          go_wp2_with fail
          go_roundw
          case rel => exact ⟨k + 1, by omega, by go_num, HC2.out, HBi.out⟩
          case measure => simp [intOf]; omega
    · obtain rfl : k = m := by omega
      have HC2 := Lib.hid HC.out
      rw [List.take_of_length_le (by have := HLm.out; omega)] at HC2
      obtain ⟨D, hown, hD⟩ := HC2.out
      have hsz := hown.size_le
      have hlt2 := hown.lt
      have HD := Lib.hid hD
      have HOwn := Lib.hid hown
      have hfl := HLn.out
      have HB1 := Lib.hid HB.out
      have hbsz := HB.out.size
      clear hown hD
      generalize hFF : ls.flatten = FF at *
      clear hFF
      obtain ⟨wo, rfl⟩ : ∃ wo : World, wo = wr := ⟨_, rfl⟩
      obtain ⟨i0, hi0, hz0, hz1, hz2⟩ := info_parts infoI
      go_wp2_with (at_range; refine wpList_range_own _ rfl _ 121 rfl 3 3 (Maps.int_keyed Tryz.underlying3) Tryz.underlying121 _ w.heap.size (2 * FF.length) D rfl HOwn.out ?_; intro w0 hrg0 hg0 hs0)
      go_frame
      go_loopw [12] (fun v wr => ∃ left cnt ts, wr.ranges Tryz.prog 3 (plainElem Tryz.prog 3) w.heap.size wo.heap.size (2 * FF.length) D left cnt ∧ wr.ownsRow wo.heap.size 3 1 v ts.length (ts.map (Value.int .i64)) ∧ Coll D left ts ∧ ts.length + cnt ≤ 2 * FF.length ∧ Below wo.heap.size wo wr) (fun _ wr => wr.rangeLeft w.heap.size wo.heap.size)
      case atStart => exact ⟨_, _, [], hrg0, World.ownsRow_nil _ _ _ _, ⟨List.nodup_nil, fun y => by simp⟩, by simpa using hsz, (Below.refl _ _).grown hg0 (Nat.le_refl _) (fun k e => by cases e)⟩
      case round =>
        obtain ⟨left, cnt, ts, hrg, hrow, hC, hlenT, hB⟩ := hrel
        have HC := Lib.hid hC; clear hC
        have HB := Lib.hid hB; clear hB
        clear hrg0 hg0 hs0
        go_wp2_with (first | (at_next; refine wpList_next_ranges _ rfl _ rfl 3 (Maps.int_keyed Tryz.underlying3) (plainElem Tryz.prog 3) (Value.int .i64) (fun v : Value => v) (fun key kl hkey => by obtain ⟨x, rfl, _⟩ := Maps.keyOf_int_inv Tryz.underlying3 hkey; exact ⟨x, rfl⟩) (fun v y hv => ⟨v, rfl⟩) w.heap.size wo.heap.size (2 * FF.length) _ _ _ rfl hrg ?_ ?_))
        · intro hc0 hl0
          have hmem : ∀ y, y ∈ ts ↔ keyP FF y := fun y => by rw [HC.out.2 y, ← (HD.out.2 y).1]; simp [hl0]
          have HKeys := Lib.hid (sorted_keys HC.out.1 hmem)
          have HKS := Lib.hid (keysL_sorted FF)
          have hl2 : ts.length ≤ 200000 := by omega
          have HSo := Lib.hid (sortOwn_any hrow (by omega))
          have HOwn2 := Lib.hid (HOwn.out.kept (grown_of_below HB.out none) (by simp))
          obtain ⟨A1, c1, rfl, _⟩ := own_slice hrow
          have hrlt := Lib.hid hrow.lt
          have HOi := Lib.hid (infoSp)
          clear hmem hl0 hc0 hrg hrow HC hi0 hz0 hz1 hz2
          go_wp2_with fail
          refine HSo.out.mono ?_
          rintro e W8 ⟨rfl, hr8, hg8⟩
          have HB8 : Hid (Below wo.heap.size wo W8) := HB.out.grown hg8 HB.out.size (fun r e => (hrlt.out r e).1)
          have HBw8 : Hid (Below w.heap.size w W8) := HB1.out.trans (HB8.out.mono HB1.out.size)
          have HOwn8 := Lib.hid (HOwn.out.kept (grown_of_below HB8.out none) (by simp))
          have HKl : Hid ((keysL FF).length = ts.length) := by rw [← HKeys.out]; exact (sortD_perm ts).length_eq
          rw [HKeys.out] at hr8
          obtain ⟨A9, c9, e9, hrd9, _, _⟩ := rdI_of_own hr8 HKl.out
          cases e9
          have HRd9 := Lib.hid hrd9
          have HTot : Hid (swR node many (chg FF) (keysL FF) 0 none = joinL node many FF) := rfl
          have hw8 : w.heap.size ≤ W8.heap.size := HBw8.out.size
          clear hr8 hg8 HSo hrd9
          have HKb : Hid (∀ y ∈ keysL FF, 0 ≤ y ∧ y ≤ hi) := fun y hy => by
            obtain ⟨s, hs, e⟩ := (mem_keysL y FF).1 hy
            have := HR.out s hs
            omega
          have HSum := Lib.hid (sum_keys HR.out)
          generalize keysL FF = KS at *
          obtain ⟨j0, hi0, hz0, hz1, hz2⟩ := info_parts infoSp
          go_wp2_with fail
          go_loopw [6, 14, 58] (fun v f i wr => ∃ (q : Nat) (fv : Int) (op : Option Int) (done : List Sp), q ≤ ts.length ∧ i = .int .i64 q ∧ f = .int .i64 fv ∧ SwS node many (chg FF) (KS.drop q) fv op done (joinL node many FF) ∧ -(100000 * (q : Int)) ≤ fv ∧ fv ≤ 100000 * (q : Int) ∧ (done ++ opL node op).length ≤ q ∧ wr.ownsRow W8.heap.size 84 3 v (done ++ opL node op).length ((done ++ opL node op).flatMap Sp.enc) ∧ Below W8.heap.size W8 wr) (fun _ _ i _ => ts.length - (intOf i).toNat)
          case atStart => exact ⟨0, 0, none, [], Nat.zero_le _, rfl, rfl, by rw [← HTot.out]; exact SwS.start h1 HSum.out, by omega, by omega, Nat.zero_le _, World.ownsRow_nil _ _ _ _, Below.refl _ _⟩
          case round =>
            obtain ⟨q, fv, op, done, hq, rfl, rfl, hS, hf0, hf1, hdl, hrow, hB9⟩ := hrel
            have HS := Lib.hid hS
            have HB9 := Lib.hid hB9
            have HRow := Lib.hid hrow
            clear hS hB9 hrow
            by_cases hqt : q < ts.length
            · obtain ⟨t, td, ht, hAt, ct⟩ := rdI_get (HRd9.out.below HB9.out) hqt
              subst hAt
              have HDr : Hid (KS.drop q = t :: KS.drop (q + 1)) := by
                obtain ⟨hk', rfl⟩ := List.getElem?_eq_some_iff.1 ht
                exact List.drop_eq_getElem_cons hk'
              rw [HDr.out] at HS
              have hct := chg_bd FF t
              obtain ⟨hct0, hct1⟩ := hct
              have hOwn9 := HOwn8.out.kept (grown_of_below HB9.out none) (by simp)
              have HOwn9 := Lib.hid hOwn9
              have HDt := Lib.hid (HD.out.2 t).2
              obtain ⟨tb0, tb1⟩ := HKb.out t (List.mem_of_getElem? ht)
              have HKt := Lib.hid (Maps.keyOf_int_mk Tryz.underlying3 (wf_i (y := t) (by omega) (by omega)))
              have hqt' : (q : Int) < (ts.length : Int) := by omega
              have hb9 := HB9.out.size
              have HBz := Lib.hid HB9.out.size
              clear ht hOwn9
              cases op with
              | none =>
                have hno := HS.out.no rfl
                have e0 : done ++ opL node none = done := by simp [opL]
                rw [e0] at HRow hdl
                have hwas : decide (many ≤ fv) = false := by simp; omega
                by_cases hm : many ≤ fv + chg FF t
                · have his : decide (many ≤ fv + chg FF t) = true := by simpa using hm
                  have HS2 := Lib.hid (HS.out.begins hm)
                  have HE1 : Hid ((done ++ opL node (some t)).length = done.length + 1) := by show _ = _; simp [opL]
                  have HE2 : Hid ((done ++ opL node (some t)).flatMap Sp.enc = done.flatMap Sp.enc ++ [.int .i64 node, .int .i64 t, .int .i64 0]) := by show _ = _; simp [opL]
                  clear hm
                  go_wp2_with (first | (at_lookup; refine wpList_lookup_own_int _ rfl _ _ 121 rfl 3 3 .i64 (Maps.int_keyed Tryz.underlying3) Tryz.underlying121 Tryz.underlying3 (zeroI _) w.heap.size _ D rfl HOwn9.out _ _ rfl HKt.out ?_; intro c hat hwc; have hcv := HDt.out.symm.trans hat; injection hcv with hcv; injection hcv with _ hcv; subst hcv; clear hat hwc) | (refine wpList_buildSlice_one rfl 82 84 _ rfl 3 _ #[.int .i64 node, .int .i64 t, .int .i64 0] rfl Tryz.underlying82 (Tryz.sizeOf84 _) (Tryz.zeroValue84 _) rfl (by omega) (by omega) ?_) | (at_builtin; refine wpList_append_st rfl _ _ 82 rfl W8.heap.size 84 j0 (.agg #[.int .i64 0, .int .i64 0, .int .i64 0]) 3 24 Tryz.underlying82 hi0 hz0 hz1 hz2 rfl (by decide) _ _ _ rfl HRow.out #[.int .i64 node, .int .i64 t, .int .i64 0] rfl wr.heap.size rfl rfl (by simp [Value.oneCell']) (by unfold maxLen; omega) (by omega) HBz.out ?_; intro A' c'' w2 hown' hgrow _; have HO2 := Lib.hid hown'; have HG2 := Lib.hid hgrow; clear hown' hgrow))
                  go_roundw
                  case rel => exact ⟨q + 1, _, some t, done, by omega, by go_num, rfl, HS2.out, by omega, by omega, by rw [HE1.out]; omega, by rw [HE1.out, HE2.out]; exact HO2.out, HB9.out.grown HG2.out HBz.out (fun r e => (HRow.out.lt r e).1)⟩
                  case measure => simp [intOf]; omega
                · have his : decide (many ≤ fv + chg FF t) = false := by simpa using hm
                  have HS2 := Lib.hid (HS.out.still hm)
                  clear hm
                  go_wp2_with (at_lookup; refine wpList_lookup_own_int _ rfl _ _ 121 rfl 3 3 .i64 (Maps.int_keyed Tryz.underlying3) Tryz.underlying121 Tryz.underlying3 (zeroI _) w.heap.size _ D rfl HOwn9.out _ _ rfl HKt.out ?_; intro c hat hwc; have hcv := HDt.out.symm.trans hat; injection hcv with hcv; injection hcv with _ hcv; subst hcv; clear hat hwc)
                  go_roundw
                  case rel => exact ⟨q + 1, _, none, done, by omega, by go_num, rfl, HS2.out, by omega, by omega, by rw [e0]; omega, by rw [e0]; exact HRow.out, HB9.out⟩
                  case measure => simp [intOf]; omega
              | some a =>
                have hyes := HS.out.yes a rfl
                have hwas : decide (many ≤ fv) = true := by simpa using hyes
                by_cases hm : many ≤ fv + chg FF t
                · have his : decide (many ≤ fv + chg FF t) = true := by simpa using hm
                  have HS2 := Lib.hid (HS.out.keep hm)
                  clear hm
                  go_wp2_with (at_lookup; refine wpList_lookup_own_int _ rfl _ _ 121 rfl 3 3 .i64 (Maps.int_keyed Tryz.underlying3) Tryz.underlying121 Tryz.underlying3 (zeroI _) w.heap.size _ D rfl HOwn9.out _ _ rfl HKt.out ?_; intro c hat hwc; have hcv := HDt.out.symm.trans hat; injection hcv with hcv; injection hcv with _ hcv; subst hcv; clear hat hwc)
                  go_roundw
                  case rel => exact ⟨q + 1, _, some a, done, by omega, by go_num, rfl, HS2.out, by omega, by omega, by omega, HRow.out, HB9.out⟩
                  case measure => simp [intOf]; omega
                · have his : decide (many ≤ fv + chg FF t) = false := by simpa using hm
                  have HS2 := Lib.hid (HS.out.close hm)
                  have HE1 : Hid ((done ++ opL node (some a)).length = done.length + 1) := by show _ = _; simp [opL]
                  have HE2 : Hid ((done ++ opL node (some a)).flatMap Sp.enc = done.flatMap Sp.enc ++ [.int .i64 node, .int .i64 a, .int .i64 0]) := by show _ = _; simp [opL]
                  have hrow := HRow.out
                  rw [HE1.out, HE2.out] at hrow
                  rw [HE1.out] at hdl
                  rcases hrow.2 with ⟨_, h0⟩ | ⟨gb, cap, cur, rfl, hgb⟩
                  · omega
                  have HRw := Lib.hid hrow
                  have cu : wr.cell? ⟨gb, done.length * 3 + 2, none⟩ = some (.int .i64 0) := by rw [hrow.cellAt (done.length * 3 + 2) (by omega), last_get]
                  have cf := hrow.frozenAt (done.length * 3 + 2)
                  have cg : gb < wr.heap.size := (hrow.lt gb rfl).2
                  have HSt := Lib.hid (hrow.stored (done.length * 3 + 2) (.int .i64 t))
                  have HGb : Hid (W8.heap.size ≤ gb) := (hrow.lt gb rfl).1
                  have HE3 : Hid ((done ++ [(⟨node, a, t⟩ : Sp)] ++ opL node none).length = done.length + 1) := by show _ = _; simp [opL]
                  have HE4 : Hid ((done ++ [(⟨node, a, t⟩ : Sp)] ++ opL node none).flatMap Sp.enc = done.flatMap Sp.enc ++ [.int .i64 node, .int .i64 a, .int .i64 t]) := by show _ = _; simp [opL]
                  clear hm hgb hrow HRow
                  go_wp2_with (at_lookup; refine wpList_lookup_own_int _ rfl _ _ 121 rfl 3 3 .i64 (Maps.int_keyed Tryz.underlying3) Tryz.underlying121 Tryz.underlying3 (zeroI _) w.heap.size _ D rfl HOwn9.out _ _ rfl HKt.out ?_; intro c hat hwc; have hcv := HDt.out.symm.trans hat; injection hcv with hcv; injection hcv with _ hcv; subst hcv; clear hat hwc)
                  go_roundw
                  case rel => exact ⟨q + 1, _, none, done ++ [⟨node, a, t⟩], by omega, by go_num, rfl, HS2.out, by omega, by omega, by rw [HE3.out]; omega, by rw [HE3.out, HE4.out, ← last_set done _ _ (.int .i64 0)]; exact HSt.out.1, HB9.out.grown HSt.out.2 HBz.out (fun r e => by cases e; exact HGb.out)⟩
                  case measure => simp [intOf]; omega
            · obtain rfl : q = ts.length := by omega
              have HS0 : Hid (SwS node many (chg FF) [] fv op done (joinL node many FF)) := by have := HS.out; rw [List.drop_of_length_le (by have := HKl.out; omega)] at this; exact this
              have hfin := HS0.out.fin
              cases op with
              | some a =>
                exfalso
                have hy := HS0.out.yes a rfl
                have hz := HS0.out.sum
                simp at hz
                omega
              | none =>
                have e0 : done ++ opL node none = done := by simp [opL]
                rw [e0, hfin] at HRow
                have HBf : Hid (Below w.heap.size w wr) := HBw8.out.trans (HB9.out.mono hw8)
                clear hfin
                go_wp2_with fail
                go_ret
                exact ⟨_, rfl, own_lower HRow.out hw8, HBf.out⟩
        · intro x c kl yd yp w1 cnt1 hkey hlk hv hat hrg1 hlt1 hg1 hs1 hen
          obtain ⟨x', ex, rfl, hwx⟩ := Maps.keyOf_int_inv Tryz.underlying3 hkey
          cases ex
          have hhas := Maps.has_true_of_atKey hat
          have hne := row_ne_iter hrow hrg
          have hlow := row_ne_low hrow hlt2
          have hrow1 := hrow.kept hg1 (.inr (Ne.symm hne))
          have HB1 : Hid (Below wo.heap.size wo w1) := HB.out.grown hg1 HB.out.size (fun j e => by cases e; exact Nat.le_refl _)
          have HL := Lib.hid hlk; clear hlk
          have HHs := Lib.hid hhas; clear hhas
          have hsz1 := HB1.out.size
          have HNe := Lib.hid hne; clear hne
          have HLow := Lib.hid hlow; clear hlow
          clear hat hkey hv hs1 hg1 hrow
          have hC1 := Lib.hid (HC.out.keep HL.out HHs.out)
          have HR1 := Lib.hid hrow1
          go_wp2_with (at_builtin; refine wpList_append_one rfl _ _ 38 rfl wo.heap.size 3 i0 (.int .i64 0) 8 Tryz.underlying38 hi0 hz0 hz1 hz2 rfl _ _ _ rfl HR1.out (.int .i64 x) w1.heap.size rfl rfl (by simp [Value.oneCell']) (by unfold maxLen; omega) (by omega) (by omega) ?_; intro A' c'' w2 hown' hgrow _; have HO2 := Lib.hid hown'; have HG2 := Lib.hid hgrow; clear hown' hgrow)
          have HRg2 := Lib.hid (hrg1.kept HG2.out HLow.out HNe.out)
          go_roundw
          case rel => exact ⟨_, cnt1, ts ++ [x], HRg2.out, by rw [List.length_append, List.map_append]; exact HO2.out, hC1.out, by rw [List.length_append]; simp; omega, HB1.out.grown HG2.out (by omega) (fun j e => (HR1.out.lt j e).1)⟩
          case measure => rw [HRg2.out.left_eq, hrg.left_eq]; exact hlt1
end Go.Proofs.YtadldndpphdmpaaGreat
