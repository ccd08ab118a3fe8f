/- slices.Sorted(slices.Values(l)), and slices.Compact of it: are there numbers that stand twice? -/
import Derived.Test.YtadldndpphdmpaaGreatQB
import Derived.Test.YtadldndpphdmpaaGreatG3
import Derived.Test.YtadldndpphdmpaaGreatShelf
import Derived.Sort.OwnSortedInts
import Derived.Sort.OwnSorted
namespace Go.Proofs.YtadldndpphdmpaaGreat
open Go.RowKit Go.Shelf
attribute [local go_sem] Oper.semAt_some


abbrev Ienc (x : Int) : Array Value := #[.int .i64 x]

set_option maxRecDepth 100000 in
set_option maxHeartbeats 2000000 in
theorem values1_in (n0 n : Nat) (hn : 1 ≤ n) (l Bv : Nat) (A : Option Addr) (len c : Nat) (xs : List Int) (J Jx : List Int → World → Prop) (W : World)
    (hY : ∀ pre x W1, J pre W1 → pre.length < len → YieldAt Fence.wide (n - 1) Tryz.prog l (Ienc x) W1 fun e W' =>
      (e = .returned (.bool true) ∧ J (pre ++ [x]) W' ∧ KLow n0 W1 W') ∨ (e = .returned (.bool false) ∧ Jx (pre ++ [x]) W'))
    (hv : W.cell? ⟨Bv, 0, none⟩ = some (.slice A len c)) (hr : RdI W A len xs) (hlow : 0 < len → LowA n0 A) (hlen : len ≤ 1000000000000000) (h0 : J [] W) :
    CallsIn Fence.wide n Tryz.prog 107 #[.func (.yield l) #[] #[], .pointer (some ⟨Bv, 0, none⟩)] W fun e W' => (∃ v, e = .returned v) ∧
      ((∃ ys, ys = xs ∧ J ys W') ∨ (∃ pre, True ∧ Jx pre W')) := by
  refine callsIn_of_wp Tryz.func107 rfl trivial ?_ rfl
  simp only [Tryz.ntmps107, List.size_toArray, List.length_cons, List.length_nil, Nat.reduceAdd, Nat.reduceSub, Array.replicate_succ, Array.replicate_zero, List.push_toArray, List.append_toArray, List.nil_append, List.cons_append]
  have HR := Lib.hid hr; clear hr
  have HY := Lib.hid hY; clear hY
  have H0 := Lib.hid h0; clear h0
  have HLo := Lib.hid hlow; clear hlow
  gi_wp2
  gi_loopw [7] (fun i wr => ∃ k : Nat, k ≤ len ∧ i = .int .i64 k ∧ KLow n0 W wr ∧ J (xs.take k) wr) (fun i _ => len - (intOf i).toNat)
  case atStart => exact ⟨0, Nat.zero_le _, rfl, KLow.refl _ _, by rw [List.take_zero]; exact H0.out⟩
  case round =>
    obtain ⟨k, hk, rfl, hK, hJr⟩ := hrel
    have HK := Lib.hid hK; clear hK
    have HJr := Lib.hid hJr; clear hJr
    by_cases hlt : k < len
    · have hr2 := HK.out.rd (HLo.out (by omega)) HR.out
      obtain ⟨x, ad, hx, rfl, cx⟩ := rdI_get hr2 hlt
      have hl2 : (xs.take k).length < len := by rw [List.length_take, HR.out.1]; omega
      have HT : Hid (xs.take k ++ [x] = xs.take (k + 1)) := by
        obtain ⟨hk', rfl⟩ := List.getElem?_eq_some_iff.1 hx
        rw [List.take_succ_eq_append_getElem hk']; exact rfl
      obtain ⟨fn, tmps, assign, body, hy, hR⟩ := HY.out _ x wr HJr.out hl2
      dsimp only [Ienc] at hy
      have HRR := Lib.hid hR; clear hR
      clear hr2 hx hl2
      gi_wp2
      refine HRR.out.mono ?_
      rintro e W3 (⟨rfl, hJ3, hk3⟩ | ⟨rfl, hJx3⟩)
      · have HJ3 := Lib.hid hJ3; clear hJ3
        have HK3 := Lib.hid hk3; clear hk3
        gi_wp2
        go_roundw
        case rel => exact ⟨k + 1, by omega, by go_num, HK.out.trans HK3.out, by rw [← HT.out]; exact HJ3.out⟩
        case measure => simp [intOf]; omega
      · have HJ3 := Lib.hid hJx3; clear hJx3
        gi_wp2
        refine bodyPost_ret (results_none rfl _ _ _) rfl ?_
        exact ⟨⟨_, rfl⟩, .inr ⟨_, trivial, HJ3.out⟩⟩
    · gi_wp2
      go_end0
      refine ⟨⟨_, rfl⟩, .inl ⟨_, ?_, HJr.out⟩⟩
      exact List.take_of_length_le (by have := HR.out.1; omega)

theorem values1_stops (n : Nat) (hn : 1 ≤ n) (Bv : Nat) (A : Option Addr) (len c : Nat) (xs : List Int) (w : World)
    (hv : w.cell? ⟨Bv, 0, none⟩ = some (.slice A len c)) (hr : RdI w A len xs) (hlen : len ≤ 1000000000000000) :
    SeqStopsK Fence.wide n Tryz.prog 107 #[.pointer (some ⟨Bv, 0, none⟩)] Ienc (KLow w.heap.size) (fun ys => ys = xs) (fun _ => True) len w :=
  fun l J Jx W hW _ _ hY h0 => values1_in w.heap.size n hn l Bv A len c xs J Jx W hY (cell_below hW hv) (hr.below hW) (fun h => rd_low hr (fun _ => ⟨_, _, rfl⟩) h) hlen h0

set_option maxRecDepth 100000 in
set_option maxHeartbeats 2000000 in
theorem appendSeq_any (Bv : Nat) (A : Option Addr) (len c : Nat) (xs : List Int) (w : World)
    (hv : w.cell? ⟨Bv, 0, none⟩ = some (.slice A len c)) (hr : RdI w A len xs) (hlen : len ≤ 10000) :
    Calls Tryz.prog 109 #[.slice none 0 0, .func (.func 107) #[] #[.pointer (some ⟨Bv, 0, none⟩)]] w (NewInts w xs) := by
  refine (callsIn_wide (n := 9)).1 ?_
  refine callsIn_of_wp_marks Tryz.func109 rfl trivial ?_ rfl
  simp only [Tryz.ntmps109, List.size_toArray, List.length_cons, List.length_nil, Nat.reduceAdd, Nat.reduceSub, Array.replicate_succ, Array.replicate_zero, List.push_toArray, List.append_toArray, List.nil_append, List.cons_append]
  have HW := values1_stops 8 (by omega) Bv A len c xs w hv hr (by omega)
  gi_wp2
  obtain ⟨i0, hi, hz0, hz1, hz2⟩ := info_parts infoI
  obtain ⟨W0, hW0⟩ : ∃ W0, (w.alloc (.cells #[.slice none 0 0] 38)) = W0 := ⟨_, rfl⟩
  have hsz : W0.heap.size = w.heap.size + 1 := by rw [← hW0]; simp
  have hB0 : Below w.heap.size w W0 := by rw [← hW0]; exact (Below.refl _ w).alloc (Nat.le_refl _) _
  have hK0 : Blk W0 w.heap.size 38 #[.slice none 0 0] := by rw [← hW0]; exact Blk.new _ _ _ rfl
  rw [hW0]
  clear hW0
  refine wpIn_rangeFunc_ownH rfl (by omega) (gf := 107) (lb := #[.pointer (some ⟨Bv, 0, none⟩)]) rfl trivial (enters_of Tryz.func107 (by kernel_rfl) rfl)
    HW (fun h k => h.trans k) (fun W l o o' _ hl ho _ => KLow.putObj o' hl ho) hB0 (fun _ => rfl)
    (fun pre W => ∃ v, Blk W w.heap.size 38 #[v] ∧ W.ownsRow w.heap.size 3 1 v pre.length (pre.map (Value.int .i64)) ∧ Below w.heap.size w W)
    (fun _ _ _ => False)
    ?own
    (fun _ _ _ _ _ hs _ _ => hs)
    ⟨_, hK0, World.ownsRow_nil _ _ _ _, hB0⟩
    (fun x a' W => a' = { tmps := #[.slice none 0 0, .func (.func 107) #[] #[.pointer (some ⟨Bv, 0, none⟩)], .pointer (some ⟨w.heap.size, 0, none⟩), undef, .slice none 0 0, .int .i64 x, .func (.func 107) #[] #[.pointer (some ⟨Bv, 0, none⟩)], .int .i64 x, undef, undef, undef, undef, undef], defers := [] })
    (fun x a' _ X Y row hs hg hr => hs)
    ?assign ?body ?done ?stop
  case own =>
    intro pre X Y row hs hg hr
    obtain ⟨v, h1, h2, h3⟩ := hs
    have hno : ∀ r, row = some r → ∃ o : Obj, X.heap[r]? = some o ∧ ∀ cs t m, o ≠ .cells cs t m := fun r e => by
      obtain ⟨_, o, ho, hc⟩ := hr r e
      exact ⟨o, ho, fun cs t m e' => by subst e'; cases hc⟩
    refine ⟨v, h1.grown hg (fun e => ?_), own_far h2 hg (fun r e => .inr ?_), h3.grown hg h3.size (fun r e => by have := (hr r e).1; omega)⟩
    · obtain ⟨o, ho, hc⟩ := hno _ e.symm
      rw [show X.heap[w.heap.size]? = _ from h1] at ho
      cases ho
      exact hc _ _ _ rfl
    · obtain ⟨o, ho, hc⟩ := hno r e
      exact ⟨o, ho, fun cs m => hc cs _ m⟩
  case assign =>
    rintro l pre x W K hI hK
    gi_wp2
    exact hK _ _ (KeepsFrom.refl _ _) (KLow.refl _ _) hI rfl
  case body =>
    rintro l pre x a' W hl ⟨r, hr'⟩ ⟨v, h1, h2, h3⟩ rfl hlt
    have q0 := h1.cell (i := 0) rfl
    have qf := h1.frozen 0
    have ql := h1.lt
    have K1 := Lib.hid h1; clear h1
    have H3 := Lib.hid h3; clear h3
    have HRr := Lib.hid hr'; clear hr'
    have hsz3 := H3.out.size
    have ht : (38 : TypeId) ≠ 3 := by decide
    gi_wp2_with (gi_at_builtin; refine wpListIn_append_own _ rfl _ _ 38 rfl w.heap.size 3 i0 (.int .i64 0) 1 8 Tryz.underlying38 hi hz0 hz1 hz2 rfl (by decide) _ _ _ rfl (h2.alloc _) ⟨W.heap.size, 0, none⟩ 1 1 [.int .i64 x] rfl rfl (cell_one_new _ _ _) (by simp [Value.oneCell']) (by unfold maxLen; omega) (by omega) (by simp; omega) ?_; intro v' w2 hown' hgrow _; have K2 := Lib.hid ((K1.out.alloc (.cells #[.int .i64 x] 3)).grown hgrow (own_ne h2 K1.out ht)); obtain ⟨A', c', rfl, _⟩ := own_slice hown'; have q1 := K2.out.cell (i := 0) rfl; have qf1 := K2.out.frozen 0; have ql1 := K2.out.lt; have HO2 := Lib.hid hown'; have HG2 := Lib.hid hgrow; clear hown' hgrow q0 qf ql; go_frame)
    have HG : Hid (W.grownBy w2 v.ownBlock) := (World.grownBy_alloc W _ v.ownBlock).trans HG2.out
    refine ⟨?_, ?_, _, K2.out.one _, ?_, ?_⟩
    · exact ((((KeepsOthers.alloc W _).trans (KeepsOthers.of_grownBy HG2.out (own_cells (h2.alloc _)))).trans (KeepsOthers.setCell _ _ _)).from _)
    · refine (KLow.of_grown HG.out (fun r e => .inl (h2.lt r e).1)).trans (KLow.of_grown (grown_set _ _ _) (fun r e => by cases e; exact .inl (Nat.le_refl _)))
    · have := own_far HO2.out (grown_set w2 ⟨w.heap.size, 0, none⟩ (.slice A' (pre.length + 1) c')) (fun r e => by cases e; exact .inr ⟨_, K2.out, fun cs m e' => by cases e'⟩)
      rw [List.length_append, List.map_append]
      exact this
    · exact (H3.out.grown HG.out H3.out.size (fun r e => (h2.lt r e).1)).setCell (Nat.le_refl _) _
  case done =>
    rintro D ys W hD hys ⟨v, h1, h2, h3⟩ hK
    have q0 := h1.cell (i := 0) rfl
    have H1 := Lib.hid h1; clear h1
    have H2 := Lib.hid h2; clear h2
    have H3 := Lib.hid h3; clear h3
    have HYs := Lib.hid hys; clear hys
    gi_wp2
    refine ⟨by simp, .inl ⟨_, _, rfl, run_takeDeferred hK, ?_⟩⟩
    have HYE := HYs.out
    refine ⟨v, by simp [results, Tryz.results109, go_sem], v, rfl, ?_, ?_⟩
    · have := H2.out
      rw [HYE] at this
      exact own_far this (grownBy_putObj' _ D _) (fun r e => by cases e; exact .inr ⟨_, hK, fun cs m e' => by cases e'⟩)
    · exact H3.out.grown (grownBy_putObj' _ D _) H3.out.size (fun r e => by cases e; omega)
  case stop =>
    rintro D c pre W _ _ h _
    exact h.elim

set_option maxHeartbeats 1000000 in
theorem sorted_any (Bv : Nat) (A : Option Addr) (len c : Nat) (xs : List Int) (w : World)
    (hv : w.cell? ⟨Bv, 0, none⟩ = some (.slice A len c)) (hr : RdI w A len xs) (hlen : len ≤ 10000) :
    Calls Tryz.prog 97 #[.func (.func 107) #[] #[.pointer (some ⟨Bv, 0, none⟩)]] w (NewInts w (xs.mergeSort fun x y => decide (x ≤ y))) := by
  have HA := Lib.hid (appendSeq_any Bv A len c xs w hv hr hlen)
  obtain rfl := hr.1
  have HC : Hid (Calls Tryz.prog 106 #[.func (.func 107) #[] #[.pointer (some ⟨Bv, 0, none⟩)]] w (NewInts w xs)) := by
    clear hr hv
    go_enter Tryz.func106, Tryz.ntmps106
    go_wp2_with fail
    refine HA.out.mono ?_
    rintro e W ⟨v, rfl, h1, h2⟩
    have H1 := Lib.hid h1
    have H2 := Lib.hid h2
    clear h1 h2
    go_wp2_with fail
    go_ret
    exact ⟨v, rfl, H1.out, H2.out⟩
  clear hr hv HA
  go_enter Tryz.func97, Tryz.ntmps97
  go_wp2_with fail
  refine HC.out.mono ?_
  rintro e W ⟨v, rfl, h1, h2⟩
  rcases h1.2 with ⟨rfl, hn0⟩ | ⟨g, cap, cur, rfl, hbase, hb, g1, g2, g3, g4⟩
  · have hls : xs = [] := List.length_eq_zero_iff.1 hn0
    have H2 := Lib.hid h2
    clear h1 h2 hn0
    subst hls
    go_wp2_with (go_at_call 40; refine (Tryz.slices_Sort_int_none _ _ _).mono ?_; rintro e w' ⟨rfl, rfl⟩)
    go_ret
    exact ⟨_, rfl, by rw [show ([] : List Int).mergeSort (fun x y => decide (x ≤ y)) = [] from by simp]; exact World.ownsRow_nil _ _ _ _, H2.out⟩
  · have hH := holds_of_blockI hb (by simpa using g4)
    have hc := Tryz.slices_Sort_int g 0 cap xs W hH (Array.getElem?_eq_some_iff.1 hb).1 (by omega)
    have HCc := Lib.hid hc; clear hc
    have HBb := Lib.hid hb; clear hb
    have G3 := Lib.hid g3; clear g3
    have G4 := Lib.hid g4; clear g4
    have H2 := Lib.hid h2
    have HBs := Lib.hid hbase
    clear h1 h2 hH hlen hbase
    go_wp2_with (go_at_call 40; refine HCc.out.mono ?_; rintro e w' ⟨rfl, nn, os, rfl⟩)
    go_ret
    have hl2 : (xs.mergeSort fun x y => decide (x ≤ y)).length = xs.length := List.length_mergeSort xs
    have hown := ownsRow_sortedI (w := W) (n := nn) (os := os) (ts := xs.mergeSort fun x y => decide (x ≤ y)) (ss := xs) hl2 HBs.out HBb.out g1 g2 G3.out
    exact ⟨_, rfl, by rw [hl2]; exact hown, H2.out.grown (grownBy_sortedI _) H2.out.size (fun j e => by cases e; exact HBs.out)⟩

set_option maxHeartbeats 400000 in
theorem values_any (A : Option Addr) (len c : Nat) (w : World) :
    Calls Tryz.prog 98 #[.slice A len c] w fun e w' => e = .returned (.func (.func 107) #[] #[.pointer (some ⟨w.heap.size, 0, none⟩)]) ∧ w.alloc (.cells #[.slice A len c] 38) = w' := by
  go_enter Tryz.func98, Tryz.ntmps98
  go_wp2
  go_ret
  exact ⟨rfl, rfl⟩
end Go.Proofs.YtadldndpphdmpaaGreat
