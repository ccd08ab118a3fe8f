/- Rank. -/
import Derived.Test.YtkkajemahehoaaaPlain7
import Derived.Test.YtkkajemahehoaaaSd
import Derived.Test.YtkkajemahehoaaaIt2
import Derived.Test.YtkkajemahehoaaaMix3
import Derived.Test.YtkkajemahehoaaaR3
import Derived.Maps.RangeWalk
namespace Go.Proofs.Ytkkajemahehoaaa
open Go.RowKit Go.Shelf

attribute [local go_sem] Oper.semAt_some

/-- A map of years to levels. -/
def Ymap (w : World) (B k : Nat) (T : TopT) : Prop :=
  ∃ D : DataW Unit, w.ownsMap Try.prog 3 (plainElem Try.prog 3) B k D ∧ Maps.IsMap D ∧ ∀ y : Int, (Maps.has D (.int .i64 y) = (T y).isSome) ∧ ∀ t, T y = some t → ∀ zd, D.atKey (.int .i64 y) zd = .lit (.int .i64 t)
theorem Ymap.kept {w w' : World} {B k : Nat} {T : TopT} {row : Option Nat} (h : Ymap w B k T) (hg : w.grownBy w' row) (hne : some B ≠ row) : Ymap w' B k T := by
  obtain ⟨D, h1, h3, h2⟩ := h
  exact ⟨D, h1.kept hg hne, h3, h2⟩
theorem Ymap.alloc {w : World} {B k : Nat} {T : TopT} (h : Ymap w B k T) (o : Obj) : Ymap (w.alloc o) B k T := h.kept (World.grownBy_alloc w o none) (by simp)
theorem Ymap.lt {w : World} {B k : Nat} {T : TopT} (h : Ymap w B k T) : B < w.heap.size := by
  obtain ⟨D, h1, _⟩ := h
  exact h1.lt
theorem Ymap.noCells {w : World} {B k : Nat} {T : TopT} (h : Ymap w B k T) : ∃ o : Obj, w.heap[B]? = some o ∧ o.isCells = false := by
  obtain ⟨D, ⟨es, ck, hh, _⟩, _, _⟩ := h
  exact ⟨_, hh, rfl⟩
theorem Ymap.mono {w : World} {B k k' : Nat} {T : TopT} (h : Ymap w B k T) (hk : k ≤ k') : Ymap w B k' T := by
  obtain ⟨D, h1, h3, h2⟩ := h
  exact ⟨D, h1.mono hk, h3, h2⟩
theorem Ymap.made (w : World) : Ymap (w.alloc (.map #[] 0)) w.heap.size 0 (fun _ => none) :=
  ⟨.map [], World.ownsMap_made w _ _ _, Maps.isMap_empty, fun y => ⟨by simp [Maps.has], fun t h => by cases h⟩⟩

theorem put_top {D : DataW Unit} {T : TopT} {y lv : Int} (hM : Maps.IsMap D) (hT : ∀ z : Int, (Maps.has D (.int .i64 z) = (T z).isSome) ∧ ∀ t, T z = some t → ∀ zd, D.atKey (.int .i64 z) zd = .lit (.int .i64 t)) :
    Maps.IsMap (D.put (.int .i64 y) (.lit (.int .i64 lv))) ∧ ∀ z : Int, (Maps.has (D.put (.int .i64 y) (.lit (.int .i64 lv))) (.int .i64 z) = ((fun z => if z = y then some lv else T z) z).isSome) ∧ ∀ t, (fun z => if z = y then some lv else T z) z = some t → ∀ zd, (D.put (.int .i64 y) (.lit (.int .i64 lv))).atKey (.int .i64 z) zd = .lit (.int .i64 t) := by
  refine ⟨by obtain ⟨es, rfl⟩ := hM; exact ⟨_, rfl⟩, fun z => ?_⟩
  by_cases hz : z = y
  · subst hz
    simp only [if_true]
    refine ⟨Maps.has_put_same hM (by trivial) _, fun t ht zd => ?_⟩
    injection ht with ht
    subst ht
    exact Maps.atKey_put_same hM (by trivial) _ _
  · simp only [if_neg hz]
    refine ⟨by rw [Maps.has_put_other (by intro e; cases e; exact hz rfl)]; exact (hT z).1, fun t ht zd => ?_⟩
    rw [Maps.atKey_put_other (by intro e; cases e; exact hz rfl)]
    exact (hT z).2 t ht zd

set_option maxRecDepth 100000 in
set_option maxHeartbeats 4000000 in
theorem Rank_ok (r : Rec) (d m many : Int) (A : Option Addr) (len c : Nat) (w : World) (hR : RecOK r) (hck : (chkRec r).2 = 0) (hr : RdH w A len r.highs) (d0 : 0 ≤ d) (d1 : d ≤ 364) (m0 : 1 ≤ m) (m1 : m ≤ 365) (hm : 0 ≤ many) :
    Calls Try.prog 41 #[.agg #[.int .i64 r.first, .int .i64 r.years, .slice A len c], .int .i64 d, .int .i64 m, .int .i64 many] w fun e w' => (∃ v, e = .returned (.tuple #[.int .i64 v, .int .i64 0]) ∧ RankIs r d m many v) ∧ Below w.heap.size w w' := by
  obtain ⟨mn, hmn⟩ : ∃ mn : Nat, many = (mn : Int) := ⟨many.toNat, by omega⟩
  subst hmn
  have HB1 : Hid (Below w.heap.size w (w.alloc (.cells #[.int .i64 r.first, .int .i64 r.years, .slice A len c] 24))) := (Below.refl _ _).alloc (Nat.le_refl _) _
  have K1 : Hid (Blk (w.alloc (.cells #[.int .i64 r.first, .int .i64 r.years, .slice A len c] 24)) w.heap.size 24 #[.int .i64 r.first, .int .i64 r.years, .slice A len c]) := Blk.new _ _ _ rfl
  have HC := Lib.hid (checkRecord_rec r A len c _ (hr.below HB1.out))
  rw [hck] at HC
  have hmm := @run_makeMap Try.prog
  have HR := Lib.hid hr
  have HRec := Lib.hid hR
  have hlb : (lateB d || outB m 1 365) = false := by
    rw [Bool.or_eq_false_iff]
    exact ⟨outB_eq_false.2 ⟨d0, d1⟩, outB_eq_false.2 ⟨m0, m1⟩⟩
  have hmb : decide ((mn : Int) < 0) = false := by simp
  clear hr hR hck
  generalize (chkRec r).1 = ce at *
  refine (callsIn_wide (n := 9)).1 ?_
  refine callsIn_of_wp_marks Try.func41 rfl trivial ?_ rfl
  simp only [Try.ntmps41, List.size_toArray, List.length_cons, List.length_nil, Nat.reduceAdd, Nat.reduceSub, Array.replicate_succ, Array.replicate_zero, List.push_toArray, List.append_toArray, List.nil_append, List.cons_append]
  refine wpIn_wide.2 ?_
  go_wp2_with fail
  refine HC.out.mono ?_
  rintro e W2 ⟨rfl, hb2⟩
  have HB2 : Hid (Below w.heap.size w W2) := HB1.out.trans (hb2.mono HB1.out.size)
  have K2 := Lib.hid (K1.out.later hb2)
  clear hb2
  have HN := Lib.hid (none_any d m (W2.alloc (.cells #[.int .i64 d, .int .i64 m] 105)))
  rw [hlb] at HN
  clear hlb
  go_wp2_with fail
  refine HN.out.mono ?_
  rintro e W3 ⟨rfl, hb3⟩
  have hba : Below W2.heap.size W2 W3 := ((Below.refl _ W2).alloc (Nat.le_refl _) _).trans (hb3.mono (by simp))
  have HB3 : Hid (Below w.heap.size w W3) := HB2.out.trans (hba.mono HB2.out.size)
  have K3 := Lib.hid (K2.out.later hba)
  have KW3 : Hid (Blk W3 W2.heap.size 105 #[.int .i64 d, .int .i64 m]) := (Blk.new W2 105 #[.int .i64 d, .int .i64 m] rfl).later hb3
  clear hb3 hba
  go_wp2_with fail
  obtain ⟨W4, hW4⟩ : ∃ W4, (W3.alloc (Obj.map #[] 0)).alloc (Obj.cells #[.map (some W3.heap.size)] 119) = W4 := ⟨_, rfl⟩
  have hb4 : Below W3.heap.size W3 W4 := by rw [← hW4]; exact ((Below.refl _ _).alloc (Nat.le_refl _) _).alloc (by simp) _
  have KM4 : Hid (Blk W4 (W3.heap.size + 1) 119 #[.map (some W3.heap.size)]) := by rw [← hW4]; exact Blk.new _ _ _ (by simp)
  have KY4 : Hid (Ymap W4 W3.heap.size 0 (fun _ => none)) := by rw [← hW4]; exact (Ymap.made W3).alloc _
  rw [hW4]
  have HB4 : Hid (Below w.heap.size w W4) := HB3.out.trans (hb4.mono HB3.out.size)
  have K4 := Lib.hid (K3.out.later hb4)
  have KW4 := Lib.hid (KW3.out.later hb4)
  have HN2 : Hid (w.heap.size < W2.heap.size) := K2.out.lt
  have HN3 : Hid (W2.heap.size < W3.heap.size) := KW3.out.lt
  clear hW4 hb4 hmm
  obtain ⟨b, hb⟩ : ∃ b, wrapsB d m = b := ⟨_, rfl⟩
  obtain ⟨O, hO⟩ : ∃ O, ofF r.years b = O := ⟨_, rfl⟩
  obtain ⟨E, hE⟩ : ∃ E, r.first + O - 1 = E := ⟨_, rfl⟩
  have HE : Hid (E = r.first + ofF r.years (wrapsB d m) - 1) := by rw [hb, hO, hE]; rfl
  refine Code.wp_mono (Q := fun e a' w' => e = .normal ∧ ∃ X, a' = { tmps := #[.agg #[.int .i64 r.first, .int .i64 r.years, .slice A len c], .int .i64 d, .int .i64 m, .int .i64 (mn : Int), .pointer (some ⟨w.heap.size, 0, none⟩), undef, undef, undef, .int .i64 0, .int .i64 0, .int .i64 ce, .int .i64 0, .pointer (some ⟨W2.heap.size, 0, none⟩), .pointer (some ⟨(W3.heap.size + 1), 0, none⟩), .pointer (some ⟨X, 0, none⟩), .int .i64 O, undef, undef, undef, undef, undef, undef, undef, .tuple #[.int .i64 ce, .int .i64 0], .agg #[.int .i64 r.first, .int .i64 r.years, .slice A len c], .tuple #[.int .i64 ce, .int .i64 0], .int .i64 ce, .int .i64 0, .int .i64 d, .int .i64 m, .agg #[.int .i64 d, .int .i64 m], .bool false, .int .i64 0, .bool false, undef, .bool false, .agg #[.int .i64 d, .int .i64 m], .bool false, .bool false, .int .i64 (mn : Int), .bool false, .bool false, .map (some W3.heap.size), .tuple #[.int .i64 E, .int .i64 O], .agg #[.int .i64 r.first, .int .i64 r.years, .slice A len c], .agg #[.int .i64 d, .int .i64 m], .bool b, .tuple #[.int .i64 E, .int .i64 O], .int .i64 E, .int .i64 O, undef, undef, undef, undef, undef, undef, undef, undef, undef, undef, undef, undef, undef, undef, undef, undef, undef, undef, undef, undef, undef, undef, undef, undef, undef, undef, undef, undef, undef, undef, undef, undef, undef, undef, undef, undef, undef, undef, undef, undef, undef, undef, undef, undef, undef, undef, undef, undef], defers := [] } ∧ Blk w' X 3 #[.int .i64 E] ∧ Below W4.heap.size W4 w') ?cont ?reg
  case reg =>
    have HWr : Hid (∀ W, Below W4.heap.size W4 W → Calls Try.prog 88 #[.agg #[.int .i64 d, .int .i64 m]] W fun e w' => e = .returned (.bool b) ∧ Below W.heap.size W w') := fun W _ => by have h := wraps_any d m W (by omega) (by omega) (by omega) (by omega); rw [hb] at h; exact h
    have HLa : Hid (∀ W, Below W4.heap.size W4 W → Calls Try.prog 87 #[.agg #[.int .i64 r.first, .int .i64 r.years, .slice A len c], .bool b] W fun e w' => e = .returned (.tuple #[.int .i64 E, .int .i64 O]) ∧ Below W.heap.size W w') := fun W _ => by have h := last_any r.first r.years (.slice A len c) b W HRec.out.f0 HRec.out.f1 HRec.out.y0 HRec.out.y1; rw [hO, hE] at h; exact h
    have q0 := later_cell (K4.out.cell (i := 0) rfl)
    have q1 := later_cell (K4.out.cell (i := 1) rfl)
    have q2 := later_cell (K4.out.cell (i := 2) rfl)
    have q3 := later_cell (KW4.out.cell (i := 0) rfl)
    have q4 := later_cell (KW4.out.cell (i := 1) rfl)
    refine wp_region_noPanic ?_
    refine wp_region_fork (fun w' => ∃ u : Later W4, w' = u.w) 9 (fun k => k == 0 || k == 1 || k == 4 || k == 5 || k == 6) (fkOf _ (.op 0 (.op 1 (.two 2 (.two 3 (.op 4 (.op 5 (.op 6 (.op 7 (.op 8 (.op 9 .nil)))))) 7 (.op 3 (.op 4 (.op 5 (.op 6 (.op 8 (.op 9 .nil))))))) 7 (.op 2 (.op 3 (.op 4 (.op 5 (.op 6 (.op 8 (.op 9 .nil)))))))))))  (by kernel_rfl) (by kernel_rfl) (fkOf_mem _ _) (fun _ _ _ _ _ h => h) ?_
    have HS0 : Hid ((fun w' => ∃ u : Later W4, w' = u.w) W4.drew) := ⟨⟨W4.drew, (Below.refl _ _).drew⟩, rfl⟩
    simp only [fkOf, List.getElem?_cons_zero, List.getElem?_cons_succ]
    iterate 2 (refine fk_quiet rfl rfl rfl HS0.out ?_; intro K hK; go_big_quiet_op; go_big_quiet_on)
    clear q0 q1 q2 q3 q4 HS0
    refine fk_two ?_ ?_
    · go_wp2_with fail
      refine (HWr.out _ ((Below.refl W4.heap.size W4).drew)).mono ?_
      rintro e W5 ⟨rfl, hb8⟩
      have HBW5 : Hid (Below W4.heap.size W4 W5) := (((Below.refl W4.heap.size W4).drew)).trans (hb8.mono (((Below.refl W4.heap.size W4).drew)).size)
      clear hb8
      go_wp2
      refine mix_post (fun _ => ⟨⟨_, HBW5.out⟩, rfl⟩) ?_
      refine fk_two ?_ ?_
      · go_wp2_with fail
        refine (HLa.out _ HBW5.out).mono ?_
        rintro e W6 ⟨rfl, hb8⟩
        have HBW6 : Hid (Below W4.heap.size W4 W6) := (HBW5.out).trans (hb8.mono (HBW5.out).size)
        clear hb8
        go_wp2
        refine mix_post (fun _ => ⟨⟨_, HBW6.out⟩, rfl⟩) ?_
        have HS6 : Hid ((fun w' => ∃ u : Later W4, w' = u.w) W6) := ⟨⟨_, HBW6.out⟩, rfl⟩
        iterate 3 (refine fk_quiet rfl rfl rfl HS6.out ?_; intro K hK; go_big_quiet_op; go_big_quiet_on)
        clear HS6
        refine fk_one rfl ?_
        go_wp2
        have HBA : Hid (Below W4.heap.size W4 (W6.alloc (Obj.cells #[.int .i64 0] 3))) := HBW6.out.alloc HBW6.out.size _
        have KA : Hid (Blk (W6.alloc (Obj.cells #[.int .i64 0] 3)) W6.heap.size 3 #[.int .i64 0]) := Blk.new _ _ _ rfl
        refine mix_post (fun _ => ⟨⟨_, HBA.out⟩, rfl⟩) ?_
        refine fk_one rfl ?_
        go_wp2
        refine mix_post (fun _ => ⟨⟨_, HBW6.out.alloc HBW6.out.size _⟩, rfl⟩) ?_
        refine fk_one rfl ?_
        go_wp2
        refine mix_post (fun h => absurd h (by decide)) ?_
        refine fk_nil (NoPanic.normal ⟨rfl, W6.heap.size, rfl, ?_, ?_⟩)
        · exact Blk.new _ _ _ rfl
        · exact HBW6.out.alloc HBW6.out.size _
      · go_wp2
        have HBA : Hid (Below W4.heap.size W4 (W5.alloc (Obj.cells #[.int .i64 0] 3))) := HBW5.out.alloc HBW5.out.size _
        have KA : Hid (Blk (W5.alloc (Obj.cells #[.int .i64 0] 3)) W5.heap.size 3 #[.int .i64 0]) := Blk.new _ _ _ rfl
        refine mix_post (fun _ => ⟨⟨_, HBA.out⟩, rfl⟩) ?_
        refine fk_one rfl ?_
        go_wp2_with fail
        refine (HLa.out _ HBA.out).mono ?_
        rintro e W6 ⟨rfl, hb8⟩
        have HBW6 : Hid (Below W4.heap.size W4 W6) := (HBA.out).trans (hb8.mono (HBA.out).size)
        have KX := KA.out.later hb8
        clear hb8
        go_wp2
        refine mix_post (fun _ => ⟨⟨_, HBW6.out⟩, rfl⟩) ?_
        have HS6 : Hid ((fun w' => ∃ u : Later W4, w' = u.w) W6) := ⟨⟨_, HBW6.out⟩, rfl⟩
        iterate 3 (refine fk_quiet rfl rfl rfl HS6.out ?_; intro K hK; go_big_quiet_op; go_big_quiet_on)
        clear HS6
        have x0 := KX.cell (i := 0) rfl
        have x1 := KX.frozen 0
        have x2 := KX.lt
        have HKX := Lib.hid KX
        clear KX
        refine fk_one rfl ?_
        go_wp2
        refine mix_post (fun _ => ⟨⟨_, HBW6.out.setCell (p := ⟨W5.heap.size, 0, none⟩) HBW5.out.size _⟩, rfl⟩) ?_
        refine fk_one rfl ?_
        go_wp2
        refine mix_post (fun h => absurd h (by decide)) ?_
        refine fk_nil (NoPanic.normal ⟨rfl, W5.heap.size, rfl, ?_, ?_⟩)
        · exact HKX.out.set 0 _
        · exact HBW6.out.setCell (p := ⟨W5.heap.size, 0, none⟩) HBW5.out.size _
    · go_wp2
      have HBA : Hid (Below W4.heap.size W4 (W4.alloc (Obj.cells #[.int .i64 0] 3)).drew) := ((Below.refl _ W4).alloc (Nat.le_refl _) _).drew
      have KA : Hid (Blk (W4.alloc (Obj.cells #[.int .i64 0] 3)).drew W4.heap.size 3 #[.int .i64 0]) := Blk.new W4 3 #[.int .i64 0] rfl
      refine mix_post (fun _ => ⟨⟨_, HBA.out⟩, rfl⟩) ?_
      refine fk_one rfl ?_
      go_wp2_with fail
      refine (HWr.out _ HBA.out).mono ?_
      rintro e W5 ⟨rfl, hb8⟩
      have HBW5 : Hid (Below W4.heap.size W4 W5) := (HBA.out).trans (hb8.mono (HBA.out).size)
      have KA5 := Lib.hid (KA.out.later hb8)
      clear hb8
      go_wp2
      refine mix_post (fun _ => ⟨⟨_, HBW5.out⟩, rfl⟩) ?_
      refine fk_one rfl ?_
      go_wp2_with fail
      refine (HLa.out _ HBW5.out).mono ?_
      rintro e W6 ⟨rfl, hb8⟩
      have HBW6 : Hid (Below W4.heap.size W4 W6) := (HBW5.out).trans (hb8.mono (HBW5.out).size)
      have KX := KA5.out.later hb8
      clear hb8
      go_wp2
      refine mix_post (fun _ => ⟨⟨_, HBW6.out⟩, rfl⟩) ?_
      have HS6 : Hid ((fun w' => ∃ u : Later W4, w' = u.w) W6) := ⟨⟨_, HBW6.out⟩, rfl⟩
      iterate 3 (refine fk_quiet rfl rfl rfl HS6.out ?_; intro K hK; go_big_quiet_op; go_big_quiet_on)
      clear HS6
      have x0 := KX.cell (i := 0) rfl
      have x1 := KX.frozen 0
      have x2 := KX.lt
      have HKX := Lib.hid KX
      clear KX
      refine fk_one rfl ?_
      go_wp2
      refine mix_post (fun _ => ⟨⟨_, HBW6.out.setCell (p := ⟨W4.heap.size, 0, none⟩) (Nat.le_refl _) _⟩, rfl⟩) ?_
      refine fk_one rfl ?_
      go_wp2
      refine mix_post (fun h => absurd h (by decide)) ?_
      refine fk_nil (NoPanic.normal ⟨rfl, W4.heap.size, rfl, ?_, ?_⟩)
      · exact HKX.out.set 0 _
      · exact HBW6.out.setCell (p := ⟨W4.heap.size, 0, none⟩) (Nat.le_refl _) _
  case cont =>
    rintro _ _ W5 ⟨rfl, X, rfl, hX, hb5⟩
    have HB5 : Hid (Below w.heap.size w W5) := HB4.out.trans (hb5.mono HB4.out.size)
    have K5 := K4.out.later hb5
    have KW5 := KW4.out.later hb5
    have KM5 := Lib.hid (KM4.out.later hb5)
    have KY5 := Lib.hid (KY4.out.kept (grown_of_below hb5 none) (by simp))
    have HX5 := Lib.hid hX
    clear hX hb5 K4 KW4 KM4 KY4
    have q0 := K5.cell (i := 0) rfl
    have q1 := K5.cell (i := 1) rfl
    have q2 := K5.cell (i := 2) rfl
    have q3 := KW5.cell (i := 0) rfl
    have q4 := KW5.cell (i := 1) rfl
    have HHi := Lib.hid ((callsIn_wide (n := 9)).1 (highs_in 9 #[.int .i64 d, .int .i64 m] #[.int .i64 r.first, .int .i64 r.years, .slice A len c] ⟨rfl, rfl⟩ W5))
    go_wp2_with fail
    refine HHi.out.mono ?_
    rintro e W6 ⟨rfl, hW6⟩
    have hB6 : Below W5.heap.size W5 W6 := by rw [← hW6]; exact ((Below.refl _ _).alloc (Nat.le_refl _) _).alloc (by simp) _
    have k0 : Blk W6 W5.heap.size 105 #[.int .i64 d, .int .i64 m] := by rw [← hW6]; exact (Blk.new _ _ _ rfl).alloc _
    have k1 : Blk W6 (W5.heap.size + 1) 24 #[.int .i64 r.first, .int .i64 r.years, .slice A len c] := by rw [← hW6]; exact Blk.new _ _ _ (by simp)
    have HM6 := KM5.out.later hB6
    have HY6 := KY5.out.kept (grown_of_below hB6 none) (by simp)
    have HX6 := HX5.out.later hB6
    have hb6w : Below w.heap.size w W6 := HB5.out.trans (hB6.mono HB5.out.size)
    clear hW6 q0 q1 q2 q3 q4 K5 KW5 HHi
    go_wp2_with fail
    have hrl := HR.out.1
    have hlen : len ≤ 300 := by have := HRec.out.len; omega
    have HW := highs_stopsL 8 (by omega) _ _ r.first d m A len c r.highs W6 (k1.cell (i := 0) rfl) (k1.cell (i := 2) rfl) (k0.cell (i := 0) rfl) (k0.cell (i := 1) rfl) (HR.out.below hb6w) hlen HRec.out.rows HRec.out.f0 HRec.out.f1 d0 d1 m0 m1
    have hMl := HY6.lt
    have hXl := HX6.lt
    have hwl : w.heap.size ≤ W6.heap.size := hb6w.size
    have hml0 : w.heap.size ≤ W3.heap.size := HB3.out.size
    refine (wpIn_wide (n := 9)).1 ?_
    refine wpIn_rangeFunc_ownH rfl (by omega) (gf := 107) (lb := #[.pointer (some ⟨W5.heap.size + 1, 0, none⟩), .pointer (some ⟨W5.heap.size, 0, none⟩)]) rfl trivial (enters_of Try.func107 (by kernel_rfl) rfl)
      HW (fun h k => h.trans k) (fun W l o o' _ hl ho _ => KeepsCells.putObj o' hl ho) (Below.refl _ _) (fun _ => rfl)
      (fun pre W => (W.cell? ⟨W3.heap.size + 1, 0, none⟩ = some (.map (some W3.heap.size)) ∧ W.cell? ⟨X, 0, none⟩ = some (.int .i64 E)) ∧ (∃ T, Ymap W W3.heap.size pre.length T ∧ TopI E (pre.map (fun x : Yl => (x.y, x.h))) T) ∧ Below w.heap.size w W)
      (fun _ _ _ => False)
      (fun s X Y row hs hg hr => ⟨⟨cell_kept hs.1.1 hg (fun r e => (hr r e).2), cell_kept hs.1.2 hg (fun r e => (hr r e).2)⟩, ⟨hs.2.1.choose, hs.2.1.choose_spec.1.kept hg (fun e => by have := (hr _ e.symm).1; omega), hs.2.1.choose_spec.2⟩, hs.2.2.grown hg hs.2.2.size (fun r e => by have := (hr r e).1; omega)⟩)
      (fun _ _ _ _ _ hs _ _ => hs)
      ⟨⟨HM6.cell (i := 0) rfl, HX6.cell (i := 0) rfl⟩, ⟨_, HY6, TopI.start E⟩, hb6w⟩
      (fun x a' W => ∃ Bx, W.cell? ⟨Bx, 2, none⟩ = some (.int .i64 x.h.level) ∧ a' = { tmps := #[.agg #[.int .i64 r.first, .int .i64 r.years, .slice A len c], .int .i64 d, .int .i64 m, .int .i64 (mn : Int), .pointer (some ⟨w.heap.size, 0, none⟩), undef, undef, undef, .int .i64 0, .int .i64 0, .int .i64 ce, .int .i64 0, .pointer (some ⟨W2.heap.size, 0, none⟩), .pointer (some ⟨(W3.heap.size + 1), 0, none⟩), .pointer (some ⟨X, 0, none⟩), .int .i64 O, .int .i64 x.y, .pointer (some ⟨Bx, 0, none⟩), undef, undef, undef, undef, undef, .tuple #[.int .i64 ce, .int .i64 0], .agg #[.int .i64 r.first, .int .i64 r.years, .slice A len c], .tuple #[.int .i64 ce, .int .i64 0], .int .i64 ce, .int .i64 0, .int .i64 d, .int .i64 m, .agg #[.int .i64 d, .int .i64 m], .bool false, .int .i64 0, .bool false, undef, .bool false, .agg #[.int .i64 d, .int .i64 m], .bool false, .bool false, .int .i64 (mn : Int), .bool false, .bool false, .map (some W3.heap.size), .tuple #[.int .i64 E, .int .i64 O], .agg #[.int .i64 r.first, .int .i64 r.years, .slice A len c], .agg #[.int .i64 d, .int .i64 m], .bool b, .tuple #[.int .i64 E, .int .i64 O], .int .i64 E, .int .i64 O, .agg #[.int .i64 d, .int .i64 m], .agg #[.int .i64 r.first, .int .i64 r.years, .slice A len c], .func (.func 107) #[] #[.pointer (some ⟨W5.heap.size + 1, 0, none⟩), .pointer (some ⟨W5.heap.size, 0, none⟩)], .int .i64 x.y, .agg #[.int .i64 x.h.year, .int .i64 x.h.day, .int .i64 x.h.level], undef, undef, undef, undef, undef, undef, undef, undef, undef, undef, undef, undef, undef, undef, undef, undef, undef, undef, undef, undef, undef, undef, undef, undef, undef, undef, undef, undef, undef, undef, undef, undef, undef, undef, undef, undef, undef, undef, undef, undef, undef, undef, undef], defers := [] })
      (fun x a' _ X Y row hs hg hr => by obtain ⟨Bx, h1, h2⟩ := hs; exact ⟨Bx, cell_kept h1 hg (fun r e => (hr r e).2), h2⟩)
      ?assign ?body ?done ?stop
    case assign =>
      rintro l pre x W K ⟨⟨i1, i2⟩, ⟨T, i3, i5⟩, i4⟩ hK
      gi_wp2
      refine hK _ _ ((KeepsOthers.alloc _ _).from _) ((KeepsCells.refl _).alloc _) ⟨⟨cell_alloc i1 _, cell_alloc i2 _⟩, ⟨T, i3.alloc _, i5⟩, i4.alloc i4.size _⟩ ⟨W.heap.size, by exact cell_at_new rfl rfl, rfl⟩
    case body =>
      rintro l pre x a' W hl ⟨lo, hr'⟩ ⟨⟨i1, i2⟩, ⟨T, i3, i5⟩, i4⟩ ⟨Bx, j1, rfl⟩ hlt
      have hyl := x.lo
      have hyh := x.hi
      have hv0 := x.v0
      have hv1 := x.v1
      have HKey := Lib.hid (Maps.keyOf_int_mk (P := Try.prog) Try.underlying3 (wf_small (y := x.y) (by omega) (by omega)))
      have HVal := Lib.hid (plainElem_int (H := Unit) (P := Try.prog) Try.underlying3 (wf_small (y := x.h.level) (by omega) (by omega)))
      obtain ⟨ob, ho1, ho2⟩ := i3.noCells
      obtain ⟨Dm, n1, n2, n3⟩ := i3
      have HO1 := Lib.hid ho1; have HO2 := Lib.hid ho2
      have N1 := Lib.hid n1; have N2 := Lib.hid n2; have N3 := Lib.hid n3
      have I4 := Lib.hid i4; have I5 := Lib.hid i5
      have HStep := Lib.hid (i5.step x.y x.h)
      have hpl : pre.length < 100000 := by omega
      clear ho1 ho2 n1 n2 n3 i4 i5 hr' HW k0 k1 HM6 HY6 HX6
      by_cases hye : x.y ≤ E
      · cases hT : T x.y with
        | none =>
          have hhas : Maps.has Dm (.int .i64 x.y) = false := by rw [(N3.out x.y).1, hT]; rfl
          have hts : topStep E T x.y x.h.level = fun z => if z = x.y then some x.h.level else T z := by unfold topStep; rw [if_pos ⟨hye, fun t ht => by rw [hT] at ht; cases ht⟩]
          have HTS := Lib.hid hts
          clear hts hT
          gi_wp2_with (first | (gi_at_lookup; refine wpListIn_lookup_own_ok_int _ rfl _ _ 119 rfl 3 3 .i64 (Maps.int_keyed Try.underlying3) Try.underlying119 Try.underlying3 (Try.zeroValue3 _) W3.heap.size pre.length Dm rfl N1.out _ _ rfl HKey.out ?_; intro cc hat hwc; clear hat hwc) | (gi_at_mapUpdate; refine wpListIn_mapUpdate_own _ rfl _ _ _ 119 rfl 3 3 (Maps.int_keyed Try.underlying3) Try.underlying119 _ W3.heap.size pre.length _ rfl N1.out (by unfold maxLen; omega) _ _ _ rfl rfl HKey.out _ [] HVal.out ?_; intro w1 hown1 hgrow1) | gi_in)
          refine ⟨KeepsFrom.of_grownBy hgrow1 (fun j e => by cases e; omega), (KeepsCells.refl _).grown hgrow1 HO1.out HO2.out, ⟨cell_kept i1 hgrow1 (fun r e => by cases e; exact ⟨_, HO1.out, HO2.out⟩), cell_kept i2 hgrow1 (fun r e => by cases e; exact ⟨_, HO1.out, HO2.out⟩)⟩, ⟨_, ⟨_, by rw [List.length_append]; exact hown1, put_top N2.out N3.out⟩, by rw [List.map_append, ← HTS.out]; exact HStep.out⟩, I4.out.grown hgrow1 I4.out.size (fun r e => by cases e; exact hml0)⟩
        | some t =>
          have hhas : Maps.has Dm (.int .i64 x.y) = true := by rw [(N3.out x.y).1, hT]; rfl
          have HAt := Lib.hid ((N3.out x.y).2 t hT)
          by_cases hlt2 : t < x.h.level
          · have hts : topStep E T x.y x.h.level = fun z => if z = x.y then some x.h.level else T z := by unfold topStep; rw [if_pos ⟨hye, fun t' ht' => by rw [hT] at ht'; injection ht' with ht'; omega⟩]
            have HTS := Lib.hid hts
            clear hts hT
            gi_wp2_with (first | (gi_at_lookup; refine wpListIn_lookup_own_ok_int _ rfl _ _ 119 rfl 3 3 .i64 (Maps.int_keyed Try.underlying3) Try.underlying119 Try.underlying3 (Try.zeroValue3 _) W3.heap.size pre.length Dm rfl N1.out _ _ rfl HKey.out ?_; intro cc hat hwc; rw [HAt.out] at hat; obtain rfl : t = cc := (by injection hat with hat; injection hat with _ hat); clear hat hwc) | (gi_at_mapUpdate; refine wpListIn_mapUpdate_own _ rfl _ _ _ 119 rfl 3 3 (Maps.int_keyed Try.underlying3) Try.underlying119 _ W3.heap.size pre.length _ rfl N1.out (by unfold maxLen; omega) _ _ _ rfl rfl HKey.out _ [] HVal.out ?_; intro w1 hown1 hgrow1) | gi_in)
            refine ⟨KeepsFrom.of_grownBy hgrow1 (fun j e => by cases e; omega), (KeepsCells.refl _).grown hgrow1 HO1.out HO2.out, ⟨cell_kept i1 hgrow1 (fun r e => by cases e; exact ⟨_, HO1.out, HO2.out⟩), cell_kept i2 hgrow1 (fun r e => by cases e; exact ⟨_, HO1.out, HO2.out⟩)⟩, ⟨_, ⟨_, by rw [List.length_append]; exact hown1, put_top N2.out N3.out⟩, by rw [List.map_append, ← HTS.out]; exact HStep.out⟩, I4.out.grown hgrow1 I4.out.size (fun r e => by cases e; exact hml0)⟩
          · have hts : topStep E T x.y x.h.level = T := by unfold topStep; rw [if_neg (fun h => hlt2 (h.2 t hT))]
            have HTS := Lib.hid hts
            clear hts hT
            gi_wp2_with (first | (gi_at_lookup; refine wpListIn_lookup_own_ok_int _ rfl _ _ 119 rfl 3 3 .i64 (Maps.int_keyed Try.underlying3) Try.underlying119 Try.underlying3 (Try.zeroValue3 _) W3.heap.size pre.length Dm rfl N1.out _ _ rfl HKey.out ?_; intro cc hat hwc; rw [HAt.out] at hat; obtain rfl : t = cc := (by injection hat with hat; injection hat with _ hat); clear hat hwc) | gi_in)
            refine ⟨KeepsFrom.refl _ _, KeepsCells.refl _, ⟨i1, i2⟩, ⟨T, ⟨Dm, by rw [List.length_append]; exact N1.out.mono (by simp), N2.out, N3.out⟩, by rw [List.map_append]; have h := HStep.out; rw [HTS.out] at h; exact h⟩, I4.out⟩
      · have hts : topStep E T x.y x.h.level = T := by unfold topStep; rw [if_neg (fun h => hye h.1)]
        have HTS := Lib.hid hts
        clear hts
        gi_wp2_with (first | (gi_at_lookup; refine wpListIn_lookup_own_ok_int _ rfl _ _ 119 rfl 3 3 .i64 (Maps.int_keyed Try.underlying3) Try.underlying119 Try.underlying3 (Try.zeroValue3 _) W3.heap.size pre.length Dm rfl N1.out _ _ rfl HKey.out ?_; intro cc hat hwc; clear hat hwc) | gi_in)
        refine ⟨KeepsFrom.refl _ _, KeepsCells.refl _, ⟨i1, i2⟩, ⟨T, ⟨Dm, by rw [List.length_append]; exact N1.out.mono (by simp), N2.out, N3.out⟩, by rw [List.map_append]; have h := HStep.out; rw [HTS.out] at h; exact h⟩, I4.out⟩
    case done =>
      rintro D ys W hD hys ⟨⟨i1, i2⟩, ⟨T, i3, i5⟩, i4⟩ hK
      have hT5 : TopI E (yhAll r.first d m r.highs) T := by rw [← hys]; exact i5
      have hyl : ys.length ≤ 600 := by
        have e := congrArg List.length hys
        rw [List.length_map] at e
        have := yhAll_len r.first d m r.highs
        omega
      obtain ⟨Dm, n1, n2, n3⟩ := i3
      have hsz := n1.size_le
      have hlt := n1.lt
      have HT5 := Lib.hid hT5; have N3 := Lib.hid n3
      have HKd := Lib.hid hK
      have HBW := Lib.hid i4
      have HDl : Hid (D < W.heap.size) := (Array.getElem?_eq_some_iff.1 hK).1
      have HDw : Hid (w.heap.size ≤ D) := Nat.le_trans hwl hD
      obtain ⟨i0, hi, hz0, hz1, hz2⟩ := info_parts info3
      clear hT5 hys i5 n2 n3 hK i4 i2 HW k0 k1 HM6 HY6 HX6 hD
      go_wp2_with (at_range; refine wpList_range_own _ rfl _ 119 rfl 3 3 (Maps.int_keyed Try.underlying3) Try.underlying119 _ W3.heap.size ys.length Dm rfl n1 ?_; intro w0 hrg0 hg0 hs0)
      go_frame
      clear i1
      go_loopw [20] (fun v wr => ∃ left cnt ls, wr.ranges Try.prog 3 (plainElem Try.prog 3) W3.heap.size W.heap.size ys.length Dm left cnt ∧ wr.ownsRow W.heap.size 3 1 v ls.length ((ls.map fun y => (T y).getD 0).map (Value.int .i64)) ∧ Coll Dm left E ls ∧ ls.length + cnt ≤ ys.length ∧ Below W.heap.size W wr) (fun _ wr => wr.rangeLeft W3.heap.size W.heap.size)
      case atStart => exact ⟨_, _, [], hrg0, World.ownsRow_nil _ _ _ _, ⟨List.nodup_nil, fun y => by simp; intro a b; rw [a] at b; cases b⟩, by simpa using hsz, (Below.refl _ _).grown hg0 (Nat.le_refl _) (fun k e => by cases e)⟩
      case round =>
        obtain ⟨left, cnt, ls, hrg, hrow, hC, hlen2, hB⟩ := hrel
        have HC := Lib.hid hC; clear hC
        have HB := Lib.hid hB; clear hB
        clear hrg0 hg0 hs0
        go_wp2_with (first | (at_next; refine wpList_next_ranges_ii _ rfl _ rfl 3 3 .i64 .i64 (Maps.int_keyed Try.underlying3) Try.underlying3 Try.underlying3 W3.heap.size W.heap.size ys.length _ _ _ rfl hrg ?_ ?_))
        · intro hc0 hl0
          have hmem : ∀ y, y ∈ ls ↔ T y ≠ none := fun y => by
            rw [HC.out.2 y, (N3.out y).1]
            constructor
            · rintro ⟨h1, _, _⟩ h2; rw [h2] at h1; cases h1
            · intro h1
              cases hTy : T y with
              | none => exact absurd hTy h1
              | some t => exact ⟨by simp, hl0 _, (HT5.out.some y t hTy).1⟩
          have hrk := rank_of (many := (mn : Int)) HRec.out d0 d1 m1 (by omega) HE.out HT5.out HC.out.1 hmem (descL_perm _) (descL_sorted _)
          have HRk := Lib.hid hrk
          have hso := sortDesc_any hrow (by simp) (by omega)
          have HSo := Lib.hid hso
          have hll : (descL (ls.map fun y => (T y).getD 0)).length = ls.length := by rw [descL_len, List.length_map]
          rw [hll] at HRk
          obtain ⟨Al, cl, rfl, _, _, _⟩ := rdI_of_own hrow (by simp)
          have HOb := Lib.hid (fun j e => (hrow.lt j e).1)
          clear hmem hrk hso hl0 hc0 hrg HC hrow
          generalize descL (ls.map fun y => (T y).getD 0) = S at *
          go_wp2_with fail
          refine HSo.out.mono ?_
          rintro e W8 ⟨rfl, hown8, hg8⟩
          have HB8 : Hid (Below W.heap.size W W8) := HB.out.grown hg8 HB.out.size HOb.out
          obtain ⟨A8, c8, e8, hrd8, _, _⟩ := rdI_of_own hown8 hll
          injection e8 with ea _ ec
          subst ea ec
          have HBf : Hid (Below w.heap.size w W8) := HBW.out.trans (HB8.out.mono HBW.out.size)
          have HK8 : Hid (W8.heap[D]? = some (.deferred (some []))) := (HB8.out.block D HDl.out).trans HKd.out
          have HRd8 := Lib.hid hrd8
          clear hown8 hg8 hrd8
          by_cases hml : ls.length ≤ mn
          · have hif : (if (ls.length : Int) ≤ (mn : Int) then (-20000 : Int) else S.getD (mn : Int).toNat 0) = -20000 := if_pos (by omega)
            rw [hif] at HRk
            have hmi : (ls.length : Int) ≤ (mn : Int) := by omega
            clear hif
            go_wp2_with fail
            refine ⟨by simp, .inl ⟨_, _, rfl, run_takeDeferred HK8.out, ?_⟩⟩
            refine ⟨.tuple #[.int .i64 (-20000), .int .i64 0], by simp [results, Try.results41, go_sem], ⟨(-20000), rfl, HRk.out⟩, HBf.out.grown (grownBy_putObj' _ D _) HBf.out.size (fun r e => by cases e; exact HDw.out)⟩
          · have hif : (if (ls.length : Int) ≤ (mn : Int) then (-20000 : Int) else S.getD (mn : Int).toNat 0) = S.getD mn 0 := by rw [if_neg (by omega)]; simp
            rw [hif] at HRk
            obtain ⟨sv, ad, hsv, hAd, cs0⟩ := rdI_get HRd8.out (k := mn) (by omega)
            subst hAd
            have hgd : S.getD mn 0 = sv := by rw [List.getD_eq_getElem?_getD, hsv]; rfl
            rw [hgd] at HRk
            have hmi : (mn : Int) < (ls.length : Int) := by omega
            have hmi2 : ¬ (ls.length : Int) ≤ (mn : Int) := by omega
            clear hif hgd hsv
            go_wp2_with fail
            refine ⟨by simp, .inl ⟨_, _, rfl, run_takeDeferred HK8.out, ?_⟩⟩
            refine ⟨.tuple #[.int .i64 sv, .int .i64 0], by simp [results, Try.results41, go_sem], ⟨sv, rfl, HRk.out⟩, HBf.out.grown (grownBy_putObj' _ D _) HBf.out.size (fun r e => by cases e; exact HDw.out)⟩
        · intro x c w1 cnt1 hwx hwc hlk hat hrg1 hlt1 hg1 hs1 hen
          have hhas := Maps.has_true_of_atKey hat
          have hTx : T x = some c := by
            have h1 := (N3.out x).1
            rw [hhas] at h1
            cases hTy : T x with
            | none => rw [hTy] at h1; cases h1
            | some t =>
              have h2 := (N3.out x).2 t hTy (.lit (.int .i64 0))
              rw [hat] at h2
              injection h2 with h2
              injection h2 with _ h2
              rw [h2]
          have hxE := (HT5.out.some x c hTx).1
          have hne := row_ne_iter hrow hrg
          have hlow := row_ne_low hrow hlt
          have hrow1 := hrow.kept hg1 (.inr (Ne.symm hne))
          have HB1 : Hid (Below W.heap.size W w1) := HB.out.grown hg1 HB.out.size (fun j e => by cases e; exact Nat.le_refl _)
          have hC1 := Lib.hid (HC.out.keep hlk hhas hxE)
          have hsz1 := HB1.out.size
          have HNe := Lib.hid hne; clear hne
          have HLow := Lib.hid hlow; clear hlow
          have HTx : Hid ((ls ++ [x]).map (fun y => (T y).getD 0) = ls.map (fun y => (T y).getD 0) ++ [c]) := by rw [List.map_append]; simp [hTx, Hid]
          clear hat hwx hwc hs1 hg1 hrow hlk hhas hTx hxE
          go_wp2_with (at_builtin; refine wpList_append_own _ rfl _ _ 33 rfl W.heap.size 3 i0 (.int .i64 0) 1 8 Try.underlying33 hi hz0 hz1 hz2 rfl (by decide) _ _ _ rfl (hrow1.alloc _) ⟨w1.heap.size, 0, none⟩ 1 1 [.int .i64 c] rfl rfl (cell_one_new _ _ _) (by simp [Value.oneCell']) (by unfold maxLen; omega) (by omega) (by simp; omega) ?_; intro v' w2 hown' hgrow _)
          go_roundw
          case rel => exact ⟨_, cnt1, ls ++ [x], (hrg1.alloc _).kept hgrow HLow.out HNe.out, by rw [List.length_append, HTx.out, List.map_append]; exact hown', hC1.out, by simp; omega, (HB1.out.alloc HB1.out.size _).grown hgrow (by simp; omega) (fun j e => (hrow1.lt j e).1)⟩
          case measure => rw [((hrg1.alloc _).kept hgrow HLow.out HNe.out).left_eq, hrg.left_eq]; exact hlt1
    case stop =>
      rintro D c pre W _ _ h _
      exact h.elim
end Go.Proofs.Ytkkajemahehoaaa
