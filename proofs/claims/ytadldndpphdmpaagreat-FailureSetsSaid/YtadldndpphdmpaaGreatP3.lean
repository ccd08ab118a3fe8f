/- least: the least sets for which something is so. -/
import Derived.Test.YtadldndpphdmpaaGreatQP
import Derived.Test.YtadldndpphdmpaaGreatE2
import Derived.Test.YtadldndpphdmpaaGreatQB
namespace Go.Proofs.YtadldndpphdmpaaGreat
open Go.RowKit Go.Shelf
attribute [local go_sem] Oper.semAt_some


theorem infoIs : (Tryz.prog.info? 38).map (fun i => (i.zero, i.size, i.bytes)) = some (some (.slice none 0 0), 1, 24) := by kernel_rfl
/-- Lists of numbers in a row of the call's own. -/
def IntRows (w : World) (base : Nat) (v : Value) (ps : List (List Int × Option Addr × Nat)) : Prop :=
  w.ownsRow base 38 1 v ps.length (ps.map fun p => .slice p.2.1 p.1.length p.2.2) ∧ ∀ p ∈ ps, w.ownsRow base 3 1 (.slice p.2.1 p.1.length p.2.2) p.1.length (p.1.map (Value.int .i64))
theorem IntRows.grown {w w' : World} {base : Nat} {v : Value} {ps : List (List Int × Option Addr × Nat)} {row : Option Nat} (h : IntRows w base v ps) (hg : w.grownBy w' row) (hr : ∀ r, row = some r → ∃ o : Obj, w.heap[r]? = some o ∧ o.isCells = false) : IntRows w' base v ps :=
  have hno : ∀ e : TypeId, ∀ r, row = some r → r < base ∨ ∃ o : Obj, w.heap[r]? = some o ∧ ∀ cs m, o ≠ .cells cs e m := fun _ r e => .inr (by obtain ⟨o, h1, h2⟩ := hr r e; exact ⟨o, h1, fun cs m e' => by subst e'; cases h2⟩)
  ⟨own_far h.1 hg (hno _), fun p hp => own_far (h.2 p hp) hg (hno _)⟩
theorem IntRows.lower {w : World} {base base' : Nat} {v : Value} {ps : List (List Int × Option Addr × Nat)} (h : IntRows w base v ps) (hb : base' ≤ base) : IntRows w base' v ps := ⟨own_lower h.1 hb, fun p hp => own_lower (h.2 p hp) hb⟩
/-- New lists of numbers. -/
def NewLists (w : World) (ls : List (List Int)) (e : Ending) (w' : World) : Prop :=
  ∃ v ps, e = .returned v ∧ IntRows w' w.heap.size v ps ∧ ps.map (·.1) = ls ∧ Below w.heap.size w w'

/-- Where all cells lie as they lay. -/
theorem FT.cells {w w' : World} {T : Nat} {t : List Nd} {A : Option Addr} {n c : Nat} {ms : List NdM} {R : Option Addr} {cr M k k' : Nat} (h : FT w T t A n c ms R cr M k) (hc : ∀ q v, w.cell? q = some v → w'.cell? q = some v) (hT : w'.heap[T]? = w.heap[T]?) (hk : Known w' M k' t) : FT w' T t A n c ms R cr M k' :=
  ⟨hT.trans h.blk,
    ⟨⟨h.tr.rd.1, fun i x hx => by
      obtain ⟨ad, e, ha⟩ := h.tr.rd.2 i x hx
      exact ⟨ad, e, fun j v hj => hc _ _ (ha j v hj)⟩⟩, h.tr.eq,
    fun m hm => ⟨⟨(h.tr.nd m hm).ins.1, fun i x hx => by
      obtain ⟨ad, e, ha⟩ := (h.tr.nd m hm).ins.2 i x hx
      exact ⟨ad, e, fun j v hj => hc _ _ (ha j v hj)⟩⟩, (h.tr.nd m hm).len, (h.tr.nd m hm).cap, (h.tr.nd m hm).nam⟩, h.tr.big⟩,
    ⟨h.rl.1, fun i x hx => by
      obtain ⟨ad, e, ha⟩ := h.rl.2 i x hx
      exact ⟨ad, e, fun j v hj => hc _ _ (ha j v hj)⟩⟩, hk, h.ok⟩
theorem FT.ownFrom {X Y : World} {T : Nat} {t : List Nd} {A : Option Addr} {n c : Nat} {ms : List NdM} {R : Option Addr} {cr M k B : Nat} {row : Option Nat} (h : FT X T t A n c ms R cr M k) (hg : X.grownBy Y row) (hr : ∀ r, row = some r → B ≤ r ∧ ∃ o : Obj, X.heap[r]? = some o ∧ o.isCells = false) (hM : M < B) : FT Y T t A n c ms R cr M k :=
  h.cells (fun q v hq => cell_kept hq hg (fun r e => (hr r e).2)) (by
    refine hg.block T h.blk.lt (fun e => ?_)
    obtain ⟨_, o, ho, hc⟩ := hr T e.symm
    rw [show X.heap[T]? = _ from h.blk] at ho
    cases ho
    cases hc) (h.kn.kept hg (fun e => by have := (hr M e.symm).1; omega))
theorem flt_snoc {all : Nat} (pre : List (SubT all)) (x : SubT all) (q : Nat → Bool) : ((pre ++ [x]).map (·.1)).filter q = (pre.map (·.1)).filter q ++ if q x.1 = true then [x.1] else [] := by
  rw [List.map_append, List.filter_append]
  by_cases h : q x.1 = true <;> simp [h]
theorem any_take {l : List Int} {j : Nat} {x : Int} (q : Int → Bool) (h : l[j]? = some x) : (l.take (j + 1)).any q = ((l.take j).any q || q x) := by
  obtain ⟨hk, rfl⟩ := List.getElem?_eq_some_iff.1 h
  rw [List.take_succ_eq_append_getElem hk, List.any_append]
  simp
theorem sortN_len (l : List Nat) (h : ∀ s ∈ l, s < 18446744073709551616) : (sortN l).length = l.length := by
  have e := sortB_eq (l.map toBS)
  rw [toBS_map h] at e
  rw [← e, List.length_map, sortS_len, List.length_map]
theorem sortN_lt (l : List Nat) (h : ∀ s ∈ l, s < 18446744073709551616) : ∀ s ∈ sortN l, s < 18446744073709551616 := by
  have e := sortB_eq (l.map toBS)
  rw [toBS_map h] at e
  rw [← e]
  intro s hs
  obtain ⟨x, _, rfl⟩ := List.mem_map.1 hs
  exact x.2
theorem encS_map (l : List BS) : l.map encS = (l.map (·.1)).map setV := by rw [List.map_map]; rfl
theorem sortSetsN_any {w : World} {base n : Nat} {E : TypeId} {v : Value} {xs : List Nat} (h : w.ownsRow base E 1 v n (xs.map setV)) (hl : xs.length = n) (hn : n ≤ 1000000) (hx : ∀ s ∈ xs, s < 18446744073709551616) :
    Calls Tryz.prog 44 #[v, .func (.func 45) #[] #[]] w fun e w' => e = .returned (.tuple #[]) ∧ w'.ownsRow base E 1 v n ((sortN xs).map setV) ∧ w.grownBy w' v.ownBlock := by
  have h' : w.ownsRow base E 1 v n ((xs.map toBS).map encS) := by rw [encS_map, toBS_map hx]; exact h
  refine (sortSets_any h' (by rw [List.length_map]; exact hl) hn).mono ?_
  rintro e w' ⟨h1, h2, h3⟩
  refine ⟨h1, ?_, h3⟩
  rw [encS_map, sortB_eq, toBS_map hx] at h2
  exact h2
theorem setV_one (s : Nat) : (setV s).oneCell' = true := rfl

set_option maxRecDepth 100000 in
set_option maxHeartbeats 8000000 in
theorem least_any (p : Nat → Bool) (all g Bv : Nat) (cb : Array Value) (t : List Nd) (T : Nat) (A : Option Addr) (n c : Nat) (ms : List NdM) (R : Option Addr) (cr M k0 : Nat) (w : World) (hF : FT w T t A n c ms R cr M k0) (hk0 : k0 ≤ 1000000) (hall : Sub t all) (hall64 : all < 18446744073709551616)
    (hv : w.cell? ⟨Bv, 0, none⟩ = some (.int .u64 all))
    (eg : ∀ args w, (callFunc g args).run Tryz.prog w = .ok (.enter g args) w)
    (his : ∀ (s k : Nat) (W : World), Sub t s → s < 18446744073709551616 → k < 1000000000000 → FT W T t A n c ms R cr M k → BB w.heap.size M w W → Calls Tryz.prog g (#[.int .u64 s] ++ cb) W fun e W' => e = .returned (.bool (p s)) ∧ FT W' T t A n c ms R cr M (k + 1) ∧ BB W.heap.size M W W') :
    Calls Tryz.prog 22 #[.func (.func 50) #[] #[.pointer (some ⟨Bv, 0, none⟩)], .func (.func g) #[] cb, .func (.func 27) #[] #[]] w fun e w' => ∃ v ps, e = .returned v ∧ IntRows w' w.heap.size v ps ∧ ps.map (·.1) = (leastN p all).map bitsL ∧ BB w.heap.size M w w' := by
  refine (callsIn_wide (n := 9)).1 ?_
  refine callsIn_of_wp_marks Tryz.func22 rfl trivial ?_ rfl
  simp only [Tryz.ntmps22, List.size_toArray, List.length_cons, List.length_nil, Nat.reduceAdd, Nat.reduceSub, Array.replicate_succ, Array.replicate_zero, List.push_toArray, List.append_toArray, List.nil_append, List.cons_append]
  have HF := Lib.hid hF; have HIs := Lib.hid his; have HAl := Lib.hid hall
  have hML := hF.kn.lt
  have hTL := hF.blk.lt
  obtain ⟨i0, hi, hz0, hz1, hz2⟩ := info_parts infoS
  clear hF his
  gi_wp2
  obtain ⟨W1, hW1⟩ : ∃ W1, (w.alloc (.cells #[.func (.func g) #[] cb] 63)).alloc (.cells #[.slice none 0 0] 48) = W1 := ⟨_, rfl⟩
  have hsz : W1.heap.size = w.heap.size + 2 := by rw [← hW1]; simp
  have hB1 : Below w.heap.size w W1 := by rw [← hW1]; exact ((Below.refl _ w).alloc (Nat.le_refl _) _).alloc (by simp) _
  have hK1 : Blk W1 w.heap.size 63 #[.func (.func g) #[] cb] := by rw [← hW1]; exact (Blk.new w _ _ rfl).alloc _
  have hK2 : Blk W1 (w.heap.size + 1) 48 #[.slice none 0 0] := by rw [← hW1]; exact Blk.new _ _ _ (by simp)
  rw [hW1]
  clear hW1
  have HW := subsets1_stops 8 (by omega) Bv all w hv hall64
  refine wpIn_rangeFunc_ownH rfl (by omega) (gf := 50) (lb := #[.pointer (some ⟨Bv, 0, none⟩)]) rfl trivial (enters_of Tryz.func50 (by kernel_rfl) rfl)
    HW (fun h k => h.trans k) (fun W l o o' _ hl ho _ => KLow.putObj o' hl ho) hB1 (fun _ => rfl)
    (fun pre W => (∃ v k, Blk W (w.heap.size + 1) 48 #[v] ∧ W.ownsRow w.heap.size 57 1 v ((pre.map (·.1)).filter (minB p)).length (((pre.map (·.1)).filter (minB p)).map setV) ∧ FT W T t A n c ms R cr M k ∧ k ≤ k0 + 65 * pre.length) ∧ Blk W w.heap.size 63 #[.func (.func g) #[] cb] ∧ BB w.heap.size M w W)
    (fun _ _ _ => False)
    ?own
    (fun _ _ _ _ _ hs _ _ => hs)
    ⟨⟨_, k0, hK2, World.ownsRow_nil _ _ _ _, HF.out.below (hB1.mono (Nat.le_refl _)), Nat.le_refl _⟩, hK1, BB.of_below hB1 (Nat.le_refl _)⟩
    (fun x a' W => a' = { tmps := #[.func (.func 50) #[] #[.pointer (some ⟨Bv, 0, none⟩)], .func (.func g) #[] cb, .func (.func 27) #[] #[], undef, .pointer (some ⟨w.heap.size, 0, none⟩), undef, .slice none 0 0, .pointer (some ⟨w.heap.size + 1, 0, none⟩), .int .u64 x.1, undef, undef, undef, undef, undef, .func (.func 50) #[] #[.pointer (some ⟨Bv, 0, none⟩)], .int .u64 x.1, undef, undef, undef, undef, undef, undef, undef, undef, undef, undef, undef, undef, undef, undef, undef, undef, undef, undef, undef, undef, undef, undef, undef, undef, undef, undef, undef, undef, undef, undef, undef, undef, undef, undef, undef, undef, undef, undef, undef, undef, undef, undef, undef], defers := [] })
    (fun x a' _ X Y row hs hg hr => hs)
    ?assign ?body ?done ?stop
  case own =>
    intro pre X Y row hs hg hr
    obtain ⟨⟨v, k, h1, h2, h3, h4⟩, h5, h6⟩ := hs
    have hno : ∀ r, row = some r → ∃ o : Obj, X.heap[r]? = some o ∧ ∀ cs t m, o ≠ .cells cs t m := fun r e => by
      obtain ⟨_, o, ho, hc⟩ := hr r e
      exact ⟨o, ho, fun cs t m e' => by subst e'; cases hc⟩
    have hblk : ∀ B tt vs, Blk X B tt vs → Blk Y B tt vs := fun B tt vs hb => hb.grown hg (fun e => by
      obtain ⟨o, ho, hc⟩ := hno _ e.symm
      rw [show X.heap[B]? = _ from hb] at ho
      cases ho
      exact hc _ _ _ rfl)
    refine ⟨⟨v, k, hblk _ _ _ h1, own_far h2 hg (fun r e => .inr ?_), h3.ownFrom hg hr (by omega), h4⟩, hblk _ _ _ h5, h6.grown hg (fun r e => .inr (by have := (hr r e).1; omega)) h6.size⟩
    obtain ⟨o, ho, hc⟩ := hno r e
    exact ⟨o, ho, fun cs m => hc cs _ m⟩
  case assign =>
    rintro l pre x W K hI hK
    gi_wp2
    exact hK _ _ (KeepsFrom.refl _ _) (KLow.refl _ _) hI rfl
  case body =>
    rintro l pre ⟨s, hs⟩ a' W hl ⟨r, hr'⟩ ⟨⟨v, k, h1, h2, h3, h4⟩, h5, h6⟩ rfl hlt
    dsimp only at *
    generalize hQ : ownPostG W1.heap.size _ _ _ (pre ++ [(⟨s, hs⟩ : SubT all)]) W = PP
    have HQ := Lib.hid hQ
    clear hQ
    have hok := HF.out.ok
    have hpl : pre.length < 1024 := Nat.lt_of_lt_of_le hlt (subL_short hok HAl.out hall64)
    have hsT : Sub t s := fun j hj => HAl.out j (hs j hj)
    have hs64 : s < 18446744073709551616 := by have := pow_40 hok hsT.lt; omega
    have HC1 := Lib.hid (HIs.out s k W hsT hs64 (by omega) h3 h6)
    have HSn := Lib.hid (flt_snoc pre ⟨s, hs⟩ (minB p))
    have hwW := h6.size
    have hq0 := h5.cell (i := 0) rfl
    have heg := eg
    have H1 := Lib.hid h1; have H2 := Lib.hid h2; have H3 := Lib.hid h3; have H5 := Lib.hid h5; have H6 := Lib.hid h6; have HST := Lib.hid hsT; have HS64 := Lib.hid hs64
    have hNC := Lib.hid h3.kn.noCells
    clear h1 h2 h3 h5 h6 hr' hsT hs64 hok HW hK1 hK2 hB1 hall eg
    cases hp : p s with
    | false =>
      rw [hp] at HC1
      have HSn2 : Hid (((pre ++ [(⟨s, hs⟩ : SubT all)]).map (·.1)).filter (minB p) = (pre.map (·.1)).filter (minB p)) := by
        have := HSn.out
        rw [if_neg (by unfold minB; simp [hp]), List.append_nil] at this
        exact this
      clear hp
      gi_wp2
      refine ⟨trivial, CallsIn.mono (CallsIn.inRound l (callsIn_wide.2 HC1.out)) ?_⟩
      rintro e W2 ⟨rfl, hF2, hb2⟩
      have HF2 := Lib.hid hF2; have HB2 := Lib.hid hb2
      clear hF2 hb2 hq0
      gi_wp2
      rw [← HQ.out]
      have hg2 := HB2.out.toGrown (Nat.le_refl _)
      have hwW2 := HB2.out.size
      refine ⟨KeepsFrom.of_grownBy hg2 (fun j e => by cases e; omega), KLow.of_grown hg2 (fun r e => by cases e; exact .inr hNC.out), ⟨v, k + 1, H1.out.grown hg2 (fun e => by cases e; omega), ?_, HF2.out, by rw [List.length_append]; simp; omega⟩, H5.out.grown hg2 (fun e => by cases e; omega), H6.out.trans (HB2.out.lower hwW)⟩
      rw [HSn2.out]
      exact own_far H2.out hg2 (fun r e => by cases e; exact .inl hML)
    | true =>
      rw [hp] at HC1
      gi_wp2
      refine ⟨trivial, CallsIn.mono (CallsIn.inRound l (callsIn_wide.2 HC1.out)) ?_⟩
      rintro e W2 ⟨rfl, hF2, hb2⟩
      have HF2 := Lib.hid hF2; have HB2 := Lib.hid hb2
      have HLi := Lib.hid (list_any s W2 HS64.out)
      clear hF2 hb2 hq0
      gi_wp2
      refine ⟨trivial, CallsIn.mono (CallsIn.inRound l (callsIn_wide.2 HLi.out)) ?_⟩
      rintro e W3 ⟨vl, rfl, hol, hbl⟩
      obtain ⟨Al, cl, rfl, hrl, _, _⟩ := rdI_of_own hol rfl
      have HB3 : Hid (BB W.heap.size M W W3) := HB2.out.trans (BB.of_below hbl HB2.out.size)
      have HF3 : Hid (FT W3 T t A n c ms R cr M (k + 1)) := HF2.out.below hbl
      have HRl := Lib.hid hrl
      have hLl := bitsL_len s
      have hNC3 := Lib.hid HF3.out.kn.noCells
      have HMem : Hid (∀ x ∈ bitsL s, ∃ i : Nat, x = (i : Int) ∧ i ≤ 63) := fun x hx => by
        have hx2 := (mem_bitsL HS64.out).1 hx
        refine ⟨x.toNat, by omega, ?_⟩
        rcases Nat.lt_or_ge x.toNat 64 with h | h
        · omega
        · rw [bit_high HS64.out h] at hx2
          cases hx2.2
      clear hol hbl hrl
      gi_wp2
      gi_loopw [9, 23] (fun b i wr => ∃ j k' : Nat, j ≤ (bitsL s).length ∧ i = .int .i64 j ∧ b = .bool (((bitsL s).take j).any fun i => p (sub1 s i.toNat)) ∧ FT wr T t A n c ms R cr M k' ∧ k' ≤ k + 1 + j ∧ BB W.heap.size M W wr ∧ BB W3.heap.size M W3 wr) (fun _ i _ => (bitsL s).length - (intOf i).toNat)
      case atStart => exact ⟨0, k + 1, Nat.zero_le _, rfl, rfl, HF3.out, Nat.le_refl _, HB3.out, BB.refl _ _ _⟩
      case round =>
        obtain ⟨j, k', hj, rfl, rfl, hF4, hk4, hB4, hB4'⟩ := hrel
        have HF4 := Lib.hid hF4; have HB4 := Lib.hid hB4; have HB4' := Lib.hid hB4'
        clear hF4 hB4 hB4'
        by_cases hlt : j < (bitsL s).length
        · obtain ⟨x, ad, hx, rfl, cx⟩ := rdI_get (Rd.bb HRl.out HB4'.out (Nat.le_refl _) hNC3.out) hlt
          obtain ⟨i, rfl, hi63⟩ := HMem.out x (List.mem_of_getElem? hx)
          have HT := Lib.hid (any_take (fun i => p (sub1 s i.toNat)) hx)
          have hjl' : (j : Int) < ((bitsL s).length : Int) := by omega
          have hq4 : wr.cell? ⟨w.heap.size, 0, none⟩ = some (.func (.func g) #[] cb) := HB4.out.cell (H5.out.lt) hNC.out (H5.out.cell (i := 0) rfl)
          clear hx
          have hwith : Hid (∀ W, Calls Tryz.prog 38 #[.int .u64 0, .int .i64 i] W fun e w' => e = .returned (.int .u64 (withN 0 i)) ∧ W = w') := fun W => with_any 0 i W (by decide) hi63
          have hand : bits .andNot .u64 (s : Int) ((withN 0 i : Nat) : Int) = ((sub1 s i : Nat) : Int) := bits_andNot64 HS64.out
          have hs1 : Hid (Sub t (sub1 s i)) := fun q hq => HST.out q (by unfold sub1 at hq; rw [diffN_bit] at hq; simp at hq; exact hq.1)
          have HC2 := Lib.hid (HIs.out (sub1 s i) k' wr.drew hs1.out (diff64_lt HS64.out) (by omega) (HF4.out.below (Below.refl _ _).drew) (H6.out.trans ((HB4.out.trans (BB.of_below (Below.refl wr.heap.size wr).drew HB4.out.size)).lower hwW)))
          have HS0 : Hid ((fun w' => ∃ u : LaterBut wr (some M), w' = u.w) wr.drew) := ⟨⟨wr.drew, grown_of_below (Below.refl _ _).drew _⟩, rfl⟩
          rw [Int.toNat_natCast] at HT
          generalize ((bitsL s).take j).any (fun i => p (sub1 s i.toNat)) = bb at *
          generalize hp1 : p (sub1 s i) = b1 at *
          generalize withN 0 i = wi at *
          generalize sub1 s i = s1 at *
          clear hi63
          cases bb with
          | true =>
            clear hq4
            gi_wp2
            refine wpIn_region_ord (fun w' => ∃ u : LaterBut wr (some M), w' = u.w) 9 (fun k => !(k == 5 || k == 7 || k == 9)) (ordOf _ [0, 1, 2, 3, 4, 5, 6, 7, 8, 9]) (by kernel_rfl) (by kernel_rfl) (by kernel_rfl) (ordOf_mem _ _) ?_
            simp only [ordOf, List.filterMap_cons, List.filterMap_nil, List.getElem?_cons_zero, List.getElem?_cons_succ, Option.map_some]
            iterate 2 (refine ord_quiet rfl rfl rfl HS0.out ?_; intro K hK; go_big_quiet_op; go_big_quiet_on)
            iterate 3 (refine ord_skip rfl rfl HS0.out ?_; simp only [Act.put, List.setIfInBounds_toArray, List.set_cons_succ, List.set_cons_zero])
            refine ord_op rfl ?_
            go_wp2_with fail
            refine mix_post (fun _ => HS0.out) ?_
            refine ord_skip rfl rfl HS0.out ?_
            simp only [Act.put, List.setIfInBounds_toArray, List.set_cons_succ, List.set_cons_zero]
            refine ord_op rfl ?_
            go_wp2_with fail
            refine mix_post (fun _ => HS0.out) ?_
            refine ord_quiet rfl rfl rfl HS0.out ?_; intro K hK; go_big_quiet_op; go_big_quiet_on
            refine ord_op rfl ?_
            go_wp2_with fail
            refine mix_post (fun h => absurd h (by decide)) ?_
            refine ord_nil ?_
            refine OnlyN.normal ?_
            gi_wp2
            go_roundw
            case rel => exact ⟨j + 1, k', by omega, by go_num, by rw [HT.out]; rfl, HF4.out.below (Below.refl _ _).drew, by omega, HB4.out.trans (BB.of_below (Below.refl wr.heap.size wr).drew HB4.out.size), HB4'.out.trans (BB.of_below (Below.refl wr.heap.size wr).drew HB4'.out.size)⟩
            case measure => simp [intOf]; omega
          | false =>
            gi_wp2
            have y1 := laterBut_cell (row := some M) hq4 (fun e => by have e' : w.heap.size = M := Option.some.inj e; omega)
            clear hq4
            refine wpIn_region_ord (fun w' => ∃ u : LaterBut wr (some M), w' = u.w) 9 (fun k => !(k == 5 || k == 7 || k == 9)) (ordOf _ [0, 1, 2, 3, 4, 5, 6, 7, 8, 9]) (by kernel_rfl) (by kernel_rfl) (by kernel_rfl) (ordOf_mem _ _) ?_
            simp only [ordOf, List.filterMap_cons, List.filterMap_nil, List.getElem?_cons_zero, List.getElem?_cons_succ, Option.map_some]
            iterate 5 (refine ord_quiet rfl rfl rfl HS0.out ?_; intro K hK; go_big_quiet_op; go_big_quiet_on)
            clear y1
            refine ord_op rfl ?_
            go_wp2_with (go_at_call 38; refine (hwith.out _).mono ?_; rintro e w' ⟨rfl, rfl⟩)
            refine mix_post (fun _ => HS0.out) ?_
            refine ord_quiet rfl rfl rfl HS0.out ?_; intro K hK; go_big_quiet_op; go_big_quiet_on
            refine ord_op rfl ?_
            go_wp2_with fail
            refine HC2.out.mono ?_
            rintro e W5 ⟨rfl, hF5, hb5⟩
            have HF5 := Lib.hid hF5
            have HB5 : Hid (BB wr.heap.size M wr W5) := (BB.of_below (Below.refl wr.heap.size wr).drew (Nat.le_refl _)).trans hb5
            have HS5 : Hid ((fun w' => ∃ u : LaterBut wr (some M), w' = u.w) W5) := ⟨⟨W5, HB5.out.toGrown (Nat.le_refl _)⟩, rfl⟩
            clear hF5 hb5
            go_wp2_with fail
            refine mix_post (fun _ => HS5.out) ?_
            refine ord_quiet rfl rfl rfl HS5.out ?_; intro K hK; go_big_quiet_op; go_big_quiet_on
            refine ord_op rfl ?_
            go_wp2_with fail
            refine mix_post (fun h => absurd h (by decide)) ?_
            refine ord_nil ?_
            refine OnlyN.normal ?_
            gi_wp2
            go_roundw
            case rel => exact ⟨j + 1, k' + 1, by omega, by go_num, by rw [HT.out]; rfl, HF5.out, by omega, HB4.out.trans (HB5.out.lower HB4.out.size), HB4'.out.trans (HB5.out.lower HB4'.out.size)⟩
            case measure => simp [intOf]; omega
        · obtain rfl : j = (bitsL s).length := by omega
          rw [List.take_length]
          have hMin : Hid (minB p s = !((bitsL s).any fun i => p (sub1 s i.toNat))) := by unfold minB; rw [hp]; rfl
          have hg4 := Lib.hid (HB4.out.toGrown (Nat.le_refl _))
          have hH1 := Lib.hid (H1.out.grown hg4.out (fun e => by have e' : w.heap.size + 1 = M := Option.some.inj e; omega))
          have hH5 := Lib.hid (H5.out.grown hg4.out (fun e => by have e' : w.heap.size = M := Option.some.inj e; omega))
          have hH2 := Lib.hid (own_far H2.out hg4.out (fun r e => by cases e; exact .inl hML))
          have hH6 : Hid (BB w.heap.size M w wr) := H6.out.trans (HB4.out.lower hwW)
          have hkl : Hid (KLow w.heap.size W wr) := KLow.of_grown hg4.out (fun r e => by cases e; exact .inr hNC.out)
          have hwr := HB4.out.size
          clear hp HC1 HIs
          generalize (bitsL s).any (fun i => p (sub1 s i.toNat)) = bb at *
          cases bb with
          | true =>
            have HSn2 : Hid (((pre ++ [(⟨s, hs⟩ : SubT all)]).map (·.1)).filter (minB p) = (pre.map (·.1)).filter (minB p)) := by
              have := HSn.out
              rw [if_neg (by rw [hMin.out]; simp), List.append_nil] at this
              exact this
            gi_wp2
            rw [← HQ.out]
            refine ⟨KeepsFrom.of_grownBy hg4.out (fun j e => by cases e; omega), hkl.out, ⟨v, k', hH1.out, ?_, HF4.out, by rw [List.length_append]; simp; omega⟩, hH5.out, hH6.out⟩
            rw [HSn2.out]
            exact hH2.out
          | false =>
            have HSn2 : Hid (((pre ++ [(⟨s, hs⟩ : SubT all)]).map (·.1)).filter (minB p) = (pre.map (·.1)).filter (minB p) ++ [s]) := by
              have := HSn.out
              rw [if_pos (by rw [hMin.out]; rfl)] at this
              exact this
            have hfl : ((pre.map (·.1)).filter (minB p)).length ≤ pre.length := Nat.le_trans (List.length_filter_le _ _) (by simp)
            generalize (pre.map (·.1)).filter (minB p) = fs at *
            have hq1 := hH1.out.cell (i := 0) rfl
            have hqf := hH1.out.frozen 0
            have hql := hH1.out.lt
            have ht : (48 : TypeId) ≠ 57 := by decide
            gi_wp2_with (gi_at_builtin; refine wpListIn_append_one rfl _ _ 48 rfl w.heap.size 57 i0 (.int .u64 0) 8 Tryz.underlying48 hi hz0 hz1 hz2 rfl v fs.length (fs.map setV) rfl hH2.out (.int .u64 s) wr.heap.size rfl rfl rfl (by unfold maxLen; omega) (by omega) (by omega) ?_; intro A' c' w2 hown' hgrow _; have K2 := Lib.hid (hH1.out.grown hgrow (own_ne hH2.out hH1.out ht)); have HO2 := Lib.hid hown'; have HG2 := Lib.hid hgrow; have q1 := K2.out.cell (i := 0) rfl; have qf1 := K2.out.frozen 0; have ql1 := K2.out.lt; clear hown' hgrow hq1 hqf hql; go_frame)
            rw [← HQ.out]
            have hG : wr.grownBy w2 v.ownBlock := HG2.out
            have hgS := grown_set w2 ⟨w.heap.size + 1, 0, none⟩ (.slice A' (fs.length + 1) c')
            have hrow := fun j e => (hH2.out.lt j e).1
            have hw2 := HG2.out.size
            have hBBf : BB w.heap.size M w (w2.setCell ⟨w.heap.size + 1, 0, none⟩ (.slice A' (fs.length + 1) c')) := (hH6.out.grown hG (fun r e => .inr (hrow r e)) (by omega)).grown hgS (fun r e => by cases e; exact .inr (by show w.heap.size ≤ w.heap.size + 1; omega)) (by omega)
            refine ⟨((KeepsFrom.of_grownBy hg4.out (fun j e => by cases e; omega)).trans ((KeepsOthers.of_grownBy hG (own_cells hH2.out)).from _)).trans ((KeepsOthers.setCell _ _ _).from _), (hkl.out.trans (KLow.of_grown hG ?_)).trans (KLow.of_grown hgS ?_), ⟨_, k', K2.out.one _, ?_, ?_, by rw [List.length_append]; simp; omega⟩, ?_, ?_⟩
            · intro r e; exact .inl (hrow r e)
            · intro r e; cases e; exact .inl (by show w.heap.size ≤ w.heap.size + 1; omega)
            · rw [HSn2.out, List.length_append, List.map_append]
              exact own_far HO2.out hgS (fun r e => by cases e; exact .inr ⟨_, K2.out, fun cs m e' => by cases e'⟩)
            · exact HF.out.move hBBf ((HF4.out.kn.kept hG (fun e => by have := hrow M e.symm; omega)).kept hgS (fun e => by have e' : M = w.heap.size + 1 := Option.some.inj e; omega))
            · exact (hH5.out.grown hG (own_ne hH2.out hH5.out (by decide))).grown hgS (fun e => by have e' : w.heap.size = w.heap.size + 1 := Option.some.inj e; omega)
            · exact hBBf
  case done =>
    rintro D ys W hD hys ⟨⟨v, k, h1, h2, h3, h4⟩, h5, h6⟩ hK
    rw [hys] at h2
    have hok := HF.out.ok
    have hfl : ((subL all).filter (minB p)).length ≤ 1024 := Nat.le_trans (List.length_filter_le _ _) (subL_short hok HAl.out hall64)
    have hfb : ∀ s ∈ (subL all).filter (minB p), s < 18446744073709551616 := fun s hs => by
      have hsT : Sub t s := fun j hj => HAl.out j (subL_sub s (List.mem_filter.1 hs).1 j hj)
      have := pow_40 hok hsT.lt
      omega
    have HLN : Hid (leastN p all = sortN ((subL all).filter (minB p))) := rfl
    generalize (subL all).filter (minB p) = fs at *
    have HSo := Lib.hid (sortSetsN_any h2 rfl (by omega) hfb)
    have hSl := sortN_len fs hfb
    have HSb := Lib.hid (sortN_lt fs hfb)
    have HOb := Lib.hid (fun j e => (h2.lt j e).1)
    have HCe := Lib.hid (own_cells h2)
    have ht : (48 : TypeId) ≠ 57 := by decide
    have HNe := Lib.hid (own_ne h2 h1 ht)
    obtain ⟨Af, cf, rfl, _⟩ := own_slice h2
    have hq1 := h1.cell (i := 0) rfl
    have HKd := Lib.hid hK; have H1 := Lib.hid h1; have H6 := Lib.hid h6
    have HDl : Hid (D < W.heap.size) := (Array.getElem?_eq_some_iff.1 hK).1
    have HLs : Hid (∀ (s : Nat) (W' : World), s < 18446744073709551616 → Calls Tryz.prog 27 #[.int .u64 s] W' (NewInts W' (bitsL s))) := fun s W' h => list_any s W' h
    have hwW := h6.size
    clear hys h1 h2 h3 h5 h6 hK hfb hok HW hK1 hK2 hB1 hall eg h4 hv
    generalize sortN fs = S at *
    gi_wp2
    refine ⟨trivial, CallsIn.mono (callsIn_wide.2 HSo.out) ?_⟩
    rintro e W8 ⟨rfl, hown8, hg8⟩
    have H8b := Lib.hid (H1.out.grown hg8 HNe.out)
    have HB8 : Hid (BB w.heap.size M w W8) := H6.out.grown hg8 (fun r e => .inr (HOb.out r e)) hwW
    have hs8 := hg8.size
    have HK8 : Hid (W8.heap[D]? = some (.deferred (some []))) := (hg8.block D HDl.out (fun e => by
      have := HCe.out D _ e.symm HKd.out
      cases this)).trans HKd.out
    have HD8 : Hid (D < W8.heap.size) := Nat.lt_of_lt_of_le HDl.out hs8
    have HR8 : Hid (Rd (fun s => [setV s]) 1 W8 Af fs.length S) := by
      have h := hown8
      rw [map_flat setV, ← hSl] at h
      obtain ⟨A, c, e1, hr, _, _⟩ := rd_of_own (k := 1) (fun _ => rfl) h rfl
      cases e1
      rw [← hSl]
      exact hr
    have hq8 := H8b.out.cell (i := 0) rfl
    have hwW8 : w.heap.size ≤ W8.heap.size := by omega
    clear hown8 hg8 hq1 HSo HCe HNe HOb
    gi_wp2
    obtain ⟨ii, hii, hzi0, hzi1, hzi2⟩ := info_parts infoIs
    gi_loopw [6, 47] (fun v i wr => ∃ (j : Nat) (ps : List (List Int × Option Addr × Nat)), j ≤ fs.length ∧ i = .int .i64 j ∧ IntRows wr W8.heap.size v ps ∧ ps.length = j ∧ ps.map (·.1) = (S.take j).map bitsL ∧ Below W8.heap.size W8 wr) (fun _ i _ => fs.length - (intOf i).toNat)
    case atStart => exact ⟨0, [], Nat.zero_le _, rfl, ⟨World.ownsRow_nil _ _ _ _, fun p hp => by simp at hp⟩, rfl, by rw [List.take_zero]; rfl, Below.refl _ _⟩
    case round =>
      obtain ⟨j, ps, hj, rfl, hR, hpl, hpm, hB⟩ := hrel
      have HB := Lib.hid hB; have HR := Lib.hid hR; have HPm := Lib.hid hpm
      clear hB hR hpm
      by_cases hlt : j < fs.length
      · obtain ⟨s, ad, hs, rfl, hca⟩ := (HR8.out.below HB.out).get hlt
        have cs : wr.cell? (ad.add j) = some (.int .u64 s) := by have := hca 0 _ rfl; rw [Nat.mul_one] at this; exact this
        have HC := Lib.hid (HLs.out s wr (HSb.out s (List.mem_of_getElem? hs)))
        have heg : ∀ args w, (callFunc 27 args).run Tryz.prog w = .ok (.enter 27 args) w := enters_of Tryz.func27 (by kernel_rfl) rfl
        have HTk : Hid ((S.take (j + 1)).map bitsL = (S.take j).map bitsL ++ [bitsL s]) := by
          obtain ⟨hk', rfl⟩ := List.getElem?_eq_some_iff.1 hs
          rw [List.take_succ_eq_append_getElem hk', List.map_append]; exact rfl
        have hjl' : (j : Int) < (fs.length : Int) := by omega
        clear hs hca
        gi_wp2
        refine ⟨trivial, CallsIn.mono (callsIn_wide.2 HC.out) ?_⟩
        rintro e W9 ⟨vl, rfl, hol, hbl⟩
        obtain ⟨Al, cl, rfl, _, _, _⟩ := rdI_of_own hol rfl
        have HOl := Lib.hid hol
        have HB9 := Lib.hid hbl
        have HR9 := Lib.hid (HR.out.grown (grown_of_below hbl none) (fun r e => by cases e))
        have h98 := HB.out.size
        have h99 := hbl.size
        clear hol hbl heg cs
        gi_wp2_with (gi_at_builtin; refine wpListIn_append_one rfl _ _ 27 rfl W8.heap.size 38 ii (.slice none 0 0) 24 Tryz.underlying27 hii hzi0 hzi1 hzi2 rfl _ ps.length _ rfl HR9.out.1 (.slice Al (bitsL s).length cl) W9.heap.size rfl rfl rfl (by unfold maxLen; omega) (by omega) (by omega) ?_; intro A' c' w2 hown' hgrow _; have HO2 := Lib.hid hown'; have HG2 := Lib.hid hgrow; clear hown' hgrow; go_frame)
        go_roundw
        case rel =>
          refine ⟨j + 1, ps ++ [(bitsL s, Al, cl)], by omega, by go_num, ⟨by rw [List.length_append, List.map_append]; exact HO2.out, fun p hp => ?_⟩, by simp; omega, by rw [List.map_append, HPm.out, HTk.out]; rfl, ((HB.out.trans (HB9.out.mono HB.out.size)).grown HG2.out (by omega) (fun r e => (HR9.out.1.lt r e).1))⟩
          have key : W9.ownsRow W8.heap.size 3 1 (.slice p.2.1 p.1.length p.2.2) p.1.length (p.1.map (Value.int .i64)) := by
            rcases List.mem_append.1 hp with hp | hp
            · exact HR9.out.2 p hp
            · simp only [List.mem_singleton] at hp
              subst hp
              exact own_lower HOl.out h98
          exact own_far key HG2.out (fun r e => .inr (own_typed HR9.out.1 (by decide) r e))
        case measure => simp [intOf]; omega
      · obtain rfl : j = fs.length := by omega
        have HPf : Hid (ps.map (·.1) = (leastN p all).map bitsL) := by rw [HPm.out, HLN.out, ← hSl, List.take_length]; exact rfl
        have HKf : Hid (wr.heap[D]? = some (.deferred (some []))) := (HB.out.block D HD8.out).trans HK8.out
        have hDw : w.heap.size ≤ D := by omega
        have h98 := HB.out.size
        gi_wp2
        refine ⟨by simp, .inl ⟨_, _, rfl, run_takeDeferred HKf.out, ?_⟩⟩
        refine ⟨_, by simp [results, Tryz.results22, go_sem], _, ps, rfl, (HR.out.grown (grownBy_putObj' _ D _) (fun r e => by cases e; exact ⟨_, HKf.out, rfl⟩)).lower hwW8, HPf.out, (HB8.out.trans (BB.of_below HB.out hwW8)).grown (grownBy_putObj' _ D _) (fun r e => by cases e; exact .inr hDw) (by omega)⟩
  case stop =>
    rintro D c pre W _ _ h _
    exact h.elim
end Go.Proofs.YtadldndpphdmpaaGreat
