import Derived.Test.YtjdaigffgfnhaaaGreatLf
namespace Go.Proofs.YtjdaigffgfnhaaaGreat
open Go.RowKit

theorem triesG_mem {til step : Int} (hs : 0 ≤ step) : ∀ (f : Nat) (d0 d : Int), d ∈ triesG til step f d0 → d0 ≤ d ∧ d ≤ til
  | 0, _, _, h => by simp [triesG] at h
  | f + 1, d0, d, h => by
    rw [triesG] at h
    by_cases hc : d0 ≤ til
    · rw [if_pos hc, List.mem_cons] at h
      rcases h with rfl | h
      · exact ⟨Int.le_refl _, hc⟩
      · have := triesG_mem hs f (d0 + step) d h
        omega
    · rw [if_neg hc] at h; simp at h
theorem triesG_len {til step : Int} : ∀ (f : Nat) (d0 : Int), (triesG til step f d0).length ≤ f
  | 0, _ => by simp [triesG]
  | f + 1, d0 => by
    rw [triesG]
    by_cases hc : d0 ≤ til
    · rw [if_pos hc, List.length_cons]; have := triesG_len (til := til) (step := step) f (d0 + step); omega
    · rw [if_neg hc]; simp
theorem startsF_len (t : Task) (x : Work) : (startsF t x).length ≤ 400 := by
  unfold startsF triesF
  exact Nat.le_trans (List.length_filter_le _ _) (triesG_len _ _)
theorem startsF_day {t : Task} {x : Work} (hx : WorkOK x) {s : Int} (h : s ∈ startsF t x) : 0 ≤ s ∧ s ≤ 364 := by
  unfold startsF triesF at h
  have h1 := triesG_mem (by have := hx.s0; omega) _ _ _ (List.mem_filter.1 h).1
  have := hx.f0; have := hx.u1
  omega
theorem ask_snoc {t : Task} {ss : List Int} {n' : Nat} {s : Int} (h : Ask t ss n') (hl : ss.length < n') (h0 : 0 ≤ s) (h1 : s ≤ 364) : Ask t (ss ++ [s]) n' :=
  ⟨by simp; omega, fun z hz => by
    rw [List.mem_append] at hz
    rcases hz with hz | hz
    · exact h.day z hz
    · simp at hz; subst hz; exact ⟨h0, h1⟩⟩
theorem now_cut {V : Vars} {w : World} {n' : Nat} {ss : List Int} {s : Int} (h : w.ownsRow 0 3 1 (.slice (some ⟨V.R, 0, none⟩) (ss ++ [s]).length n') (ss ++ [s]).length ((ss ++ [s]).map (Value.int .i64))) : w.ownsRow 0 3 1 (.slice (some ⟨V.R, 0, none⟩) ss.length n') ss.length (ss.map (Value.int .i64)) := by
  rcases h.2 with ⟨h0, _⟩ | ⟨g, cap, cur, h1, h2, h3, h4, h5, h6, h7⟩
  · cases h0
  · cases h1
    refine ⟨by simp, .inr ⟨_, _, cur, rfl, h2, h3, by rw [List.length_append] at h4; omega, h5, h6, ?_⟩⟩
    have := congrArg (List.take (ss.length * 1)) h7
    rw [List.take_take, List.map_append] at this
    rw [show min (ss.length * 1) ((ss ++ [s]).length * 1) = ss.length * 1 by simp] at this
    rw [this, List.take_append_of_le_length (by simp), List.take_of_length_le (by simp)]

theorem wpList_append_room {P : Program} {w : World} {ops : Array Oper} {rest : List Oper} {o : Oper} {a : Act} {Q : Exit → Act → World → Prop} (hgd : o.guard = none) (s x : Operand) (t : TypeId)
    (ho : o.op = .call { callee := .builtin .append, args := #[s, x], argTypes := #[t, t] })
    (base : Nat) (e : TypeId) (i : TypeInfo) (size : Nat) (ht : P.underlying t = some (.slice e)) (hi : P.info? e = some i) (hsize : i.size = size)
    (g n cap : Nat) (xs : List Value) (hs : a.eval s = .slice (some ⟨g, 0, none⟩) n cap) (hown : w.ownsRow base e size (.slice (some ⟨g, 0, none⟩) n cap) n xs)
    (ad : Addr) (m c : Nat) (news : List Value) (hx : a.eval x = .slice (some ad) m c) (hl : news.length = m * size) (hnews : ∀ j u, news[j]? = some u → w.cell? (ad.add j) = some u) (h1 : ∀ u ∈ news, u.oneCell' = true)
    (hroom : n + m ≤ cap)
    (h : ∀ w', w'.ownsRow base e size (.slice (some ⟨g, 0, none⟩) (n + m) cap) (n + m) (xs ++ news) → w.grownBy w' (some g) → wpList P ops Q rest (a.put o.dst (.slice (some ⟨g, 0, none⟩) (n + m) cap)) w') : wpList P ops Q (o :: rest) a w := by
  refine wpList_plain hgd fun K hK => ?_
  obtain ⟨w', hr, h2, h3⟩ := run_append_fits (P := P) w base t o.type e i size ht hi hsize g n cap xs hown ad m c news hl hnews h1 hroom
  unfold Oper.wp execOp
  simp only [ho, resolve, invoke, builtin, Sem.run_bind, Sem.run_pure, Result.andThen_ok, List.map_toArray, List.map_cons, List.map_nil, hs, hx, hr]
  exact hK _ _ (h w' h2 h3)

theorem acc_but {V : Vars} {acc : Acc} {w w' : World} (h : AccM V w acc) (hk : KeepEx V.ex w w') (h1 : w'.heap[V.bf]? = w.heap[V.bf]?) (h2 : w'.heap[V.bl]? = w.heap[V.bl]?) (h3 : w'.heap[V.bs]? = w.heap[V.bs]?) : AccM V w' acc := by
  cases acc with
  | none =>
    obtain ⟨g1, ⟨x, y, g2, g3⟩, v, g4⟩ := h
    exact ⟨h1.trans g1, ⟨x, y, h2.trans g2, g3⟩, v, h3.trans g4⟩
  | some q =>
    obtain ⟨g1, g2, g3, A, c, g4, g5, g6⟩ := h
    exact ⟨h1.trans g1, h2.trans g2, g3, A, c, h3.trans g4, g5.keepL hk (fun _ h => .inl h), g6⟩

/-- A round's append and store, taken together. -/
theorem round_put {V : Vars} (hV : V.Apart) {n' jj : Nat} {ss : List Int} {s : Int} {ac : Acc} {w wr w2 : World} {ob : Obj} (hK : KeepEx V.ex w wr) (hN : NowM V wr n' ss jj) (hA : AccM V wr ac)
    (hown : w2.ownsRow 0 3 1 (.slice (some ⟨V.R, 0, none⟩) (ss.length + 1) n') (ss.length + 1) (ss.map (Value.int .i64) ++ [.int .i64 s])) (hg : (wr.alloc ob).grownBy w2 (some V.R)) :
    KeepEx V.ex w w2 ∧ Blk w2 V.bn 31 #[.slice (some ⟨V.R, 0, none⟩) jj n'] ∧ KeepEx V.ex w (w2.setCell ⟨V.bn, 0, none⟩ (.slice (some ⟨V.R, 0, none⟩) (ss.length + 1) n')) ∧ NowM V (w2.setCell ⟨V.bn, 0, none⟩ (.slice (some ⟨V.R, 0, none⟩) (ss.length + 1) n')) n' (ss ++ [s]) (ss.length + 1) ∧ AccM V (w2.setCell ⟨V.bn, 0, none⟩ (.slice (some ⟨V.R, 0, none⟩) (ss.length + 1) n')) ac := by
  have hex : V.ex V.R := .inr (.inr (.inr (.inr rfl)))
  have hexn : V.ex V.bn := .inl rfl
  have hk2 : KeepEx V.ex wr w2 := ((KeepEx.refl _ _).alloc ob).grown hg (fun r e => by cases e; exact hex)
  have hblk : ∀ k, k < wr.heap.size → k ≠ V.R → w2.heap[k]? = wr.heap[k]? := fun k hk hn =>
    (hg.block k (by (try simp) <;> omega) (fun e => hn (by have := Option.some.inj e; first | exact this | exact this.symm))).trans (((Below.refl wr.heap.size wr).alloc (Nat.le_refl _) ob).block k hk)
  have hb2 : Blk w2 V.bn 31 #[.slice (some ⟨V.R, 0, none⟩) jj n'] := (hblk _ hN.1.lt hV.h4).trans hN.1
  have hK3 : KeepEx V.ex wr (w2.setCell ⟨V.bn, 0, none⟩ (.slice (some ⟨V.R, 0, none⟩) (ss.length + 1) n')) := hk2.setCell (p := ⟨V.bn, 0, none⟩) hexn _
  have hso : ∀ k, k ≠ V.bn → (w2.setCell ⟨V.bn, 0, none⟩ (.slice (some ⟨V.R, 0, none⟩) (ss.length + 1) n')).heap[k]? = w2.heap[k]? := fun k hk => Below.heap_setCell w2 ⟨V.bn, 0, none⟩ _ k hk
  have hl3 : V.bf < wr.heap.size ∧ V.bl < wr.heap.size ∧ V.bs < wr.heap.size := by
    cases ac with
    | none => obtain ⟨h1, ⟨_, _, h2, _⟩, _, h4⟩ := hA; exact ⟨h1.lt, h2.lt, h4.lt⟩
    | some q => obtain ⟨h1, h2, _, _, _, h4, _⟩ := hA; exact ⟨h1.lt, h2.lt, h4.lt⟩
  refine ⟨hK.trans hk2, hb2, hK.trans hK3, ⟨hb2.set 0 _, ?_⟩, acc_but hA hK3 ((hso _ hV.h1.symm).trans (hblk _ hl3.1 hV.h7)) ((hso _ hV.h2.symm).trans (hblk _ hl3.2.1 hV.h9)) ((hso _ hV.h3.symm).trans (hblk _ hl3.2.2 hV.h10))⟩
  rw [List.length_append, List.map_append]
  exact own_far hown (p := ⟨V.bn, 0, none⟩) (fun e => hV.h4 e.symm) _

set_option maxRecDepth 100000 in
set_option maxHeartbeats 2000000 in
theorem next_succ (V : Vars) (hV : V.Apart) (t : Task) (p : Nat) (A : Option Addr) (n c : Nat) (A' : Option Addr) (n' c' : Nat) (Ac : Option Addr) (cc k : Nat) (hok : TaskOK t)
    (ih : ∀ (ss : List Int) (acc : Acc) (w : World), ss.length + k = n' → Fix V w t p A n c A' n' c' Ac cc → Ask t ss n' → NowM V w n' ss ss.length → AccM V w acc → Calls Tryz.prog 47 V.ptrs w (NextPost V n' ss (dfs t k acc ss) w))
    (ss : List Int) (acc : Acc) (w : World) (hl : ss.length + (k + 1) = n') (hF : Fix V w t p A n c A' n' c' Ac cc) (ha : Ask t ss n') (hN : NowM V w n' ss ss.length) (hA : AccM V w acc) :
    Calls Tryz.prog 47 V.ptrs w (NextPost V n' ss (dfs t (k + 1) acc ss) w) := by
  have hn4 : n' ≤ 4 := by have := hok.len; have := hF.pl.works.1.1; omega
  have hln : ss.length < n' := by omega
  have hxe : ∃ x, t.works[ss.length]? = some x := by
    have := hF.pl.works.1.1
    exact ⟨_, List.getElem?_eq_getElem (by omega)⟩
  obtain ⟨x, hx⟩ := hxe
  have hwk := workOK_of (hok.rows ss.length x hx).2.2.1
  have hdf : dfs t (k + 1) acc ss = (startsF t x).foldl (fun acc s => if anyMeet t (ss ++ [s]) ss.length then acc else dfs t k acc (ss ++ [s])) acc := by rw [dfs, hx]
  rw [hdf]
  clear hdf
  generalize hX : (startsF t x).foldl (fun acc s => if anyMeet t (ss ++ [s]) ss.length then acc else dfs t k acc (ss ++ [s])) acc = X
  have HX := Lib.hid hX; clear hX
  obtain ⟨adc, Ai, ci, e1, hec, hcc, hrc⟩ := hF.can ss.length x hx
  subst e1
  obtain ⟨i0, hi, hz0, hz1, hz2⟩ := info_parts info3
  have HSt : Hid (∀ s ∈ startsF t x, 0 ≤ s ∧ s ≤ 364) := fun s hs => startsF_day hwk hs
  have n0 := hN.1.cell (i := 0) rfl
  have t3 := hF.tb.cell (i := 3) rfl
  have c0 := hF.cb.cell (i := 0) rfl
  have x1 : V.bn < w.heap.size := hN.1.lt
  have x2 : V.bt < w.heap.size := hF.tb.lt
  have x3 : V.bp < w.heap.size := hF.pb.lt
  have x4 : V.bc < w.heap.size := hF.cb.lt
  have x5 : adc.block < w.heap.size := by have := cell_lt hcc; rwa [block_add] at this
  have heq : ((ss.length : Int) == (n' : Int)) = false := by simp; omega
  have hil : (ss.length : Int) < (n' : Int) := by omega
  have HF := Lib.hid hF; clear hF
  have HN := Lib.hid hN; clear hN
  have HA := Lib.hid hA; clear hA
  have HAsk := Lib.hid ha; clear ha
  have HL := Lib.hid hl; clear hl
  have HRC := Lib.hid hrc
  have hlc := hrc.1.1
  have HOK := Lib.hid hok; clear hok
  have HIH := Lib.hid ih; clear ih
  have HXw := Lib.hid hx; clear hx hwk hrc hec
  have hs4 := startsF_len t x
  generalize hst : startsF t x = st at *
  clear hst
  have ca := cell_alloc hcc (Obj.cells #[.int .i64 ↑ss.length] 3)
  have HPt : Hid (V.ptrs = #[.pointer (some ⟨V.bn, 0, none⟩), .pointer (some ⟨V.bt, 0, none⟩), .pointer (some ⟨V.bp, 0, none⟩), .pointer (some ⟨V.bf, 0, none⟩), .pointer (some ⟨V.bl, 0, none⟩), .pointer (some ⟨V.bs, 0, none⟩), .pointer (some ⟨V.bc, 0, none⟩), .pointer (some ⟨V.bx, 0, none⟩)]) := rfl
  rw [HPt.out]
  go_enter Tryz.func47, Tryz.ntmps47
  go_wp2_with fail
  obtain ⟨W1, hW1⟩ : ∃ W1, w.alloc (Obj.cells #[.int .i64 ↑ss.length] 3) = W1 := ⟨_, rfl⟩
  have K1 : Hid (Blk W1 w.heap.size 3 #[.int .i64 (ss.length : Int)]) := by rw [← hW1]; exact Blk.new _ _ _ rfl
  have HB1 : Hid (Below w.heap.size w W1) := by rw [← hW1]; exact (Below.refl _ _).alloc (Nat.le_refl _) _
  rw [hW1]
  clear hW1 ca n0 t3 c0 hcc
  have hEx : ¬ V.ex w.heap.size := by
    intro h
    have r1 : V.bf < w.heap.size ∧ V.bl < w.heap.size ∧ V.bs < w.heap.size := by
      have := HA.out
      cases acc with
      | none => obtain ⟨h1, ⟨_, _, h2, _⟩, _, h4⟩ := this; exact ⟨h1.lt, h2.lt, h4.lt⟩
      | some q => obtain ⟨h1, h2, _, _, _, h4, _⟩ := this; exact ⟨h1.lt, h2.lt, h4.lt⟩
    have r2 : V.R < w.heap.size := (HN.out.2.lt V.R rfl).2
    rcases h with h | h | h | h | h <;> omega
  have HEX := Lib.hid hEx; clear hEx
  go_loopw [50] (fun q wr => ∃ (j jj : Nat) (ac : Acc), j ≤ st.length ∧ q = .int .i64 j ∧ ss.length ≤ jj ∧ jj ≤ n' ∧ KeepEx V.ex W1 wr ∧ NowM V wr n' ss jj ∧ AccM V wr ac ∧ (st.drop j).foldl (fun acc s => if anyMeet t (ss ++ [s]) ss.length then acc else dfs t k acc (ss ++ [s])) ac = X) (fun q _ => st.length - (intOf q).toNat)
  case atStart => exact ⟨0, ss.length, acc, Nat.zero_le _, rfl, Nat.le_refl _, by omega, KeepEx.refl _ _, now_keep HN.out HB1.out, acc_keep HA.out HB1.out, HX.out⟩
  case round =>
    obtain ⟨j, jj, ac, hj, rfl, hj1, hj2, hK, hNw, hAc, hE⟩ := hrel
    have HK := Lib.hid hK; clear hK
    have HNw := Lib.hid hNw
    have HAc := Lib.hid hAc; clear hAc
    have HE := Lib.hid hE; clear hE
    have HKw : Hid (KeepEx V.ex w wr) := (KeepEx.of_below HB1.out).trans HK.out
    have n1 := hNw.1.cell (i := 0) rfl
    have k1 := (HK.out.blk K1.out HEX.out).cell (i := 0) rfl
    have y1 : V.bn < wr.heap.size := hNw.1.lt
    have y2 : w.heap.size < wr.heap.size := (HK.out.blk K1.out HEX.out).lt
    clear hNw
    by_cases hlt : j < st.length
    · obtain ⟨s, ad, hs, rfl, cs⟩ := rdI_get (HRC.out.keep HKw.out).1 hlt
      have hjl : (j : Int) < (st.length : Int) := by omega
      have HLt := Lib.hid hlt
      have HLn := Lib.hid hln
      have HSs := Lib.hid (HSt.out s (List.mem_of_getElem? hs))
      have HDr : Hid (st.drop j = s :: st.drop (j + 1)) := by
        have := List.drop_eq_getElem_cons hlt
        rw [(List.getElem?_eq_some_iff.1 hs).2] at this
        exact this
      clear hs
      have HAsk2 := Lib.hid (ask_snoc HAsk.out hln HSs.out.1 HSs.out.2)
      cases hm : anyMeet t (ss ++ [s]) ss.length with
      | true =>
        have HE2 : Hid ((st.drop (j + 1)).foldl (fun acc s => if anyMeet t (ss ++ [s]) ss.length then acc else dfs t k acc (ss ++ [s])) ac = X) := by
          have := HE.out
          rw [HDr.out, List.foldl_cons, hm] at this
          exact this
        have HM := Lib.hid hm; clear hm
        go_wp2_with (at_builtin; refine wpList_append_room rfl _ _ 31 rfl 0 3 i0 1 Tryz.underlying31 hi hz1 V.R ss.length n' _ rfl (HNw.out.2.alloc _) ⟨wr.heap.size, 0, none⟩ 1 1 [.int .i64 s] rfl rfl (cell_one_new _ _ _) (by simp [Value.oneCell']) (by omega) ?_; intro w2 hown' hgrow; obtain ⟨hK2, n2, hK3, hN3, hA3⟩ := round_put hV HK.out HNw.out HAc.out hown' hgrow; have k2 := (hK2.blk K1.out HEX.out).cell (i := 0) rfl; have n3 := n2.cell (i := 0) rfl; have n4 := n2.frozen 0; have HK3 := Lib.hid hK3; have HN3 := Lib.hid hN3; have HA3 := Lib.hid hA3; clear n2 hK2 hK3 hN3 hA3 hown' hgrow)
        refine (order_any ss.length (by omega) _).mono ?_
        rintro e W4 ⟨Ao, co, rfl, hro, hb4⟩
        have HRo := Lib.hid hro; clear hro
        clear k2 n3 n4
        have HK4 : Hid (KeepEx V.ex W1 W4) := HK3.out.below hb4
        have HN4 : Hid (NowM V W4 n' (ss ++ [s]) (ss.length + 1)) := now_keep HN3.out hb4
        have HA4 : Hid (AccM V W4 ac) := acc_keep HA3.out hb4
        have HKw4 : Hid (KeepEx V.ex w W4) := (KeepEx.of_below HB1.out).trans HK4.out
        clear hb4 HK3 HN3 HA3
        have hrdn : RdI W4 (some ⟨V.R, 0, none⟩) (ss.length + 1) (ss ++ [s]) := by
          obtain ⟨A2, c2, e2, hrd, _⟩ := rdI_of_own HN4.out.2 rfl
          cases e2
          rw [List.length_append] at hrd
          exact hrd
        have HCM := Lib.hid (containsMeets_any t p A n c A' n' c' (some ⟨V.R, 0, none⟩) (ss.length + 1) n' (ss ++ [s]) ss.length V.bp V.bn w.heap.size Ao co W4 (HF.out.pl.keep HKw4.out).pl HOK.out hrdn HAsk2.out (by omega) HRo.out (by omega) ((HKw4.out.blk HF.out.pb HF.out.o2).cell (i := 0) rfl) (HN4.out.1.cell (i := 0) rfl) ((HK4.out.blk K1.out HEX.out).cell (i := 0) rfl))
        rw [HM.out] at HCM
        clear hrdn
        go_wp2_with fail
        refine HCM.out.mono ?_
        rintro e W5 ⟨rfl, hb5⟩
        have HK5 : Hid (KeepEx V.ex W1 W5) := HK4.out.below hb5
        have HN5 : Hid (NowM V W5 n' (ss ++ [s]) (ss.length + 1)) := now_keep HN4.out hb5
        have HA5 : Hid (AccM V W5 ac) := acc_keep HA4.out hb5
        clear hb5 HK4 HN4 HA4
        go_wp2_with fail
        go_roundw
        case rel => exact ⟨j + 1, ss.length + 1, ac, HLt.out, by go_num, by omega, HLn.out, HK5.out, ⟨HN5.out.1, now_cut HN5.out.2⟩, HA5.out, HE2.out⟩
        case measure => have := HLt.out; simp [intOf]; omega
      | false =>
        have HE2 : Hid ((st.drop (j + 1)).foldl (fun acc s => if anyMeet t (ss ++ [s]) ss.length then acc else dfs t k acc (ss ++ [s])) (dfs t k ac (ss ++ [s])) = X) := by
          have := HE.out
          rw [HDr.out, List.foldl_cons, hm] at this
          exact this
        have HM := Lib.hid hm; clear hm
        go_wp2_with (at_builtin; refine wpList_append_room rfl _ _ 31 rfl 0 3 i0 1 Tryz.underlying31 hi hz1 V.R ss.length n' _ rfl (HNw.out.2.alloc _) ⟨wr.heap.size, 0, none⟩ 1 1 [.int .i64 s] rfl rfl (cell_one_new _ _ _) (by simp [Value.oneCell']) (by omega) ?_; intro w2 hown' hgrow; obtain ⟨hK2, n2, hK3, hN3, hA3⟩ := round_put hV HK.out HNw.out HAc.out hown' hgrow; have k2 := (hK2.blk K1.out HEX.out).cell (i := 0) rfl; have n3 := n2.cell (i := 0) rfl; have n4 := n2.frozen 0; have HK3 := Lib.hid hK3; have HN3 := Lib.hid hN3; have HA3 := Lib.hid hA3; clear n2 hK2 hK3 hN3 hA3 hown' hgrow)
        refine (order_any ss.length (by omega) _).mono ?_
        rintro e W4 ⟨Ao, co, rfl, hro, hb4⟩
        have HRo := Lib.hid hro; clear hro
        clear k2 n3 n4
        have HK4 : Hid (KeepEx V.ex W1 W4) := HK3.out.below hb4
        have HN4 : Hid (NowM V W4 n' (ss ++ [s]) (ss.length + 1)) := now_keep HN3.out hb4
        have HA4 : Hid (AccM V W4 ac) := acc_keep HA3.out hb4
        have HKw4 : Hid (KeepEx V.ex w W4) := (KeepEx.of_below HB1.out).trans HK4.out
        clear hb4 HK3 HN3 HA3
        have hrdn : RdI W4 (some ⟨V.R, 0, none⟩) (ss.length + 1) (ss ++ [s]) := by
          obtain ⟨A2, c2, e2, hrd, _⟩ := rdI_of_own HN4.out.2 rfl
          cases e2
          rw [List.length_append] at hrd
          exact hrd
        have HCM := Lib.hid (containsMeets_any t p A n c A' n' c' (some ⟨V.R, 0, none⟩) (ss.length + 1) n' (ss ++ [s]) ss.length V.bp V.bn w.heap.size Ao co W4 (HF.out.pl.keep HKw4.out).pl HOK.out hrdn HAsk2.out (by omega) HRo.out (by omega) ((HKw4.out.blk HF.out.pb HF.out.o2).cell (i := 0) rfl) (HN4.out.1.cell (i := 0) rfl) ((HK4.out.blk K1.out HEX.out).cell (i := 0) rfl))
        rw [HM.out] at HCM
        clear hrdn
        go_wp2_with fail
        refine HCM.out.mono ?_
        rintro e W5 ⟨rfl, hb5⟩
        have HK5 : Hid (KeepEx V.ex W1 W5) := HK4.out.below hb5
        have HN5 : Hid (NowM V W5 n' (ss ++ [s]) (ss.length + 1)) := now_keep HN4.out hb5
        have HA5 : Hid (AccM V W5 ac) := acc_keep HA4.out hb5
        clear hb5 HK4 HN4 HA4
        have HKw5 : Hid (KeepEx V.ex w W5) := (KeepEx.of_below HB1.out).trans HK5.out
        have hsl : (ss ++ [s]).length = ss.length + 1 := by simp
        have HIC := Lib.hid (HIH.out (ss ++ [s]) ac W5 (by have := HL.out; omega) (HF.out.keep HKw5.out) HAsk2.out (by rw [hsl]; exact HN5.out) HA5.out)
        rw [HPt.out] at HIC
        have x7 := (HKw5.out.blk HF.out.xb HF.out.o4).cell (i := 0) rfl
        rw [HPt.out] at x7
        clear hsl
        go_wp2_with fail
        refine HIC.out.mono ?_
        rintro e W6 ⟨rfl, hK6, hN6, hA6⟩
        have HK6 := Lib.hid (HK5.out.trans hK6)
        have HN6 := Lib.hid hN6
        have HA6 := Lib.hid hA6
        clear hK6 hN6 hA6 x7
        go_wp2_with fail
        go_roundw
        case rel => exact ⟨j + 1, ss.length + 1, dfs t k ac (ss ++ [s]), HLt.out, by go_num, by omega, HLn.out, HK6.out, ⟨by have := HN6.out.1; rw [List.length_append] at this; exact this, now_cut HN6.out.2⟩, HA6.out, HE2.out⟩
        case measure => have := HLt.out; simp [intOf]; omega
    · obtain rfl : j = st.length := by omega
      have z1 := HNw.out.1.frozen 0
      have HE2 : Hid (ac = X) := by have := HE.out; rw [List.drop_length] at this; exact this
      have hjj : (ss.length : Int) ≤ (n' : Int) := by omega
      have HFin : Hid (NextPost V n' ss X w (.returned (.tuple #[])) (wr.setCell ⟨V.bn, 0, none⟩ (.slice (some ⟨V.R, 0, none⟩) ss.length n'))) := by
        have hK7 : KeepEx V.ex wr (wr.setCell ⟨V.bn, 0, none⟩ (.slice (some ⟨V.R, 0, none⟩) ss.length n')) := (KeepEx.refl _ _).setCell (p := ⟨V.bn, 0, none⟩) (.inl rfl) _
        have hso : ∀ k, k ≠ V.bn → (wr.setCell ⟨V.bn, 0, none⟩ (.slice (some ⟨V.R, 0, none⟩) ss.length n')).heap[k]? = wr.heap[k]? := fun k hk => Below.heap_setCell wr ⟨V.bn, 0, none⟩ _ k hk
        refine ⟨rfl, HKw.out.trans hK7, ⟨HNw.out.1.set 0 _, own_far HNw.out.2 (p := ⟨V.bn, 0, none⟩) (fun e => hV.h4 e.symm) _⟩, ?_⟩
        rw [← HE2.out]
        exact acc_but HAc.out hK7 (hso _ hV.h1.symm) (hso _ hV.h2.symm) (hso _ hV.h3.symm)
      go_wp2_with fail
      refine bodyPost_ret (results_none rfl _ _ _) rfl HFin.out

theorem next_any (V : Vars) (hV : V.Apart) (t : Task) (p : Nat) (A : Option Addr) (n c : Nat) (A' : Option Addr) (n' c' : Nat) (Ac : Option Addr) (cc : Nat) (hok : TaskOK t) :
    ∀ (k : Nat) (ss : List Int) (acc : Acc) (w : World), ss.length + k = n' → Fix V w t p A n c A' n' c' Ac cc → Ask t ss n' → NowM V w n' ss ss.length → AccM V w acc → Calls Tryz.prog 47 V.ptrs w (NextPost V n' ss (dfs t k acc ss) w)
  | 0, ss, acc, w, hl, hF, ha, hN, hA => next_zero V hV t p A n c A' n' c' Ac cc ss acc w hF hok ha hl hN hA
  | k + 1, ss, acc, w, hl, hF, ha, hN, hA => next_succ V hV t p A n c A' n' c' Ac cc k hok (next_any V hV t p A n c A' n' c' Ac cc hok k) ss acc w hl hF ha hN hA
end Go.Proofs.YtjdaigffgfnhaaaGreat
