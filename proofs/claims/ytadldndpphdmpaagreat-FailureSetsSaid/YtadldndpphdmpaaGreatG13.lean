/- run, by the program: when each node has failed. -/
import Derived.Test.YtadldndpphdmpaaGreatJ2
import Derived.Test.YtadldndpphdmpaaGreatQA
namespace Go.Proofs.YtadldndpphdmpaaGreat
open Go.RowKit Go.Shelf

/-- A list of spans that lies in a row of its own kind. -/
def SpO (w : World) (p : SpP) : Prop := w.ownsRow 0 84 3 (.slice p.2.1 p.1.length p.2.2) p.1.length (p.1.flatMap Sp.enc)
theorem SpO.rd {w : World} {p : SpP} (h : SpO w p) : RdS w p.2.1 p.1.length p.1 := by
  obtain ⟨A, c, e, h1, _, _⟩ := rd_of_own enc3 h rfl
  cases e
  exact h1
theorem SpO.below {w w' : World} {p : SpP} (h : SpO w p) (hb : Below w.heap.size w w') : SpO w' p := own_far h (grown_of_below hb none) (fun r e => by cases e)
theorem SpO.far {w w' : World} {p : SpP} {row : Option Nat} (h : SpO w p) (hg : w.grownBy w' row) (hr : ∀ r, row = some r → ∃ o : Obj, w.heap[r]? = some o ∧ ∀ cs m, o ≠ .cells cs 84 m) : SpO w' p := own_far h hg (fun r e => .inr (hr r e))
abbrev SpP.v (p : SpP) : Value := .slice p.2.1 p.1.length p.2.2
theorem own_typed {w : World} {base : Nat} {e e' : TypeId} {size : Nat} {v : Value} {n : Nat} {xs : List Value} (h : w.ownsRow base e size v n xs) (hne : e ≠ e') : ∀ r, v.ownBlock = some r → ∃ o : Obj, w.heap[r]? = some o ∧ ∀ cs m, o ≠ .cells cs e' m := fun r hr => by
  rcases h.2 with ⟨rfl, _⟩ | ⟨g, cap, cur, rfl, _, hgb, _⟩
  · simp [Value.ownBlock] at hr
  · have : g = r := by simpa [Value.ownBlock] using hr
    subst this
    exact ⟨_, hgb, fun cs m e' => by cases e'; exact hne rfl⟩
/-- Rows of spans: a row of the call's own that holds slices, each a row of spans. -/
structure Rows (w : World) (base : Nat) (v : Value) (ps : List SpP) : Prop where
  row : w.ownsRow base 82 1 v ps.length (ps.map SpP.v)
  all : ∀ p ∈ ps, SpO w p
theorem Rows.below {w w' : World} {base : Nat} {v : Value} {ps : List SpP} (h : Rows w base v ps) (hb : Below w.heap.size w w') : Rows w' base v ps :=
  ⟨own_far h.row (grown_of_below hb none) (fun r e => by cases e), fun p hp => (h.all p hp).below hb⟩
theorem Rows.nil (w : World) (base : Nat) : Rows w base (.slice none 0 0) [] := ⟨World.ownsRow_nil _ _ _ _, by simp⟩
/-- A list more. -/
theorem Rows.snoc {w w' : World} {base : Nat} {v v' : Value} {ps : List SpP} {p : SpP} (h : Rows w base v ps) (hp : SpO w p) (hg : w.grownBy w' v.ownBlock) (hown : w'.ownsRow base 82 1 v' (ps.length + 1) (ps.map SpP.v ++ [SpP.v p])) : Rows w' base v' (ps ++ [p]) := by
  refine ⟨by rw [List.length_append, List.map_append]; exact hown, fun q hq => ?_⟩
  have hq' : SpO w q := by
    rcases List.mem_append.1 hq with hq | hq
    · exact h.all q hq
    · simp at hq; subst hq; exact hp
  exact hq'.far hg (own_typed h.row (by decide))
theorem Rows.sps {w : World} {base : Nat} {v : Value} {ps : List SpP} (h : Rows w base v ps) : ∃ A c, v = .slice A ps.length c ∧ SpsM w A ps.length (ps.map (·.1)) ps := by
  have hr := h.row
  rw [map_flat SpP.v] at hr
  obtain ⟨A, c, rfl, h1, _, _⟩ := rd_of_own (enc := fun p => [SpP.v p]) (k := 1) (fun _ => rfl) hr rfl
  exact ⟨A, c, rfl, ⟨h1, rfl, fun p hp => (h.all p hp).rd⟩⟩
theorem infoSs : (Tryz.prog.info? 82).map (fun i => (i.zero, i.size, i.bytes)) = some (some (.slice none 0 0), 1, 24) := by kernel_rfl

theorem SpO.new {w : World} {b : Nat} {s : Sp} (h : Blk w b 84 #[.int .i64 s.nd, .int .i64 s.a, .int .i64 s.b]) : SpO w ([s], some ⟨b, 0, none⟩, 1) :=
  ⟨rfl, .inr ⟨b, 1, _, rfl, Nat.zero_le _, h, Nat.le_refl _, by unfold maxLen; omega, rfl, rfl⟩⟩
theorem SpO.of {w : World} {base : Nat} {l : List Sp} {A : Option Addr} {c : Nat} (h : w.ownsRow base 84 3 (.slice A l.length c) l.length (l.flatMap Sp.enc)) : SpO w (l, A, c) := own_lower h (Nat.zero_le _)
theorem holdL_take {h : Int} {l : List Sp} {j : Nat} {s : Sp} (hs : l[j]? = some s) : holdL h (l.take (j + 1)) = holdL h (l.take j) ++ if s.a + h < s.b then [⟨s.nd, s.a + h, s.b⟩] else [] := by
  obtain ⟨hk, rfl⟩ := List.getElem?_eq_some_iff.1 hs
  unfold holdL
  rw [List.take_succ_eq_append_getElem hk, List.filter_append, List.map_append]
  congr 1
  by_cases c : l[j].a + h < l[j].b <;> simp [c]
theorem ones_take {l : List Sp} {j : Nat} {s : Sp} (hs : l[j]? = some s) : (((l.take (j + 1)).filter fun s => decide (s.a < s.b)).map fun s => [s]) = (((l.take j).filter fun s => decide (s.a < s.b)).map fun s => [s]) ++ if s.a < s.b then [[s]] else [] := by
  obtain ⟨hk, rfl⟩ := List.getElem?_eq_some_iff.1 hs
  rw [List.take_succ_eq_append_getElem hk, List.filter_append, List.map_append]
  congr 1
  by_cases c : l[j].a < l[j].b <;> simp [c]

/-- What run returns. -/
def RunPost (w : World) (t : List Nd) (own : Nat → List Sp) (e : Ending) (w' : World) : Prop :=
  ∃ v ps, e = .returned v ∧ Rows w' w.heap.size v ps ∧ ps.map (·.1) = (List.range t.length).map (spL t own) ∧ Below w.heap.size w w'

set_option maxRecDepth 100000 in
set_option maxHeartbeats 8000000 in
theorem run_any (t : List Nd) (own : Nat → List Sp) (fn : Nat) (caps : Array Value) (hi : Int) (Bs : List Int) (T : Nat) (A : Option Addr) (n c : Nat) (ms : List NdM) (R : Option Addr) (cr M k : Nat) (w : World) (hF : FT w T t A n c ms R cr M k)
    (eg : ∀ args w, (callFunc fn args).run Tryz.prog w = .ok (.enter fn args) w)
    (hown : ∀ (i : Nat) (W : World), isBas t i = true → Below w.heap.size w W → Calls Tryz.prog fn (#[.int .i64 (i : Int)] ++ caps) W fun e W' => ∃ B c, e = .returned (.slice B (own i).length c) ∧ RdS W' B (own i).length (own i) ∧ Below W.heap.size W W')
    (hr : ∀ i, isBas t i = true → InR 0 hi (own i)) (hhi : hi ≤ 1500000000) (hB : ∀ i, isBas t i = true → ∀ s ∈ own i, s.b ∈ Bs) (hBs : Bs.length ≤ 1000) (hol : ∀ i, isBas t i = true → (own i).length ≤ 1000) :
    Calls Tryz.prog 41 #[.pointer (some ⟨T, 0, none⟩), .func (.func fn) #[] caps] w (RunPost w t own) := by
  have hok := hF.ok
  have hln := hF.tr.len
  have n1 := hok.l1
  have n40 := hok.l40
  rw [hln] at n1 n40
  have HOK := Lib.hid hok; have HLn := Lib.hid hln; have HF := Lib.hid hF; have HOwn := Lib.hid hown; have HR := Lib.hid hr; have HBb := Lib.hid hB
  have HOl := Lib.hid hol
  have b1 := hF.blk.cell (i := 1) rfl
  have bz := hF.blk.lt
  have HEg := Lib.hid eg
  clear hok hln hF hown hr hB hol eg
  go_enter Tryz.func41, Tryz.ntmps41
  go_wp2_with fail
  clear b1 bz
  go_loopw [4, 20] (fun v i wr => ∃ (q : Nat) (ps : List SpP), q ≤ n ∧ i = .int .i64 q ∧ Rows wr w.heap.size v ps ∧ ps.map (·.1) = (List.range q).map (spL t own) ∧ Below w.heap.size w wr) (fun _ i _ => n - (intOf i).toNat)
  case atStart => exact ⟨0, [], Nat.zero_le _, rfl, Rows.nil _ _, rfl, Below.refl _ _⟩
  case round =>
    obtain ⟨q, ps, hq, rfl, hRo, hPs, hB⟩ := hrel
    have HRo := Lib.hid hRo; have HPs := Lib.hid hPs; have HB := Lib.hid hB
    have hpl : ps.length = q := by have := congrArg List.length hPs; simpa using this
    have HPl := Lib.hid hpl
    clear hRo hPs hB hpl
    by_cases hlt : q < n
    · obtain ⟨x, rd, hx, hRr, hcx⟩ := (HF.out.rl.below HB.out).get hlt
      have hcx0 : wr.cell? (rd.add q) = some (ruleV x) := by have := hcx 0 _ rfl; rw [Nat.mul_one] at this; exact this
      obtain ⟨m, bd, hm, hA, ha, hN⟩ := (HF.out.tr.below HB.out).get hlt
      rw [hx] at hm
      cases hm
      subst hA hRr
      have HNd := Lib.hid (HOK.out.nd q m.nd hx)
      have HEq := Lib.hid (spL_eq HOK.out own hx)
      have HBk : Hid (isBas t q = (m.nd.kind == 1)) := isBas_kind hx
      have HN := Lib.hid hN
      obtain ⟨c0, c1, c2, c3, c4⟩ := ha.five
      have hcz : (bd.add (q * 5)).block < wr.heap.size := cell_lt c0
      have KB := HF.out.blk.later HB.out
      have b0 := KB.cell (i := 0) rfl
      have b1 := KB.cell (i := 1) rfl
      have bz := KB.lt
      have hl10 := HNd.out.l10
      have hh0 := HNd.out.h0
      have hh1 := HNd.out.h1
      have hwz := HB.out.size
      clear hx ha hN hcx KB
      obtain ⟨⟨na, ki, li, cn, ho⟩, A2, c2'⟩ := m
      dsimp only at *
      by_cases hk1 : ki = 1
      · rw [show ruleV ⟨na, ki, li, cn, ho⟩ = .iface 95 (.agg #[]) by unfold ruleV; rw [if_pos hk1]] at hcx0
        have hbq : isBas t q = true := by rw [HBk.out]; simpa using hk1
        have hcall := HOwn.out q wr hbq HB.out
        have HCall := Lib.hid hcall
        have hta := ta_one
        have heg := HEg.out
        clear hcall
        go_wp2_with fail
        refine HCall.out.mono ?_
        rintro e W2 ⟨B, cB, rfl, hrd2, hb2⟩
        have HB2 : Hid (Below wr.heap.size wr W2) := hb2
        have HRd2 := Lib.hid hrd2
        have hol := HOl.out q hbq
        have HRq := Lib.hid (HR.out q hbq)
        have HBq := Lib.hid (HBb.out q hbq)
        have HNV : Hid (need ⟨na, ki, li, cn, ho⟩ = 1) := by unfold need; show _ = _; rw [if_pos hk1]
        have HLsF : Hid (lsF own q ⟨na, ki, li, cn, ho⟩ (spL t own) = ((own q).filter fun s => decide (s.a < s.b)).map fun s => [s]) := by unfold lsF; show _ = _; rw [if_pos hk1]
        have HHo : Hid (ho = 0) := HNd.out.hb hk1
        obtain ⟨ii, hii, hzi0, hzi1, hzi2⟩ := info_parts infoSs
        clear hb2 hrd2 hcx0 c0 c1 c2 c3 c4 hcz b0 b1 bz hta heg hk1 HCall
        go_wp2_with fail
        obtain ⟨wq, rfl⟩ : ∃ wq : World, wq = wr := ⟨_, rfl⟩
        go_loopw [7, 33] (fun v i wr => ∃ (j : Nat) (LL : List SpP), j ≤ (own q).length ∧ i = .int .i64 j ∧ LL.length ≤ j ∧ LL.map (·.1) = (((own q).take j).filter fun s => decide (s.a < s.b)).map (fun s => [s]) ∧ Rows wr W2.heap.size v LL ∧ Below W2.heap.size W2 wr) (fun _ i _ => (own q).length - (intOf i).toNat)
        case atStart => exact ⟨0, [], Nat.zero_le _, rfl, Nat.zero_le _, rfl, Rows.nil _ _, Below.refl _ _⟩
        case round =>
          obtain ⟨j, LL, hj, rfl, hLLl, hLL, hRL, hB3⟩ := hrel
          have HLL := Lib.hid hLL; have HRL := Lib.hid hRL; have HB3 := Lib.hid hB3
          clear hLL hRL hB3
          by_cases hjl : j < (own q).length
          · obtain ⟨s, sd, hs, hAs, hcs⟩ := (HRd2.out.below HB3.out).get hjl
            subst hAs
            obtain ⟨d0, d1, d2⟩ := hcs.three
            have HTk := Lib.hid (ones_take hs)
            have hBz := HB3.out.size
            have HBz := Lib.hid hBz
            have hjl' : (j : Int) < ((own q).length : Int) := by omega
            clear hs hcs
            obtain ⟨sn, sa, sb⟩ := s
            dsimp only at *
            have HW4 : Hid (Below wr.heap.size wr (wr.alloc (.cells #[.int .i64 sn, .int .i64 sa, .int .i64 sb] 84))) := (Below.refl _ _).alloc (Nat.le_refl _) _
            have HW5 : Hid (Below wr.heap.size wr ((wr.alloc (.cells #[.int .i64 sn, .int .i64 sa, .int .i64 sb] 84)).alloc (.cells #[.int .i64 sn, .int .i64 sa, .int .i64 sb] 84))) := HW4.out.alloc (by simp) _
            have HR5 := Lib.hid (HRL.out.below HW5.out)
            have HN5 : Hid (SpO ((wr.alloc (.cells #[.int .i64 sn, .int .i64 sa, .int .i64 sb] 84)).alloc (.cells #[.int .i64 sn, .int .i64 sa, .int .i64 sb] 84)) ([⟨sn, sa, sb⟩], some ⟨wr.heap.size + 1, 0, none⟩, 1)) := SpO.new (Blk.new _ _ _ (by simp))
            have HZ5 : Hid (W2.heap.size ≤ ((wr.alloc (.cells #[.int .i64 sn, .int .i64 sa, .int .i64 sb] 84)).alloc (.cells #[.int .i64 sn, .int .i64 sa, .int .i64 sb] 84)).heap.size) := by show _ ≤ _; simp; omega
            have HQ5 : Hid (wr.heap.size + 1 + 1 = ((wr.alloc (.cells #[.int .i64 sn, .int .i64 sa, .int .i64 sb] 84)).alloc (.cells #[.int .i64 sn, .int .i64 sa, .int .i64 sb] 84)).heap.size) := by show _ = _; simp
            by_cases hab : sa < sb
            · have hab' : decide (sa < sb) = true := by simpa using hab
              have HLL2 : Hid ((LL ++ [(([(⟨sn, sa, sb⟩ : Sp)], (some ⟨wr.heap.size + 1, 0, none⟩ : Option Addr), 1) : SpP)]).map (fun p => p.1) = (((own q).take (j + 1)).filter fun s => decide (s.a < s.b)).map (fun s => [s])) := by rw [HTk.out, List.map_append, HLL.out, if_pos hab]; exact rfl
              clear hab
              go_wp2_with (first | (refine wpList_buildSlice_one rfl 82 84 _ rfl 3 _ #[.int .i64 sn, .int .i64 sa, .int .i64 sb] rfl Tryz.underlying82 (Tryz.sizeOf84 _) (Tryz.zeroValue84 _) rfl (by omega) (by omega) ?_) | (at_builtin; refine wpList_append_one rfl _ _ 80 rfl W2.heap.size 82 ii (.slice none 0 0) 24 Tryz.underlying80 hii hzi0 hzi1 hzi2 rfl _ _ _ rfl HR5.out.row (.slice (some ⟨wr.heap.size + 1, 0, none⟩) 1 1) (wr.heap.size + 1 + 1) HQ5.out rfl (by simp [Value.oneCell']) (by unfold maxLen; omega) (by omega) HZ5.out ?_; intro A' c'' w2 hown' hgrow _; have HO2 := Lib.hid hown'; have HG2 := Lib.hid hgrow; clear hown' hgrow))
              go_roundw
              case rel => exact ⟨j + 1, _, by omega, by go_num, by rw [List.length_append]; simp; omega, HLL2.out, HR5.out.snoc HN5.out HG2.out HO2.out, (HB3.out.trans (HW5.out.mono HBz.out)).grown HG2.out HZ5.out (fun r e => (HR5.out.row.lt r e).1)⟩
              case measure => simp [intOf]; omega
            · have hab' : decide (sa < sb) = false := by simpa using hab
              have HLL2 : Hid (LL.map (·.1) = (((own q).take (j + 1)).filter fun s => decide (s.a < s.b)).map (fun s => [s])) := by rw [HTk.out, if_neg hab, List.append_nil]; exact HLL.out
              clear hab
              go_wp2_with fail
              go_roundw
              case rel => exact ⟨j + 1, LL, by omega, by go_num, by omega, HLL2.out, HRL.out.below HW4.out, HB3.out.trans (HW4.out.mono HBz.out)⟩
              case measure => simp [intOf]; omega
          · obtain rfl : j = (own q).length := by omega
            rw [List.take_length, ← HLsF.out] at HLL
            have HBwq : Hid (Below wq.heap.size wq wr) := HB2.out.trans (HB3.out.mono HB2.out.size)
            have HLl : Hid (LL.length ≤ 100000) := by show _ ≤ _; omega
            have HNeed : Hid (∀ W, Calls Tryz.prog 126 #[.agg #[]] W fun e w' => e = .returned (.int .i64 1) ∧ Below W.heap.size W w') := one_need
            have HHold : Hid (∀ W, Calls Tryz.prog 125 #[.agg #[]] W fun e w' => e = .returned (.int .i64 ho) ∧ Below W.heap.size W w') := fun W => by rw [HHo.out]; exact one_hold W
            have HLr : Hid (InR 0 hi (lsF own q ⟨na, ki, li, cn, ho⟩ (spL t own)).flatten) := fun s hs => by
              rw [HLsF.out] at hs
              obtain ⟨u, hu, hsu⟩ := List.mem_flatten.1 hs
              obtain ⟨v, hv, rfl⟩ := List.mem_map.1 hu
              rw [List.mem_singleton] at hsu
              subst hsu
              exact HRq.out _ (List.mem_filter.1 hv).1
            have HLb : Hid (∀ s ∈ (lsF own q ⟨na, ki, li, cn, ho⟩ (spL t own)).flatten, s.b ∈ Bs) := fun s hs => by
              rw [HLsF.out] at hs
              obtain ⟨u, hu, hsu⟩ := List.mem_flatten.1 hs
              obtain ⟨v, hv, rfl⟩ := List.mem_map.1 hu
              rw [List.mem_singleton] at hsu
              subst hsu
              exact HBq.out _ (List.mem_filter.1 hv).1
            have HLn2 : Hid ((lsF own q ⟨na, ki, li, cn, ho⟩ (spL t own)).flatten.length ≤ 100000) := by
              show _ ≤ _
              rw [HLsF.out]
              have e2 : (((own q).filter fun s => decide (s.a < s.b)).map fun s => [s]).flatten = (own q).filter fun s => decide (s.a < s.b) := by
                generalize (own q).filter (fun s => decide (s.a < s.b)) = l
                induction l with
                | nil => rfl
                | cons a r ih => rw [List.map_cons, List.flatten_cons, ih]; rfl
              rw [e2]
              have := List.length_filter_le (fun s : Sp => decide (s.a < s.b)) (own q)
              omega
            clear hii hzi0 hzi1 hzi2 HRq HBq HRd2
            -- LL: the lists; they are joined
            have HIn : Hid (InR 0 hi (LL.map (·.1)).flatten) := by rw [HLL.out]; exact HLr.out
            have HLlen : Hid ((LL.map (·.1)).flatten.length ≤ 100000) := by rw [HLL.out]; exact HLn2.out
            obtain ⟨AL, cL, e0, hsps⟩ := HRL.out.sps
            subst e0
            have hLl : LL.length ≤ 100000 := HLl.out
            have HSps := Lib.hid hsps
            have hmeth := need_one
            clear hsps
            go_wp2_with fail
            refine (HNeed.out _).mono ?_
            rintro e W5 ⟨rfl, hb5⟩
            have HB5 : Hid (Below wr.heap.size wr W5) := hb5
            have HJ := Lib.hid (join_any (LL.map (·.1)) (q : Int) 1 AL LL.length cL LL hi W5 (HSps.out.below HB5.out) hLl HIn.out (by omega) HLlen.out (show (1 : Int) ≤ 1 by decide) (show (1 : Int) ≤ 100000 by decide))
            clear hb5 hmeth
            go_wp2_with fail
            refine HJ.out.mono ?_
            rintro e W6 ⟨vJ, rfl, hrJ, hbJ⟩
            have HJs : Hid (joinL (q : Int) 1 (LL.map (·.1)).flatten = joinL (q : Int) 1 (LL.map (·.1)).flatten) := rfl
            obtain ⟨hjc, hjr, _⟩ := joinL_spec (n := (q : Int)) (show (1 : Int) ≤ 1 by decide) HIn.out
            have HJr := Lib.hid hjr
            have HFin : Hid (holdL ho (joinL (q : Int) 1 (LL.map (·.1)).flatten) = spL t own q) := by have h := HEq.out; unfold runF at h; show _ = _; rw [h, HLL.out, HNV.out]
            have HJb : Hid ((joinL (q : Int) 1 (LL.map (·.1)).flatten).length ≤ 100000) := by
              have h1 := canon_len (Bs := Bs) hjc (fun s hs => by
                obtain ⟨u, hu, e⟩ := joinL_b (by decide) hs
                rw [← e]
                rw [HLL.out] at hu
                exact HLb.out u hu)
              show _ ≤ _
              omega
            generalize joinL (q : Int) 1 (LL.map (·.1)).flatten = JL at *
            obtain ⟨AJ, cJ, e0, hrdJ, _, _⟩ := rd_of_own enc3 hrJ rfl
            subst e0
            have HRdJ := Lib.hid hrdJ
            have HB6 : Hid (Below wr.heap.size wr W6) := HB5.out.trans (hbJ.mono HB5.out.size)
            have hjl := HJb.out
            clear hrJ hbJ hrdJ hjc hjr HJ HJs HSps HIn HLlen hLl HLr HLn2 HLl HLL HLb
            obtain ⟨jj, hij, hzj0, hzj1, hzj2⟩ := info_parts infoSp
            go_wp2_with fail
            obtain ⟨wo, rfl⟩ : ∃ wo : World, wo = wr := ⟨_, rfl⟩
            go_loopw [12, 78] (fun v i wr => ∃ (j : Nat) (sp : List Sp), j ≤ JL.length ∧ i = .int .i64 j ∧ sp = holdL ho (JL.take j) ∧ sp.length ≤ j ∧ wr.ownsRow W6.heap.size 84 3 v sp.length (sp.flatMap Sp.enc) ∧ Below W6.heap.size W6 wr) (fun _ i _ => JL.length - (intOf i).toNat)
            case atStart => exact ⟨0, [], Nat.zero_le _, rfl, by simp [holdL], Nat.zero_le _, World.ownsRow_nil _ _ _ _, Below.refl _ _⟩
            case round =>
              obtain ⟨j, sp, hj, rfl, hsp, hspl, hrw, hB7⟩ := hrel
              have HSp := Lib.hid hsp; have HRw := Lib.hid hrw; have HB7 := Lib.hid hB7
              clear hsp hrw hB7
              by_cases hjl2 : j < JL.length
              · obtain ⟨s, sd, hs, hAs, hcs⟩ := (HRdJ.out.below HB7.out).get hjl2
                subst hAs
                have hcs3 := hcs.three
                obtain ⟨d0, d1, d2⟩ := hcs3
                obtain ⟨sb0, sb1, sb2⟩ := HJr.out s (List.mem_of_getElem? hs)
                have HTk := Lib.hid (holdL_take (h := ho) hs)
                have hjl' : (j : Int) < (JL.length : Int) := by omega
                have hBz := HB7.out.size
                have HBz := Lib.hid hBz
                clear hs hcs
                obtain ⟨sn, sa, sb⟩ := s
                dsimp only at *
                go_wp2_with fail
                clear d0 d1 d2
                obtain ⟨W8, hW8⟩ : ∃ W8, wr.alloc (.cells #[.int .i64 sn, .int .i64 sa, .int .i64 sb] 84) = W8 := ⟨_, rfl⟩
                have K8 : Hid (Blk W8 wr.heap.size 84 #[.int .i64 sn, .int .i64 sa, .int .i64 sb]) := by rw [← hW8]; exact Blk.new _ _ _ rfl
                have HB8 : Hid (Below wr.heap.size wr W8) := by rw [← hW8]; exact (Below.refl _ _).alloc (Nat.le_refl _) _
                rw [hW8]
                clear hW8
                have x1 := later_cell (K8.out.cell (i := 1) rfl)
                have hw2 : IntKind.i64.wrap (sa + ho) = sa + ho := IntWalk.i64_in _ ⟨by omega, by omega⟩
                have HS0 : Hid ((fun w' => ∃ u : Later W8, w' = u.w) W8.drew) := ⟨⟨W8.drew, (Below.refl _ _).drew⟩, rfl⟩
                refine wp_region_noPanic ?_
                refine wp_region_ord (fun w' => ∃ u : Later W8, w' = u.w) 6 (fun k => !(k == 3 || k == 6)) (ordOf _ [0, 1, 2, 3, 4, 5, 6]) (by kernel_rfl) (by kernel_rfl) (ordOf_mem _ _) (fun _ _ _ _ _ h => h) ?_
                simp only [ordOf, List.filterMap_cons, List.filterMap_nil, List.getElem?_cons_zero, List.getElem?_cons_succ, Option.map_some]
                iterate 3 (refine ord_quiet rfl rfl rfl HS0.out ?_; intro K hK; go_big_quiet_op; go_big_quiet_on)
                have hmeth := hold_one
                refine ord_op rfl ?_
                go_wp2_with (refine (HHold.out _).mono ?_; rintro e W9 ⟨rfl, hb9⟩; have HB9 : Hid (Below W8.heap.size W8 W9) := ((Below.refl _ W8).drew).trans hb9; clear hb9)
                have HS9 : Hid ((fun w' => ∃ u : Later W8, w' = u.w) W9) := ⟨⟨W9, HB9.out⟩, rfl⟩
                refine mix_post (fun _ => HS9.out) ?_
                iterate 2 (refine ord_quiet rfl rfl rfl HS9.out ?_; intro K hK; go_big_quiet_op; go_big_quiet_on)
                have K9 := Lib.hid (K8.out.later HB9.out)
                clear x1 hw2 hmeth
                have x1 := K9.out.cell (i := 1) rfl
                have x1f := K9.out.frozen 1
                have xz := K9.out.lt
                refine ord_op rfl ?_
                go_wp2_with fail
                refine mix_post (fun h => absurd h (by decide)) ?_
                refine ord_nil ?_
                refine NoPanic.normal ?_
                clear x1 x1f xz
                obtain ⟨W10, hW10⟩ : ∃ W10, W9.setCell ⟨wr.heap.size, 1, none⟩ (.int .i64 (sa + ho)) = W10 := ⟨_, rfl⟩
                have K10 : Hid (Blk W10 wr.heap.size 84 #[.int .i64 sn, .int .i64 (sa + ho), .int .i64 sb]) := by rw [← hW10]; exact K9.out.set 1 _
                have HB10 : Hid (Below wr.heap.size wr W10) := by rw [← hW10]; exact (HB8.out.trans (HB9.out.mono HB8.out.size)).setCell (Nat.le_refl _) _
                rw [hW10]
                clear hW10
                have y0 := K10.out.cell (i := 0) rfl
                have y1 := K10.out.cell (i := 1) rfl
                have y2 := K10.out.cell (i := 2) rfl
                have yz := K10.out.lt
                have HRw10 : Hid (W10.ownsRow W6.heap.size 84 3 u12 sp.length (sp.flatMap Sp.enc)) := own_far HRw.out (grown_of_below HB10.out none) (fun r e => by cases e)
                have HZ10 : Hid (W6.heap.size ≤ W10.heap.size) := by have := HB10.out.size; show _ ≤ _; omega
                by_cases hab : sa + ho < sb
                · have HSp2 : Hid (sp ++ [⟨sn, sa + ho, sb⟩] = holdL ho (JL.take (j + 1))) := by rw [HTk.out, HSp.out, if_pos hab]; exact rfl
                  have hab' : decide (sa + ho < sb) = true := by simp only [decide_eq_true_eq]; omega
                  have HEn : Hid ((sp ++ [(⟨sn, sa + ho, sb⟩ : Sp)]).flatMap Sp.enc = sp.flatMap Sp.enc ++ [.int .i64 sn, .int .i64 (sa + ho), .int .i64 sb]) := by show _ = _; simp
                  clear hab
                  go_wp2_with (first | (refine wpList_buildSlice_one rfl 82 84 _ rfl 3 _ #[.int .i64 sn, .int .i64 (sa + ho), .int .i64 sb] rfl Tryz.underlying82 (Tryz.sizeOf84 _) (Tryz.zeroValue84 _) rfl (by omega) (by omega) ?_) | (at_builtin; refine wpList_append_st rfl _ _ 82 rfl W6.heap.size 84 jj (.agg #[.int .i64 0, .int .i64 0, .int .i64 0]) 3 24 Tryz.underlying82 hij hzj0 hzj1 hzj2 rfl (by decide) _ _ _ rfl HRw10.out #[.int .i64 sn, .int .i64 (sa + ho), .int .i64 sb] rfl W10.heap.size rfl rfl (by simp [Value.oneCell']) (by unfold maxLen; omega) (by omega) HZ10.out ?_; intro A' c'' w2 hown' hgrow _; have HO2 := Lib.hid hown'; have HG2 := Lib.hid hgrow; clear hown' hgrow))
                  go_roundw
                  case rel => exact ⟨j + 1, sp ++ [⟨sn, sa + ho, sb⟩], by omega, by go_num, HSp2.out, by rw [List.length_append]; simp; omega, by rw [HEn.out, List.length_append]; exact HO2.out, (HB7.out.trans (HB10.out.mono HBz.out)).grown HG2.out HZ10.out (fun r e => (HRw10.out.lt r e).1)⟩
                  case measure => simp [intOf]; omega
                · have HSp2 : Hid (sp = holdL ho (JL.take (j + 1))) := by rw [HTk.out, HSp.out, if_neg hab, List.append_nil]; exact rfl
                  have hab' : decide (sa + ho < sb) = false := by simp only [decide_eq_false_iff_not]; omega
                  clear hab
                  go_wp2_with fail
                  go_roundw
                  case rel => exact ⟨j + 1, sp, by omega, by go_num, HSp2.out, by omega, HRw10.out, HB7.out.trans (HB10.out.mono HBz.out)⟩
                  case measure => simp [intOf]; omega
              · obtain rfl : j = JL.length := by omega
                rw [List.take_length, HFin.out] at HSp
                obtain ⟨A7, c7, e0, _⟩ := own_slice HRw.out
                subst e0
                have HB11 : Hid (Below wo.heap.size wo wr) := HB6.out.trans (HB7.out.mono HB6.out.size)
                have HB12 : Hid (Below wq.heap.size wq wr) := HBwq.out.trans (HB11.out.mono HBwq.out.size)
                have HRoN := Lib.hid (HRo.out.below HB12.out)
                have HSpO : Hid (SpO wr (sp, A7, c7)) := SpO.of HRw.out
                have HWz : Hid (w.heap.size ≤ wr.heap.size) := by have := HB12.out.size; show _ ≤ _; omega
                obtain ⟨ii, hii, hzi0, hzi1, hzi2⟩ := info_parts infoSs
                have hplq := HPl.out
                have HPq := Lib.hid hplq
                clear hplq hij hzj0 hzj1 hzj2
                have hpq : ps.length ≤ 40 := by rw [HPq.out]; omega
                go_wp2_with (at_builtin; refine wpList_append_one rfl _ _ 80 rfl w.heap.size 82 ii (.slice none 0 0) 24 Tryz.underlying80 hii hzi0 hzi1 hzi2 rfl _ _ _ rfl HRoN.out.row (.slice A7 sp.length c7) wr.heap.size rfl rfl (by simp [Value.oneCell']) (by unfold maxLen; omega) (by omega) HWz.out ?_; intro A' c'' w2 hown' hgrow _; have HO2 := Lib.hid hown'; have HG2 := Lib.hid hgrow; clear hown' hgrow)
                go_roundw
                case rel =>
                  refine ⟨q + 1, ps ++ [(sp, A7, c7)], by omega, by go_num, HRoN.out.snoc HSpO.out HG2.out HO2.out, ?_, (HB.out.trans (HB12.out.mono HB.out.size)).grown HG2.out HWz.out (fun r e => (HRoN.out.row.lt r e).1)⟩
                  rw [List.map_append, HPs.out, List.range_succ, List.map_append]
                  show _ ++ [sp] = _ ++ [spL t own q]
                  rw [HSp.out]
                case measure => simp [intOf]; omega
      · rw [show ruleV ⟨na, ki, li, cn, ho⟩ = .iface 105 (.agg #[.int .i64 (need ⟨na, ki, li, cn, ho⟩), .int .i64 ho]) by unfold ruleV; rw [if_neg hk1]] at hcx0
        have hnd1 := need_pos HNd.out
        have hnd2 := need_le HNd.out
        have HLsF : Hid (lsF own q ⟨na, ki, li, cn, ho⟩ (spL t own) = li.map fun k => spL t own k.toNat) := by unfold lsF; show _ = _; rw [if_neg hk1]
        have HIns := Lib.hid HN.out.ins
        have HNV0 : Hid (need ⟨na, ki, li, cn, ho⟩ = need ⟨na, ki, li, cn, ho⟩) := rfl
        generalize hnv : need ⟨na, ki, li, cn, ho⟩ = nv at *
        have HNV := Lib.hid hnv
        clear HNV0 hnv
        obtain ⟨A4, c4', e4, hsps4⟩ := HRo.out.sps
        subst e4
        have HSp4 := Lib.hid hsps4
        have hta := ta_some
        have hta2 := ta_some2
        obtain ⟨ii, hii, hzi0, hzi1, hzi2⟩ := info_parts infoSs
        clear hsps4 hk1
        go_wp2_with fail
        clear hcx0 c0 c1 c2 c3 c4 hcz b0 b1 bz hta hta2
        obtain ⟨wq, rfl⟩ : ∃ wq : World, wq = wr := ⟨_, rfl⟩
        go_loopw [7, 60] (fun v i wr => ∃ (j : Nat) (LL : List SpP), j ≤ li.length ∧ i = .int .i64 j ∧ LL.length ≤ j ∧ LL.map (·.1) = (li.take j).map (fun k => spL t own k.toNat) ∧ Rows wr wq.heap.size v LL ∧ Below wq.heap.size wq wr) (fun _ i _ => li.length - (intOf i).toNat)
        case atStart => exact ⟨0, [], Nat.zero_le _, rfl, Nat.zero_le _, rfl, Rows.nil _ _, Below.refl _ _⟩
        case round =>
          obtain ⟨j, LL, hj, rfl, hLLl, hLL, hRL, hB3⟩ := hrel
          have HLL := Lib.hid hLL; have HRL := Lib.hid hRL; have HB3 := Lib.hid hB3
          clear hLL hRL hB3
          by_cases hjl : j < li.length
          · obtain ⟨y, yd, hy, hAy, cy⟩ := rdI_get (HIns.out.below HB3.out) hjl
            subst hAy
            have hy0 := HNd.out.ins y (List.mem_of_getElem? hy)
            obtain ⟨yn, rfl⟩ : ∃ yn : Nat, y = (yn : Int) := ⟨y.toNat, by omega⟩
            have hyq : yn < q := by have := hy0.2; omega
            have hpq := HPl.out
            obtain ⟨pp, pd, hp, hAp, hcp⟩ := (HSp4.out.rd.below HB3.out).get (i := yn) (by omega)
            subst hAp
            have cp0 : wr.cell? (pd.add yn) = some (.slice pp.2.1 pp.1.length pp.2.2) := by have := hcp 0 _ rfl; rw [Nat.mul_one] at this; exact this
            have HPp : Hid (pp.1 = spL t own yn) := by
              have h := congrArg (fun l => l[yn]?) HPs.out
              simp only [List.getElem?_map, hp, Option.map_some] at h
              rw [List.getElem?_range hyq] at h
              exact Option.some.inj h
            have HPo : Hid (SpO wr pp) := (HRo.out.all pp (List.mem_of_getElem? hp)).below HB3.out
            have HTk : Hid ((li.take (j + 1)).map (fun k => spL t own k.toNat) = (li.take j).map (fun k => spL t own k.toNat) ++ [pp.1]) := by
              obtain ⟨hk', e⟩ := List.getElem?_eq_some_iff.1 hy
              rw [List.take_succ_eq_append_getElem hk', List.map_append, e, HPp.out]
              exact rfl
            have hBz := HB3.out.size
            have HBz := Lib.hid hBz
            have hjl' : (j : Int) < (li.length : Int) := by omega
            have hyp : (yn : Int) < (ps.length : Int) := by omega
            have HLL2 : Hid ((LL ++ [pp]).map (fun p => p.1) = (li.take (j + 1)).map (fun k => spL t own k.toNat)) := by rw [HTk.out, List.map_append, HLL.out]; exact rfl
            clear hy hp hcp hy0 hpq
            go_wp2_with (at_builtin; refine wpList_append_one rfl _ _ 80 rfl wq.heap.size 82 ii (.slice none 0 0) 24 Tryz.underlying80 hii hzi0 hzi1 hzi2 rfl _ _ _ rfl HRL.out.row (.slice pp.2.1 pp.1.length pp.2.2) wr.heap.size rfl rfl (by simp [Value.oneCell']) (by unfold maxLen; omega) (by omega) HBz.out ?_; intro A' c'' w2 hown' hgrow _; have HO2 := Lib.hid hown'; have HG2 := Lib.hid hgrow; clear hown' hgrow)
            go_roundw
            case rel => exact ⟨j + 1, LL ++ [pp], by omega, by go_num, by rw [List.length_append]; simp; omega, HLL2.out, HRL.out.snoc HPo.out HG2.out HO2.out, HB3.out.grown HG2.out HBz.out (fun r e => (HRL.out.row.lt r e).1)⟩
            case measure => simp [intOf]; omega
          · obtain rfl : j = li.length := by omega
            rw [List.take_length, ← HLsF.out] at HLL
            have HBwq := Lib.hid HB3.out
            have HLl : Hid (LL.length ≤ 100000) := by show _ ≤ _; omega
            have HNeed : Hid (∀ W, Calls Tryz.prog 128 #[.agg #[.int .i64 nv, .int .i64 ho]] W fun e w' => e = .returned (.int .i64 nv) ∧ Below W.heap.size W w') := some_need nv ho
            have HHold : Hid (∀ W, Calls Tryz.prog 127 #[.agg #[.int .i64 nv, .int .i64 ho]] W fun e w' => e = .returned (.int .i64 ho) ∧ Below W.heap.size W w') := some_hold nv ho
            have HLr : Hid (InR 0 hi (lsF own q ⟨na, ki, li, cn, ho⟩ (spL t own)).flatten) := fun s hs => by
              rw [HLsF.out] at hs
              obtain ⟨u, hu, hsu⟩ := List.mem_flatten.1 hs
              obtain ⟨v, hv, rfl⟩ := List.mem_map.1 hu
              have hvl := HNd.out.ins v hv
              exact (spL_spec HOK.out HR.out v.toNat (by have := HLn.out; omega)).2.1 s hsu
            have HLb : Hid (∀ s ∈ (lsF own q ⟨na, ki, li, cn, ho⟩ (spL t own)).flatten, s.b ∈ Bs) := fun s hs => by
              rw [HLsF.out] at hs
              obtain ⟨u, hu, hsu⟩ := List.mem_flatten.1 hs
              obtain ⟨v, hv, rfl⟩ := List.mem_map.1 hu
              exact spL_b HOK.out HBb.out v.toNat s hsu
            have HLn2 : Hid ((lsF own q ⟨na, ki, li, cn, ho⟩ (spL t own)).flatten.length ≤ 100000) := by
              show _ ≤ _
              rw [HLsF.out]
              have key : ∀ l : List Int, ((l.map fun k => spL t own k.toNat).flatten).length ≤ 1000 * l.length := by
                intro l
                induction l with
                | nil => simp
                | cons a r ih =>
                  rw [List.map_cons, List.flatten_cons, List.length_append, List.length_cons]
                  have := spL_len HOK.out HR.out HBb.out a.toNat
                  omega
              have := key li
              omega
            clear hii hzi0 hzi1 hzi2 HSp4 HIns
            -- LL: the lists; they are joined
            have HIn : Hid (InR 0 hi (LL.map (·.1)).flatten) := by rw [HLL.out]; exact HLr.out
            have HLlen : Hid ((LL.map (·.1)).flatten.length ≤ 100000) := by rw [HLL.out]; exact HLn2.out
            obtain ⟨AL, cL, e0, hsps⟩ := HRL.out.sps
            subst e0
            have hLl : LL.length ≤ 100000 := HLl.out
            have HSps := Lib.hid hsps
            have hmeth := need_some
            clear hsps
            go_wp2_with fail
            refine (HNeed.out _).mono ?_
            rintro e W5 ⟨rfl, hb5⟩
            have HB5 : Hid (Below wr.heap.size wr W5) := hb5
            have HJ := Lib.hid (join_any (LL.map (·.1)) (q : Int) nv AL LL.length cL LL hi W5 (HSps.out.below HB5.out) hLl HIn.out (by omega) HLlen.out hnd1 (by omega))
            clear hb5 hmeth
            go_wp2_with fail
            refine HJ.out.mono ?_
            rintro e W6 ⟨vJ, rfl, hrJ, hbJ⟩
            have HJs : Hid (joinL (q : Int) nv (LL.map (·.1)).flatten = joinL (q : Int) nv (LL.map (·.1)).flatten) := rfl
            obtain ⟨hjc, hjr, _⟩ := joinL_spec (n := (q : Int)) hnd1 HIn.out
            have HJr := Lib.hid hjr
            have HFin : Hid (holdL ho (joinL (q : Int) nv (LL.map (·.1)).flatten) = spL t own q) := by have h := HEq.out; unfold runF at h; show _ = _; rw [h, HLL.out, HNV.out]
            have HJb : Hid ((joinL (q : Int) nv (LL.map (·.1)).flatten).length ≤ 100000) := by
              have h1 := canon_len (Bs := Bs) hjc (fun s hs => by
                obtain ⟨u, hu, e⟩ := joinL_b hnd1 hs
                rw [← e]
                rw [HLL.out] at hu
                exact HLb.out u hu)
              show _ ≤ _
              omega
            generalize joinL (q : Int) nv (LL.map (·.1)).flatten = JL at *
            obtain ⟨AJ, cJ, e0, hrdJ, _, _⟩ := rd_of_own enc3 hrJ rfl
            subst e0
            have HRdJ := Lib.hid hrdJ
            have HB6 : Hid (Below wr.heap.size wr W6) := HB5.out.trans (hbJ.mono HB5.out.size)
            have hjl := HJb.out
            clear hrJ hbJ hrdJ hjc hjr HJ HJs HSps HIn HLlen hLl HLr HLn2 HLl HLL HLb
            obtain ⟨jj, hij, hzj0, hzj1, hzj2⟩ := info_parts infoSp
            go_wp2_with fail
            obtain ⟨wo, rfl⟩ : ∃ wo : World, wo = wr := ⟨_, rfl⟩
            go_loopw [12, 78] (fun v i wr => ∃ (j : Nat) (sp : List Sp), j ≤ JL.length ∧ i = .int .i64 j ∧ sp = holdL ho (JL.take j) ∧ sp.length ≤ j ∧ wr.ownsRow W6.heap.size 84 3 v sp.length (sp.flatMap Sp.enc) ∧ Below W6.heap.size W6 wr) (fun _ i _ => JL.length - (intOf i).toNat)
            case atStart => exact ⟨0, [], Nat.zero_le _, rfl, by simp [holdL], Nat.zero_le _, World.ownsRow_nil _ _ _ _, Below.refl _ _⟩
            case round =>
              obtain ⟨j, sp, hj, rfl, hsp, hspl, hrw, hB7⟩ := hrel
              have HSp := Lib.hid hsp; have HRw := Lib.hid hrw; have HB7 := Lib.hid hB7
              clear hsp hrw hB7
              by_cases hjl2 : j < JL.length
              · obtain ⟨s, sd, hs, hAs, hcs⟩ := (HRdJ.out.below HB7.out).get hjl2
                subst hAs
                have hcs3 := hcs.three
                obtain ⟨d0, d1, d2⟩ := hcs3
                obtain ⟨sb0, sb1, sb2⟩ := HJr.out s (List.mem_of_getElem? hs)
                have HTk := Lib.hid (holdL_take (h := ho) hs)
                have hjl' : (j : Int) < (JL.length : Int) := by omega
                have hBz := HB7.out.size
                have HBz := Lib.hid hBz
                clear hs hcs
                obtain ⟨sn, sa, sb⟩ := s
                dsimp only at *
                go_wp2_with fail
                clear d0 d1 d2
                obtain ⟨W8, hW8⟩ : ∃ W8, wr.alloc (.cells #[.int .i64 sn, .int .i64 sa, .int .i64 sb] 84) = W8 := ⟨_, rfl⟩
                have K8 : Hid (Blk W8 wr.heap.size 84 #[.int .i64 sn, .int .i64 sa, .int .i64 sb]) := by rw [← hW8]; exact Blk.new _ _ _ rfl
                have HB8 : Hid (Below wr.heap.size wr W8) := by rw [← hW8]; exact (Below.refl _ _).alloc (Nat.le_refl _) _
                rw [hW8]
                clear hW8
                have x1 := later_cell (K8.out.cell (i := 1) rfl)
                have hw2 : IntKind.i64.wrap (sa + ho) = sa + ho := IntWalk.i64_in _ ⟨by omega, by omega⟩
                have HS0 : Hid ((fun w' => ∃ u : Later W8, w' = u.w) W8.drew) := ⟨⟨W8.drew, (Below.refl _ _).drew⟩, rfl⟩
                refine wp_region_noPanic ?_
                refine wp_region_ord (fun w' => ∃ u : Later W8, w' = u.w) 6 (fun k => !(k == 3 || k == 6)) (ordOf _ [0, 1, 2, 3, 4, 5, 6]) (by kernel_rfl) (by kernel_rfl) (ordOf_mem _ _) (fun _ _ _ _ _ h => h) ?_
                simp only [ordOf, List.filterMap_cons, List.filterMap_nil, List.getElem?_cons_zero, List.getElem?_cons_succ, Option.map_some]
                iterate 3 (refine ord_quiet rfl rfl rfl HS0.out ?_; intro K hK; go_big_quiet_op; go_big_quiet_on)
                have hmeth := hold_some
                refine ord_op rfl ?_
                go_wp2_with (refine (HHold.out _).mono ?_; rintro e W9 ⟨rfl, hb9⟩; have HB9 : Hid (Below W8.heap.size W8 W9) := ((Below.refl _ W8).drew).trans hb9; clear hb9)
                have HS9 : Hid ((fun w' => ∃ u : Later W8, w' = u.w) W9) := ⟨⟨W9, HB9.out⟩, rfl⟩
                refine mix_post (fun _ => HS9.out) ?_
                iterate 2 (refine ord_quiet rfl rfl rfl HS9.out ?_; intro K hK; go_big_quiet_op; go_big_quiet_on)
                have K9 := Lib.hid (K8.out.later HB9.out)
                clear x1 hw2 hmeth
                have x1 := K9.out.cell (i := 1) rfl
                have x1f := K9.out.frozen 1
                have xz := K9.out.lt
                refine ord_op rfl ?_
                go_wp2_with fail
                refine mix_post (fun h => absurd h (by decide)) ?_
                refine ord_nil ?_
                refine NoPanic.normal ?_
                clear x1 x1f xz
                obtain ⟨W10, hW10⟩ : ∃ W10, W9.setCell ⟨wr.heap.size, 1, none⟩ (.int .i64 (sa + ho)) = W10 := ⟨_, rfl⟩
                have K10 : Hid (Blk W10 wr.heap.size 84 #[.int .i64 sn, .int .i64 (sa + ho), .int .i64 sb]) := by rw [← hW10]; exact K9.out.set 1 _
                have HB10 : Hid (Below wr.heap.size wr W10) := by rw [← hW10]; exact (HB8.out.trans (HB9.out.mono HB8.out.size)).setCell (Nat.le_refl _) _
                rw [hW10]
                clear hW10
                have y0 := K10.out.cell (i := 0) rfl
                have y1 := K10.out.cell (i := 1) rfl
                have y2 := K10.out.cell (i := 2) rfl
                have yz := K10.out.lt
                have HRw10 : Hid (W10.ownsRow W6.heap.size 84 3 u12 sp.length (sp.flatMap Sp.enc)) := own_far HRw.out (grown_of_below HB10.out none) (fun r e => by cases e)
                have HZ10 : Hid (W6.heap.size ≤ W10.heap.size) := by have := HB10.out.size; show _ ≤ _; omega
                by_cases hab : sa + ho < sb
                · have HSp2 : Hid (sp ++ [⟨sn, sa + ho, sb⟩] = holdL ho (JL.take (j + 1))) := by rw [HTk.out, HSp.out, if_pos hab]; exact rfl
                  have hab' : decide (sa + ho < sb) = true := by simp only [decide_eq_true_eq]; omega
                  have HEn : Hid ((sp ++ [(⟨sn, sa + ho, sb⟩ : Sp)]).flatMap Sp.enc = sp.flatMap Sp.enc ++ [.int .i64 sn, .int .i64 (sa + ho), .int .i64 sb]) := by show _ = _; simp
                  clear hab
                  go_wp2_with (first | (refine wpList_buildSlice_one rfl 82 84 _ rfl 3 _ #[.int .i64 sn, .int .i64 (sa + ho), .int .i64 sb] rfl Tryz.underlying82 (Tryz.sizeOf84 _) (Tryz.zeroValue84 _) rfl (by omega) (by omega) ?_) | (at_builtin; refine wpList_append_st rfl _ _ 82 rfl W6.heap.size 84 jj (.agg #[.int .i64 0, .int .i64 0, .int .i64 0]) 3 24 Tryz.underlying82 hij hzj0 hzj1 hzj2 rfl (by decide) _ _ _ rfl HRw10.out #[.int .i64 sn, .int .i64 (sa + ho), .int .i64 sb] rfl W10.heap.size rfl rfl (by simp [Value.oneCell']) (by unfold maxLen; omega) (by omega) HZ10.out ?_; intro A' c'' w2 hown' hgrow _; have HO2 := Lib.hid hown'; have HG2 := Lib.hid hgrow; clear hown' hgrow))
                  go_roundw
                  case rel => exact ⟨j + 1, sp ++ [⟨sn, sa + ho, sb⟩], by omega, by go_num, HSp2.out, by rw [List.length_append]; simp; omega, by rw [HEn.out, List.length_append]; exact HO2.out, (HB7.out.trans (HB10.out.mono HBz.out)).grown HG2.out HZ10.out (fun r e => (HRw10.out.lt r e).1)⟩
                  case measure => simp [intOf]; omega
                · have HSp2 : Hid (sp = holdL ho (JL.take (j + 1))) := by rw [HTk.out, HSp.out, if_neg hab, List.append_nil]; exact rfl
                  have hab' : decide (sa + ho < sb) = false := by simp only [decide_eq_false_iff_not]; omega
                  clear hab
                  go_wp2_with fail
                  go_roundw
                  case rel => exact ⟨j + 1, sp, by omega, by go_num, HSp2.out, by omega, HRw10.out, HB7.out.trans (HB10.out.mono HBz.out)⟩
                  case measure => simp [intOf]; omega
              · obtain rfl : j = JL.length := by omega
                rw [List.take_length, HFin.out] at HSp
                obtain ⟨A7, c7, e0, _⟩ := own_slice HRw.out
                subst e0
                have HB11 : Hid (Below wo.heap.size wo wr) := HB6.out.trans (HB7.out.mono HB6.out.size)
                have HB12 : Hid (Below wq.heap.size wq wr) := HBwq.out.trans (HB11.out.mono HBwq.out.size)
                have HRoN := Lib.hid (HRo.out.below HB12.out)
                have HSpO : Hid (SpO wr (sp, A7, c7)) := SpO.of HRw.out
                have HWz : Hid (w.heap.size ≤ wr.heap.size) := by have := HB12.out.size; show _ ≤ _; omega
                obtain ⟨ii, hii, hzi0, hzi1, hzi2⟩ := info_parts infoSs
                have hplq := HPl.out
                have HPq := Lib.hid hplq
                clear hplq hij hzj0 hzj1 hzj2
                have hpq : ps.length ≤ 40 := by rw [HPq.out]; omega
                go_wp2_with (at_builtin; refine wpList_append_one rfl _ _ 80 rfl w.heap.size 82 ii (.slice none 0 0) 24 Tryz.underlying80 hii hzi0 hzi1 hzi2 rfl _ _ _ rfl HRoN.out.row (.slice A7 sp.length c7) wr.heap.size rfl rfl (by simp [Value.oneCell']) (by unfold maxLen; omega) (by omega) HWz.out ?_; intro A' c'' w2 hown' hgrow _; have HO2 := Lib.hid hown'; have HG2 := Lib.hid hgrow; clear hown' hgrow)
                go_roundw
                case rel =>
                  refine ⟨q + 1, ps ++ [(sp, A7, c7)], by omega, by go_num, HRoN.out.snoc HSpO.out HG2.out HO2.out, ?_, (HB.out.trans (HB12.out.mono HB.out.size)).grown HG2.out HWz.out (fun r e => (HRoN.out.row.lt r e).1)⟩
                  rw [List.map_append, HPs.out, List.range_succ, List.map_append]
                  show _ ++ [sp] = _ ++ [spL t own q]
                  rw [HSp.out]
                case measure => simp [intOf]; omega
    · obtain rfl : q = n := by omega
      go_wp2_with fail
      go_ret
      exact ⟨_, ps, rfl, HRo.out, by rw [HPs.out, HLn.out], HB.out⟩
end Go.Proofs.YtadldndpphdmpaaGreat
