/- FailureMore returns true, where the two sets are not too long for append. -/
import Derived.Test.YtadldndpphdmpaaHe
import Derived.Test.YtadldndpphdmpaaL0
import Derived.Test.YtadldndpphdmpaaS3
import Derived.Test.YtadldndpphdmpaaG11
import Derived.Laws.AppendOwnNone
namespace Go.Proofs.Ytadldndpphdmpaa
open Go.RowKit Go.Shelf

theorem two_box3 (w : World) (cs ds : Array Value) (t1 t2 : TypeId) : ∀ W, (w.alloc (.cells cs t1)).alloc (.cells ds t2) = W →
    Below w.heap.size w W ∧ Blk W w.heap.size t1 cs ∧ Blk W (w.heap.size + 1) t2 ds := by
  rintro W rfl
  exact ⟨((Below.refl _ w).alloc (Nat.le_refl _) _).alloc (by simp) _, (Blk.new _ _ _ rfl).alloc _, Blk.new _ _ _ (by simp)⟩
theorem effects_len2 (t : List Nd) (l : List Int) : (effectsT t l).2.length ≤ 64 := by
  by_cases h : (effectsT t l).1 = 0
  · rw [(effectsT_ok h).2.2]; exact bitsL_len _
  · unfold effectsT at h ⊢
    by_cases c : (aboutT t 0 [l]).1 = 0
    · rw [if_pos c] at h; exact absurd rfl h
    · rw [if_neg c]; simp
theorem buildI (w : World) : (Instr.buildSlice 30 0 #[]).run Try.prog w = .ok (.slice (some ⟨w.heap.size, 0, none⟩) 0 0) (w.alloc (.cells #[] 3)) := by kernel_rfl
theorem own_emptyI (w : World) (base : Nat) (hb : base ≤ w.heap.size) (e : TypeId) (size : Nat) : (w.alloc (.cells #[] e)).ownsRow base e size (.slice (some ⟨w.heap.size, 0, none⟩) 0 0) 0 [] :=
  ⟨by simp, .inr ⟨w.heap.size, 0, #[], rfl, hb, heap_alloc_new w _, Nat.le_refl _, Nat.zero_le _, by simp, by simp⟩⟩
theorem rdI_news {w : World} {ad : Addr} {n : Nat} {l : List Int} (h : RdI w (some ad) n l) (j : Nat) (u : Value) (hu : (l.map (Value.int .i64))[j]? = some u) : w.cell? (ad.add j) = some u := by
  rw [List.getElem?_map, Option.map_eq_some_iff] at hu
  obtain ⟨x, hx, rfl⟩ := hu
  have hj : j < n := by rw [← h.1]; exact (List.getElem?_eq_some_iff.1 hx).1
  obtain ⟨x', ad', h1, h2, h3⟩ := rdI_get h hj
  cases h2
  rw [hx] at h1
  cases h1
  exact h3
/-- append([]int{}, l...). -/
theorem wpList_copy_ints {w : World} {ops : Array Oper} {rest : List Oper} {o : Oper} {a : Act} {Q : Exit → Act → World → Prop} (hgd : o.guard = none) (s x : Operand)
    (ho : o.op = .call { callee := .builtin .append, args := #[s, x], argTypes := #[30, 30] }) (base : Nat) (v : Value) (A : Option Addr) (c : Nat) (l : List Int)
    (hs : a.eval s = v) (hown : w.ownsRow base 3 1 v 0 []) (hx : a.eval x = .slice A l.length c) (hL : RdI w A l.length l) (hA : A = none → c = 0)
    (hl : l.length ≤ 2000000) (hbase : base ≤ w.heap.size)
    (h : ∀ v' w', w'.ownsRow base 3 1 v' l.length (l.map (Value.int .i64)) → w.grownBy w' v.ownBlock → wpList Try.prog ops Q rest (a.put o.dst v') w') : wpList Try.prog ops Q (o :: rest) a w := by
  obtain ⟨i0, hi0, hz0, hz1, hz2⟩ := info_parts infoI
  cases A with
  | none =>
    have hl0 : l = [] := by
      cases l with
      | nil => rfl
      | cons x r =>
        obtain ⟨_, _, _, e, _⟩ := rdI_get hL (k := 0) (by simp)
        cases e
    subst hl0
    have hc := hA rfl
    subst hc
    refine wpList_append_own_none hgd s x 30 ho base 3 i0 1 Try.underlying30 hi0 v 0 [] hs hown hx ?_
    exact h v w (by simpa using hown) ⟨rfl, rfl, rfl, Nat.le_refl _, fun _ _ _ => rfl⟩
  | some ad =>
    refine wpList_append_own w hgd s x 30 ho base 3 i0 _ 1 8 Try.underlying30 hi0 hz0 hz1 hz2 rfl (by decide) v 0 [] hs hown ad l.length c (l.map (Value.int .i64)) hx (by simp) (rdI_news hL) (fun u hu => ?_) (by unfold maxLen; omega) (by omega) hbase ?_
    · obtain ⟨x, _, rfl⟩ := List.mem_map.1 hu
      rfl
    · intro v' w' h2 h3 _
      rw [List.nil_append, Nat.zero_add] at h2
      exact h v' w' h2 h3

set_option maxRecDepth 100000 in
set_option maxHeartbeats 8000000 in
theorem FailureMore_any (t : List Nd) (s g : List Int) (y : Int) (A : Option Addr) (n c : Nat) (ms : List NdM) (L : Option Addr) (cl : Nat) (G : Option Addr) (cg : Nat) (w : World) (hT : TrM w t A n ms) (hc : n ≤ c) (hL : RdI w L s.length s) (hs : s.length ≤ 2000000) (hLn : L = none → cl = 0) (hG : RdI w G g.length g) (hg : g.length ≤ 2000000) :
    Calls Try.prog 6 #[.agg #[.slice A n c], .agg #[.slice L s.length cl, .slice G g.length cg], .int .i64 y] w fun e w' => e = .returned (.bool true) ∧ Below w.heap.size w w' := by
  obtain ⟨W1, hW1⟩ : ∃ W1, (w.alloc (.cells #[.slice A n c] 24)).alloc (.cells #[.slice L s.length cl, .slice G g.length cg] 40) = W1 := ⟨_, rfl⟩
  obtain ⟨b1, b2, b3⟩ := two_box3 w _ _ _ _ W1 hW1
  have HB1 := Lib.hid b1; have K1 := Lib.hid b2; have K2 := Lib.hid b3
  have C1 := Lib.hid (fun (W : World) (h : Below w.heap.size w W) => Effects_any t s A n c ms L cl W (hT.below h) hc (hL.below h) (by omega))
  have C2 := Lib.hid (fun (W : World) (B : Option Addr) (cB : Nat) (u : List Int) (h : Below w.heap.size w W) (hr : RdI W B u.length u) (hu : u.length ≤ 4000000) => Effects_any t u A n c ms B cB W (hT.below h) hc hr (by omega))
  have C3 := Lib.hid (fun (W : World) (h : Below w.heap.size w W) => Left_any t s y A n c ms L cl W (hT.below h) hc (hL.below h) (by omega))
  have C4 := Lib.hid (fun (W : World) (B : Option Addr) (cB : Nat) (u : List Int) (h : Below w.heap.size w W) (hr : RdI W B u.length u) (hu : u.length ≤ 4000000) => Left_any t u y A n c ms B cB W (hT.below h) hc hr (by omega))
  have HL := Lib.hid hL; have HG := Lib.hid hG
  have HLn := Lib.hid hLn
  have HW1 := Lib.hid hW1
  have hbs := buildI
  have hz1 : W1.heap.size = w.heap.size + 1 + 1 := by rw [← hW1]; simp
  have HZ1 := Lib.hid hz1
  have HBa : Hid (Below W1.heap.size W1 (W1.alloc (.cells #[] 3))) := (Below.refl _ W1).alloc (Nat.le_refl _) _
  have HO0 : Hid ((((w.alloc (.cells #[.slice A n c] 24)).alloc (.cells #[.slice L s.length cl, .slice G g.length cg] 40)).alloc (.cells #[] 3)).ownsRow (w.heap.size + 1 + 1) 3 1 (.slice (some ⟨w.heap.size + 1 + 1, 0, none⟩) 0 0) 0 []) := by rw [hW1, ← hz1]; exact own_emptyI W1 W1.heap.size (Nat.le_refl _) 3 1
  have HLa : Hid (RdI (((w.alloc (.cells #[.slice A n c] 24)).alloc (.cells #[.slice L s.length cl, .slice G g.length cg] 40)).alloc (.cells #[] 3)) L s.length s) := by rw [hW1]; exact hL.below (b1.trans (HBa.out.mono b1.size))
  have hsz : w.heap.size + 1 + 1 ≤ (((w.alloc (.cells #[.slice A n c] 24)).alloc (.cells #[.slice L s.length cl, .slice G g.length cg] 40)).alloc (.cells #[] 3)).heap.size := by rw [hW1, ← hz1]; exact HBa.out.size
  have HCa : Hid ((((w.alloc (.cells #[.slice A n c] 24)).alloc (.cells #[.slice L s.length cl, .slice G g.length cg] 40)).alloc (.cells #[] 3)).cell? ⟨w.heap.size + 1, 0, none⟩ = some (.slice L s.length cl)) := by rw [hW1]; exact (b3.later HBa.out).cell (i := 0) rfl
  have q0 := HCa.out
  have qz : w.heap.size + 1 < (((w.alloc (.cells #[.slice A n c] 24)).alloc (.cells #[.slice L s.length cl, .slice G g.length cg] 40)).alloc (.cells #[] 3)).heap.size := by rw [hW1]; exact (b3.later HBa.out).lt
  clear hW1 hT hL hG hLn b1 b2 b3 hz1
  go_enter Try.func6, Try.ntmps6
  go_wp2_with (at_builtin; refine wpList_copy_ints rfl _ _ rfl (w.heap.size + 1 + 1) _ L cl s rfl HO0.out rfl HLa.out HLn.out hs hsz ?_; intro v W4 hO4 hG4; rw [HW1.out, ← HZ1.out] at hG4; rw [← HZ1.out] at hO4; have HO4 := Lib.hid hO4; have HB4 : Hid (Below W1.heap.size W1 W4) := HBa.out.grown hG4 HBa.out.size (fun j e => by cases e; exact Nat.le_refl _); clear hO4 hG4 hbs q0 qz hsz)
  have hAll : ∀ (e2 : Int), (effectsT t (bothL s g)).1 = e2 → (effectsT t s).1 ≠ 0 → e2 ≠ 0 := fun e2 h1 h2 => h1 ▸ more_err h2
  have HMore := Lib.hid hAll
  have HMem : Hid (∀ n ∈ s, n ∈ bothL s g) := fun n hn => (mem_bothL n g s).2 (.inl hn)
  have HWit : Hid ((effectsT t s).1 = 0 → (effectsT t (bothL s g)).1 = 0 → ((effectsT t s).2.all fun x => decide (x ∈ (effectsT t (bothL s g)).2)) = true) := fun h1 h2 => by
    rw [List.all_eq_true]; intro x hx; exact decide_eq_true (more_within h1 h2 HMem.out x hx)
  have HOwn : Hid ((effectsT t s).1 = 0 → (s.all fun x => decide (x ∈ (effectsT t s).2)) = true) := fun h1 => by
    rw [List.all_eq_true]; intro x hx; exact decide_eq_true (more_own h1 x hx)
  have HLeft : Hid ((effectsT t s).1 = 0 → ((leftT t s y).2 == 0) = decide (y ∈ (effectsT t s).2)) := fun h1 => by
    have := left_has h1 y
    rw [Bool.eq_iff_iff, beq_iff_eq, decide_eq_true_eq]; exact this
  have HLm : Hid ((effectsT t s).1 = 0 → (effectsT t (bothL s g)).1 = 0 → (leftT t s y).2 = 0 → (leftT t (bothL s g) y).2 = 0 ∧ (leftT t (bothL s g) y).1 ≤ (leftT t s y).1 ∧ 0 ≤ (leftT t (bothL s g) y).1) := fun h1 h2 h3 => left_more h1 h2 HMem.out h3
  have HE1 := Lib.hid (effects_len2 t s)
  have HE2 := Lib.hid (effects_len2 t (bothL s g))
  have HBl := Lib.hid (bothL_len g s)
  clear hAll
  go_loopw [7, 8] (fun v i wr => ∃ k : Nat, k ≤ g.length ∧ i = .int .i64 k ∧ wr.ownsRow W1.heap.size 3 1 v (bothL s (g.take k)).length ((bothL s (g.take k)).map (Value.int .i64)) ∧ Below W1.heap.size W1 wr) (fun _ i _ => g.length - (intOf i).toNat)
  case atStart => exact ⟨0, Nat.zero_le _, rfl, HO4.out, HB4.out⟩
  case round =>
    obtain ⟨k, hk, rfl, hrw, hB⟩ := hrel
    have HRw := Lib.hid hrw; have HB := Lib.hid hB
    have HBw : Hid (Below w.heap.size w wr) := HB1.out.trans (hB.mono HB1.out.size)
    have HK := Lib.hid (K2.out.later hB)
    have q0 := HK.out.cell (i := 0) rfl
    have q1 := HK.out.cell (i := 1) rfl
    have qz := HK.out.lt
    clear hrw hB
    by_cases hlt : k < g.length
    · obtain ⟨x, ad, hx, rfl, cx⟩ := rdI_get (HG.out.below HBw.out) hlt
      have HSt := Lib.hid (bothL_take (s := s) hx)
      have hbl := bothL_len (g.take k) s
      rw [List.length_take] at hbl
      obtain ⟨As, cs, rfl, hIs, _, _⟩ := rdI_of_own HRw.out rfl
      have HH := Lib.hid (lhas_any (bothL s (g.take k)) x As (bothL s (g.take k)).length cs wr hIs (by omega))
      have hkn : (k : Int) < (g.length : Int) := by omega
      have HCx := Lib.hid cx
      generalize hTT : bothL s (g.take k) = TT at *
      have HL4 : Hid (TT.length ≤ 4000000) := by show _ ≤ _; omega
      clear hx hIs hTT hbl
      go_wp2_with fail
      refine HH.out.mono ?_
      rintro e W5 ⟨rfl, hb5⟩
      have HB5 : Hid (Below W1.heap.size W1 W5) := HB.out.trans (hb5.mono HB.out.size)
      have HRw5 : Hid (W5.ownsRow W1.heap.size 3 1 (.slice As TT.length cs) TT.length (TT.map (Value.int .i64))) := own_far HRw.out (grown_of_below hb5 none) (fun r e => by cases e)
      have HK5 := Lib.hid (HK.out.later hb5)
      have cx5 := cell_below hb5 HCx.out
      have HZ5 : Hid (W1.heap.size ≤ W5.heap.size) := HB5.out.size
      clear hb5 HH cx q0 q1 qz
      have q0 := HK5.out.cell (i := 0) rfl
      have q1 := HK5.out.cell (i := 1) rfl
      have qz := HK5.out.lt
      by_cases hd : x ∈ TT
      · have HS2 : Hid (bothL s (g.take (k + 1)) = TT) := by show _ = _; rw [HSt.out, if_pos hd]
        rw [decide_eq_true hd]
        clear hd HSt
        go_wp2_with fail
        go_roundw
        case rel => exact ⟨k + 1, by omega, by go_num, by rw [HS2.out]; exact HRw5.out, HB5.out⟩
        case measure => simp [intOf]; omega
      · have HS2 : Hid (bothL s (g.take (k + 1)) = TT ++ [x]) := by show _ = _; rw [HSt.out, if_neg hd]
        rw [decide_eq_false hd]
        clear hd HSt
        obtain ⟨jq, hij, hzj0, hzj1, hzj2⟩ := info_parts infoI
        have hTT := HL4.out
        go_wp2_with (at_builtin; refine wpList_append_one rfl _ _ 30 rfl W1.heap.size 3 jq (.int .i64 0) 8 Try.underlying30 hij hzj0 hzj1 hzj2 rfl _ _ _ rfl HRw5.out (.int .i64 x) W5.heap.size rfl rfl (by simp [Value.oneCell']) (by unfold maxLen; omega) (by omega) HZ5.out ?_; intro A' c'' w2 hown' hgrow _; have HO2 := Lib.hid hown'; have HG2 := Lib.hid hgrow; clear hown' hgrow)
        go_roundw
        case rel => exact ⟨k + 1, by omega, by go_num, by rw [HS2.out, List.length_append, List.map_append]; exact HO2.out, HB5.out.grown HG2.out HZ5.out (fun r e => (HRw5.out.lt r e).1)⟩
        case measure => simp [intOf]; omega
    · obtain rfl : k = g.length := by omega
      rw [List.take_length] at HRw
      obtain ⟨As, cs, rfl, hIs, _, _⟩ := rdI_of_own HRw.out rfl
      have HIs := Lib.hid hIs
      have HT1 := Lib.hid (K1.out.later HB.out)
      clear hIs
      generalize bothL s g = U at *
      have hU := HBl.out
      generalize hL1 : leftT t s y = Y at *
      generalize hL2 : leftT t U y = Z at *
      have HL1 := Lib.hid hL1; have HL2 := Lib.hid hL2
      clear hL1 hL2
      obtain ⟨y1, y2⟩ := Y
      obtain ⟨z1, z2⟩ := Z
      generalize hX1 : effectsT t s = X at *
      generalize hX2 : effectsT t U = V at *
      have HX1 := Lib.hid hX1; have HX2 := Lib.hid hX2
      clear hX1 hX2
      obtain ⟨e1, l1⟩ := X
      obtain ⟨e2, l2⟩ := V
      dsimp only at *
      have k0 := HT1.out.cell (i := 0) rfl
      have kz := HT1.out.lt
      have hE := C1.out wr HBw.out
      have HE := Lib.hid hE
      clear hE
      go_wp2_with fail
      refine HE.out.mono ?_
      rintro e W6 ⟨v6, rfl, hr6, hb6⟩
      have HB6 : Hid (Below w.heap.size w W6) := HBw.out.trans (hb6.mono HBw.out.size)
      obtain ⟨A6, c6, rfl, hI6, _, _⟩ := rdI_of_own hr6 rfl
      have HI6 := Lib.hid hI6
      have HU6 := Lib.hid (HIs.out.below hb6)
      have HT6 := Lib.hid (HT1.out.later hb6)
      have HK6 := Lib.hid (HK.out.later hb6)
      have hF := C2.out W6 As cs U HB6.out HU6.out (by omega)
      rw [HX2.out] at hF
      have HF := Lib.hid hF
      clear hF hI6 hr6 hb6 k0 kz q0 q1 qz HE C1 HRw
      dsimp only
      have k0 := HT6.out.cell (i := 0) rfl
      have kz := HT6.out.lt
      go_wp2_with fail
      refine HF.out.mono ?_
      rintro e W7 ⟨v7, rfl, hr7, hb7⟩
      have HB7 : Hid (Below w.heap.size w W7) := HB6.out.trans (hb7.mono HB6.out.size)
      obtain ⟨A7, c7, rfl, hI7, _, _⟩ := rdI_of_own hr7 rfl
      have HI7 := Lib.hid hI7
      have HI67 := Lib.hid (HI6.out.below hb7)
      have HU7 := Lib.hid (HU6.out.below hb7)
      have HT7 := Lib.hid (HT6.out.later hb7)
      have HK7 := Lib.hid (HK6.out.later hb7)
      clear hI7 hr7 hb7 k0 kz HF C2
      dsimp only
      by_cases he1 : e1 = 0
      · subst he1
        by_cases he2 : e2 = 0
        · subst he2
          have hW := lwithin_any l1 l2 A6 l1.length c6 A7 l2.length c7 W7 HI67.out HI7.out (by have := HE1.out; omega) (by have := HE2.out; omega)
          rw [HWit.out (by first | exact rfl | trivial) (by first | exact rfl | trivial)] at hW
          have HW := Lib.hid hW
          clear hW
          go_wp2_with fail
          refine HW.out.mono ?_
          rintro e W8 ⟨rfl, hb8⟩
          have HB8 : Hid (Below w.heap.size w W8) := HB7.out.trans (hb8.mono HB7.out.size)
          have HI8 := Lib.hid (HI67.out.below hb8)
          have HU8 := Lib.hid (HU7.out.below hb8)
          have HT8 := Lib.hid (HT7.out.later hb8)
          have HK8 := Lib.hid (HK7.out.later hb8)
          have hW := lwithin_any s l1 L s.length cl A6 l1.length c6 W8 (HL.out.below HB8.out) HI8.out (by omega) (by have := HE1.out; omega)
          rw [HOwn.out (by first | exact rfl | trivial)] at hW
          have HW2 := Lib.hid hW
          clear hW hb8 HW
          have q0 := HK8.out.cell (i := 0) rfl
          have qz := HK8.out.lt
          go_wp2_with fail
          refine HW2.out.mono ?_
          rintro e W9 ⟨rfl, hb9⟩
          have HB9 : Hid (Below w.heap.size w W9) := HB8.out.trans (hb9.mono HB8.out.size)
          have HI9 := Lib.hid (HI8.out.below hb9)
          have HU9 := Lib.hid (HU8.out.below hb9)
          have HT9 := Lib.hid (HT8.out.later hb9)
          have HK9 := Lib.hid (HK8.out.later hb9)
          have hF := C3.out W9 HB9.out
          have HF := Lib.hid hF
          clear hF hb9 HW2 q0 qz
          have q0 := HK9.out.cell (i := 0) rfl
          have qz := HK9.out.lt
          have k0 := HT9.out.cell (i := 0) rfl
          have kz := HT9.out.lt
          go_wp2_with fail
          refine HF.out.mono ?_
          rintro e W10 ⟨rfl, hb10⟩
          have HB10 : Hid (Below w.heap.size w W10) := HB9.out.trans (hb10.mono HB9.out.size)
          have HI10 := Lib.hid (HI9.out.below hb10)
          have HU10 := Lib.hid (HU9.out.below hb10)
          have HT10 := Lib.hid (HT9.out.later hb10)
          have hG2 := C4.out W10 As cs U HB10.out HU10.out (by omega)
          rw [HL2.out] at hG2
          have HG2 := Lib.hid hG2
          clear hG2 hb10 HF q0 qz k0 kz
          have k0 := HT10.out.cell (i := 0) rfl
          have kz := HT10.out.lt
          go_wp2_with fail
          refine HG2.out.mono ?_
          rintro e W11 ⟨rfl, hb11⟩
          have HB11 : Hid (Below w.heap.size w W11) := HB10.out.trans (hb11.mono HB10.out.size)
          have hH := lhas_any l1 y A6 l1.length c6 W11 (HI10.out.below hb11) (by have := HE1.out; omega)
          have hld := HLeft.out (by first | exact rfl | trivial)
          rw [← hld] at hH
          have HH := Lib.hid hH
          clear hH hld hb11 HG2 k0 kz
          dsimp only
          by_cases hy : y2 = 0
          · subst hy
            obtain ⟨g1, g2, g3⟩ := HLm.out (by first | exact rfl | trivial) (by first | exact rfl | trivial) (by first | exact rfl | trivial)
            try dsimp only at g1 g2 g3
            subst g1
            have b1 : decide (y1 < z1) = false := by simp; omega
            have b2 : decide (z1 < 0) = false := by simp; omega
            rw [show ((0 : Int) == 0) = true from rfl] at HH
            go_wp2_with fail
            refine HH.out.mono ?_
            rintro e W13 ⟨rfl, hb13⟩
            have HB13 : Hid (Below w.heap.size w W13) := HB11.out.trans (hb13.mono HB11.out.size)
            clear hb13
            go_wp2_with fail
            refine (Awake_any _).mono ?_
            rintro e W12 ⟨rfl, hb12⟩
            have HB12 : Hid (Below w.heap.size w W12) := HB13.out.trans (hb12.mono HB13.out.size)
            clear hb12
            go_wp2_with fail
            go_ret
            exact ⟨rfl, HB12.out⟩
          · have hyb : (y2 == 0) = false := by simpa using hy
            rw [hyb] at HH
            go_wp2_with fail
            refine HH.out.mono ?_
            rintro e W13 ⟨rfl, hb13⟩
            have HB13 : Hid (Below w.heap.size w W13) := HB11.out.trans (hb13.mono HB11.out.size)
            clear hb13
            go_wp2_with fail
            refine (Awake_any _).mono ?_
            rintro e W12 ⟨rfl, hb12⟩
            have HB12 : Hid (Below w.heap.size w W12) := HB13.out.trans (hb12.mono HB13.out.size)
            clear hb12
            go_wp2_with fail
            go_ret
            exact ⟨rfl, HB12.out⟩
        · have hne : (e2 != 0) = true := by simpa using he2
          clear he2
          go_wp2_with fail
          refine (Awake_any _).mono ?_
          rintro e W12 ⟨rfl, hb12⟩
          have HB12 : Hid (Below w.heap.size w W12) := HB7.out.trans (hb12.mono HB7.out.size)
          clear hb12
          go_wp2_with fail
          go_ret
          exact ⟨rfl, HB12.out⟩
      · have he2 : e2 ≠ 0 := HMore.out e2 rfl he1
        have hne1 : (e1 != 0) = true := by simpa using he1
        have hne1' : (e1 == 0) = false := by simpa using he1
        have hne : (e2 != 0) = true := by simpa using he2
        clear he1 he2
        go_wp2_with fail
        refine (Awake_any _).mono ?_
        rintro e W12 ⟨rfl, hb12⟩
        have HB12 : Hid (Below w.heap.size w W12) := HB7.out.trans (hb12.mono HB7.out.size)
        clear hb12
        go_wp2_with fail
        go_ret
        exact ⟨rfl, HB12.out⟩
end Go.Proofs.Ytadldndpphdmpaa
