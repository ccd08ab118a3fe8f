/- The document's first, Left and Effects: walks. -/
import Derived.Test.YtadldndpphdmpaaI9
import Derived.Test.YtadldndpphdmpaaHf
namespace Go.Proofs.Ytadldndpphdmpaa
open Go.RowKit Go.Shelf

theorem BRows.get {w : World} {base : Nat} {v : Value} {ps : List BoP} (h : BRows w base v ps) : ∃ A c, v = .slice A ps.length c ∧ ∀ k p, ps[k]? = some p → ∃ ad, A = some ad ∧ w.cell? (ad.add k) = some (BoP.v p) ∧ RdB w p.2.1 p.1.length p.1 := by
  have hr := h.row
  rw [map_flat BoP.v] at hr
  obtain ⟨A, c, rfl, h1, _, _⟩ := rd_of_own (enc := fun p => [BoP.v p]) (k := 1) (fun _ => rfl) hr rfl
  refine ⟨A, c, rfl, fun k p hp => ?_⟩
  obtain ⟨ad, rfl, h2⟩ := h1.2 k p hp
  have h3 := h2 0 _ rfl
  rw [Nat.mul_one] at h3
  exact ⟨ad, rfl, h3, (h.all p (List.mem_of_getElem? hp)).rd⟩

set_option maxRecDepth 100000 in
set_option maxHeartbeats 4000000 in
theorem first_any (t : List Nd) (l : List Sp) (A : Option Addr) (n c : Nat) (ms : List NdM) (L : Option Addr) (cl N nn : Nat) (w : World) (hT : TrM w t A n ms) (hO : TrOk t) (hL : RdS w L l.length l) (hl : l.length ≤ 1000000) (hN : N ≤ 100000) (hnn : nn < n) :
    Calls Try.prog 57 #[.agg #[.slice A n c], .slice L l.length cl, .int .i64 (N : Int), .int .i64 (nn : Int)] w fun e w' => e = .returned (.int .i64 (idxF (ft t (spB l) nn) 0 N)) ∧ Below w.heap.size w w' := by
  obtain ⟨W1, hW1⟩ : ∃ W1, w.alloc (.cells #[.slice A n c] 24) = W1 := ⟨_, rfl⟩
  have HB1 : Hid (Below w.heap.size w W1) := by rw [← hW1]; exact (Below.refl _ w).alloc (Nat.le_refl _) _
  have HC := Lib.hid (ran_any t l A n c ms L cl N W1 (hT.below HB1.out) hO (hL.below HB1.out) hl hN)
  have HW1 := Lib.hid hW1
  have HRb : Hid (∀ k, rowB t (spB l) n k = (List.range n).map fun i => ft t (spB l) i k) := fun _ => rfl
  clear hW1 hT hL hO
  generalize hX : idxF (ft t (spB l) nn) 0 N = X
  have HX := Lib.hid hX
  clear hX
  go_enter Try.func57, Try.ntmps57
  go_wp2_with fail
  rw [HW1.out]
  refine HC.out.mono ?_
  rintro e W2 ⟨v, ps, rfl, hr, hps, hb2⟩
  have HB2 : Hid (Below w.heap.size w W2) := HB1.out.trans (hb2.mono HB1.out.size)
  obtain ⟨AV, cV, rfl, hget⟩ := hr.get
  have hpl : ps.length = N := by have := congrArg List.length hps; simpa using this
  have HGet := Lib.hid hget; have HPs := Lib.hid hps
  rw [hpl]
  have HPl := Lib.hid hpl
  clear hr hb2 hget hps hpl HC HW1
  go_wp2_with fail
  go_loop [10] (fun i => ∃ k : Nat, k ≤ N ∧ i = .int .i64 k ∧ idxF (ft t (spB l) nn) k (N - k) = X) (fun i => N - (intOf i).toNat)
  case atStart => exact ⟨0, Nat.zero_le _, rfl, HX.out⟩
  case round =>
    obtain ⟨k, hk, rfl, hE⟩ := hrel
    have HE := Lib.hid hE
    clear hE
    by_cases hlt : k < N
    · have hpk : ps[k]? = some (ps[k]'(by have := HPl.out; omega)) := List.getElem?_eq_getElem _
      generalize ps[k]'(by have := HPl.out; omega) = p at hpk
      obtain ⟨ad, rfl, hc0, hrB⟩ := HGet.out k p hpk
      have hp1 : p.1 = rowB t (spB l) n k := by
        have h := congrArg (fun l => l[k]?) HPs.out
        simp only [List.getElem?_map, hpk, Option.map_some] at h
        rw [List.getElem?_range hlt] at h
        exact Option.some.inj h
      obtain ⟨pl, pA, pc⟩ := p
      dsimp only at *
      subst hp1
      have hrl : (rowB t (spB l) n k).length = n := by unfold rowB; simp
      rw [hrl] at hrB
      have hc1 : W2.cell? (ad.add k) = some (.slice pA n pc) := by rw [← hrl]; exact hc0
      obtain ⟨b, bd, hbv, rfl, hcb⟩ := rdB_get hrB hnn
      have hbe : b = ft t (spB l) nn k := by
        rw [HRb.out, List.getElem?_map, List.getElem?_range hnn] at hbv
        exact (Option.some.inj hbv).symm
      have hkN : (k : Int) < (N : Int) := by omega
      have hnn' : (nn : Int) < (n : Int) := by omega
      have HBe := Lib.hid hbe
      clear hpk hrB hbv hbe hrl hc0
      cases b
      · have HN2 : Hid (idxF (ft t (spB l) nn) (k + 1) (N - (k + 1)) = X) := by have := HE.out; rw [idxF_no hlt HBe.out.symm] at this; exact this
        go_wp2_with fail
        go_round
        case rel => exact ⟨k + 1, by omega, by go_num, HN2.out⟩
        case measure => simp [intOf]; omega
      · have F : Hid ((k : Int) = X) := by have := HE.out; rw [idxF_yes hlt HBe.out.symm] at this; exact this
        go_wp2_with fail
        go_ret
        exact ⟨ret_int F.out, HB2.out⟩
    · have F : Hid (-1 = X) := by have := HE.out; rw [idxF_end (by omega)] at this; exact this
      obtain rfl : N = k := by omega
      go_wp2_with fail
      go_ret
      exact ⟨ret_int F.out, HB2.out⟩

theorem setT_len {t : List Nd} (h : TrOk t) {l : List Int} (hl : setT t l = 0) : l.length ≤ 10 := by
  have h1 := (lstGo_ok l 0).1 hl
  refine Nat.le_trans (nodup_le l (basL t) h1.2 fun x hx => ?_) (basL_le h)
  have := (h1.1 x hx).1
  rw [← mem_basI] at this
  simpa using this
theorem goodL_len (l : List Int) (n : Int) : (goodL l n).length = l.length := by unfold goodL; simp
theorem spB_good {l : List Int} {N : Nat} (i k : Nat) (hk : k < N) : spB (goodL l N) i k = decide ((i : Int) ∈ l) := by
  unfold spB goodL
  rw [List.any_map, Bool.eq_iff_iff, List.any_eq_true, decide_eq_true_eq]
  constructor
  · rintro ⟨x, hx, h⟩
    simp only [Function.comp, Bool.and_eq_true, beq_iff_eq] at h
    rw [← h.1]; exact hx
  · intro h
    refine ⟨(i : Int), h, ?_⟩
    simp only [Function.comp, Bool.and_eq_true, beq_iff_eq, decide_eq_true_eq]
    exact ⟨trivial, by omega, by omega⟩
def longN (t : List Nd) : Nat := (holdsN t t.length).toNat + 1
theorem longN_eq {t : List Nd} (h : TrOk t) : ((longN t : Nat) : Int) = holdsN t t.length + 1 ∧ longN t ≤ 4001 := by
  have h1 := holdsN_le h t.length (Nat.le_refl _)
  have h2 := holdsN_mono h (Nat.zero_le t.length) (Nat.le_refl _)
  have h3 := h.l40
  rw [holdsN_zero] at h2
  unfold longN
  constructor <;> omega
/-- Left, as the document has it. -/
theorem left_eq (t : List Nd) (l : List Int) (node : Int) : leftT t l node =
    if askT t node ≠ 0 then (0, askT t node) else if setT t l ≠ 0 then (0, setT t l) else if ef t (fun j => decide ((j : Int) ∈ l)) node.toNat = true then (idxF (ft t (spB (goodL l (longN t))) node.toNat) 0 (longN t), 0) else (0, 4) := by
  unfold leftT
  by_cases h1 : askT t node ≠ 0
  · have ha : (aboutT t node [l]).1 = askT t node := by rw [ask_about1, if_pos h1]
    rw [if_pos h1, if_neg (by rw [ha]; exact h1), ha]
  · have h1' : askT t node = 0 := Classical.byContradiction h1
    have ha : (aboutT t node [l]).1 = setT t l := by rw [ask_about1, if_neg h1]
    rw [if_neg h1]
    by_cases h2 : setT t l ≠ 0
    · rw [if_pos h2, if_neg (by rw [ha]; exact h2), ha]
    · have h2' : setT t l = 0 := Classical.byContradiction h2
      obtain ⟨hok, n0, n1⟩ := ask_ok h1'
      have e : (aboutT t node [l]).2.headD 0 = (lstGo t l 0).2 := by rw [(about_set1 (ha.trans h2')).1]; rfl
      rw [if_neg h2, if_pos (ha.trans h2'), e, eff_bit hok (lst_sub l), lst_ef h2']
      by_cases h3 : ef t (fun j => decide ((j : Int) ∈ l)) node.toNat = true
      · rw [if_pos h3, if_pos h3]
        have hi : node.toNat < t.length := by omega
        have hb := atL_bd hok (eff t (lstGo t l 0).2) _ hi
        have hh := atL_holds hok (eff t (lstGo t l 0).2) _ hi
        have hm := holdsN_mono hok (j := node.toNat + 1) (i := t.length) (by omega) (Nat.le_refl _)
        obtain ⟨hL, _⟩ := longN_eq hok
        have := idxF_first (p := ft t (spB (goodL l (longN t))) node.toNat) (d := (atL t (eff t (lstGo t l 0).2) node.toNat).toNat) (n := longN t) (by omega) (fun k hk => by
          have f1 := ft_local hok (B := spB (goodL l (longN t))) (C := fun i k => (lstGo t l 0).2.testBit i && decide (0 ≤ k)) (k := k) (fun i j _ hj => by
            rw [spB_good i j (by omega), lst_bits h2']; simp) node.toNat k (Nat.le_refl _)
          rw [f1, left_ft hok (lst_sub l) 0 (B := fun i k => (lstGo t l 0).2.testBit i && decide (0 ≤ k)) (fun _ _ _ => rfl) _ hi k, lst_ef h2', h3]
          simp only [Bool.true_and, decide_eq_true_eq]
          omega)
        rw [this]
        congr 1
        omega
      · rw [if_neg h3, if_neg h3]
end Go.Proofs.Ytadldndpphdmpaa
