/- More failures, in plain. -/
import Derived.Test.YtadldndpphdmpaaGreatHd
import Derived.Test.YtadldndpphdmpaaGreatQA
namespace Go.Proofs.YtadldndpphdmpaaGreat

/-- A list, and what it lacks of another one. -/
def bothL : List Int → List Int → List Int
  | b, [] => b
  | b, n :: g => bothL (if n ∈ b then b else b ++ [n]) g
theorem bothL_snoc (n : Int) : ∀ (g s : List Int), bothL s (g ++ [n]) = if n ∈ bothL s g then bothL s g else bothL s g ++ [n]
  | [], s => rfl
  | m :: g, s => by
    rw [List.cons_append, bothL, bothL, bothL_snoc n g]
theorem bothL_take {s g : List Int} {i : Nat} {n : Int} (h : g[i]? = some n) : bothL s (g.take (i + 1)) = if n ∈ bothL s (g.take i) then bothL s (g.take i) else bothL s (g.take i) ++ [n] := by
  obtain ⟨hk, rfl⟩ := List.getElem?_eq_some_iff.1 h
  rw [List.take_succ_eq_append_getElem hk, bothL_snoc]
theorem mem_bothL (n : Int) : ∀ (g s : List Int), n ∈ bothL s g ↔ n ∈ s ∨ n ∈ g
  | [], s => by simp [bothL]
  | m :: g, s => by
    rw [bothL, mem_bothL n g]
    by_cases h : m ∈ s
    · rw [if_pos h, List.mem_cons]
      constructor
      · rintro (a | a)
        · exact .inl a
        · exact .inr (.inr a)
      · rintro (a | rfl | a)
        · exact .inl a
        · exact .inl h
        · exact .inr a
    · rw [if_neg h, List.mem_cons, List.mem_append, List.mem_singleton, or_assoc]
theorem bothL_pre : ∀ (g s : List Int), ∃ r, bothL s g = s ++ r
  | [], s => ⟨[], by simp [bothL]⟩
  | m :: g, s => by
    rw [bothL]
    by_cases h : m ∈ s
    · rw [if_pos h]; exact bothL_pre g s
    · rw [if_neg h]
      obtain ⟨r, hr⟩ := bothL_pre g (s ++ [m])
      exact ⟨m :: r, by rw [hr]; simp⟩
theorem bothL_len : ∀ (g s : List Int), (bothL s g).length ≤ s.length + g.length
  | [], s => by simp [bothL]
  | m :: g, s => by
    rw [bothL]
    have := bothL_len g (if m ∈ s then s else s ++ [m])
    rw [List.length_cons]
    by_cases h : m ∈ s
    · rw [if_pos h] at this ⊢; omega
    · rw [if_neg h] at this ⊢; rw [List.length_append] at this; simp at this; omega
theorem setT_pre {t : List Nd} {s r : List Int} (h : setT t (s ++ r) = 0) : setT t s = 0 := by
  unfold setT at h ⊢
  rw [lstGo_ok] at h ⊢
  exact ⟨fun n hn => h.1 n (List.mem_append_left _ hn), (List.nodup_append.1 h.2).1⟩
theorem setT_both {t : List Nd} {s g : List Int} (h : setT t (bothL s g) = 0) : setT t s = 0 := by
  obtain ⟨r, hr⟩ := bothL_pre g s
  rw [hr] at h
  exact setT_pre h

theorem effectsT_err (t : List Nd) (l : List Int) : (effectsT t l).1 = if (chkT t).2 ≠ 0 then (chkT t).2 else setT t l := by
  have h := ask_about1 t 0 l
  rw [ask_zero] at h
  unfold effectsT
  by_cases c : (aboutT t 0 [l]).1 = 0
  · rw [if_pos c, ← h, c]
  · rw [if_neg c, ← h]
theorem effectsT_ok {t : List Nd} {l : List Int} (h : (effectsT t l).1 = 0) : TrOk t ∧ setT t l = 0 ∧ (effectsT t l).2 = bitsL (eff t (lstGo t l 0).2) := by
  have h1 := h
  rw [effectsT_err] at h1
  by_cases c : (chkT t).2 ≠ 0
  · rw [if_pos c] at h1; exact absurd h1 c
  · rw [if_neg c] at h1
    have c' : (chkT t).2 = 0 := Classical.byContradiction c
    refine ⟨chkT_ok.1 c', h1, ?_⟩
    have h0 : (aboutT t 0 [l]).1 = 0 := by rw [ask_about1, ask_zero, c', if_neg (by decide)]; exact h1
    unfold effectsT
    rw [if_pos h0, (about_set1 h0).1]
    rfl
theorem effectsT_of {t : List Nd} {l : List Int} (h : TrOk t) (hl : setT t l = 0) : (effectsT t l).1 = 0 := by
  rw [effectsT_err, if_neg (by rw [chkT_ok.2 h]; decide)]; exact hl
theorem more_err {t : List Nd} {s g : List Int} (h : (effectsT t s).1 ≠ 0) : (effectsT t (bothL s g)).1 ≠ 0 := fun c => by
  obtain ⟨h1, h2, _⟩ := effectsT_ok c
  exact h (effectsT_of h1 (setT_both h2))
theorem mem_eff {t : List Nd} {l : List Int} (h : (effectsT t l).1 = 0) (n : Int) : n ∈ (effectsT t l).2 ↔ 0 ≤ n ∧ (eff t (lstGo t l 0).2).testBit n.toNat = true := by
  obtain ⟨h1, h2, h3⟩ := effectsT_ok h
  have h64 : eff t (lstGo t l 0).2 < 2 ^ 64 := by have := pow_40 h1 (eff_lt h1 (lst_sub l)); omega
  rw [h3, mem_bitsL h64]
theorem lst_subN {t : List Nd} {s u : List Int} (hs : setT t s = 0) (hu : setT t u = 0) (h : ∀ n ∈ s, n ∈ u) : SubN (lstGo t s 0).2 (lstGo t u 0).2 := fun j hj => by
  rw [lst_bits hs] at hj
  rw [lst_bits hu]
  simp only [decide_eq_true_eq] at hj ⊢
  exact h _ hj
theorem more_within {t : List Nd} {s u : List Int} (hs : (effectsT t s).1 = 0) (hu : (effectsT t u).1 = 0) (h : ∀ n ∈ s, n ∈ u) : ∀ n ∈ (effectsT t s).2, n ∈ (effectsT t u).2 := fun n hn => by
  rw [mem_eff hs] at hn
  rw [mem_eff hu]
  obtain ⟨h1, h2, _⟩ := effectsT_ok hs
  obtain ⟨_, h4, _⟩ := effectsT_ok hu
  exact ⟨hn.1, eff_mono h1 (lst_sub s) (lst_sub u) (lst_subN h2 h4 h) _ hn.2⟩
theorem more_own {t : List Nd} {s : List Int} (hs : (effectsT t s).1 = 0) : ∀ n ∈ s, n ∈ (effectsT t s).2 := fun n hn => by
  rw [mem_eff hs]
  obtain ⟨h1, h2, _⟩ := effectsT_ok hs
  have h3 := ((lstGo_ok s 0).1 h2).1 n hn
  obtain ⟨h4, h5, h6⟩ := basI_nat h3.1
  refine ⟨h4, ?_⟩
  rw [eff_bit h1 (lst_sub s)]
  have hx := List.getElem?_eq_getElem h5
  rw [isBas_kind hx] at h6
  rw [ef_eq h1 _ hx, if_pos (by simpa using h6), lst_bits h2]
  simp only [decide_eq_true_eq]
  rwa [show ((n.toNat : Nat) : Int) = n by omega]
theorem askT_err {t : List Nd} (h : TrOk t) (n : Int) : askT t n = if outB n 0 ((t.length : Int) - 1) = true then 4 else 0 := by
  unfold askT
  rw [if_neg (by rw [chkT_ok.2 h]; decide)]
theorem leftT_eq {t : List Nd} {l : List Int} (hl : (effectsT t l).1 = 0) (node : Int) :
    leftT t l node = if 0 ≤ node ∧ (eff t (lstGo t l 0).2).testBit node.toNat = true then (atL t (eff t (lstGo t l 0).2) node.toNat, 0) else (0, 4) := by
  obtain ⟨h1, h2, _⟩ := effectsT_ok hl
  unfold leftT
  by_cases c : outB node 0 ((t.length : Int) - 1) = true
  · have ha : (aboutT t node [l]).1 = 4 := by rw [ask_about1, askT_err h1, if_pos c, if_pos (by decide)]
    rw [if_neg (by rw [ha]; decide), ha, if_neg]
    rintro ⟨h3, h4⟩
    have := outB_true c
    rw [eff_bit h1 (lst_sub l), ef_out (by omega)] at h4
    cases h4
  · have hn := outB_false (Bool.eq_false_iff.2 c)
    have ha : (aboutT t node [l]).1 = 0 := by rw [ask_about1, askT_err h1, if_neg c, if_neg (by decide)]; exact h2
    have e : (aboutT t node [l]).2.headD 0 = (lstGo t l 0).2 := by rw [(about_set1 ha).1]; rfl
    rw [if_pos ha, e]
    by_cases d : (eff t (lstGo t l 0).2).testBit node.toNat = true
    · rw [if_pos d, if_pos ⟨hn.1, d⟩]
    · rw [if_neg d, if_neg (fun h => d h.2)]
theorem left_has {t : List Nd} {l : List Int} (hl : (effectsT t l).1 = 0) (node : Int) : (leftT t l node).2 = 0 ↔ node ∈ (effectsT t l).2 := by
  rw [leftT_eq hl, mem_eff hl]
  by_cases c : 0 ≤ node ∧ (eff t (lstGo t l 0).2).testBit node.toNat = true
  · rw [if_pos c]; exact ⟨fun _ => c, fun _ => rfl⟩
  · rw [if_neg c]; exact ⟨fun h => absurd (show (4 : Int) = 0 from h) (by decide), fun h => absurd h c⟩
theorem left_more {t : List Nd} {s u : List Int} (hs : (effectsT t s).1 = 0) (hu : (effectsT t u).1 = 0) (h : ∀ n ∈ s, n ∈ u) {node : Int} (hl : (leftT t s node).2 = 0) :
    (leftT t u node).2 = 0 ∧ (leftT t u node).1 ≤ (leftT t s node).1 ∧ 0 ≤ (leftT t u node).1 := by
  have hm := (left_has hs node).1 hl
  have hm2 := more_within hs hu h node hm
  refine ⟨(left_has hu node).2 hm2, ?_⟩
  rw [mem_eff hs] at hm
  rw [mem_eff hu] at hm2
  obtain ⟨h1, h2, _⟩ := effectsT_ok hs
  obtain ⟨_, h4, _⟩ := effectsT_ok hu
  rw [leftT_eq hs, leftT_eq hu, if_pos hm, if_pos hm2]
  dsimp only
  have hi : node.toNat < t.length := by
    rcases Nat.lt_or_ge node.toNat t.length with c | c
    · exact c
    · have := hm.2; rw [eff_bit h1 (lst_sub s), ef_out c] at this; cases this
  have ha := atL_bd h1 (eff t (lstGo t s 0).2) _ hi
  have hb := atL_bd h1 (eff t (lstGo t u 0).2) _ hi
  refine ⟨?_, hb.1⟩
  have f1 := left_ft h1 (lst_sub s) 0 (B := fun i k => (lstGo t s 0).2.testBit i && decide (0 ≤ k)) (fun _ _ _ => rfl) _ hi (atL t (eff t (lstGo t s 0).2) node.toNat).toNat
  have f2 := left_ft h1 (lst_sub u) 0 (B := fun i k => (lstGo t u 0).2.testBit i && decide (0 ≤ k)) (fun _ _ _ => rfl) _ hi (atL t (eff t (lstGo t s 0).2) node.toNat).toNat
  have hm' := hm.2
  rw [eff_bit h1 (lst_sub s)] at hm'
  rw [hm', Bool.true_and, decide_eq_true (by omega)] at f1
  have f3 := ft_mono h1 (C := fun i k => (lstGo t u 0).2.testBit i && decide (0 ≤ k)) (fun i k _ hb => by
    simp only [Bool.and_eq_true] at hb ⊢
    exact ⟨lst_subN h2 h4 h i hb.1, hb.2⟩) _ _ f1
  rw [f2] at f3
  simp only [Bool.and_eq_true, decide_eq_true_eq] at f3
  omega
end Go.Proofs.YtadldndpphdmpaaGreat
