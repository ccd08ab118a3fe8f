/- A run in which a set fails at a tick and stays so, in plain. -/
import Derived.Test.YtadldndpphdmpaaHh
namespace Go.Proofs.Ytadldndpphdmpaa

def inL (l : List Int) (x1 : Int) : List Sp := l.map fun x => ⟨x, x1, 400⟩
theorem inL_len (l : List Int) (x1 : Int) : (inL l x1).length = l.length := by unfold inL; simp
theorem inTime_run {t : List Nd} {l : List Int} {x1 : Int} (hl : l.length ≤ 30) : runT t (inL l x1) 400 = if (chkT t).2 ≠ 0 then ([], (chkT t).2) else if spErr t (inL l x1) ≠ 0 then ([], spErr t (inL l x1)) else ((List.range t.length).map (spL t (ownR (inL l x1) 400)), 0) := by
  unfold runT
  rw [inL_len, if_neg (c := (decide (30 < (l.length : Int)) || decide ((400 : Int) < 400)) = true) (by simp; omega), if_neg (c := (400 : Int) < 0) (by decide)]
theorem lstGo_not4 {t : List Nd} : ∀ (l : List Int) (s : Nat), (∀ x ∈ l, basI t x = true) → (lstGo t l s).1 ≠ 4
  | [], s, _ => by simp [lstGo]
  | n :: l, s, h => by
    rw [lstGo, if_neg (by rw [h n (List.mem_cons_self ..)]; decide)]
    split
    · exact fun e => absurd (show (5 : Int) = 4 from e) (by decide)
    · exact lstGo_not4 l _ fun x hx => h x (List.mem_cons_of_mem _ hx)
theorem spB_in {l : List Int} {x1 : Int} (h0 : 0 ≤ x1) (i k : Nat) (hk : k < 400) : spB (inL l x1) i k = (decide ((i : Int) ∈ l) && decide (x1.toNat ≤ k)) := by
  unfold spB inL
  rw [List.any_map, Bool.eq_iff_iff, List.any_eq_true, Bool.and_eq_true, decide_eq_true_eq, decide_eq_true_eq]
  constructor
  · rintro ⟨x, hx, h⟩
    simp only [Function.comp, Bool.and_eq_true, beq_iff_eq, decide_eq_true_eq] at h
    exact ⟨by rw [← h.1]; exact hx, by omega⟩
  · rintro ⟨h, h1⟩
    refine ⟨(i : Int), h, ?_⟩
    simp only [Function.comp, Bool.and_eq_true, beq_iff_eq, decide_eq_true_eq]
    exact ⟨trivial, by omega, by omega⟩
theorem inTime {t : List Nd} (h : TrOk t) {l : List Int} {x0 x1 : Int} (h0 : 0 ≤ x1) (hx0 : 0 ≤ x0) (hx1 : x0 < t.length) (hE : spErr t (inL l x1) = 0) (he : (leftT t l x0).2 = 0 ∨ (leftT t l x0).2 = 4) :
    spL t (ownR (inL l x1) 400) x0.toNat = if (leftT t l x0).2 = 0 ∧ (leftT t l x0).1 + x1 < 400 then [⟨x0, x1 + (leftT t l x0).1, 400⟩] else [] := by
  have hb : ∀ x ∈ l, basI t x = true := fun x hx => (spE_ok (spErr_ok hE ⟨x, x1, 400⟩ (List.mem_map.2 ⟨x, hx, rfl⟩))).1
  have hask : askT t x0 = 0 := by rw [askT_err h, if_neg (by rw [Bool.not_eq_true, outB_eq_false]; omega)]
  have hset : setT t l = 0 := by
    refine Classical.byContradiction fun hne => ?_
    have hl : leftT t l x0 = (0, setT t l) := by rw [left_eq, if_neg (fun c => c hask), if_pos hne]
    rw [hl] at he
    rcases he with he | he
    · exact hne he
    · exact lstGo_not4 l 0 hb he
  have hef := effectsT_of h hset
  rw [leftT_eq hef]
  have hi : x0.toNat < t.length := by omega
  have hx0' : ((x0.toNat : Nat) : Int) = x0 := by omega
  rw [spL_fil, run_left h (lst_sub l) x1.toNat 400 (own := filO (ownR (inL l x1) 400)) (fun i _ => ownR_inR hE i) (fun i k _ hk => by
    have := cov_ownR (inL l x1) 400 i k hk
    rw [show ((400 : Nat) : Int) = 400 from rfl] at this
    rw [← this, spB_in h0 i k hk, lst_bits hset]) hi]
  rw [← eff_bit h (lst_sub l)]
  by_cases c : (eff t (lstGo t l 0).2).testBit x0.toNat = true
  · rw [if_pos (c := 0 ≤ x0 ∧ _) ⟨hx0, c⟩]
    dsimp only
    by_cases d : atL t (eff t (lstGo t l 0).2) x0.toNat + x1 < 400
    · rw [if_pos ⟨c, by omega⟩, if_pos ⟨rfl, d⟩, hx0']
      have : ((x1.toNat : Nat) : Int) = x1 := by omega
      rw [this]
      rfl
    · rw [if_neg (fun q => d (by have := q.2; omega)), if_neg (fun q => d q.2)]
  · rw [if_neg (fun q => c q.1), if_neg (c := 0 ≤ x0 ∧ _) (fun q => c q.2)]
    dsimp only
    rw [if_neg (fun q => absurd (show (4 : Int) = 0 from q.1) (by decide))]
/-- A node that is not there has no Left. -/
theorem left_out {t : List Nd} {l : List Int} {x0 : Int} (h : TrOk t) (hx : x0 < 0 ∨ (t.length : Int) ≤ x0) : (leftT t l x0).2 = 4 := by
  have : askT t x0 = 4 := by rw [askT_err h, if_pos (by unfold outB; simp; omega)]
  rw [left_eq, if_pos (by rw [this]; decide), this]
theorem runT_ok {t : List Nd} {l : List Sp} {N : Int} (h : (runT t l N).2 = 0) : TrOk t ∧ l.length ≤ 30 ∧ 0 ≤ N ∧ N ≤ 400 ∧ spErr t l = 0 ∧ (runT t l N).1 = (List.range t.length).map (spL t (ownR l N)) := by
  unfold runT at h ⊢
  by_cases h1 : (chkT t).2 ≠ 0
  · rw [if_pos h1] at h; exact absurd h h1
  rw [if_neg h1] at h ⊢
  by_cases h2 : (decide (30 < (l.length : Int)) || decide (400 < N)) = true
  · rw [if_pos h2] at h; exact absurd (show (3 : Int) = 0 from h) (by decide)
  rw [if_neg h2] at h ⊢
  by_cases h3 : N < 0
  · rw [if_pos h3] at h; exact absurd (show (7 : Int) = 0 from h) (by decide)
  rw [if_neg h3] at h ⊢
  by_cases h4 : spErr t l ≠ 0
  · rw [if_pos h4] at h; exact absurd h h4
  rw [if_neg h4] at h ⊢
  simp at h2
  exact ⟨chkT_ok.1 (Classical.byContradiction h1), by omega, by omega, by omega, Classical.byContradiction h4, rfl⟩
end Go.Proofs.Ytadldndpphdmpaa
