/- Plain: the document's Run. -/
import Derived.Test.YtadldndpphdmpaaHi
import Derived.Test.YtadldndpphdmpaaI8
namespace Go.Proofs.Ytadldndpphdmpaa

/-- The error of a span, as the document tells it. -/
theorem spE_doc (t : List Nd) (s : Sp) : spE t s = if basI t s.nd = false then 4 else if (outB s.a 0 400 || outB s.b s.a 400) = true then 7 else 0 := by
  unfold spE
  by_cases h1 : basI t s.nd = false
  · rw [if_pos h1, if_pos h1]
  rw [if_neg h1, if_neg h1]
  unfold outB
  by_cases h2 : (decide (s.b < 0) || decide (400 < s.b)) = true
  · rw [if_pos h2]
    rw [if_pos]
    simp at h2 ⊢
    omega
  · rw [if_neg h2]
    by_cases h3 : (decide (s.a < 0) || decide (s.b < s.a)) = true
    · rw [if_pos h3, if_pos]
      simp at h2 h3 ⊢
      omega
    · rw [if_neg h3, if_neg]
      simp at h2 h3 ⊢
      omega
theorem spB_own (l : List Sp) (N : Nat) (i k : Nat) (hk : k < N) : spB l i k = cov (filO (ownR l N) i) k := by
  rw [Bool.eq_iff_iff, cov_iff]
  unfold spB filO ownR
  rw [List.any_eq_true]
  constructor
  · rintro ⟨s, hs, h⟩
    simp only [Bool.and_eq_true, beq_iff_eq, decide_eq_true_eq] at h
    refine ⟨⟨(i : Int), s.a, min s.b N⟩, ?_, by dsimp only; omega, by dsimp only; omega⟩
    rw [List.mem_filter, List.mem_map]
    refine ⟨⟨s, List.mem_filter.2 ⟨hs, by simpa using h.1⟩, rfl⟩, ?_⟩
    simp only [decide_eq_true_eq]
    omega
  · rintro ⟨u, hu, h1, h2⟩
    rw [List.mem_filter, List.mem_map] at hu
    obtain ⟨⟨s, hs, rfl⟩, h3⟩ := hu
    obtain ⟨hs, h4⟩ := List.mem_filter.1 hs
    refine ⟨s, hs, ?_⟩
    dsimp only at h1 h2
    simp only [Bool.and_eq_true, decide_eq_true_eq]
    exact ⟨h4, h1, by omega⟩
theorem ref_run {t : List Nd} (h : TrOk t) {l : List Sp} (hs : spErr t l = 0) {N i : Nat} (hi : i < t.length) {L : List Sp} (hL : RunInv i (ft t (spB l) i) N L) : L = spL t (ownR l N) i := by
  rw [spL_fil]
  exact run_uniq h (own := filO (ownR l N)) (n := N) (fun i _ => ownR_inR hs i) (fun i k _ hk => spB_own l N i k hk) hi hL
end Go.Proofs.Ytadldndpphdmpaa
