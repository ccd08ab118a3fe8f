/- Runs, in plain: the spans that are not empty matter alone. -/
import Derived.Test.YtadldndpphdmpaaI11
namespace Go.Proofs.Ytadldndpphdmpaa

def filO (own : Nat → List Sp) (i : Nat) : List Sp := (own i).filter fun s => decide (s.a < s.b)
theorem lsF_fil (own : Nat → List Sp) : lsF own = lsF (filO own) := by
  funext i x f
  unfold lsF filO
  by_cases h1 : x.kind = 1
  · rw [if_pos h1, if_pos h1, List.filter_filter]
    simp
  · rw [if_neg h1, if_neg h1]
theorem spL_fil (t : List Nd) (own : Nat → List Sp) (i : Nat) : spL t own i = spL t (filO own) i := by
  have e : runF own = runF (filO own) := by
    funext i x f
    unfold runF
    rw [lsF_fil]
  unfold spL
  rw [e]
/-- The spans of a basic node in a run of N ticks. -/
def ownR (l : List Sp) (N : Int) (i : Nat) : List Sp := (l.filter fun s => s.nd == (i : Int)).map fun s => ⟨(i : Int), s.a, min s.b N⟩
theorem ownR_take {l : List Sp} {N : Int} {i k : Nat} {s : Sp} (h : l[k]? = some s) : ownR (l.take (k + 1)) N i = ownR (l.take k) N i ++ if (s.nd == (i : Int)) = true then [⟨(i : Int), s.a, min s.b N⟩] else [] := by
  unfold ownR
  rw [filter_take _ h, List.map_append]
  congr 1
  split <;> rfl
theorem ownR_len (l : List Sp) (N : Int) (i : Nat) : (ownR l N i).length ≤ l.length := by
  unfold ownR
  rw [List.length_map]
  exact List.length_filter_le _ _
/-- The error of a span. -/
def spE (t : List Nd) (s : Sp) : Int := if basI t s.nd = false then 4 else if outB s.b 0 400 = true then 7 else if outB s.a 0 s.b = true then 7 else 0
def spErr (t : List Nd) : List Sp → Int
  | [] => 0
  | s :: r => if spE t s = 0 then spErr t r else spE t s
theorem spErr_step {t : List Nd} {l : List Sp} {k : Nat} {s : Sp} (h : l[k]? = some s) : spErr t (l.drop k) = if spE t s = 0 then spErr t (l.drop (k + 1)) else spE t s := by
  obtain ⟨hk, rfl⟩ := List.getElem?_eq_some_iff.1 h
  rw [List.drop_eq_getElem_cons hk, spErr]
theorem spE_ok {t : List Nd} {s : Sp} (h : spE t s = 0) : basI t s.nd = true ∧ 0 ≤ s.a ∧ s.a ≤ s.b ∧ s.b ≤ 400 := by
  unfold spE at h
  by_cases h1 : basI t s.nd = false
  · rw [if_pos h1] at h; exact absurd h (by decide)
  rw [if_neg h1] at h
  by_cases h2 : outB s.b 0 400 = true
  · rw [if_pos h2] at h; exact absurd h (by decide)
  rw [if_neg h2] at h
  by_cases h3 : outB s.a 0 s.b = true
  · rw [if_pos h3] at h; exact absurd h (by decide)
  have := outB_false (Bool.eq_false_iff.2 h2)
  have := outB_false (Bool.eq_false_iff.2 h3)
  exact ⟨by simpa using h1, by omega, by omega, by omega⟩
theorem spErr_ok {t : List Nd} : ∀ {l : List Sp}, spErr t l = 0 → ∀ s ∈ l, spE t s = 0
  | [], _, s, hs => by simp at hs
  | u :: r, h, s, hs => by
    rw [spErr] at h
    by_cases c : spE t u = 0
    · rw [if_pos c] at h
      rcases List.mem_cons.1 hs with rfl | hs
      · exact c
      · exact spErr_ok h s hs
    · rw [if_neg c] at h; exact absurd h c
theorem ownR_inR {t : List Nd} {l : List Sp} (h : spErr t l = 0) {N : Int} (i : Nat) : InR 0 N (filO (ownR l N) i) := by
  intro s hs
  unfold filO ownR at hs
  rw [List.mem_filter, List.mem_map] at hs
  obtain ⟨⟨u, hu, rfl⟩, h2⟩ := hs
  obtain ⟨_, h3, h4, h5⟩ := spE_ok (spErr_ok h u (List.mem_filter.1 hu).1)
  simp only [decide_eq_true_eq] at h2
  dsimp only
  omega
theorem cov_ownR (l : List Sp) (N : Nat) (i k : Nat) (hk : k < N) : spB l i k = cov (filO (ownR l N) i) (k : Nat) := by
  unfold spB
  rw [Bool.eq_iff_iff, List.any_eq_true, cov_iff]
  constructor
  · rintro ⟨s, hs, h⟩
    simp only [Bool.and_eq_true, beq_iff_eq, decide_eq_true_eq] at h
    refine ⟨⟨(i : Int), s.a, min s.b N⟩, ?_, by dsimp only; omega, by dsimp only; omega⟩
    unfold filO ownR
    rw [List.mem_filter, List.mem_map]
    exact ⟨⟨s, List.mem_filter.2 ⟨hs, by simpa using h.1⟩, rfl⟩, by simp only [decide_eq_true_eq]; omega⟩
  · rintro ⟨s, hs, h1, h2⟩
    unfold filO ownR at hs
    rw [List.mem_filter, List.mem_map] at hs
    obtain ⟨⟨u, hu, rfl⟩, h3⟩ := hs
    rw [List.mem_filter] at hu
    dsimp only at h1 h2
    refine ⟨u, hu.1, ?_⟩
    simp only [Bool.and_eq_true, beq_iff_eq, decide_eq_true_eq]
    exact ⟨by simpa using hu.2, h1, by omega⟩
/-- What Run returns. -/
def runT (t : List Nd) (l : List Sp) (N : Int) : List (List Sp) × Int :=
  if (chkT t).2 ≠ 0 then ([], (chkT t).2) else if (decide (30 < (l.length : Int)) || decide (400 < N)) = true then ([], 3) else if N < 0 then ([], 7) else if spErr t l ≠ 0 then ([], spErr t l) else ((List.range t.length).map (spL t (ownR l N)), 0)
end Go.Proofs.Ytadldndpphdmpaa
