/- Plain: the nodes told by a tick, and the runs in order. -/
import Derived.Test.YtadldndpphdmpaaHi
import Derived.Test.YtadldndpphdmpaaI11
namespace Go.Proofs.Ytadldndpphdmpaa

/-- Whether a span is told by a tick. -/
def tldS (K : Int) (s : Sp) : Bool := decide (s.a ≤ K) && decide (s.a < s.b)
def tldF (K : Int) (acc : List Int) (s : Sp) : List Int := if (tldS K s && !decide (s.nd ∈ acc)) = true then acc ++ [s.nd] else acc
/-- The nodes told by a tick, each once. -/
def tldL (K : Int) (l : List Sp) : List Int := l.foldl (tldF K) []
theorem tldL_take {l : List Sp} {k : Nat} {s : Sp} (K : Int) (h : l[k]? = some s) : tldL K (l.take (k + 1)) = tldF K (tldL K (l.take k)) s := by
  obtain ⟨hk, rfl⟩ := List.getElem?_eq_some_iff.1 h
  rw [List.take_succ_eq_append_getElem hk]
  unfold tldL
  rw [List.foldl_append]
  rfl
theorem tldF_len (K : Int) (acc : List Int) (s : Sp) : (tldF K acc s).length ≤ acc.length + 1 := by
  unfold tldF
  split
  · simp
  · omega
theorem tldGo_len (K : Int) : ∀ (l : List Sp) (acc : List Int), (l.foldl (tldF K) acc).length ≤ acc.length + l.length
  | [], acc => by simp
  | s :: l, acc => by
    have h1 := tldGo_len K l (tldF K acc s)
    have h2 := tldF_len K acc s
    rw [List.foldl_cons, List.length_cons]
    omega
theorem tldL_len (K : Int) (l : List Sp) : (tldL K l).length ≤ l.length := by have := tldGo_len K l []; simpa [tldL] using this
theorem tldF_mem {K : Int} {acc : List Int} {s : Sp} {x : Int} : x ∈ tldF K acc s ↔ x ∈ acc ∨ (tldS K s = true ∧ s.nd = x) := by
  unfold tldF
  by_cases h1 : tldS K s = true
  · by_cases h2 : s.nd ∈ acc
    · rw [if_neg (by simp [h1, h2])]
      constructor
      · exact .inl
      · rintro (h | ⟨_, rfl⟩)
        · exact h
        · exact h2
    · rw [if_pos (by simp [h1, h2]), List.mem_append, List.mem_singleton]
      constructor
      · rintro (h | rfl)
        · exact .inl h
        · exact .inr ⟨h1, rfl⟩
      · rintro (h | ⟨_, rfl⟩)
        · exact .inl h
        · exact .inr rfl
  · rw [if_neg (by simp [h1])]
    exact ⟨.inl, fun h => h.elim id fun c => absurd c.1 h1⟩
theorem tldF_nodup {K : Int} {acc : List Int} {s : Sp} (h : acc.Nodup) : (tldF K acc s).Nodup := by
  unfold tldF
  split
  · rename_i c
    simp only [Bool.and_eq_true, Bool.not_eq_true', decide_eq_false_iff_not] at c
    rw [List.nodup_append]
    exact ⟨h, by simp, fun a ha b hb => by rw [List.mem_singleton] at hb; subst hb; exact fun e => c.2 (e ▸ ha)⟩
  · exact h
theorem tldGo_mem {K : Int} : ∀ (l : List Sp) (acc : List Int) (x : Int), x ∈ l.foldl (tldF K) acc ↔ x ∈ acc ∨ ∃ s ∈ l, tldS K s = true ∧ s.nd = x
  | [], acc, x => by simp
  | s :: l, acc, x => by
    rw [List.foldl_cons, tldGo_mem l _ x, tldF_mem]
    simp only [List.mem_cons, exists_eq_or_imp]
    rw [or_assoc]
theorem tldGo_nodup {K : Int} : ∀ (l : List Sp) (acc : List Int), acc.Nodup → (l.foldl (tldF K) acc).Nodup
  | [], _, h => h
  | s :: l, acc, h => by rw [List.foldl_cons]; exact tldGo_nodup l _ (tldF_nodup h)
theorem tldL_mem {K : Int} {l : List Sp} {x : Int} : x ∈ tldL K l ↔ ∃ s ∈ l, tldS K s = true ∧ s.nd = x := by
  unfold tldL
  rw [tldGo_mem]
  simp
theorem told_set {t : List Nd} {l : List Sp} (h : spErr t l = 0) (K : Int) : setT t (tldL K l) = 0 := by
  unfold setT
  rw [lstGo_ok]
  refine ⟨fun n hn => ⟨?_, Nat.zero_testBit _⟩, tldGo_nodup l [] (by simp)⟩
  obtain ⟨s, hs, _, rfl⟩ := tldL_mem.1 hn
  exact (spE_ok (spErr_ok h s hs)).1
theorem told_ok {t : List Nd} (hT : TrOk t) {l : List Sp} (h : spErr t l = 0) (K : Int) : effectsT t (tldL K l) = (0, effL t fun j => decide ((j : Int) ∈ tldL K l)) := by
  rw [effectsT_eq, if_neg (fun c => c (chkT_ok.2 hT)), if_neg (fun c => c (told_set h K))]
/-- A node whose run covers a tick is an effect of what is told by then. -/
theorem told_in {t : List Nd} (hT : TrOk t) {l : List Sp} (h : spErr t l = 0) {N K : Int} {i : Nat} (hi : i < t.length) (hc : cov (spL t (ownR l N) i) K = true) :
    (i : Int) ∈ effL t fun j => decide ((j : Int) ∈ tldL K l) := by
  rw [spL_fil] at hc
  obtain ⟨_, h2, h3⟩ := spL_spec hT (fun i _ => ownR_inR h (N := N) i) i hi
  have hK : 0 ≤ K := by
    obtain ⟨s, hs, h4, _⟩ := cov_iff.1 hc
    have := h2 s hs
    omega
  obtain ⟨k, rfl⟩ : ∃ k : Nat, K = (k : Int) := ⟨K.toNat, by omega⟩
  rw [h3] at hc
  have := ft_told hT (c := fun j => decide ((j : Int) ∈ tldL (k : Int) l)) (K := k) (fun i m _ hm hb => by
    obtain ⟨s, hs, h4, h5⟩ := cov_iff.1 hb
    unfold filO ownR at hs
    rw [List.mem_filter, List.mem_map] at hs
    obtain ⟨⟨u, hu, rfl⟩, h6⟩ := hs
    obtain ⟨hu, h7⟩ := List.mem_filter.1 hu
    simp only [decide_eq_true_eq] at h6 h4 h5
    simp only [beq_iff_eq] at h7
    rw [decide_eq_true_eq, tldL_mem]
    refine ⟨u, hu, ?_, h7⟩
    unfold tldS
    simp only [Bool.and_eq_true, decide_eq_true_eq]
    omega) i k (Nat.le_refl _) hc
  unfold effL
  rw [List.mem_map]
  exact ⟨i, List.mem_filter.2 ⟨List.mem_range.2 hi, this⟩, rfl⟩
/-- What a run's spans are. -/
theorem run_parts {t : List Nd} (hT : TrOk t) {l : List Sp} (h : spErr t l = 0) {N : Int} {i : Nat} (hi : i < t.length) {j : Nat} {s : Sp} (hs : (spL t (ownR l N) i)[j]? = some s) :
    s.nd = i ∧ 0 ≤ s.a ∧ s.a < s.b ∧ s.b ≤ N ∧ ∀ k u, (spL t (ownR l N) i)[k]? = some u → k < j → u.b < s.a := by
  rw [spL_fil] at hs ⊢
  obtain ⟨h1, h2, _⟩ := spL_spec hT (fun i _ => ownR_inR h (N := N) i) i hi
  have hm := List.mem_of_getElem? hs
  obtain ⟨h3, h4⟩ := h1.one s hm
  obtain ⟨h5, h6, h7⟩ := h2 s hm
  refine ⟨h3, h5, h4, h7, fun k u hu hk => ?_⟩
  obtain ⟨hj, rfl⟩ := List.getElem?_eq_some_iff.1 hs
  obtain ⟨hk', rfl⟩ := List.getElem?_eq_some_iff.1 hu
  exact List.pairwise_iff_getElem.1 h1.apart _ _ _ _ hk
theorem runT_err {t : List Nd} {l : List Sp} {N : Int} (h : (runT t l N).2 ≠ 0) : (runT t l N).1 = [] := by
  unfold runT at h ⊢
  by_cases h1 : (chkT t).2 ≠ 0
  · rw [if_pos h1]
  rw [if_neg h1] at h ⊢
  by_cases h2 : (decide (30 < (l.length : Int)) || decide (400 < N)) = true
  · rw [if_pos h2]
  rw [if_neg h2] at h ⊢
  by_cases h3 : N < 0
  · rw [if_pos h3]
  rw [if_neg h3] at h ⊢
  by_cases h4 : spErr t l ≠ 0
  · rw [if_pos h4]
  rw [if_neg h4] at h
  exact absurd rfl h
end Go.Proofs.Ytadldndpphdmpaa
