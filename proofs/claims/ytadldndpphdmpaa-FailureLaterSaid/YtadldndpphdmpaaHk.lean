/- Plain: a run of spans that are shifted; what saves falls with the tick. -/
import Derived.Test.YtadldndpphdmpaaHi
import Derived.Test.YtadldndpphdmpaaHg
namespace Go.Proofs.Ytadldndpphdmpaa

def shS (d : Int) (s : Sp) : Sp := ⟨s.nd, min (s.a + d) 400, min (s.b + d) 400⟩
def shL (d : Int) (l : List Sp) : List Sp := l.map (shS d)
def shR (d : Int) (s : Sp) : Sp := ⟨s.nd, s.a + d, s.b + d⟩
theorem shL_len (d : Int) (l : List Sp) : (shL d l).length = l.length := by unfold shL; simp
theorem spErr_all {t : List Nd} : ∀ {l : List Sp}, (∀ s ∈ l, spE t s = 0) → spErr t l = 0
  | [], _ => rfl
  | u :: r, h => by
    rw [spErr, if_pos (h u (List.mem_cons_self ..))]
    exact spErr_all fun s hs => h s (List.mem_cons_of_mem _ hs)
theorem spE_mk {t : List Nd} {s : Sp} (h1 : basI t s.nd = true) (h2 : 0 ≤ s.a) (h3 : s.a ≤ s.b) (h4 : s.b ≤ 400) : spE t s = 0 := by
  unfold spE
  rw [if_neg (by rw [h1]; decide), if_neg (by rw [Bool.not_eq_true, outB_eq_false]; omega), if_neg (by rw [Bool.not_eq_true, outB_eq_false]; omega)]
theorem sh_err {t : List Nd} {l : List Sp} (h : spErr t l = 0) {d : Int} (h0 : 0 ≤ d) : spErr t (shL d l) = 0 := by
  refine spErr_all fun s hs => ?_
  unfold shL at hs
  rw [List.mem_map] at hs
  obtain ⟨u, hu, rfl⟩ := hs
  obtain ⟨h1, h2, h3, h4⟩ := spE_ok (spErr_ok h u hu)
  exact spE_mk h1 (by show 0 ≤ min _ _; omega) (by show min _ _ ≤ min _ _; omega) (by show min _ _ ≤ _; omega)
theorem cov_own {l : List Sp} {N : Int} {i : Nat} {k : Int} : cov (filO (ownR l N) i) k = true ↔ ∃ u ∈ l, u.nd = (i : Int) ∧ u.a ≤ k ∧ k < min u.b N := by
  rw [cov_iff]
  unfold filO ownR
  constructor
  · rintro ⟨s, hs, h1, h2⟩
    rw [List.mem_filter, List.mem_map] at hs
    obtain ⟨⟨u, hu, rfl⟩, _⟩ := hs
    obtain ⟨hu, h3⟩ := List.mem_filter.1 hu
    exact ⟨u, hu, by simpa using h3, h1, h2⟩
  · rintro ⟨u, hu, h1, h2, h3⟩
    exact ⟨⟨(i : Int), u.a, min u.b N⟩, List.mem_filter.2 ⟨List.mem_map.2 ⟨u, List.mem_filter.2 ⟨hu, by simpa using h1⟩, rfl⟩, by simp only [decide_eq_true_eq]; omega⟩, h2, h3⟩
theorem sh_cov {t : List Nd} {l : List Sp} (h : spErr t l = 0) {d : Nat} (hd : d ≤ 50) (i k : Nat) :
    cov (filO (ownR (shL d l) (350 + d)) i) (k : Nat) = (decide (d ≤ k) && cov (filO (ownR l 350) i) ((k - d : Nat) : Int)) := by
  rw [Bool.eq_iff_iff, Bool.and_eq_true, cov_own, cov_own, decide_eq_true_eq]
  constructor
  · rintro ⟨s, hs, h1, h2, h3⟩
    unfold shL at hs
    rw [List.mem_map] at hs
    obtain ⟨u, hu, rfl⟩ := hs
    obtain ⟨_, g2, g3, g4⟩ := spE_ok (spErr_ok h u hu)
    have h2' : min (u.a + (d : Int)) 400 ≤ (k : Int) := h2
    have h3' : (k : Int) < min (min (u.b + (d : Int)) 400) (350 + (d : Int)) := h3
    have hk : d ≤ k := by omega
    refine ⟨hk, u, hu, h1, ?_, ?_⟩
    · omega
    · omega
  · rintro ⟨hk, u, hu, h1, h2, h3⟩
    obtain ⟨_, g2, g3, g4⟩ := spE_ok (spErr_ok h u hu)
    refine ⟨shS d u, List.mem_map.2 ⟨u, hu, rfl⟩, h1, ?_, ?_⟩
    · show min (u.a + (d : Int)) 400 ≤ (k : Int)
      omega
    · show (k : Int) < min (min (u.b + (d : Int)) 400) (350 + (d : Int))
      omega
theorem sh_run {t : List Nd} (hT : TrOk t) {l : List Sp} (h : spErr t l = 0) {d : Nat} (hd : d ≤ 50) {i : Nat} (hi : i < t.length) :
    spL t (ownR (shL d l) (350 + d)) i = (spL t (ownR l 350) i).map (shR d) := by
  rw [spL_fil, spL_fil t (ownR l 350)]
  obtain ⟨a1, a2, a3⟩ := spL_spec hT (fun i _ => ownR_inR (sh_err h (d := d) (by omega)) (N := 350 + d) i) i hi
  obtain ⟨b1, b2, b3⟩ := spL_spec hT (fun i _ => ownR_inR h (N := 350) i) i hi
  generalize spL t (filO (ownR l 350)) i = M at *
  refine canon_uniq a1 ⟨fun s hs => ?_, ?_⟩ fun k => ?_
  · rw [List.mem_map] at hs
    obtain ⟨u, hu, rfl⟩ := hs
    obtain ⟨c1, c2⟩ := b1.one u hu
    exact ⟨c1, by show u.a + (d : Int) < u.b + d; omega⟩
  · rw [List.pairwise_map]
    exact b1.apart.imp fun h => by show _ + (d : Int) < _ + (d : Int); omega
  · have hm : cov (M.map (shR d)) k = cov M (k - d) := by
      rw [Bool.eq_iff_iff, cov_iff, cov_iff]
      constructor
      · rintro ⟨s, hs, h1, h2⟩
        rw [List.mem_map] at hs
        obtain ⟨u, hu, rfl⟩ := hs
        have h1' : u.a + (d : Int) ≤ k := h1
        have h2' : k < u.b + (d : Int) := h2
        exact ⟨u, hu, by omega, by omega⟩
      · rintro ⟨u, hu, h1, h2⟩
        exact ⟨shR d u, List.mem_map.2 ⟨u, hu, rfl⟩, by show u.a + (d : Int) ≤ k; omega, by show k < u.b + (d : Int); omega⟩
    have hneg : ∀ {L : List Sp} {hi k : Int}, InR 0 hi L → k < 0 → cov L k = false := fun {L hi k} hL hk => by
      rw [← Bool.not_eq_true, cov_iff]
      rintro ⟨s, hs, h1, _⟩
      have := (hL s hs).1
      omega
    rw [hm]
    by_cases hk : k < 0
    · rw [hneg a2 hk, hneg b2 (by omega)]
    obtain ⟨kn, rfl⟩ : ∃ kn : Nat, k = (kn : Int) := ⟨k.toNat, by omega⟩
    rw [a3, ft_shift hT d (B := fun i k => cov (filO (ownR l 350) i) (k : Nat)) (fun i k _ => sh_cov h hd i k)]
    by_cases hdk : d ≤ kn
    · rw [← b3, decide_eq_true hdk, Bool.true_and]
      congr 1
      omega
    · rw [hneg b2 (by omega), decide_eq_false hdk, Bool.false_and]
/-- The run of the shifted spans. -/
theorem sh_ok {t : List Nd} {l : List Sp} (h : (runT t l 350).2 = 0) {d : Nat} (hd : d ≤ 50) :
    runT t (shL d l) (350 + d) = ((List.range t.length).map fun i => (spL t (ownR l 350) i).map (shR d), 0) := by
  obtain ⟨hT, h1, _, _, h2, _⟩ := runT_ok h
  unfold runT
  rw [if_neg (fun c => c (chkT_ok.2 hT)), if_neg (by rw [shL_len]; simp; omega), if_neg (by omega), if_neg (fun c => c (sh_err h2 (by omega)))]
  congr 1
  refine List.map_congr_left fun i hi => ?_
  exact sh_run hT h2 hd (List.mem_range.1 hi)
theorem saves_fall {t : List Nd} {l : List Int} {node tk : Int} {d : Nat} (h1 : (savesT t l node tk).1 = 0) (h2 : (savesT t l node (tk + d)).1 = 0) :
    ((savesT t l node (tk + d)).2.all fun x => decide (x ∈ (savesT t l node tk).2)) = true := by
  rw [List.all_eq_true]
  intro x hx
  rw [decide_eq_true_eq]
  unfold savesT at h1 h2 hx ⊢
  by_cases ha : (aboutT t node [l]).1 = 0
  · rw [if_pos ha] at h1 h2 hx ⊢
    obtain ⟨hT, n0, n1⟩ := aboutT_node ha
    by_cases o1 : outB tk 0 400 = true
    · rw [if_pos o1] at h1; exact absurd (show (7 : Int) = 0 from h1) (by decide)
    by_cases o2 : outB (tk + d) 0 400 = true
    · rw [if_pos o2] at h2; exact absurd (show (7 : Int) = 0 from h2) (by decide)
    rw [if_neg o1]
    rw [if_neg o2] at hx
    obtain ⟨t0, t1⟩ := outB_false (Bool.eq_false_iff.2 o1)
    obtain ⟨u0, u1⟩ := outB_false (Bool.eq_false_iff.2 o2)
    dsimp only at hx ⊢
    rw [List.mem_filter] at hx ⊢
    refine ⟨hx.1, ?_⟩
    have hx2 := hx.2
    rw [beq_iff_eq, List.length_eq_zero_iff] at hx2 ⊢
    generalize (aboutT t node [l]).2.headD 0 = s at *
    have hn : node.toNat < t.length := by omega
    rw [spL_nil hT (fun i _ => ownS_inR2 u0 u1 i) hn] at hx2
    rw [spL_nil hT (fun i _ => ownS_inR2 t0 t1 i) hn]
    intro k
    have := hx2 k
    rw [← Bool.not_eq_true] at this ⊢
    refine fun c => this (ft_mono hT (fun i k _ hb => ?_) _ _ c)
    rw [cov_ownS, Bool.and_eq_true, decide_eq_true_eq] at hb ⊢
    refine ⟨hb.1, ?_⟩
    have h3 := hb.2
    split at h3 <;> split <;> first | omega | (exfalso; simp_all)
  · rw [if_neg ha] at h1; exact absurd h1 ha
end Go.Proofs.Ytadldndpphdmpaa
