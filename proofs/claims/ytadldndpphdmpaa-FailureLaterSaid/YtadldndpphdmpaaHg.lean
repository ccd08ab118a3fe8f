/- What Saves returns, in plain. -/
import Derived.Test.YtadldndpphdmpaaI11
import Derived.Test.YtadldndpphdmpaaG14
namespace Go.Proofs.Ytadldndpphdmpaa

theorem ownS_inR2 {s b : Nat} {tick : Int} (h0 : 0 ≤ tick) (h1 : tick ≤ 400) (i : Nat) : InR 0 1073741824 (ownS s b tick i) := by
  intro u hu
  unfold ownS at hu
  by_cases hb : s.testBit i = true
  · rw [if_pos hb, List.mem_singleton] at hu
    subst hu
    dsimp only
    split <;> omega
  · rw [if_neg hb] at hu; simp at hu
theorem cov_ownS (s b : Nat) (tick : Int) (i k : Nat) : cov (ownS s b tick i) (k : Nat) = (s.testBit i && decide ((k : Int) < if i = b then tick else 1073741824)) := by
  unfold ownS
  cases h : s.testBit i
  · rfl
  · rw [if_pos rfl, Bool.true_and, Bool.eq_iff_iff, cov_iff, decide_eq_true_eq]
    constructor
    · rintro ⟨u, hu, _, h2⟩
      rw [List.mem_singleton] at hu
      subst hu
      exact h2
    · intro h2
      exact ⟨_, List.mem_singleton.2 rfl, by dsimp only; omega, h2⟩
/-- The spans of the document for the repair of b at a tick. -/
def repL (l : List Int) (b tick : Int) (N : Int) : List Sp := goodL (l.filter fun x => x != b) N ++ [⟨b, 0, tick⟩]
theorem spB_rep {l : List Int} {b : Nat} {tick : Int} {N : Nat} (i k : Nat) (hk : k < N) : spB (repL l b tick N) i k = ((decide ((i : Int) ∈ l) && decide (i ≠ b)) || (decide (i = b) && decide ((k : Int) < tick))) := by
  have e : spB (repL l b tick N) i k = (spB (goodL (l.filter fun x => x != (b : Int)) N) i k || (decide (i = b) && decide ((k : Int) < tick))) := by
    unfold repL spB
    rw [List.any_append]
    congr 1
    simp only [List.any_cons, List.any_nil, Bool.or_false]
    rw [Bool.eq_iff_iff]
    simp only [Bool.and_eq_true, beq_iff_eq, decide_eq_true_eq]
    omega
  rw [e, spB_good i k hk]
  congr 1
  rw [Bool.eq_iff_iff]
  simp only [decide_eq_true_eq, Bool.and_eq_true, List.mem_filter, bne_iff_ne, ne_eq]
  constructor
  · rintro ⟨h1, h2⟩; exact ⟨h1, by omega⟩
  · rintro ⟨h1, h2⟩; exact ⟨h1, by omega⟩
theorem saves_iff {t : List Nd} (h : TrOk t) {l : List Int} (hl : setT t l = 0) {b : Nat} (hb : (b : Int) ∈ l) {tick : Int} (h0 : 0 ≤ tick) (h1 : tick ≤ 400) {nn : Nat} (hn : nn < t.length) {N : Nat} (hN : (N : Int) = tick + holdsN t t.length + 1) :
    spL t (ownS (lstGo t l 0).2 b tick) nn = [] ↔ idxF (ft t (spB (repL l b tick N)) nn) 0 N < 0 := by
  have hs := lst_sub (t := t) l
  have hbit : ∀ i : Nat, (lstGo t l 0).2.testBit i = decide ((i : Int) ∈ l) := fun i => by rw [lst_bits hl]
  have hh1 := holdsN_le h t.length (Nat.le_refl _)
  have hh2 := holdsN_mono h (Nat.zero_le t.length) (Nat.le_refl _)
  have h40 := h.l40
  rw [holdsN_zero] at hh2
  rw [spL_nil h (fun i _ => ownS_inR2 h0 h1 i) hn]
  have hneg : idxF (ft t (spB (repL l b tick N)) nn) 0 N < 0 ↔ ∀ k, k < N → ft t (spB (repL l b tick N)) nn k = false := by
    have := idxF_neg (ft t (spB (repL l b tick N)) nn) N 0
    constructor
    · intro hlt k hk
      rw [Bool.eq_false_iff]
      intro c
      have := this.2 ⟨k, Nat.zero_le _, by omega, c⟩
      omega
    · intro hall
      have h3 : ¬ 0 ≤ idxF (ft t (spB (repL l b tick N)) nn) 0 N := fun c => by
        obtain ⟨j, _, h4, h5⟩ := this.1 c
        rw [hall j (by omega)] at h5
        cases h5
      omega
  rw [hneg]
  have hag : ∀ i k : Nat, k < N → spB (repL l b tick N) i k = cov (ownS (lstGo t l 0).2 b tick i) (k : Nat) := fun i k hk => by
    rw [spB_rep i k hk, cov_ownS, hbit]
    by_cases e : i = b
    · subst e; simp [hb]
    · rw [if_neg e]
      simp [e]
      intro _
      omega
  have hloc : ∀ k, k < N → ft t (spB (repL l b tick N)) nn k = ft t (fun i k => cov (ownS (lstGo t l 0).2 b tick i) (k : Nat)) nn k := fun k hk =>
    ft_local h (k := k) (fun i j _ hj => hag i j (by omega)) nn k (Nat.le_refl _)
  constructor
  · intro hall k hk
    rw [hloc k hk]; exact hall k
  · intro hall k
    by_cases hk : k < N
    · rw [← hloc k hk]; exact hall k hk
    · by_cases hk2 : k < 1073741824
      · have hst := fun k' hk' => ft_steady h (B := fun i k => if k < 1073741824 then cov (ownS (lstGo t l 0).2 b tick i) (k : Nat) else decide ((i : Int) ∈ l) && decide (i ≠ b)) (c := fun i => decide ((i : Int) ∈ l) && decide (i ≠ b)) (T := tick.toNat) (fun i k _ hk => by
          by_cases h3 : k < 1073741824
          · simp only [h3, if_true]
            rw [cov_ownS, hbit]
            by_cases e : i = b
            · subst e
              rw [if_pos rfl]
              simp [hb]
              omega
            · rw [if_neg e]
              simp [e]
              intro _
              omega
          · simp only [h3, if_false]) nn hn k' hk'
        have hm := holdsN_mono h (j := nn + 1) (i := t.length) (by omega) (Nat.le_refl _)
        have hsame : ∀ k', k' < 1073741824 → ft t (fun i k => cov (ownS (lstGo t l 0).2 b tick i) (k : Nat)) nn k' = ft t (fun i k => if k < 1073741824 then cov (ownS (lstGo t l 0).2 b tick i) (k : Nat) else decide ((i : Int) ∈ l) && decide (i ≠ b)) nn k' := fun k' hk' =>
          ft_local h (k := k') (fun i j _ hj => by simp only [show j < 1073741824 by omega, if_true]) nn k' (Nat.le_refl _)
        have hk0 : N - 1 < N := by omega
        rw [hsame k hk2, hst k (by omega), ← hst (N - 1) (by omega), ← hsame (N - 1) (by omega), ← hloc (N - 1) hk0]
        exact hall (N - 1) hk0
      · obtain ⟨_, h5, h6⟩ := spL_spec h (fun i _ => ownS_inR2 (s := (lstGo t l 0).2) (b := b) h0 h1 i) nn hn
        rw [← h6 k]
        exact cov_out h5 (.inr (by omega))
/-- Saves, as the document has it. -/
def savK (t : List Nd) (l : List Int) (nn : Nat) (tick : Int) (N k : Nat) : List Int := ((List.range k).filter fun b : Nat => decide ((b : Int) ∈ l) && decide (idxF (ft t (spB (repL l b tick N)) nn) 0 N < 0)).map Int.ofNat
theorem savK_succ (t : List Nd) (l : List Int) (nn : Nat) (tick : Int) (N k : Nat) : savK t l nn tick N (k + 1) = savK t l nn tick N k ++ if (decide ((k : Int) ∈ l) && decide (idxF (ft t (spB (repL l k tick N)) nn) 0 N < 0)) = true then [(k : Int)] else [] := by
  unfold savK
  rw [List.range_succ, List.filter_append, List.map_append]
  congr 1
  by_cases h : (decide ((k : Int) ∈ l) && decide (idxF (ft t (spB (repL l k tick N)) nn) 0 N < 0)) = true
  · rw [if_pos h, List.filter_cons, if_pos h]; rfl
  · rw [if_neg h, List.filter_cons, if_neg h]; rfl
theorem savK_len (t : List Nd) (l : List Int) (nn : Nat) (tick : Int) (N k : Nat) : (savK t l nn tick N k).length ≤ k := by
  unfold savK
  rw [List.length_map]
  exact Nat.le_trans (List.length_filter_le _ _) (by simp)
theorem saves_eq (t : List Nd) (l : List Int) (node tick : Int) : savesT t l node tick =
    if askT t node ≠ 0 then (askT t node, []) else if setT t l ≠ 0 then (setT t l, []) else if outB tick 0 400 = true then (7, []) else (0, savK t l node.toNat tick (tick.toNat + longN t) t.length) := by
  unfold savesT
  by_cases h1 : askT t node ≠ 0
  · have ha : (aboutT t node [l]).1 = askT t node := by rw [ask_about1, if_pos h1]
    rw [if_pos h1, if_neg (by rw [ha]; exact h1), ha]
  · have h1' : askT t node = 0 := Classical.byContradiction h1
    have ha : (aboutT t node [l]).1 = setT t l := by rw [ask_about1, if_neg h1]
    rw [if_neg h1]
    by_cases h2 : setT t l ≠ 0
    · rw [if_pos h2, if_neg (by rw [ha]; exact h2), ha]
    · have h2' : setT t l = 0 := Classical.byContradiction h2
      obtain ⟨hok, n0, n1⟩ := ask_ok h1'
      have e : (aboutT t node [l]).2.headD 0 = (lstGo t l 0).2 := by rw [(about_set1 (ha.trans h2')).1]; rfl
      rw [if_neg h2, if_pos (ha.trans h2'), e]
      by_cases h3 : outB tick 0 400 = true
      · rw [if_pos h3, if_pos h3]
      · rw [if_neg h3, if_neg h3]
        obtain ⟨k0, k1⟩ := outB_false (Bool.eq_false_iff.2 h3)
        obtain ⟨hL, _⟩ := longN_eq hok
        have h64 : (lstGo t l 0).2 < 2 ^ 64 := sub_lt_64 hok (lst_sub l)
        congr 1
        refine sorted_uniq ((bitsL_sorted _).filter _) ?_ fun x => ?_
        · unfold savK
          rw [List.pairwise_map]
          refine List.Pairwise.imp ?_ (List.Pairwise.filter _ List.pairwise_lt_range)
          intro a b h
          exact Int.ofNat_lt.2 h
        · have key : ∀ b : Nat, (b : Int) ∈ l → (((spL t (ownS (lstGo t l 0).2 b tick) node.toNat).length == 0) = true ↔ idxF (ft t (spB (repL l b tick ((tick.toNat + longN t : Nat) : Int))) node.toNat) 0 (tick.toNat + longN t) < 0) := fun b hb => by
            rw [← saves_iff hok h2' hb k0 k1 (nn := node.toNat) (by omega) (N := tick.toNat + longN t) (by omega)]
            simp
          unfold savK
          rw [List.mem_filter, mem_bitsL h64, List.mem_map, lst_bits h2', decide_eq_true_eq]
          constructor
          · rintro ⟨⟨a, b⟩, c⟩
            refine ⟨x.toNat, ?_, by simp; omega⟩
            rw [List.mem_filter, List.mem_range, Bool.and_eq_true, decide_eq_true_eq, decide_eq_true_eq]
            have hlt := (basI_nat ((lstGo_ok l 0).1 h2' |>.1 _ b).1).2.1
            simp only [Int.toNat_natCast] at hlt
            exact ⟨hlt, b, (key _ b).1 c⟩
          · rintro ⟨k, hk, rfl⟩
            rw [List.mem_filter, List.mem_range, Bool.and_eq_true, decide_eq_true_eq, decide_eq_true_eq] at hk
            exact ⟨⟨Int.natCast_nonneg k, hk.2.1⟩, (key k hk.2.1).2 hk.2.2⟩
end Go.Proofs.Ytadldndpphdmpaa
