/- Plain: all sets of some nodes, in the document's order, and the document's placing of sets. -/
import Derived.Test.YtadldndpphdmpaaGreatHd
import Derived.Test.YtadldndpphdmpaaGreatHq
namespace Go.Proofs.YtadldndpphdmpaaGreat
open Go.Shelf Go.RowKit Go.Lib Go.Sort

/-- All sets of some nodes: those without the last one, each without it and with it. -/
def setsL (l : List Int) : List (List Int) := l.foldl (fun acc x => acc.flatMap fun r => [r, r ++ [x]]) [[]]
theorem setsL_nil : setsL [] = [[]] := rfl
theorem setsL_snoc (l : List Int) (x : Int) : setsL (l ++ [x]) = (setsL l).flatMap fun r => [r, r ++ [x]] := by
  unfold setsL
  rw [List.foldl_append]
  rfl
theorem setsL_len (l : List Int) : (setsL l).length = 2 ^ l.length := by
  have h : ∀ n (l : List Int), l.length = n → (setsL l).length = 2 ^ n := by
    intro n
    induction n with
    | zero => intro l hl; rw [List.eq_nil_of_length_eq_zero hl]; rfl
    | succ n ih =>
      intro l hl
      have hne : l ≠ [] := by intro c; subst c; simp at hl
      rw [← List.dropLast_concat_getLast hne, setsL_snoc]
      have := ih l.dropLast (by rw [List.length_dropLast]; omega)
      generalize setsL l.dropLast = L at *
      rw [Nat.pow_succ, ← this]
      clear this
      induction L with
      | nil => rfl
      | cons a L ihL => rw [List.flatMap_cons, List.length_append, ihL, List.length_cons]; simp; omega
  exact h _ l rfl
theorem flat_pair {α : Type} (f : α → α) : ∀ L : List α, (L.flatMap fun s => [s, f s]).Perm (L ++ L.map f)
  | [] => List.Perm.refl _
  | a :: L => by
    rw [List.flatMap_cons, List.map_cons]
    show (a :: f a :: _).Perm (a :: (L ++ f a :: L.map f))
    exact (((flat_pair f L).cons (f a)).trans List.perm_middle.symm).cons a
/-- The nodes of a set, under k. -/
def bk (m k : Nat) : List Int := ((List.range k).filter m.testBit).map Int.ofNat
theorem bk_succ (m k : Nat) : bk m (k + 1) = bk m k ++ if m.testBit k = true then [(k : Int)] else [] := by
  unfold bk
  rw [List.range_succ, List.filter_append, List.map_append]
  by_cases h : m.testBit k = true <;> simp [h]
theorem bk_64 (m : Nat) : bk m 64 = bitsL m := rfl
theorem bits_top {s k : Nat} (hs : s < 2 ^ k) (hk : k < 64) : bitsL (2 ^ k + s) = bitsL s ++ [(k : Int)] := by
  have h64 : (2 : Nat) ^ k < 2 ^ 64 := Nat.pow_lt_pow_right (by decide) hk
  have h65 : (2 : Nat) ^ (k + 1) ≤ 2 ^ 64 := Nat.pow_le_pow_right (by decide) hk
  rw [Nat.pow_succ] at h65
  refine sorted_uniq (bitsL_sorted _) ?_ fun x => ?_
  · rw [List.pairwise_append]
    refine ⟨bitsL_sorted s, List.pairwise_singleton _ _, fun a ha b hb => ?_⟩
    rw [List.mem_singleton] at hb
    subst hb
    obtain ⟨h1, h2⟩ := (mem_bitsL (by omega)).1 ha
    have : a.toNat < k := by
      rcases Nat.lt_or_ge a.toNat k with h | h
      · exact h
      · rw [bit_ge hs h] at h2; cases h2
    omega
  · rw [mem_bitsL (by omega), List.mem_append, List.mem_singleton, mem_bitsL (by omega), top_bit hs]
    constructor
    · rintro ⟨h1, h2⟩
      rw [Bool.or_eq_true, decide_eq_true_eq] at h2
      rcases h2 with h2 | h2
      · exact .inr (by omega)
      · exact .inl ⟨h1, h2⟩
    · rintro (⟨h1, h2⟩ | rfl)
      · exact ⟨h1, by rw [h2]; simp⟩
      · exact ⟨by omega, by simp⟩
theorem sets_k (m : Nat) : ∀ k, k ≤ 64 → ∃ L : List Nat, setsL (bk m k) = L.map bitsL ∧ L.Perm (sub (m % 2 ^ k) (m % 2 ^ k)) ∧ ∀ s ∈ L, s < 2 ^ k
  | 0, _ => ⟨[0], rfl, by rw [Nat.pow_zero, Nat.mod_one]; exact List.Perm.refl _, fun s hs => by rw [List.mem_singleton] at hs; subst hs; decide⟩
  | k + 1, hk => by
    obtain ⟨L, h1, h2, h3⟩ := sets_k m k (by omega)
    have hr : m % 2 ^ k < 2 ^ k := Nat.mod_lt _ (Nat.pow_pos (by decide))
    rw [bk_succ, mod_succ, Nat.pow_succ]
    by_cases hb : m.testBit k = true
    · rw [if_pos hb, if_pos hb, setsL_snoc, h1]
      refine ⟨L.flatMap fun s => [s, 2 ^ k + s], ?_, ?_, fun s hs => ?_⟩
      · rw [List.flatMap_map, List.map_flatMap]
        have : ∀ l : List Nat, (∀ s ∈ l, s < 2 ^ k) → (l.flatMap fun s => [bitsL s, bitsL s ++ [(k : Int)]]) = l.flatMap fun s => List.map bitsL [s, 2 ^ k + s] := by
          intro l
          induction l with
          | nil => intro _; rfl
          | cons a l ih =>
            intro h
            rw [List.flatMap_cons, List.flatMap_cons, ih fun x hx => h x (List.mem_cons_of_mem _ hx), List.map_cons, List.map_cons, List.map_nil, bits_top (h a (List.mem_cons_self ..)) (by omega)]
        exact this L h3
      · rw [sub_top hr _ hr]
        refine (flat_pair _ L).trans ((List.perm_append_comm).trans ?_)
        exact (h2.map _).append h2
      · obtain ⟨u, hu, hs⟩ := List.mem_flatMap.1 hs
        have := h3 u hu
        simp only [List.mem_cons, List.not_mem_nil, or_false] at hs
        omega
    · rw [if_neg hb, if_neg hb, List.append_nil]
      exact ⟨L, h1, h2, fun s hs => by have := h3 s hs; omega⟩
/-- All sets are all parts. -/
theorem sets_all {m : Nat} (h : m < 2 ^ 64) : ∃ L : List Nat, setsL (bitsL m) = L.map bitsL ∧ L.Perm (subL m) := by
  obtain ⟨L, h1, h2, _⟩ := sets_k m 64 (by omega)
  rw [Nat.mod_eq_of_lt h] at h2
  exact ⟨L, h1, h2⟩
theorem cnt_perm {α : Type} {p : α → Bool} {l m : List α} (h : l.Perm m) : (l.filter p).length = (m.filter p).length := (h.filter p).length_eq

/-- Which list is before the other, of the same length: the first difference says it. -/
def lexL : List Int → List Int → Bool
  | x :: l, y :: m => if x = y then lexL l m else decide (x < y)
  | _, _ => false
def beforeL (a b : List Int) : Bool := if a.length ≠ b.length then decide (a.length < b.length) else lexL a b
def insZ (x : List Int) : List (List Int) → List (List Int)
  | [] => [x]
  | y :: l => if beforeL x y = true then x :: y :: l else y :: insZ x l
theorem cmpI_zero {x y : Int} : compareInt x y = 0 ↔ x = y := by
  unfold compareInt
  constructor
  · intro h
    split at h
    · cases h
    · split at h
      · cases h
      · omega
  · rintro rfl; simp
theorem cmpI_neg {x y : Int} : compareInt x y < 0 ↔ x < y := by
  unfold compareInt
  split
  · simp; omega
  · split
    · simp; omega
    · simp; omega
theorem cmp_lex : ∀ l m : List Int, l.length = m.length → decide (cmpL l m < 0) = lexL l m
  | [], [], _ => rfl
  | x :: l, y :: m, h => by
    rw [cmpL, lexL]
    by_cases e : x = y
    · rw [if_pos (cmpI_zero.2 e), if_pos e, cmp_lex l m (by simpa using h)]
    · rw [if_neg (fun c => e (cmpI_zero.1 c)), if_neg e, decide_eq_decide]
      exact cmpI_neg
theorem oc_len {s : Nat} (h : s < 18446744073709551616) : oc s = ((bitsL s).length : Int) := by
  rw [oc_cnt h]
  unfold cntB bitsL
  rw [List.length_map]
theorem before_cf {s u : Nat} (hs : s < 18446744073709551616) (hu : u < 18446744073709551616) : beforeL (bitsL s) (bitsL u) = decide (cfS s u < 0) := by
  unfold beforeL cfS
  rw [oc_len hs, oc_len hu]
  by_cases e : (bitsL s).length = (bitsL u).length
  · rw [if_neg (fun c => c e), if_pos (cmpI_zero.2 (by rw [e])), cmp_lex _ _ e]
  · rw [if_pos e, if_neg (fun c => e (by have := cmpI_zero.1 c; omega)), decide_eq_decide, cmpI_neg]
    omega
def insM (x : Nat) : List Nat → List Nat
  | [] => [x]
  | y :: l => if cfS x y < 0 then x :: y :: l else y :: insM x l
theorem insM_map {x : Nat} (hx : x < 18446744073709551616) : ∀ l : List Nat, (∀ y ∈ l, y < 18446744073709551616) → (insM x l).map bitsL = insZ (bitsL x) (l.map bitsL)
  | [], _ => rfl
  | y :: l, h => by
    have ih := insM_map hx l fun z hz => h z (List.mem_cons_of_mem _ hz)
    rw [insM, List.map_cons, insZ, before_cf hx (h y (List.mem_cons_self ..))]
    by_cases c : cfS x y < 0
    · rw [if_pos c, if_pos (decide_eq_true c)]; rfl
    · rw [if_neg c, if_neg (by simpa using c), List.map_cons, ih]
theorem insM_perm (x : Nat) : ∀ l : List Nat, (insM x l).Perm (x :: l)
  | [] => List.Perm.refl _
  | y :: l => by
    rw [insM]
    by_cases h : cfS x y < 0
    · rw [if_pos h]
    · rw [if_neg h]
      exact ((insM_perm x l).cons y).trans (List.Perm.swap x y l)
theorem insM_sorted (x : Nat) : ∀ {l : List Nat}, (l.Pairwise fun a b => cfS a b ≤ 0) → (insM x l).Pairwise fun a b => cfS a b ≤ 0
  | [], _ => by simp [insM]
  | y :: l, h => by
    have hs := List.pairwise_cons.1 h
    rw [insM]
    by_cases h1 : cfS x y < 0
    · rw [if_pos h1]
      refine List.pairwise_cons.2 ⟨fun z hz => ?_, h⟩
      rcases List.mem_cons.1 hz with rfl | hz
      · omega
      · exact tw_S.trans _ _ _ (by omega) (hs.1 z hz)
    · rw [if_neg h1]
      refine List.pairwise_cons.2 ⟨fun z hz => ?_, insM_sorted x hs.2⟩
      rcases List.mem_cons.1 ((insM_perm x l).mem_iff.1 hz) with rfl | hz
      · have := tw_S.anti z y; omega
      · exact hs.1 z hz
theorem sortN_uniq {l m : List Nat} (hp : m.Perm l) (hs : m.Pairwise fun a b => cfS a b ≤ 0) (hl : ∀ s ∈ l, s < 18446744073709551616) : sortN l = m := by
  have hm : ∀ s ∈ m, s < 18446744073709551616 := fun s h => hl s (hp.mem_iff.1 h)
  have e := sortB_eq (l.map toBS)
  rw [toBS_map hl] at e
  rw [← e, sortS_uniq (m := m.map toBS) (hp.map _) ?_, toBS_map hm]
  rw [List.pairwise_map]
  refine hs.imp_of_mem fun {a b} ha hb h => ?_
  show cfS (a % 18446744073709551616) (b % 18446744073709551616) ≤ 0
  rw [Nat.mod_eq_of_lt (hm a ha), Nat.mod_eq_of_lt (hm b hb)]
  exact h
/-- Some sets, each placed in order. -/
def placeL (p : List Int → Bool) (l : List (List Int)) : List (List Int) := l.foldl (fun acc s => if p s = true then insZ s acc else acc) []
theorem placeL_take (p : List Int → Bool) {l : List (List Int)} {k : Nat} {s : List Int} (h : l[k]? = some s) : placeL p (l.take (k + 1)) = if p s = true then insZ s (placeL p (l.take k)) else placeL p (l.take k) := by
  obtain ⟨hk, rfl⟩ := List.getElem?_eq_some_iff.1 h
  unfold placeL
  rw [List.take_succ_eq_append_getElem hk, List.foldl_append]
  rfl
theorem placeM (q : Nat → Bool) (p : List Int → Bool) : ∀ (L : List Nat) (acc : List Nat), (∀ s ∈ L, s < 18446744073709551616 ∧ p (bitsL s) = q s) → (∀ s ∈ acc, s < 18446744073709551616) → (acc.Pairwise fun a b => cfS a b ≤ 0) →
    ∃ m : List Nat, (L.map bitsL).foldl (fun acc s => if p s = true then insZ s acc else acc) (acc.map bitsL) = m.map bitsL ∧ m.Perm (acc ++ L.filter q) ∧ m.Pairwise fun a b => cfS a b ≤ 0
  | [], acc, _, _, ha => ⟨acc, rfl, by simp, ha⟩
  | s :: L, acc, hL, h64, ha => by
    obtain ⟨h1, h2⟩ := hL s (List.mem_cons_self ..)
    rw [List.map_cons, List.foldl_cons, h2, List.filter_cons]
    by_cases hq : q s = true
    · rw [if_pos hq, if_pos hq, ← insM_map h1 acc h64]
      obtain ⟨m, e1, e2, e3⟩ := placeM q p L (insM s acc) (fun x hx => hL x (List.mem_cons_of_mem _ hx)) (fun x hx => by
        rcases List.mem_cons.1 ((insM_perm s acc).mem_iff.1 hx) with rfl | hx
        · exact h1
        · exact h64 x hx) (insM_sorted s ha)
      exact ⟨m, e1, e2.trans (((insM_perm s acc).append_right _).trans List.perm_middle.symm), e3⟩
    · rw [if_neg hq, if_neg hq]
      exact placeM q p L acc (fun x hx => hL x (List.mem_cons_of_mem _ hx)) h64 ha
/-- The document's least sets are the least ones, in order. -/
theorem place_least {q : Nat → Bool} {p : List Int → Bool} {m : Nat} (hm : m < 18446744073709551616) (h : ∀ s, SubN s m → p (bitsL s) = minB q s) : placeL p (setsL (bitsL m)) = (leastN q m).map bitsL := by
  obtain ⟨L, h1, h2⟩ := sets_all hm
  have hsub : ∀ s ∈ L, SubN s m := fun s hs => mem_subL.1 (h2.mem_iff.1 hs)
  have h64 : ∀ s, SubN s m → s < 18446744073709551616 := fun s hs => Nat.lt_of_le_of_lt (subN_le hs) hm
  obtain ⟨r, e1, e2, e3⟩ := placeM (minB q) p L [] (fun s hs => ⟨h64 s (hsub s hs), h s (hsub s hs)⟩) (by simp) .nil
  unfold placeL leastN
  rw [h1]
  rw [List.map_nil] at e1
  rw [e1, sortN_uniq (m := r) (e2.trans (by rw [List.nil_append]; exact h2.filter _)) e3 (fun s hs => h64 s (mem_subL.1 (List.mem_filter.1 hs).1))]
end Go.Proofs.YtadldndpphdmpaaGreat
