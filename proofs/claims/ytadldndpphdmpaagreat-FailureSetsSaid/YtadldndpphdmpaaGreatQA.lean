/- The plain functions of the failure layer: nodes, effects, spans, time; no program in sight. -/
namespace Go.Proofs.YtadldndpphdmpaaGreat

structure Nd where
  name : ByteArray
  kind : Int
  ins : List Int
  cnt : Int
  hold : Int

def outB (n lo hi : Int) : Bool := decide (n < lo) || decide (hi < n)
theorem outB_false {n lo hi : Int} (h : outB n lo hi = false) : lo ≤ n ∧ n ≤ hi := by
  unfold outB at h; simp at h; omega
theorem outB_true {n lo hi : Int} (h : outB n lo hi = true) : n < lo ∨ hi < n := by
  unfold outB at h; simp at h; omega
theorem outB_eq_false {n lo hi : Int} : outB n lo hi = false ↔ lo ≤ n ∧ n ≤ hi := by
  unfold outB; simp

/-- May a byte stand at place i of a name? -/
def chB (i : Nat) (c : UInt8) : Bool := (decide (97 ≤ c.toNat) && decide (c.toNat ≤ 122)) || (decide (0 < i) && (decide (c.toNat = 45) || (decide (48 ≤ c.toNat) && decide (c.toNat ≤ 57))))
def nameB (s : ByteArray) : Bool := decide (0 < s.size) && decide (s.size ≤ 24) && (List.range s.size).all fun i => chB i (s.data.toList.getD i 0)

/-- The first index from i on, of m, at which g is not 0, and what g is there; else 0, 0. -/
def firstErr (g : Nat → Int) : Nat → Nat → Int × Int
  | _, 0 => (0, 0)
  | i, m + 1 => if g i = 0 then firstErr g (i + 1) m else ((i : Int), g i)
theorem firstErr_zero {g : Nat → Int} {i n : Nat} (hi : i < n) (h : g i = 0) : firstErr g i (n - i) = firstErr g (i + 1) (n - (i + 1)) := by
  obtain ⟨m, hm⟩ : ∃ m, n - i = m + 1 := ⟨n - i - 1, by omega⟩
  rw [hm, show n - (i + 1) = m by omega, firstErr, if_pos h]
theorem firstErr_not {g : Nat → Int} {i n : Nat} (hi : i < n) (h : g i ≠ 0) : firstErr g i (n - i) = ((i : Int), g i) := by
  obtain ⟨m, hm⟩ : ∃ m, n - i = m + 1 := ⟨n - i - 1, by omega⟩
  rw [hm, firstErr, if_neg h]
theorem firstErr_end {g : Nat → Int} {i n : Nat} (hi : n ≤ i) : firstErr g i (n - i) = (0, 0) := by
  rw [show n - i = 0 by omega, firstErr]
theorem firstErr_ok {g : Nat → Int} : ∀ (m i : Nat), (firstErr g i m).2 = 0 ↔ ∀ j, i ≤ j → j < i + m → g j = 0
  | 0, i => by simp [firstErr]; omega
  | m + 1, i => by
    rw [firstErr]
    by_cases h : g i = 0
    · rw [if_pos h, firstErr_ok m (i + 1)]
      constructor
      · intro H j h1 h2
        by_cases e : j = i
        · rw [e]; exact h
        · exact H j (by omega) (by omega)
      · intro H j h1 h2; exact H j (by omega) (by omega)
    · rw [if_neg h]
      constructor
      · intro H; exact absurd H h
      · intro H; exact absurd (H i (by omega) (by omega)) h
theorem firstErr_fst {g : Nat → Int} : ∀ (m i : Nat), (firstErr g i m).2 = 0 → firstErr g i m = (0, 0)
  | 0, i => fun _ => rfl
  | m + 1, i => by
    rw [firstErr]
    by_cases h : g i = 0
    · rw [if_pos h]; exact firstErr_fst m (i + 1)
    · rw [if_neg h]; exact fun H => absurd H h
theorem firstErr_congr {g h : Nat → Int} : ∀ (m i : Nat), (∀ j, i ≤ j → j < i + m → g j = h j) → firstErr g i m = firstErr h i m
  | 0, _, _ => rfl
  | m + 1, i, H => by rw [firstErr, firstErr, H i (by omega) (by omega), firstErr_congr m (i + 1) (fun j h1 h2 => H j (by omega) (by omega))]

/-- The first index from i on, of m, at which p holds; else -1. -/
def idxF (p : Nat → Bool) : Nat → Nat → Int
  | _, 0 => -1
  | i, m + 1 => if p i then (i : Int) else idxF p (i + 1) m
theorem idxF_yes {p : Nat → Bool} {i n : Nat} (hi : i < n) (h : p i = true) : idxF p i (n - i) = (i : Int) := by
  obtain ⟨m, hm⟩ : ∃ m, n - i = m + 1 := ⟨n - i - 1, by omega⟩
  rw [hm, idxF, if_pos h]
theorem idxF_no {p : Nat → Bool} {i n : Nat} (hi : i < n) (h : p i = false) : idxF p i (n - i) = idxF p (i + 1) (n - (i + 1)) := by
  obtain ⟨m, hm⟩ : ∃ m, n - i = m + 1 := ⟨n - i - 1, by omega⟩
  rw [hm, show n - (i + 1) = m by omega, idxF, if_neg (by simp [h])]
theorem idxF_end {p : Nat → Bool} {i n : Nat} (hi : n ≤ i) : idxF p i (n - i) = -1 := by
  rw [show n - i = 0 by omega, idxF]
theorem idxF_neg (p : Nat → Bool) : ∀ (m i : Nat), 0 ≤ idxF p i m ↔ ∃ j, i ≤ j ∧ j < i + m ∧ p j = true
  | 0, i => by simp [idxF]; omega
  | m + 1, i => by
    rw [idxF]
    by_cases h : p i = true
    · rw [if_pos h]; simp; exact ⟨i, by omega, by omega, h⟩
    · rw [if_neg h, idxF_neg p m (i + 1)]
      constructor
      · rintro ⟨j, h1, h2, h3⟩; exact ⟨j, by omega, by omega, h3⟩
      · rintro ⟨j, h1, h2, h3⟩
        have : j ≠ i := fun e => by subst e; exact h h3
        exact ⟨j, by omega, by omega, h3⟩

/-- Has node j this name? -/
def sameB (t : List Nd) (nm : ByteArray) (j : Nat) : Bool := match t[j]? with | some v => v.name.toList == nm.toList | none => false
/-- Has one of the first n nodes this name? -/
def anyB (t : List Nd) (nm : ByteArray) (n : Nat) : Bool := decide (0 ≤ idxF (sameB t nm) 0 (n - 0))
theorem idxF_congr {p q : Nat → Bool} : ∀ (m i : Nat), (∀ j, i ≤ j → j < i + m → p j = q j) → idxF p i m = idxF q i m
  | 0, _, _ => rfl
  | m + 1, i, h => by rw [idxF, idxF, h i (by omega) (by omega), idxF_congr m (i + 1) (fun j h1 h2 => h j (by omega) (by omega))]
theorem anyB_take (t : List Nd) (nm : ByteArray) (k : Nat) : anyB (t.take k) nm k = anyB t nm k := by
  unfold anyB
  rw [idxF_congr (k - 0) 0 (fun j _ h2 => ?_)]
  unfold sameB
  rw [List.getElem?_take_of_lt (by omega)]

def lenBad (x : Nd) : Bool := if x.kind = 1 then !(x.ins.length == 0) else outB x.ins.length 1 10
def insBad (i : Nat) (x : Nd) : Bool := x.ins.any fun n => outB n 0 ((i : Int) - 1)
def dupB (l : List Int) : Bool := !decide l.Nodup
def cntBad (x : Nd) : Bool := if x.kind = 4 then outB x.cnt 1 x.ins.length else !(x.cnt == 0)
def rangeBad (x : Nd) : Bool := cntBad x || outB x.hold 0 100 || ((x.kind == 1) && decide (0 < x.hold))
/-- The error of node i. -/
def ndErr (t : List Nd) (i : Nat) (x : Nd) : Int :=
  if nameB x.name = false then 6
  else if anyB t x.name i = true then 5
  else if outB x.kind 1 4 = true then 2
  else if lenBad x = true then 3
  else if insBad i x = true then 4
  else if dupB x.ins = true then 5
  else if rangeBad x = true then 7
  else 0
def nErr (t : List Nd) (i : Nat) : Int := match t[i]? with | none => 0 | some x => ndErr t i x
/-- How many basic nodes. -/
def nBas (t : List Nd) : Nat := (t.filter fun x => x.kind == 1).length
def chkT (t : List Nd) : Int × Int :=
  if outB t.length 1 40 = true then (-1, 3)
  else if (firstErr (nErr t) 0 (t.length - 0)).2 = 0 then (if outB (nBas t) 1 10 = true then (-1, 3) else (0, 0))
  else firstErr (nErr t) 0 (t.length - 0)

/-- A node that is valid. -/
structure NdOk (t : List Nd) (i : Nat) (x : Nd) : Prop where
  name : nameB x.name = true
  own : anyB t x.name i = false
  k1 : 1 ≤ x.kind
  k4 : x.kind ≤ 4
  b0 : x.kind = 1 → x.ins = []
  l1 : x.kind ≠ 1 → 1 ≤ x.ins.length
  l10 : x.ins.length ≤ 10
  ins : ∀ n ∈ x.ins, 0 ≤ n ∧ n < i
  nd : x.ins.Nodup
  c4 : x.kind = 4 → 1 ≤ x.cnt ∧ x.cnt ≤ x.ins.length
  c0 : x.kind ≠ 4 → x.cnt = 0
  h0 : 0 ≤ x.hold
  h1 : x.hold ≤ 100
  hb : x.kind = 1 → x.hold = 0

theorem ndErr_ok {t : List Nd} {i : Nat} {x : Nd} : ndErr t i x = 0 ↔ NdOk t i x := by
  constructor
  · intro h
    unfold ndErr at h
    by_cases h1 : nameB x.name = false
    · rw [if_pos h1] at h; exact absurd h (by decide)
    rw [if_neg h1] at h
    by_cases h2 : anyB t x.name i = true
    · rw [if_pos h2] at h; exact absurd h (by decide)
    rw [if_neg h2] at h
    by_cases h3 : outB x.kind 1 4 = true
    · rw [if_pos h3] at h; exact absurd h (by decide)
    rw [if_neg h3] at h
    by_cases h4 : lenBad x = true
    · rw [if_pos h4] at h; exact absurd h (by decide)
    rw [if_neg h4] at h
    by_cases h5 : insBad i x = true
    · rw [if_pos h5] at h; exact absurd h (by decide)
    rw [if_neg h5] at h
    by_cases h6 : dupB x.ins = true
    · rw [if_pos h6] at h; exact absurd h (by decide)
    rw [if_neg h6] at h
    by_cases h7 : rangeBad x = true
    · rw [if_pos h7] at h; exact absurd h (by decide)
    simp only [Bool.not_eq_true, Bool.not_eq_false] at h1 h2 h3 h4 h5 h6 h7
    have k := outB_false h3
    have hl : (x.kind = 1 → x.ins = []) ∧ (x.kind ≠ 1 → 1 ≤ x.ins.length) ∧ x.ins.length ≤ 10 := by
      unfold lenBad at h4
      by_cases e : x.kind = 1
      · rw [if_pos e] at h4; simp at h4; exact ⟨fun _ => h4, fun c => absurd e c, by rw [h4]; decide⟩
      · rw [if_neg e] at h4; have := outB_false h4; exact ⟨fun c => absurd c e, fun _ => by omega, by omega⟩
    have hi : ∀ n ∈ x.ins, 0 ≤ n ∧ n < i := by
      unfold insBad at h5
      rw [List.any_eq_false] at h5
      intro n hn
      have := h5 n hn
      rw [Bool.not_eq_true] at this
      have := outB_false this
      omega
    have hd : x.ins.Nodup := by unfold dupB at h6; simpa using h6
    unfold rangeBad at h7
    simp only [Bool.or_eq_false_iff, Bool.and_eq_false_iff] at h7
    obtain ⟨⟨c, d⟩, e⟩ := h7
    have hh := outB_false d
    unfold cntBad at c
    refine ⟨h1, h2, k.1, k.2, hl.1, hl.2.1, hl.2.2, hi, hd, ?_, ?_, hh.1, hh.2, ?_⟩
    · intro q; rw [if_pos q] at c; exact outB_false c
    · intro q; rw [if_neg q] at c; simpa using c
    · intro q; rcases e with e | e
      · simp [q] at e
      · simp at e; omega
  · intro h
    have e1 : outB x.kind 1 4 = false := outB_eq_false.2 ⟨h.k1, h.k4⟩
    have e2 : lenBad x = false := by
      unfold lenBad
      by_cases e : x.kind = 1
      · rw [if_pos e, h.b0 e]; rfl
      · rw [if_neg e]; exact outB_eq_false.2 ⟨by have := h.l1 e; omega, by have := h.l10; omega⟩
    have e3 : insBad i x = false := by
      unfold insBad
      rw [List.any_eq_false]
      intro n hn
      rw [Bool.not_eq_true]
      have := h.ins n hn
      exact outB_eq_false.2 ⟨by omega, by omega⟩
    have e4 : dupB x.ins = false := by unfold dupB; simpa using h.nd
    have e5 : rangeBad x = false := by
      unfold rangeBad
      simp only [Bool.or_eq_false_iff, Bool.and_eq_false_iff]
      refine ⟨⟨?_, outB_eq_false.2 ⟨h.h0, h.h1⟩⟩, ?_⟩
      · unfold cntBad
        by_cases e : x.kind = 4
        · rw [if_pos e]; exact outB_eq_false.2 (h.c4 e)
        · rw [if_neg e, h.c0 e]; rfl
      · by_cases e : x.kind = 1
        · right; rw [h.hb e]; rfl
        · left; simpa using e
    unfold ndErr
    rw [if_neg (by rw [h.name]; decide), if_neg (by rw [h.own]; decide), if_neg (by rw [e1]; decide), if_neg (by rw [e2]; decide), if_neg (by rw [e3]; decide), if_neg (by rw [e4]; decide), if_neg (by rw [e5]; decide)]

/-- A tree that is valid. -/
structure TrOk (t : List Nd) : Prop where
  l1 : 1 ≤ t.length
  l40 : t.length ≤ 40
  nd : ∀ i x, t[i]? = some x → NdOk t i x
  b1 : 1 ≤ nBas t
  b10 : nBas t ≤ 10

theorem chkT_ok {t : List Nd} : (chkT t).2 = 0 ↔ TrOk t := by
  have hall : (firstErr (nErr t) 0 (t.length - 0)).2 = 0 ↔ ∀ i x, t[i]? = some x → NdOk t i x := by
    rw [firstErr_ok]
    constructor
    · intro H i x hx
      have hl : i < t.length := (List.getElem?_eq_some_iff.1 hx).1
      have := H i (Nat.zero_le _) (by omega)
      unfold nErr at this
      rw [hx] at this
      exact ndErr_ok.1 this
    · intro H j _ _
      unfold nErr
      cases hx : t[j]? with
      | none => rfl
      | some x => exact ndErr_ok.2 (H j x hx)
  unfold chkT
  by_cases h1 : outB t.length 1 40 = true
  · rw [if_pos h1]
    constructor
    · intro h; exact absurd h (by decide)
    · intro h; have := h.l1; have := h.l40; have := outB_true h1; omega
  rw [if_neg h1]
  have h1' := outB_false (Bool.eq_false_iff.2 h1)
  by_cases h2 : (firstErr (nErr t) 0 (t.length - 0)).2 = 0
  · rw [if_pos h2]
    by_cases h3 : outB (nBas t) 1 10 = true
    · rw [if_pos h3]
      constructor
      · intro h; exact absurd h (by decide)
      · intro h; have := h.b1; have := h.b10; have := outB_true h3; omega
    · rw [if_neg h3]
      have h3' := outB_false (Bool.eq_false_iff.2 h3)
      exact ⟨fun _ => ⟨by omega, by omega, hall.1 h2, by omega, by omega⟩, fun _ => rfl⟩
  · rw [if_neg h2]
    exact ⟨fun h => absurd h h2, fun h => absurd (hall.2 h.nd) h2⟩
theorem chkT_fst {t : List Nd} (h : (chkT t).2 = 0) : chkT t = (0, 0) := by
  unfold chkT at h ⊢
  by_cases h1 : outB t.length 1 40 = true
  · rw [if_pos h1] at h; exact absurd h (by decide)
  rw [if_neg h1] at h ⊢
  by_cases h2 : (firstErr (nErr t) 0 (t.length - 0)).2 = 0
  · rw [if_pos h2] at h ⊢
    by_cases h3 : outB (nBas t) 1 10 = true
    · rw [if_pos h3] at h; exact absurd h (by decide)
    · rw [if_neg h3]
  · rw [if_neg h2] at h; exact absurd h h2

end Go.Proofs.YtadldndpphdmpaaGreat
namespace Go.Proofs.YtadldndpphdmpaaGreat


theorem getD_app_l {α : Type} (l m : List α) (d : α) {i : Nat} (h : i < l.length) : (l ++ m).getD i d = l.getD i d := by
  rw [List.getD_eq_getElem?_getD, List.getD_eq_getElem?_getD, List.getElem?_append_left h]
theorem getD_app_r {α : Type} (l m : List α) (d : α) {i : Nat} (h : l.length ≤ i) : (l ++ m).getD i d = m.getD (i - l.length) d := by
  rw [List.getD_eq_getElem?_getD, List.getD_eq_getElem?_getD, List.getElem?_append_right h]
/-- A value for each node, by the values of those before it. -/
def gv {α : Type} (F : Nat → Nd → (Nat → α) → α) (d : α) (t : List Nd) : Nat → List α
  | 0 => []
  | k + 1 => gv F d t k ++ [match t[k]? with | some x => F k x (fun m => (gv F d t k).getD m d) | none => d]
def gf {α : Type} (F : Nat → Nd → (Nat → α) → α) (d : α) (t : List Nd) (i : Nat) : α := (gv F d t t.length).getD i d
/-- The value of a node hangs on those before it alone. -/
def Loc {α : Type} (F : Nat → Nd → (Nat → α) → α) (t : List Nd) : Prop := ∀ i x f g, t[i]? = some x → (∀ m, m < i → f m = g m) → F i x f = F i x g

section
variable {α : Type} {F : Nat → Nd → (Nat → α) → α} {d : α} {t : List Nd}
theorem gv_len : ∀ k, (gv F d t k).length = k
  | 0 => rfl
  | k + 1 => by rw [gv, List.length_append, gv_len k]; rfl
theorem gv_get {i : Nat} : ∀ k, i < k → (gv F d t k).getD i d = (gv F d t (i + 1)).getD i d
  | 0, h => by omega
  | k + 1, h => by
    by_cases e : i = k
    · rw [e]
    · rw [gv, getD_app_l _ _ _ (by rw [gv_len]; omega)]
      exact gv_get k (by omega)
theorem gv_last {i : Nat} {x : Nd} (hx : t[i]? = some x) : (gv F d t (i + 1)).getD i d = F i x (fun m => (gv F d t i).getD m d) := by
  rw [gv, getD_app_r _ _ _ (by rw [gv_len]; omega), gv_len, Nat.sub_self, hx]
  rfl
theorem gf_eq (hL : Loc F t) {i : Nat} {x : Nd} (hx : t[i]? = some x) : gf F d t i = F i x (gf F d t) := by
  have hi : i < t.length := (List.getElem?_eq_some_iff.1 hx).1
  unfold gf
  rw [gv_get _ hi, gv_last hx]
  refine hL i x _ _ hx fun m hm => ?_
  rw [gv_get i hm, gv_get t.length (by omega)]
theorem gf_out {i : Nat} (h : t.length ≤ i) : gf F d t i = d := by
  unfold gf
  rw [List.getD_eq_getElem?_getD, List.getElem?_eq_none (by rw [gv_len]; exact h)]
  rfl
theorem gf_uniq (hL : Loc F t) {g : Nat → α} (hg : ∀ i x, t[i]? = some x → g i = F i x g) : ∀ i, i < t.length → g i = gf F d t i := by
  intro i
  induction i using Nat.strongRecOn with
  | ind i ih =>
    intro hi
    have hx := List.getElem?_eq_getElem hi
    rw [hg i _ hx, gf_eq hL hx]
    exact hL i _ _ _ hx fun m hm => ih m hm (by omega)
theorem gv_map : ∀ k, k ≤ t.length → gv F d t k = (List.range k).map (gf F d t)
  | 0, _ => rfl
  | k + 1, h => by
    rw [List.range_succ, List.map_append, ← gv_map k (by omega), gv]
    congr 1
    have hx := List.getElem?_eq_getElem (l := t) (i := k) (by omega)
    rw [List.map_singleton, List.cons.injEq]
    refine ⟨?_, rfl⟩
    unfold gf
    rw [gv_get t.length (by omega), gv_last hx, hx]
end

/-- Is what a node asks of its inputs so? -/
def so (x : Nd) (f : Nat → Bool) : Bool :=
  if x.kind = 2 then (x.ins.filter fun k => f k.toNat).length == x.ins.length
  else if x.kind = 3 then decide (1 ≤ (x.ins.filter fun k => f k.toNat).length)
  else decide (x.cnt ≤ ((x.ins.filter fun k => f k.toNat).length : Int))
/-- How many inputs have to fail. -/
def need (x : Nd) : Int := if x.kind = 1 then 1 else if x.kind = 2 then x.ins.length else max x.cnt 1
def hitsF (x : Nd) (f : Nat → Bool) : Nat := (x.ins.filter fun k => f k.toNat).length

theorem hitsF_congr {x : Nd} {f g : Nat → Bool} (h : ∀ k ∈ x.ins, f k.toNat = g k.toNat) : hitsF x f = hitsF x g := by
  unfold hitsF
  rw [List.filter_congr (fun k hk => h k hk)]
theorem hitsF_le (x : Nd) (f : Nat → Bool) : hitsF x f ≤ x.ins.length := List.length_filter_le _ _
theorem so_hits (x : Nd) (f : Nat → Bool) : so x f = if x.kind = 2 then hitsF x f == x.ins.length else if x.kind = 3 then decide (1 ≤ hitsF x f) else decide (x.cnt ≤ (hitsF x f : Int)) := rfl
theorem so_congr {x : Nd} {f g : Nat → Bool} (h : ∀ k ∈ x.ins, f k.toNat = g k.toNat) : so x f = so x g := by
  rw [so_hits, so_hits, hitsF_congr h]
theorem so_need {t : List Nd} {i : Nat} {x : Nd} (ok : NdOk t i x) (hk : x.kind ≠ 1) (f : Nat → Bool) : so x f = decide (need x ≤ (hitsF x f : Int)) := by
  have hl := hitsF_le x f
  have := ok.k1
  have := ok.k4
  rw [so_hits]
  unfold need
  rw [if_neg hk]
  by_cases h2 : x.kind = 2
  · rw [if_pos h2, if_pos h2, Bool.eq_iff_iff]
    simp
    omega
  rw [if_neg h2, if_neg h2]
  by_cases h3 : x.kind = 3
  · have := ok.c0 (by omega)
    rw [if_pos h3, this, decide_eq_decide]
    omega
  · have := ok.c4 (by omega)
    rw [if_neg h3, decide_eq_decide]
    omega
theorem hitsF_mono {x : Nd} {f g : Nat → Bool} (h : ∀ k ∈ x.ins, f k.toNat = true → g k.toNat = true) : hitsF x f ≤ hitsF x g := by
  unfold hitsF
  refine List.Sublist.length_le ?_
  generalize x.ins = l at h
  induction l with
  | nil => exact .slnil
  | cons a r ih =>
    have ih' := ih fun k hk => h k (List.mem_cons_of_mem _ hk)
    rw [List.filter_cons, List.filter_cons]
    by_cases c : f a.toNat = true
    · rw [if_pos c, if_pos (h a (List.mem_cons_self ..) c)]; exact ih'.cons_cons a
    · rw [if_neg c]
      by_cases e : g a.toNat = true
      · rw [if_pos e]; exact ih'.cons a
      · rw [if_neg e]; exact ih'
theorem so_mono {t : List Nd} {i : Nat} {x : Nd} (ok : NdOk t i x) (hk : x.kind ≠ 1) {f g : Nat → Bool} (h : ∀ k ∈ x.ins, f k.toNat = true → g k.toNat = true) (hf : so x f = true) : so x g = true := by
  rw [so_need ok hk] at hf ⊢
  have := hitsF_mono h
  simp only [decide_eq_true_eq] at hf ⊢
  omega
theorem need_pos {t : List Nd} {i : Nat} {x : Nd} (ok : NdOk t i x) : 1 ≤ need x := by
  have := ok.k1
  unfold need
  by_cases h1 : x.kind = 1
  · rw [if_pos h1]; omega
  rw [if_neg h1]
  have := ok.l1 h1
  by_cases h2 : x.kind = 2
  · rw [if_pos h2]; omega
  · rw [if_neg h2]; omega
theorem need_le {t : List Nd} {i : Nat} {x : Nd} (ok : NdOk t i x) : need x ≤ 10 := by
  have h10 := ok.l10
  have := ok.k4
  unfold need
  by_cases h1 : x.kind = 1
  · rw [if_pos h1]; omega
  rw [if_neg h1]
  by_cases h2 : x.kind = 2
  · rw [if_pos h2]; omega
  · rw [if_neg h2]
    by_cases h4 : x.kind = 4
    · have := ok.c4 h4; omega
    · have := ok.c0 h4; omega

/-- Does node i fail, if the basic nodes b do? -/
def efF (b : Nat → Bool) (i : Nat) (x : Nd) (f : Nat → Bool) : Bool := if x.kind = 1 then b i else so x f
def ef (t : List Nd) (b : Nat → Bool) (i : Nat) : Bool := gf (efF b) false t i
theorem ins_lt {t : List Nd} {i : Nat} {x : Nd} (ok : NdOk t i x) {k : Int} (hk : k ∈ x.ins) : k.toNat < i := by have := ok.ins k hk; omega
theorem efF_loc {t : List Nd} (h : TrOk t) (b : Nat → Bool) : Loc (efF b) t := by
  intro i x f g hx hfg
  unfold efF
  by_cases h1 : x.kind = 1
  · rw [if_pos h1, if_pos h1]
  · rw [if_neg h1, if_neg h1]
    exact so_congr fun k hk => hfg _ (ins_lt (h.nd i x hx) hk)
theorem ef_eq {t : List Nd} (h : TrOk t) (b : Nat → Bool) {i : Nat} {x : Nd} (hx : t[i]? = some x) : ef t b i = if x.kind = 1 then b i else so x (ef t b) := gf_eq (efF_loc h b) hx
theorem ef_out {t : List Nd} {b : Nat → Bool} {i : Nat} (h : t.length ≤ i) : ef t b i = false := gf_out h
theorem ef_uniq {t : List Nd} (h : TrOk t) {b g : Nat → Bool} (hg : ∀ i x, t[i]? = some x → g i = if x.kind = 1 then b i else so x g) : ∀ i, i < t.length → g i = ef t b i := gf_uniq (efF_loc h b) hg
theorem ef_mono {t : List Nd} (h : TrOk t) {b c : Nat → Bool} (hbc : ∀ i, b i = true → c i = true) : ∀ i, ef t b i = true → ef t c i = true := by
  intro i
  induction i using Nat.strongRecOn with
  | ind i ih =>
    intro hi
    by_cases hl : i < t.length
    · have hx := List.getElem?_eq_getElem hl
      rw [ef_eq h b hx] at hi
      rw [ef_eq h c hx]
      by_cases h1 : t[i].kind = 1
      · rw [if_pos h1] at hi ⊢; exact hbc i hi
      · rw [if_neg h1] at hi ⊢
        exact so_mono (h.nd i _ hx) h1 (fun k hk => ih _ (ins_lt (h.nd i _ hx) hk)) hi
    · rw [ef_out (by omega)] at hi; cases hi
theorem ef_congr {t : List Nd} {b c : Nat → Bool} (h : TrOk t) (hbc : ∀ i x, t[i]? = some x → x.kind = 1 → b i = c i) (i : Nat) : ef t b i = ef t c i := by
  by_cases hl : i < t.length
  · refine ef_uniq h (fun i x hx => ?_) i hl
    rw [ef_eq h b hx]
    by_cases h1 : x.kind = 1
    · rw [if_pos h1, if_pos h1, hbc i x hx h1]
    · rw [if_neg h1, if_neg h1]
  · rw [ef_out (by omega), ef_out (by omega)]

/-- A set of nodes as bits. -/
def withN (s i : Nat) : Nat := s ||| 1 <<< i
theorem withN_bit (s i j : Nat) : (withN s i).testBit j = (s.testBit j || decide (i = j)) := by
  unfold withN
  rw [Nat.testBit_or, Nat.one_shiftLeft, Nat.testBit_two_pow]
def isBas (t : List Nd) (j : Nat) : Bool := match t[j]? with | some x => x.kind == 1 | none => false
def basN (t : List Nd) : Nat → Nat
  | 0 => 0
  | k + 1 => if isBas t k then withN (basN t k) k else basN t k
def bas (t : List Nd) : Nat := basN t t.length
theorem basN_bit (t : List Nd) (j : Nat) : ∀ k, (basN t k).testBit j = (decide (j < k) && isBas t j)
  | 0 => by simp [basN]
  | k + 1 => by
    rw [basN]
    by_cases hb : isBas t k = true
    · rw [if_pos hb, withN_bit, basN_bit t j k]
      by_cases e : k = j
      · subst e; simp [hb]
      · have : decide (j < k + 1) = decide (j < k) := by rw [decide_eq_decide]; omega
        simp [e, this]
    · rw [if_neg hb, basN_bit t j k]
      by_cases e : k = j
      · subst e; simp [Bool.eq_false_iff.2 hb]
      · have : decide (j < k + 1) = decide (j < k) := by rw [decide_eq_decide]; omega
        rw [this]
theorem isBas_out {t : List Nd} {j : Nat} (h : t.length ≤ j) : isBas t j = false := by unfold isBas; rw [List.getElem?_eq_none h]
theorem isBas_kind {t : List Nd} {j : Nat} {x : Nd} (hx : t[j]? = some x) : isBas t j = (x.kind == 1) := by unfold isBas; rw [hx]
theorem isBas_lt {t : List Nd} {j : Nat} (h : isBas t j = true) : j < t.length := by
  rcases Nat.lt_or_ge j t.length with h' | h'
  · exact h'
  · rw [isBas_out h'] at h; cases h
theorem bas_bit (t : List Nd) (j : Nat) : (bas t).testBit j = isBas t j := by
  unfold bas
  rw [basN_bit]
  by_cases h : j < t.length
  · simp [h]
  · simp [isBas_out (Nat.le_of_not_lt h)]

/-- All nodes of a set are basic. -/
def Sub (t : List Nd) (s : Nat) : Prop := ∀ j, s.testBit j = true → isBas t j = true
def effS (s : Nat) (i : Nat) (x : Nd) : Nat := if x.kind = 1 then s else if need x ≤ (hitsF x s.testBit : Int) then withN s i else s
def effN (t : List Nd) (s : Nat) : Nat → Nat
  | 0 => s
  | k + 1 => match t[k]? with | some x => effS (effN t s k) k x | none => effN t s k
/-- The effects of a set. -/
def eff (t : List Nd) (s : Nat) : Nat := effN t s t.length

theorem effN_bit {t : List Nd} (h : TrOk t) {s : Nat} (hs : Sub t s) : ∀ k, k ≤ t.length → ∀ j, (effN t s k).testBit j = if j < k then ef t s.testBit j else s.testBit j
  | 0, _ => fun j => by rw [effN, if_neg (by omega)]
  | k + 1, hk => fun j => by
    have ih := effN_bit h hs k (by omega)
    have hx := List.getElem?_eq_getElem (l := t) (i := k) (by omega)
    have ok := h.nd k _ hx
    have hh : hitsF t[k] (effN t s k).testBit = hitsF t[k] (ef t s.testBit) := hitsF_congr fun n hn => by rw [ih, if_pos (ins_lt ok hn)]
    have he := ef_eq h s.testBit hx
    rw [effN, hx]
    dsimp only
    unfold effS
    rw [hh]
    by_cases h1 : t[k].kind = 1
    · rw [if_pos h1, ih]
      rw [if_pos h1] at he
      by_cases e : j = k
      · subst e; rw [if_neg (by omega), if_pos (by omega), he]
      · by_cases hj : j < k
        · rw [if_pos hj, if_pos (by omega)]
        · rw [if_neg hj, if_neg (by omega)]
    · rw [if_neg h1]
      rw [if_neg h1, so_need ok h1] at he
      have hsk : s.testBit k = false := by
        rw [Bool.eq_false_iff]
        intro c
        have := hs k c
        rw [isBas_kind hx] at this
        exact h1 (by simpa using this)
      by_cases hn : need t[k] ≤ (hitsF t[k] (ef t s.testBit) : Int)
      · rw [if_pos hn, withN_bit, ih]
        rw [decide_eq_true hn] at he
        by_cases e : j = k
        · subst e; rw [if_pos (by omega : j < j + 1), he]; simp
        · have : decide (k = j) = false := by simp; omega
          rw [this, Bool.or_false]
          by_cases hj : j < k
          · rw [if_pos hj, if_pos (by omega)]
          · rw [if_neg hj, if_neg (by omega)]
      · rw [if_neg hn, ih]
        rw [decide_eq_false hn] at he
        by_cases e : j = k
        · subst e; rw [if_pos (by omega : j < j + 1), if_neg (by omega), he, hsk]
        · by_cases hj : j < k
          · rw [if_pos hj, if_pos (by omega)]
          · rw [if_neg hj, if_neg (by omega)]
theorem eff_bit {t : List Nd} (h : TrOk t) {s : Nat} (hs : Sub t s) (j : Nat) : (eff t s).testBit j = ef t s.testBit j := by
  unfold eff
  rw [effN_bit h hs _ (Nat.le_refl _)]
  by_cases hj : j < t.length
  · rw [if_pos hj]
  · rw [if_neg hj, ef_out (by omega), Bool.eq_false_iff]
    intro c
    have := isBas_lt (hs j c)
    omega
theorem bits_lt {s n : Nat} (h : ∀ j, s.testBit j = true → j < n) : s < 2 ^ n := by
  refine Nat.lt_pow_two_of_testBit s fun i hi => ?_
  rw [Bool.eq_false_iff]
  intro c
  have := h i c
  omega
theorem eff_lt {t : List Nd} (h : TrOk t) {s : Nat} (hs : Sub t s) : eff t s < 2 ^ t.length := bits_lt fun j hj => by
  rw [eff_bit h hs] at hj
  rcases Nat.lt_or_ge j t.length with h' | h'
  · exact h'
  · rw [ef_out h'] at hj; cases hj
theorem Sub.lt {t : List Nd} {s : Nat} (hs : Sub t s) : s < 2 ^ t.length := bits_lt fun j hj => isBas_lt (hs j hj)
theorem effN_lt {t : List Nd} (h : TrOk t) {s : Nat} (hs : Sub t s) {k : Nat} (hk : k ≤ t.length) : effN t s k < 2 ^ t.length := bits_lt fun j hj => by
  rw [effN_bit h hs k hk] at hj
  by_cases c : j < k
  · omega
  · rw [if_neg c] at hj; exact isBas_lt (hs j hj)
theorem pow_40 {t : List Nd} (h : TrOk t) {s : Nat} (hs : s < 2 ^ t.length) : s < 1099511627776 :=
  Nat.lt_of_lt_of_le hs (Nat.pow_le_pow_right (by decide) h.l40)
theorem bas_sub (t : List Nd) : Sub t (bas t) := fun j hj => by rw [bas_bit] at hj; exact hj
theorem bas_lt (t : List Nd) : bas t < 2 ^ t.length := (bas_sub t).lt
theorem Sub.zero (t : List Nd) : Sub t 0 := fun j hj => by simp at hj
theorem Sub.with {t : List Nd} {s i : Nat} (hs : Sub t s) (hi : isBas t i = true) : Sub t (withN s i) := fun j hj => by
  rw [withN_bit] at hj
  by_cases e : i = j
  · rw [← e]; exact hi
  · simp [e] at hj; exact hs j hj

/-- The indices of a set, ascending. -/
def bitsL (s : Nat) : List Int := ((List.range 64).filter s.testBit).map Int.ofNat
theorem mem_bitsL {s : Nat} (h : s < 2 ^ 64) {n : Int} : n ∈ bitsL s ↔ 0 ≤ n ∧ s.testBit n.toNat = true := by
  unfold bitsL
  rw [List.mem_map]
  constructor
  · rintro ⟨k, hk, rfl⟩
    rw [List.mem_filter] at hk
    exact ⟨Int.natCast_nonneg k, hk.2⟩
  · rintro ⟨h0, hb⟩
    refine ⟨n.toNat, ?_, by simp; omega⟩
    rw [List.mem_filter, List.mem_range]
    refine ⟨?_, hb⟩
    rcases Nat.lt_or_ge n.toNat 64 with h' | h'
    · exact h'
    · rw [Nat.testBit_lt_two_pow (Nat.lt_of_lt_of_le h (Nat.pow_le_pow_right (by decide) h'))] at hb; cases hb
theorem bitsL_sorted (s : Nat) : (bitsL s).Pairwise (· < ·) := by
  unfold bitsL
  rw [List.pairwise_map]
  refine List.Pairwise.imp ?_ (List.Pairwise.filter _ List.pairwise_lt_range)
  intro a b h
  exact Int.ofNat_lt.2 h
theorem sorted_uniq {l m : List Int} (hl : l.Pairwise (· < ·)) (hm : m.Pairwise (· < ·)) (h : ∀ x, x ∈ l ↔ x ∈ m) : l = m := by
  have p : l.Perm m := (List.perm_ext_iff_of_nodup (hl.imp fun h => Int.ne_of_lt h) (hm.imp fun h => Int.ne_of_lt h)).2 h
  exact p.eq_of_pairwise (fun a b _ _ h1 h2 => by omega) hl hm
end Go.Proofs.YtadldndpphdmpaaGreat
namespace Go.Proofs.YtadldndpphdmpaaGreat


def ftF (B : Nat → Nat → Bool) (i : Nat) (x : Nd) (f : Nat → Nat → Bool) : Nat → Bool := fun k =>
  if x.kind = 1 then B i k else decide (x.hold.toNat ≤ k) && (List.range (x.hold.toNat + 1)).all fun j => so x (fun m => f m (k - j))
/-- Has node i failed at tick k, if the basic nodes have as B says? -/
def ft (t : List Nd) (B : Nat → Nat → Bool) (i : Nat) : Nat → Bool := gf (ftF B) (fun _ => false) t i
theorem ftF_loc {t : List Nd} (h : TrOk t) (B : Nat → Nat → Bool) : Loc (ftF B) t := by
  intro i x f g hx hfg
  funext k
  unfold ftF
  by_cases h1 : x.kind = 1
  · rw [if_pos h1, if_pos h1]
  · rw [if_neg h1, if_neg h1]
    congr 2
    funext j
    exact so_congr fun n hn => by rw [hfg _ (ins_lt (h.nd i x hx) hn)]
theorem ft_eq {t : List Nd} (h : TrOk t) (B : Nat → Nat → Bool) {i : Nat} {x : Nd} (hx : t[i]? = some x) : ft t B i = ftF B i x (ft t B) := gf_eq (ftF_loc h B) hx
theorem ft_out {t : List Nd} {B : Nat → Nat → Bool} {i : Nat} (h : t.length ≤ i) (k : Nat) : ft t B i k = false := by
  unfold ft; rw [gf_out h]
theorem ft_bas {t : List Nd} (h : TrOk t) (B : Nat → Nat → Bool) {i : Nat} {x : Nd} (hx : t[i]? = some x) (hk : x.kind = 1) (k : Nat) : ft t B i k = B i k := by
  rw [ft_eq h B hx]; unfold ftF; rw [if_pos hk]
theorem ft_not {t : List Nd} (h : TrOk t) (B : Nat → Nat → Bool) {i : Nat} {x : Nd} (hx : t[i]? = some x) (hk : x.kind ≠ 1) (k : Nat) :
    ft t B i k = true ↔ x.hold.toNat ≤ k ∧ ∀ j, k - x.hold.toNat ≤ j → j ≤ k → so x (fun m => ft t B m j) = true := by
  rw [ft_eq h B hx]
  unfold ftF
  rw [if_neg hk]
  simp only [Bool.and_eq_true, decide_eq_true_eq, List.all_eq_true, List.mem_range]
  constructor
  · rintro ⟨h1, h2⟩
    refine ⟨h1, fun j h3 h4 => ?_⟩
    have := h2 (k - j) (by omega)
    rwa [show k - (k - j) = j by omega] at this
  · rintro ⟨h1, h2⟩
    exact ⟨h1, fun j hj => h2 (k - j) (by omega) (by omega)⟩
/-- What has failed by a tick hangs on no later one. -/
theorem ft_local {t : List Nd} (h : TrOk t) {B C : Nat → Nat → Bool} {k : Nat} (hBC : ∀ i j, isBas t i = true → j ≤ k → B i j = C i j) : ∀ i j, j ≤ k → ft t B i j = ft t C i j := by
  intro i
  induction i using Nat.strongRecOn with
  | ind i ih =>
    intro j hj
    by_cases hl : i < t.length
    · have hx := List.getElem?_eq_getElem hl
      by_cases h1 : t[i].kind = 1
      · rw [ft_bas h B hx h1, ft_bas h C hx h1]; exact hBC i j (by rw [isBas_kind hx]; simpa using h1) hj
      · have e : ∀ m, m ≤ k → so t[i] (fun n => ft t B n m) = so t[i] (fun n => ft t C n m) := fun m hm => so_congr fun n hn => ih _ (ins_lt (h.nd i _ hx) hn) m hm
        rw [Bool.eq_iff_iff, ft_not h B hx h1, ft_not h C hx h1]
        constructor
        · rintro ⟨h2, h3⟩; exact ⟨h2, fun m a b => by rw [← e m (by omega)]; exact h3 m a b⟩
        · rintro ⟨h2, h3⟩; exact ⟨h2, fun m a b => by rw [e m (by omega)]; exact h3 m a b⟩
    · rw [ft_out (by omega), ft_out (by omega)]
theorem ft_uniq {t : List Nd} (h : TrOk t) {B : Nat → Nat → Bool} {g : Nat → Nat → Bool} (hg : ∀ i x, t[i]? = some x → g i = ftF B i x g) : ∀ i, i < t.length → g i = ft t B i := gf_uniq (ftF_loc h B) hg

/-- A node's span of ticks. -/
structure Sp where
  nd : Int
  a : Int
  b : Int
  deriving DecidableEq
def covS (k : Int) (s : Sp) : Bool := decide (s.a ≤ k) && decide (k < s.b)
def cov (l : List Sp) (k : Int) : Bool := l.any (covS k)
theorem cov_iff {l : List Sp} {k : Int} : cov l k = true ↔ ∃ s ∈ l, s.a ≤ k ∧ k < s.b := by
  unfold cov covS; simp
theorem cov_nil (k : Int) : cov [] k = false := rfl
theorem cov_cons (s : Sp) (l : List Sp) (k : Int) : cov (s :: l) k = (covS k s || cov l k) := rfl
theorem cov_app (l m : List Sp) (k : Int) : cov (l ++ m) k = (cov l k || cov m k) := by unfold cov; rw [List.any_append]
/-- Spans of a node that are apart, in order. -/
structure Canon (n : Int) (l : List Sp) : Prop where
  one : ∀ s ∈ l, s.nd = n ∧ s.a < s.b
  apart : l.Pairwise fun s u => s.b < u.a
theorem Canon.nil (n : Int) : Canon n [] := ⟨by simp, .nil⟩
theorem Canon.tail {n : Int} {s : Sp} {l : List Sp} (h : Canon n (s :: l)) : Canon n l := ⟨fun u hu => h.one u (List.mem_cons_of_mem _ hu), (List.pairwise_cons.1 h.apart).2⟩
theorem Canon.behind {n : Int} {s : Sp} {l : List Sp} (h : Canon n (s :: l)) : ∀ u ∈ l, s.b < u.a := (List.pairwise_cons.1 h.apart).1

theorem canon_uniq {n : Int} : ∀ {l m : List Sp}, Canon n l → Canon n m → (∀ k, cov l k = cov m k) → l = m
  | [], [], _, _, _ => rfl
  | [], s :: m, _, hm, h => by
    have := h s.a
    have c : cov (s :: m) s.a = true := cov_iff.2 ⟨s, List.mem_cons_self .., Int.le_refl _, (hm.one s (List.mem_cons_self ..)).2⟩
    rw [c] at this
    cases this
  | s :: l, [], hl, _, h => by
    have := h s.a
    have c : cov (s :: l) s.a = true := cov_iff.2 ⟨s, List.mem_cons_self .., Int.le_refl _, (hl.one s (List.mem_cons_self ..)).2⟩
    rw [c] at this
    cases this
  | s :: l, u :: m, hl, hm, h => by
    have s1 := hl.one s (List.mem_cons_self ..)
    have u1 := hm.one u (List.mem_cons_self ..)
    have lo : ∀ {s : Sp} {l : List Sp}, Canon n (s :: l) → ∀ k, cov (s :: l) k = true → s.a ≤ k ∧ k ≠ s.b := fun {s l} hl k hk => by
      obtain ⟨v, hv, h1, h2⟩ := cov_iff.1 hk
      have s1 := hl.one s (List.mem_cons_self ..)
      rcases List.mem_cons.1 hv with rfl | hv
      · omega
      · have := hl.behind v hv; omega
    have ea : s.a = u.a := by
      have c1 : cov (s :: l) s.a = true := cov_iff.2 ⟨s, List.mem_cons_self .., Int.le_refl _, s1.2⟩
      have c2 : cov (u :: m) u.a = true := cov_iff.2 ⟨u, List.mem_cons_self .., Int.le_refl _, u1.2⟩
      rw [h] at c1
      rw [← h] at c2
      have := (lo hm _ c1).1
      have := (lo hl _ c2).1
      omega
    have eb : s.b = u.b := by
      rcases (by omega : s.b = u.b ∨ s.b < u.b ∨ u.b < s.b) with e | e | e
      · exact e
      · have c : cov (u :: m) s.b = true := cov_iff.2 ⟨u, List.mem_cons_self .., by omega, e⟩
        rw [← h] at c
        exact absurd rfl (lo hl _ c).2
      · have c : cov (s :: l) u.b = true := cov_iff.2 ⟨s, List.mem_cons_self .., by omega, e⟩
        rw [h] at c
        exact absurd rfl (lo hm _ c).2
    have es : s = u := by
      cases s; cases u
      simp only at ea eb s1 u1
      rw [s1.1, u1.1, ea, eb]
    have rest : ∀ k, cov l k = cov m k := fun k => by
      have hk := h k
      rw [cov_cons, cov_cons, es] at hk
      by_cases c : covS k u = true
      · have e1 : cov l k = false := by
          rw [Bool.eq_false_iff]; intro q
          obtain ⟨v, hv, h1, h2⟩ := cov_iff.1 q
          have := hl.behind v hv
          unfold covS at c; simp at c; omega
        have e2 : cov m k = false := by
          rw [Bool.eq_false_iff]; intro q
          obtain ⟨v, hv, h1, h2⟩ := cov_iff.1 q
          have := hm.behind v hv
          unfold covS at c; simp at c; omega
        rw [e1, e2]
      · rw [Bool.eq_false_iff.2 c] at hk; simpa using hk
    rw [es, canon_uniq hl.tail hm.tail rest]

/-- Spans that lie between two ticks. -/
def InR (lo hi : Int) (l : List Sp) : Prop := ∀ s ∈ l, lo ≤ s.a ∧ s.a ≤ s.b ∧ s.b ≤ hi

/-- The spans at which a sum of changes is many. -/
def swR (n many : Int) (ch : Int → Int) : List Int → Int → Option Int → List Sp
  | [], _, _ => []
  | t :: ks, f, none => if many ≤ f + ch t then swR n many ch ks (f + ch t) (some t) else swR n many ch ks (f + ch t) none
  | t :: ks, f, some a => if many ≤ f + ch t then swR n many ch ks (f + ch t) (some a) else ⟨n, a, t⟩ :: swR n many ch ks (f + ch t) none
/-- The sum of the changes by a tick. -/
def cumF (ch : Int → Int) (ks : List Int) (k : Int) : Int := ((ks.filter fun t => decide (t ≤ k)).map ch).sum
theorem cumF_cons (ch : Int → Int) (t : Int) (ks : List Int) (k : Int) : cumF ch (t :: ks) k = if t ≤ k then ch t + cumF ch ks k else cumF ch ks k := by
  unfold cumF
  by_cases h : t ≤ k
  · rw [if_pos h, List.filter_cons_of_pos (by simpa using h), List.map_cons, List.sum_cons]
  · rw [if_neg h, List.filter_cons_of_neg (by simpa using h)]
theorem cumF_low {ch : Int → Int} {ks : List Int} {k : Int} (h : ∀ t ∈ ks, k < t) : cumF ch ks k = 0 := by
  unfold cumF
  rw [List.filter_eq_nil_iff.2 (fun t ht => by have := h t ht; simp; omega)]
  rfl

/-- Is a tick behind where a span has begun? -/
def opB : Option Int → Int → Bool
  | none, _ => true
  | some a, k => decide (a ≤ k)
structure SwOk (many : Int) (ch : Int → Int) (ks : List Int) (f : Int) (op : Option Int) : Prop where
  srt : ks.Pairwise (· < ·)
  no : op = none → f < many
  yes : ∀ a, op = some a → many ≤ f ∧ ∀ t ∈ ks, a < t
  fin : f + (ks.map ch).sum < many
theorem swR_spec {n many : Int} {ch : Int → Int} : ∀ (ks : List Int) (f : Int) (op : Option Int), SwOk many ch ks f op →
    Canon n (swR n many ch ks f op) ∧ (∀ s ∈ swR n many ch ks f op, (s.a ∈ ks ∨ op = some s.a) ∧ s.b ∈ ks) ∧ ∀ k, cov (swR n many ch ks f op) k = (opB op k && decide (many ≤ f + cumF ch ks k))
  | [], f, op, h => by
    refine ⟨Canon.nil n, by simp [swR], fun k => ?_⟩
    have := h.fin
    simp only [List.map_nil, List.sum_nil] at this
    have e : decide (many ≤ f + cumF ch [] k) = false := by simp [cumF]; omega
    rw [e, Bool.and_false]
    rfl
  | t :: ks, f, none, h => by
    have hs := List.pairwise_cons.1 h.srt
    have hf := h.no rfl
    have hfin := h.fin
    rw [List.map_cons, List.sum_cons] at hfin
    by_cases c : many ≤ f + ch t
    · obtain ⟨i1, i2, i3⟩ := swR_spec (n := n) (many := many) (ch := ch) ks (f + ch t) (some t) ⟨hs.2, (by intro e; cases e), (by intro a e; cases e; exact ⟨c, hs.1⟩), by omega⟩
      rw [swR, if_pos c]
      refine ⟨i1, fun s hm => ?_, fun k => ?_⟩
      · have := i2 s hm
        refine ⟨.inl ?_, List.mem_cons_of_mem _ this.2⟩
        rcases this.1 with h1 | h1
        · exact List.mem_cons_of_mem _ h1
        · cases h1; exact List.mem_cons_self ..
      · rw [i3, cumF_cons]
        by_cases hk : t ≤ k
        · rw [if_pos hk, Int.add_assoc]; simp [opB, hk]
        · rw [if_neg hk, cumF_low (fun u hu => by have := hs.1 u hu; omega)]
          have e : decide (many ≤ f + 0) = false := by simp; omega
          rw [e]
          simp [opB]; omega
    · obtain ⟨i1, i2, i3⟩ := swR_spec (n := n) (many := many) (ch := ch) ks (f + ch t) none ⟨hs.2, (by intro _; omega), (by intro a e; cases e), by omega⟩
      rw [swR, if_neg c]
      refine ⟨i1, fun s hm => ?_, fun k => ?_⟩
      · have := i2 s hm
        refine ⟨.inl ?_, List.mem_cons_of_mem _ this.2⟩
        rcases this.1 with h1 | h1
        · exact List.mem_cons_of_mem _ h1
        · cases h1
      · rw [i3, cumF_cons]
        by_cases hk : t ≤ k
        · rw [if_pos hk, Int.add_assoc]
        · rw [if_neg hk, cumF_low (fun u hu => by have := hs.1 u hu; omega)]
          have e : decide (many ≤ f + 0) = false := by simp; omega
          have e' : decide (many ≤ f + ch t + 0) = false := by simp; omega
          rw [e, e']
  | t :: ks, f, some a, h => by
    have hs := List.pairwise_cons.1 h.srt
    obtain ⟨hf, ha⟩ := h.yes a rfl
    have hat := ha t (List.mem_cons_self ..)
    have hfin := h.fin
    rw [List.map_cons, List.sum_cons] at hfin
    by_cases c : many ≤ f + ch t
    · obtain ⟨i1, i2, i3⟩ := swR_spec (n := n) (many := many) (ch := ch) ks (f + ch t) (some a) ⟨hs.2, (by intro e; cases e), (by intro a e; cases e; exact ⟨c, fun u hu => ha u (List.mem_cons_of_mem _ hu)⟩), by omega⟩
      rw [swR, if_pos c]
      refine ⟨i1, fun s hm => ?_, fun k => ?_⟩
      · have := i2 s hm
        exact ⟨this.1.imp (List.mem_cons_of_mem _) id, List.mem_cons_of_mem _ this.2⟩
      · rw [i3, cumF_cons]
        by_cases hk : t ≤ k
        · rw [if_pos hk, Int.add_assoc]
        · rw [if_neg hk, cumF_low (fun u hu => by have := hs.1 u hu; omega)]
          have e : decide (many ≤ f + 0) = true := by simp; omega
          have e' : decide (many ≤ f + ch t + 0) = true := by simp; omega
          rw [e, e']
    · obtain ⟨i1, i2, i3⟩ := swR_spec (n := n) (many := many) (ch := ch) ks (f + ch t) none ⟨hs.2, (by intro _; omega), (by intro a e; cases e), by omega⟩
      rw [swR, if_neg c]
      refine ⟨⟨fun s hm => ?_, List.pairwise_cons.2 ⟨fun u hu => ?_, i1.apart⟩⟩, fun s hm => ?_, fun k => ?_⟩
      · rcases List.mem_cons.1 hm with rfl | hm
        · exact ⟨rfl, hat⟩
        · exact i1.one s hm
      · rcases (i2 u hu).1 with h1 | h1
        · exact hs.1 _ h1
        · cases h1
      · rcases List.mem_cons.1 hm with rfl | hm
        · exact ⟨.inr rfl, List.mem_cons_self ..⟩
        · have := i2 s hm
          refine ⟨.inl ?_, List.mem_cons_of_mem _ this.2⟩
          rcases this.1 with h1 | h1
          · exact List.mem_cons_of_mem _ h1
          · cases h1
      · rw [cov_cons, i3, cumF_cons]
        by_cases hk : t ≤ k
        · rw [if_pos hk, Int.add_assoc]
          have e1 : covS k ⟨n, a, t⟩ = false := by unfold covS; simp; omega
          have e2 : decide (a ≤ k) = true := by simp; omega
          rw [e1]
          simp [opB, e2]
        · rw [if_neg hk, cumF_low (fun u hu => by have := hs.1 u hu; omega)]
          have e : decide (many ≤ f + 0) = true := by simp; omega
          have e' : decide (many ≤ f + ch t + 0) = false := by simp; omega
          rw [e, e']
          have e1 : covS k ⟨n, a, t⟩ = decide (a ≤ k) := by unfold covS; simp; omega
          rw [e1]
          simp [opB]

/-- The change of a count of spans at a tick. -/
def chS (s : Sp) (t : Int) : Int := (if s.a = t then 1 else 0) - (if s.b = t then 1 else 0)
def chg (l : List Sp) (t : Int) : Int := (l.map fun s => chS s t).sum
def insU (x : Int) : List Int → List Int
  | [] => [x]
  | y :: l => if x < y then x :: y :: l else if x = y then y :: l else y :: insU x l
/-- The ticks at which spans begin or end, ascending. -/
def keysL : List Sp → List Int
  | [] => []
  | s :: l => insU s.a (insU s.b (keysL l))
theorem mem_insU (x z : Int) : ∀ l : List Int, z ∈ insU x l ↔ z = x ∨ z ∈ l
  | [] => by simp [insU]
  | y :: l => by
    rw [insU]
    by_cases h1 : x < y
    · rw [if_pos h1]; simp
    · rw [if_neg h1]
      by_cases h2 : x = y
      · subst h2; rw [if_pos rfl]; simp
      · rw [if_neg h2, List.mem_cons, mem_insU x z l, List.mem_cons]
        constructor
        · rintro (h | h | h)
          · exact .inr (.inl h)
          · exact .inl h
          · exact .inr (.inr h)
        · rintro (h | h | h)
          · exact .inr (.inl h)
          · exact .inl h
          · exact .inr (.inr h)
theorem insU_sorted (x : Int) : ∀ {l : List Int}, l.Pairwise (· < ·) → (insU x l).Pairwise (· < ·)
  | [], _ => by simp [insU]
  | y :: l, h => by
    have hs := List.pairwise_cons.1 h
    rw [insU]
    by_cases h1 : x < y
    · rw [if_pos h1]
      refine List.pairwise_cons.2 ⟨fun z hz => ?_, h⟩
      rcases List.mem_cons.1 hz with rfl | hz
      · exact h1
      · have := hs.1 z hz; omega
    · rw [if_neg h1]
      by_cases h2 : x = y
      · rw [if_pos h2]; exact h
      · rw [if_neg h2]
        refine List.pairwise_cons.2 ⟨fun z hz => ?_, insU_sorted x hs.2⟩
        rcases (mem_insU x z l).1 hz with rfl | hz
        · omega
        · exact hs.1 z hz
theorem keysL_sorted : ∀ l : List Sp, (keysL l).Pairwise (· < ·)
  | [] => .nil
  | _ :: l => insU_sorted _ (insU_sorted _ (keysL_sorted l))
theorem mem_keysL (z : Int) : ∀ l : List Sp, z ∈ keysL l ↔ ∃ s ∈ l, z = s.a ∨ z = s.b
  | [] => by simp [keysL]
  | s :: l => by
    rw [keysL, mem_insU, mem_insU, mem_keysL z l]
    constructor
    · rintro (h | h | ⟨u, hu, h⟩)
      · exact ⟨s, List.mem_cons_self .., .inl h⟩
      · exact ⟨s, List.mem_cons_self .., .inr h⟩
      · exact ⟨u, List.mem_cons_of_mem _ hu, h⟩
    · rintro ⟨u, hu, h⟩
      rcases List.mem_cons.1 hu with rfl | hu
      · rcases h with h | h
        · exact .inl h
        · exact .inr (.inl h)
      · exact .inr (.inr ⟨u, hu, h⟩)
theorem sum_add (f g : Int → Int) : ∀ l : List Int, (l.map fun t => f t + g t).sum = (l.map f).sum + (l.map g).sum
  | [] => rfl
  | x :: l => by simp only [List.map_cons, List.sum_cons]; rw [sum_add f g l]; omega
theorem sum_if {x : Int} : ∀ {l : List Int}, l.Nodup → (l.map fun t => if x = t then (1 : Int) else 0).sum = if x ∈ l then 1 else 0
  | [], _ => by simp
  | y :: l, h => by
    have hs := List.nodup_cons.1 h
    rw [List.map_cons, List.sum_cons, sum_if hs.2]
    by_cases e : x = y
    · subst e; simp [hs.1]
    · by_cases hx : x ∈ l <;> simp [e, hx]
theorem sum_neg (f : Int → Int) : ∀ l : List Int, (l.map fun t => - f t).sum = - (l.map f).sum
  | [] => rfl
  | x :: l => by simp only [List.map_cons, List.sum_cons]; rw [sum_neg f l]; omega
theorem cum_chS {ks : List Int} (hd : ks.Nodup) {s : Sp} (h1 : s.a ∈ ks) (h2 : s.b ∈ ks) (h3 : s.a ≤ s.b) (k : Int) : cumF (chS s) ks k = if covS k s = true then 1 else 0 := by
  have hf : (ks.filter fun t => decide (t ≤ k)).Nodup := hd.filter _
  unfold cumF
  have e : (fun t => chS s t) = fun t => (if s.a = t then (1 : Int) else 0) + (- (if s.b = t then (1 : Int) else 0)) := by funext t; unfold chS; omega
  rw [show chS s = fun t => chS s t from rfl, e, sum_add, sum_neg, sum_if hf, sum_if hf]
  simp only [List.mem_filter, h1, h2, true_and, decide_eq_true_eq]
  unfold covS
  by_cases c1 : s.a ≤ k
  · by_cases c2 : s.b ≤ k
    · have : ¬ k < s.b := by omega
      simp [c1, c2, this]
    · have : k < s.b := by omega
      simp [c1, c2, this]
  · have : ¬ s.b ≤ k := by omega
    simp [c1, this]
theorem cum_chg {ks : List Int} (hd : ks.Nodup) (k : Int) : ∀ (l : List Sp), (∀ s ∈ l, s.a ∈ ks ∧ s.b ∈ ks ∧ s.a ≤ s.b) → cumF (chg l) ks k = (l.countP (covS k) : Int)
  | [], _ => by
    unfold cumF
    rw [show chg [] = fun _ => (0 : Int) from rfl]
    rw [List.countP_nil]
    induction (ks.filter fun t => decide (t ≤ k)) with
    | nil => rfl
    | cons x l ih => rw [List.map_cons, List.sum_cons, ih]; rfl
  | s :: l, h => by
    have hs := h s (List.mem_cons_self ..)
    have ih := cum_chg hd k l fun u hu => h u (List.mem_cons_of_mem _ hu)
    have e : chg (s :: l) = fun t => chS s t + chg l t := rfl
    have hc := cum_chS hd hs.1 hs.2.1 hs.2.2 k
    unfold cumF at ih hc ⊢
    rw [e, sum_add, ih, hc, List.countP_cons]
    by_cases c : covS k s = true <;> simp [c] <;> omega

/-- The spans at which at least so many of some lists have failed. -/
def joinL (n many : Int) (l : List Sp) : List Sp := swR n many (chg l) (keysL l) 0 none
theorem sum_all (ch : Int → Int) {ks : List Int} {k : Int} (h : ∀ t ∈ ks, t ≤ k) : cumF ch ks k = (ks.map ch).sum := by
  unfold cumF
  rw [List.filter_eq_self.2 (fun t ht => by simpa using h t ht)]
theorem le_all : ∀ ks : List Int, ∃ k, ∀ t ∈ ks, t ≤ k
  | [] => ⟨0, by simp⟩
  | x :: l => by
    obtain ⟨k, hk⟩ := le_all l
    refine ⟨max x k, fun t ht => ?_⟩
    rcases List.mem_cons.1 ht with rfl | ht
    · omega
    · have := hk t ht; omega
theorem joinL_spec {n many lo hi : Int} (hm : 1 ≤ many) {l : List Sp} (hl : InR lo hi l) :
    Canon n (joinL n many l) ∧ InR lo hi (joinL n many l) ∧ ∀ k, cov (joinL n many l) k = decide (many ≤ (l.countP (covS k) : Int)) := by
  have hd : (keysL l).Nodup := (keysL_sorted l).imp fun h => Int.ne_of_lt h
  have hk : ∀ s ∈ l, s.a ∈ keysL l ∧ s.b ∈ keysL l ∧ s.a ≤ s.b := fun s hs => ⟨(mem_keysL _ l).2 ⟨s, hs, .inl rfl⟩, (mem_keysL _ l).2 ⟨s, hs, .inr rfl⟩, (hl s hs).2.1⟩
  have hkl : ∀ t ∈ keysL l, lo ≤ t ∧ t ≤ hi := fun t ht => by
    obtain ⟨s, hs, h⟩ := (mem_keysL t l).1 ht
    have := hl s hs
    omega
  have hfin : ((keysL l).map (chg l)).sum = 0 := by
    obtain ⟨k, hk1⟩ := le_all (keysL l)
    rw [← sum_all (chg l) hk1, cum_chg hd k l hk]
    have : l.countP (covS k) = 0 := by
      rw [List.countP_eq_zero]
      intro s hs
      have := hk1 _ (hk s hs).2.1
      unfold covS
      simp
      omega
    rw [this]
    rfl
  obtain ⟨i1, i2, i3⟩ := swR_spec (n := n) (many := many) (ch := chg l) (keysL l) 0 none ⟨keysL_sorted l, (by intro _; omega), (by intro a e; cases e), by rw [hfin]; omega⟩
  refine ⟨i1, fun s hs => ?_, fun k => ?_⟩
  · have h1 := i2 s hs
    have h2 := i1.one s hs
    have h3 := hkl _ h1.2
    rcases h1.1 with h4 | h4
    · have := hkl _ h4; omega
    · cases h4
  · rw [show joinL n many l = swR n many (chg l) (keysL l) 0 none from rfl, i3, cum_chg hd k l hk]
    simp [opB]

/-- Spans that begin some ticks later. -/
def holdL (h : Int) (l : List Sp) : List Sp := (l.filter fun s => decide (s.a + h < s.b)).map fun s => ⟨s.nd, s.a + h, s.b⟩
theorem holdL_spec {n lo hi h : Int} (h0 : 0 ≤ h) {l : List Sp} (hc : Canon n l) (hr : InR lo hi l) :
    Canon n (holdL h l) ∧ InR lo hi (holdL h l) ∧ ∀ k, cov (holdL h l) k = true ↔ ∀ j, k - h ≤ j → j ≤ k → cov l j = true := by
  have hm : ∀ u, u ∈ holdL h l ↔ ∃ s ∈ l, s.a + h < s.b ∧ u = ⟨s.nd, s.a + h, s.b⟩ := fun u => by
    unfold holdL
    rw [List.mem_map]
    constructor
    · rintro ⟨s, hs, rfl⟩
      rw [List.mem_filter] at hs
      exact ⟨s, hs.1, by simpa using hs.2, rfl⟩
    · rintro ⟨s, hs, h1, rfl⟩
      exact ⟨s, List.mem_filter.2 ⟨hs, by simpa using h1⟩, rfl⟩
  refine ⟨⟨fun u hu => ?_, ?_⟩, fun u hu => ?_, fun k => ?_⟩
  · obtain ⟨s, hs, h1, rfl⟩ := (hm u).1 hu
    exact ⟨(hc.one s hs).1, h1⟩
  · unfold holdL
    rw [List.pairwise_map]
    refine List.Pairwise.imp ?_ (hc.apart.filter _)
    intro a b hab
    dsimp only
    omega
  · obtain ⟨s, hs, h1, rfl⟩ := (hm u).1 hu
    have := hr s hs
    dsimp only
    omega
  · constructor
    · intro hk j h1 h2
      obtain ⟨u, hu, h3, h4⟩ := cov_iff.1 hk
      obtain ⟨s, hs, h5, rfl⟩ := (hm u).1 hu
      dsimp only at h3 h4
      exact cov_iff.2 ⟨s, hs, by omega, by omega⟩
    · intro H
      obtain ⟨s, hs, h1, h2⟩ := cov_iff.1 (H (k - h) (Int.le_refl _) (by omega))
      have hkb : k < s.b := by
        rcases (by omega : k < s.b ∨ s.b ≤ k) with e | e
        · exact e
        · obtain ⟨u, hu, h3, h4⟩ := cov_iff.1 (H s.b (by omega) e)
          exfalso
          have key : ∀ {l : List Sp}, l.Pairwise (fun s u => s.b < u.a) → s ∈ l → u ∈ l → s = u ∨ s.b < u.a ∨ u.b < s.a := by
            intro l
            induction l with
            | nil => intro _ h; cases h
            | cons v r ih =>
              intro hp hs hu
              have hp' := List.pairwise_cons.1 hp
              rcases List.mem_cons.1 hs with e1 | e1
              · rcases List.mem_cons.1 hu with e2 | e2
                · left; rw [e1, e2]
                · right; left; rw [e1]; exact hp'.1 u e2
              · rcases List.mem_cons.1 hu with e2 | e2
                · right; right; rw [e2]; exact hp'.1 s e1
                · exact ih hp'.2 e1 e2
          have := (hc.one s hs).2
          rcases key hc.apart hs hu with e1 | e1 | e1
          · rw [e1] at h3 h4 e this; rw [e1] at h2; omega
          · omega
          · omega
      exact cov_iff.2 ⟨⟨s.nd, s.a + h, s.b⟩, (hm _).2 ⟨s, hs, by omega, rfl⟩, by dsimp only; omega, hkb⟩

/-- The lists whose spans a node counts. -/
def lsF (own : Nat → List Sp) (i : Nat) (x : Nd) (f : Nat → List Sp) : List (List Sp) :=
  if x.kind = 1 then ((own i).filter fun s => decide (s.a < s.b)).map fun s => [s] else x.ins.map fun k => f k.toNat
def runF (own : Nat → List Sp) (i : Nat) (x : Nd) (f : Nat → List Sp) : List Sp := holdL x.hold (joinL i (need x) (lsF own i x f).flatten)
/-- When each node has failed, by the spans of the basic ones. -/
def spL (t : List Nd) (own : Nat → List Sp) (i : Nat) : List Sp := gf (runF own) [] t i
theorem runF_loc {t : List Nd} (h : TrOk t) (own : Nat → List Sp) : Loc (runF own) t := by
  intro i x f g hx hfg
  unfold runF lsF
  by_cases h1 : x.kind = 1
  · rw [if_pos h1, if_pos h1]
  · rw [if_neg h1, if_neg h1]
    rw [List.map_congr_left (fun k hk => hfg _ (ins_lt (h.nd i x hx) hk))]
theorem spL_eq {t : List Nd} (h : TrOk t) (own : Nat → List Sp) {i : Nat} {x : Nd} (hx : t[i]? = some x) : spL t own i = runF own i x (spL t own) := gf_eq (runF_loc h own) hx
theorem spL_out {t : List Nd} {own : Nat → List Sp} {i : Nat} (h : t.length ≤ i) : spL t own i = [] := gf_out h

theorem canon_count {n : Int} : ∀ {l : List Sp}, Canon n l → ∀ k, l.countP (covS k) = if cov l k = true then 1 else 0
  | [], _, k => by simp [cov]
  | s :: l, h, k => by
    rw [List.countP_cons, canon_count h.tail k, cov_cons]
    by_cases c : covS k s = true
    · have e : cov l k = false := by
        rw [Bool.eq_false_iff]; intro q
        obtain ⟨v, hv, h1, h2⟩ := cov_iff.1 q
        have := h.behind v hv
        unfold covS at c; simp at c; omega
      rw [e, c]; simp
    · rw [Bool.eq_false_iff.2 c]; simp
theorem count_flat {f : Nat → List Sp} {n : Nat → Int} {k : Int} : ∀ (l : List Int), (∀ m ∈ l, Canon (n m.toNat) (f m.toNat)) → ((l.map fun m => f m.toNat).flatten).countP (covS k) = (l.filter fun m => cov (f m.toNat) k).length
  | [], _ => rfl
  | m :: l, h => by
    rw [List.map_cons, List.flatten_cons, List.countP_append, count_flat l (fun u hu => h u (List.mem_cons_of_mem _ hu)), canon_count (h m (List.mem_cons_self ..)), List.filter_cons]
    by_cases c : cov (f m.toNat) k = true
    · rw [if_pos c, if_pos c, List.length_cons]; omega
    · rw [if_neg c, if_neg c]; omega

theorem spL_spec {t : List Nd} (h : TrOk t) {own : Nat → List Sp} {hi : Int} (ho : ∀ i, isBas t i = true → InR 0 hi (own i)) :
    ∀ i, i < t.length → Canon i (spL t own i) ∧ InR 0 hi (spL t own i) ∧ ∀ k : Nat, cov (spL t own i) k = ft t (fun i k => cov (own i) k) i k := by
  intro i
  induction i using Nat.strongRecOn with
  | ind i ih =>
    intro hl
    have hx := List.getElem?_eq_getElem hl
    have ok := h.nd i _ hx
    have hne := need_pos ok
    have hin : ∀ m ∈ t[i].ins, m.toNat < i := fun m hm => ins_lt ok hm
    rw [spL_eq h own hx]
    have hL : InR 0 hi (lsF own i t[i] (spL t own)).flatten := by
      intro s hs
      obtain ⟨u, hu, hsu⟩ := List.mem_flatten.1 hs
      unfold lsF at hu
      by_cases h1 : t[i].kind = 1
      · rw [if_pos h1, List.mem_map] at hu
        obtain ⟨v, hv, rfl⟩ := hu
        rw [List.mem_singleton] at hsu
        subst hsu
        exact ho i (by rw [isBas_kind hx]; simpa using h1) _ ((List.mem_filter.1 hv).1)
      · rw [if_neg h1, List.mem_map] at hu
        obtain ⟨m, hm, rfl⟩ := hu
        exact (ih _ (hin m hm) (by have := hin m hm; omega)).2.1 s hsu
    obtain ⟨j1, j2, j3⟩ := joinL_spec (n := (i : Int)) hne hL
    obtain ⟨k1, k2, k3⟩ := holdL_spec ok.h0 j1 j2
    refine ⟨k1, k2, fun k => ?_⟩
    by_cases h1 : t[i].kind = 1
    · rw [ft_bas h _ hx h1, Bool.eq_iff_iff]
      unfold runF
      rw [k3, ok.hb h1]
      have e : ∀ k : Int, cov (joinL i (need t[i]) (lsF own i t[i] (spL t own)).flatten) k = cov (own i) k := fun k => by
        rw [j3]
        unfold lsF need
        rw [if_pos h1, if_pos h1]
        have e2 : (((own i).filter fun s => decide (s.a < s.b)).map fun s => [s]).flatten = (own i).filter fun s => decide (s.a < s.b) := by
          generalize (own i).filter (fun s => decide (s.a < s.b)) = l
          induction l with
          | nil => rfl
          | cons a r ih => rw [List.map_cons, List.flatten_cons, ih]; rfl
        rw [e2, Bool.eq_iff_iff, decide_eq_true_eq, cov_iff]
        constructor
        · intro hc
          have : 0 < ((own i).filter fun s => decide (s.a < s.b)).countP (covS k) := by omega
          rw [List.countP_pos_iff] at this
          obtain ⟨s, hs, hc⟩ := this
          unfold covS at hc
          simp at hc
          exact ⟨s, (List.mem_filter.1 hs).1, hc.1, hc.2⟩
        · rintro ⟨s, hs, h2, h3⟩
          have : 0 < ((own i).filter fun s => decide (s.a < s.b)).countP (covS k) := by
            rw [List.countP_pos_iff]
            exact ⟨s, List.mem_filter.2 ⟨hs, by simp; omega⟩, by unfold covS; simp; omega⟩
          omega
      constructor
      · intro H; have := H k (by omega) (Int.le_refl _); rwa [e] at this
      · intro H j h2 h3
        have : j = k := by omega
        subst this
        rw [e]; exact H
    · rw [Bool.eq_iff_iff, ft_not h _ hx h1]
      unfold runF
      rw [k3]
      have e : ∀ j : Nat, cov (joinL i (need t[i]) (lsF own i t[i] (spL t own)).flatten) j = so t[i] (fun m => ft t (fun i k => cov (own i) k) m j) := fun j => by
        rw [j3, so_need ok h1]
        unfold lsF
        rw [if_neg h1, count_flat (n := fun m => (m : Int)) (k := (j : Int)) _ (fun m hm => (ih _ (hin m hm) (by have := hin m hm; omega)).1)]
        unfold hitsF
        rw [List.filter_congr (fun m hm => (ih _ (hin m hm) (by have := hin m hm; omega)).2.2 j)]
      have hh := ok.h0
      constructor
      · intro H
        have hk : t[i].hold.toNat ≤ k := by
          rcases (by omega : t[i].hold.toNat ≤ k ∨ k < t[i].hold.toNat) with q | q
          · exact q
          · have := H (-1) (by omega) (by omega)
            obtain ⟨s, hs, h2, _⟩ := cov_iff.1 this
            have := (j2 s hs).1
            omega
        exact ⟨hk, fun j h2 h3 => by rw [← e]; exact H j (by omega) (by omega)⟩
      · rintro ⟨h2, H⟩ j h3 h4
        obtain ⟨m, rfl⟩ : ∃ m : Nat, j = m := ⟨j.toNat, by omega⟩
        rw [e]
        exact H m (by omega) (by omega)
end Go.Proofs.YtadldndpphdmpaaGreat
namespace Go.Proofs.YtadldndpphdmpaaGreat


def basI (t : List Nd) (n : Int) : Bool := !outB n 0 ((t.length : Int) - 1) && isBas t n.toNat
/-- The error of a list of basic nodes, and its set. -/
def lstGo (t : List Nd) : List Int → Nat → Int × Nat
  | [], s => (0, s)
  | n :: l, s => if basI t n = false then (4, s) else if s.testBit n.toNat = true then (5, s) else lstGo t l (withN s n.toNat)
def abS (t : List Nd) (acc : List Nat) : List (List Int) → Int × List Nat
  | [] => (0, acc)
  | l :: r => if (lstGo t l 0).1 = 0 then abS t (acc ++ [(lstGo t l 0).2]) r else ((lstGo t l 0).1, [])
/-- What about says: an error, and the sets. -/
def aboutT (t : List Nd) (node : Int) (ls : List (List Int)) : Int × List Nat :=
  if (chkT t).2 ≠ 0 then ((chkT t).2, []) else if outB node 0 ((t.length : Int) - 1) = true then (4, []) else abS t [] ls
theorem basI_nat {t : List Nd} {n : Int} (h : basI t n = true) : 0 ≤ n ∧ n.toNat < t.length ∧ isBas t n.toNat = true := by
  unfold basI at h
  simp only [Bool.and_eq_true, Bool.not_eq_true'] at h
  have := outB_false h.1
  exact ⟨by omega, by omega, h.2⟩
theorem basI_iff {t : List Nd} {n : Int} : basI t n = true ↔ 0 ≤ n ∧ isBas t n.toNat = true := by
  constructor
  · intro h; have := basI_nat h; exact ⟨this.1, this.2.2⟩
  · rintro ⟨h0, h1⟩
    unfold basI
    rw [h1, Bool.and_true, Bool.not_eq_true', outB_eq_false]
    have := isBas_lt h1
    omega
theorem lstGo_sub {t : List Nd} : ∀ (l : List Int) (s : Nat), Sub t s → Sub t (lstGo t l s).2
  | [], s, h => h
  | n :: l, s, h => by
    rw [lstGo]
    by_cases h1 : basI t n = false
    · rw [if_pos h1]; exact h
    · rw [if_neg h1]
      by_cases h2 : s.testBit n.toNat = true
      · rw [if_pos h2]; exact h
      · rw [if_neg h2]
        exact lstGo_sub l _ (h.with (basI_nat (by simpa using h1)).2.2)
/-- A list of basic nodes without an error. -/
theorem lstGo_ok {t : List Nd} : ∀ (l : List Int) (s : Nat), (lstGo t l s).1 = 0 ↔ (∀ n ∈ l, basI t n = true ∧ s.testBit n.toNat = false) ∧ l.Nodup
  | [], s => by simp [lstGo]
  | n :: l, s => by
    rw [lstGo]
    by_cases h1 : basI t n = false
    · rw [if_pos h1]
      constructor
      · intro h; exact absurd (show (4 : Int) = 0 from h) (by decide)
      · rintro ⟨h, _⟩; have := (h n (List.mem_cons_self ..)).1; rw [h1] at this; cases this
    · have h1' : basI t n = true := by simpa using h1
      rw [if_neg h1]
      by_cases h2 : s.testBit n.toNat = true
      · rw [if_pos h2]
        constructor
        · intro h; exact absurd (show (5 : Int) = 0 from h) (by decide)
        · rintro ⟨h, _⟩; have := (h n (List.mem_cons_self ..)).2; rw [h2] at this; cases this
      · have h2' : s.testBit n.toNat = false := by simpa using h2
        rw [if_neg h2, lstGo_ok l, List.nodup_cons]
        constructor
        · rintro ⟨h3, h4⟩
          refine ⟨fun m hm => ?_, fun hmem => ?_, h4⟩
          · rcases List.mem_cons.1 hm with rfl | hm
            · exact ⟨h1', h2'⟩
            · have := h3 m hm
              rw [withN_bit] at this
              simp at this
              exact ⟨this.1, this.2.1⟩
          · have := (h3 n hmem).2
            rw [withN_bit] at this
            simp at this
        · rintro ⟨h3, h4, h5⟩
          refine ⟨fun m hm => ?_, h5⟩
          have := h3 m (List.mem_cons_of_mem _ hm)
          refine ⟨this.1, ?_⟩
          rw [withN_bit, this.2]
          simp only [Bool.false_or, decide_eq_false_iff_not]
          intro e
          have e1 := (basI_nat h1').1
          have e2 := (basI_nat this.1).1
          have : n = m := by omega
          exact h4 (this ▸ hm)
theorem lstGo_bit {t : List Nd} (j : Nat) : ∀ (l : List Int) (s : Nat), (lstGo t l s).1 = 0 → (lstGo t l s).2.testBit j = (s.testBit j || decide ((j : Int) ∈ l))
  | [], s, _ => by simp [lstGo]
  | n :: l, s, h => by
    rw [lstGo] at h ⊢
    by_cases h1 : basI t n = false
    · rw [if_pos h1] at h; exact absurd (show (4 : Int) = 0 from h) (by decide)
    · rw [if_neg h1] at h ⊢
      by_cases h2 : s.testBit n.toNat = true
      · rw [if_pos h2] at h; exact absurd (show (5 : Int) = 0 from h) (by decide)
      · rw [if_neg h2] at h ⊢
        rw [lstGo_bit j l _ h, withN_bit, Bool.or_assoc]
        congr 1
        have e1 := (basI_nat (by simpa using h1 : basI t n = true)).1
        rw [Bool.eq_iff_iff]
        simp only [Bool.or_eq_true, decide_eq_true_eq, List.mem_cons]
        constructor
        · rintro (h | h)
          · left; omega
          · exact .inr h
        · rintro (h | h)
          · left; omega
          · exact .inr h
/-- The bits of a list's set. -/
theorem lst_bits {t : List Nd} {l : List Int} (h : (lstGo t l 0).1 = 0) (j : Nat) : (lstGo t l 0).2.testBit j = decide ((j : Int) ∈ l) := by
  rw [lstGo_bit j l 0 h]; simp
end Go.Proofs.YtadldndpphdmpaaGreat
namespace Go.Proofs.YtadldndpphdmpaaGreat


def insD (x : Int) : List Int → List Int
  | [] => [x]
  | y :: l => if x ≤ y then x :: y :: l else y :: insD x l
/-- The numbers of a list, ascending. -/
def sortD (l : List Int) : List Int := l.foldr insD []
theorem insD_perm (x : Int) : ∀ l : List Int, (insD x l).Perm (x :: l)
  | [] => List.Perm.refl _
  | y :: l => by
    rw [insD]
    by_cases h : x ≤ y
    · rw [if_pos h]
    · rw [if_neg h]
      exact ((insD_perm x l).cons y).trans (List.Perm.swap x y l)
theorem insD_sorted (x : Int) : ∀ {l : List Int}, l.Pairwise (· ≤ ·) → (insD x l).Pairwise (· ≤ ·)
  | [], _ => by simp [insD]
  | y :: l, h => by
    have hs := List.pairwise_cons.1 h
    rw [insD]
    by_cases h1 : x ≤ y
    · rw [if_pos h1]
      refine List.pairwise_cons.2 ⟨fun z hz => ?_, h⟩
      rcases List.mem_cons.1 hz with rfl | hz
      · exact h1
      · have := hs.1 z hz; omega
    · rw [if_neg h1]
      refine List.pairwise_cons.2 ⟨fun z hz => ?_, insD_sorted x hs.2⟩
      rcases List.mem_cons.1 ((insD_perm x l).mem_iff.1 hz) with rfl | hz
      · omega
      · exact hs.1 z hz
theorem sortD_perm : ∀ l : List Int, (sortD l).Perm l
  | [] => List.Perm.refl _
  | x :: l => (insD_perm x (sortD l)).trans ((sortD_perm l).cons x)
theorem sortD_sorted : ∀ l : List Int, (sortD l).Pairwise (· ≤ ·)
  | [] => .nil
  | x :: l => insD_sorted x (sortD_sorted l)
theorem sortD_eq (l : List Int) : (l.mergeSort fun x y => decide (x ≤ y)) = sortD l := by
  have hs := List.pairwise_mergeSort (le := fun x y : Int => decide (x ≤ y)) (fun a b c h1 h2 => by simp at *; omega) (fun a b => by simp; omega) l
  have hs' : (l.mergeSort fun x y => decide (x ≤ y)).Pairwise (· ≤ ·) := hs.imp fun h => by simpa using h
  exact ((List.mergeSort_perm l _).trans (sortD_perm l).symm).eq_of_pairwise (fun a b _ _ h1 h2 => by omega) hs' (sortD_sorted l)

/-- The ticks at which the inputs of a node fail, ascending. -/
def tickF (all : Nat) (x : Nd) (f : Nat → Int) : List Int := sortD ((x.ins.filter fun k => all.testBit k.toNat).map fun k => f k.toNat)
def atF (all : Nat) (_ : Nat) (x : Nd) (f : Nat → Int) : Int := if need x ≤ ((tickF all x f).length : Int) then (tickF all x f).getD (need x - 1).toNat 0 + x.hold else 0
/-- After how many ticks each node fails, if all nodes of a set fail. -/
def atL (t : List Nd) (all : Nat) (i : Nat) : Int := gf (atF all) 0 t i
theorem tickF_len (all : Nat) (x : Nd) (f : Nat → Int) : (tickF all x f).length = hitsF x all.testBit := by
  unfold tickF hitsF
  rw [(sortD_perm _).length_eq, List.length_map]
theorem tickF_congr {all : Nat} {x : Nd} {f g : Nat → Int} (h : ∀ k ∈ x.ins, f k.toNat = g k.toNat) : tickF all x f = tickF all x g := by
  unfold tickF
  rw [List.map_congr_left (fun k hk => h k (List.mem_filter.1 hk).1)]
theorem atF_loc {t : List Nd} (h : TrOk t) (all : Nat) : Loc (atF all) t := by
  intro i x f g hx hfg
  unfold atF
  rw [tickF_congr fun k hk => hfg _ (ins_lt (h.nd i x hx) hk)]
theorem atL_eq {t : List Nd} (h : TrOk t) (all : Nat) {i : Nat} {x : Nd} (hx : t[i]? = some x) : atL t all i = atF all i x (atL t all) := gf_eq (atF_loc h all) hx
theorem getD_mem {l : List Int} {i : Nat} (h : i < l.length) : l.getD i 0 ∈ l := by
  rw [List.getD_eq_getElem?_getD, List.getElem?_eq_getElem h]
  exact List.getElem_mem h
theorem atL_bd {t : List Nd} (h : TrOk t) (all : Nat) : ∀ i, i < t.length → 0 ≤ atL t all i ∧ atL t all i ≤ 100 * (i : Int) := by
  intro i
  induction i using Nat.strongRecOn with
  | ind i ih =>
    intro hl
    have hx := List.getElem?_eq_getElem hl
    have ok := h.nd i _ hx
    rw [atL_eq h all hx]
    unfold atF
    by_cases hn : need t[i] ≤ ((tickF all t[i] (atL t all)).length : Int)
    · rw [if_pos hn]
      have h1 := need_pos ok
      have hm : (tickF all t[i] (atL t all)).getD (need t[i] - 1).toNat 0 ∈ tickF all t[i] (atL t all) := getD_mem (by omega)
      have hb : ∀ y ∈ tickF all t[i] (atL t all), 0 ≤ y ∧ y ≤ 100 * ((i : Int) - 1) := by
        intro y hy
        unfold tickF at hy
        rw [(sortD_perm _).mem_iff, List.mem_map] at hy
        obtain ⟨k, hk, rfl⟩ := hy
        have hlt := ins_lt ok (List.mem_filter.1 hk).1
        have := ih k.toNat hlt (by omega)
        omega
      have := hb _ hm
      have := ok.h0
      have := ok.h1
      omega
    · rw [if_neg hn]; omega
/-- What Left returns. -/
def leftT (t : List Nd) (l : List Int) (node : Int) : Int × Int :=
  if (aboutT t node [l]).1 = 0 then (if (eff t ((aboutT t node [l]).2.headD 0)).testBit node.toNat = true then (atL t (eff t ((aboutT t node [l]).2.headD 0)) node.toNat, 0) else (0, 4)) else (0, (aboutT t node [l]).1)
theorem aboutT_node {t : List Nd} {node : Int} {ls : List (List Int)} (h : (aboutT t node ls).1 = 0) : TrOk t ∧ 0 ≤ node ∧ node < t.length := by
  unfold aboutT at h
  by_cases h1 : (chkT t).2 ≠ 0
  · rw [if_pos h1] at h; exact absurd h h1
  · rw [if_neg h1] at h
    have hc : (chkT t).2 = 0 := by omega
    by_cases h2 : outB node 0 ((t.length : Int) - 1) = true
    · rw [if_pos h2] at h; exact absurd (show (4 : Int) = 0 from h) (by decide)
    · have := outB_false (Bool.eq_false_iff.2 h2)
      exact ⟨chkT_ok.1 hc, by omega, by omega⟩
end Go.Proofs.YtadldndpphdmpaaGreat
namespace Go.Proofs.YtadldndpphdmpaaGreat


/-- The indices of the basic nodes. -/
def basL (t : List Nd) : List Int := ((List.range t.length).filter (isBas t)).map Int.ofNat
theorem mem_basL {t : List Nd} {n : Int} : n ∈ basL t ↔ 0 ≤ n ∧ isBas t n.toNat = true := by
  unfold basL
  rw [List.mem_map]
  constructor
  · rintro ⟨k, hk, rfl⟩
    rw [List.mem_filter] at hk
    exact ⟨Int.natCast_nonneg k, hk.2⟩
  · rintro ⟨h0, hb⟩
    refine ⟨n.toNat, ?_, by simp; omega⟩
    rw [List.mem_filter, List.mem_range]
    exact ⟨isBas_lt hb, hb⟩
theorem mem_basI (t : List Nd) (n : Int) : decide (n ∈ basL t) = basI t n := by
  rw [Bool.eq_iff_iff, decide_eq_true_eq, mem_basL, basI_iff]
theorem basL_len (t : List Nd) : (basL t).length = nBas t := by
  unfold basL nBas
  rw [List.length_map]
  have h : ∀ l : List Nd, ((List.range l.length).filter (isBas l)).length = (l.filter fun x => x.kind == 1).length := by
    intro l
    induction l with
    | nil => rfl
    | cons x r ih =>
      rw [List.length_cons, List.range_succ_eq_map, List.filter_cons, List.filter_cons, List.filter_map, show isBas (x :: r) ∘ Nat.succ = isBas r from rfl]
      have e : isBas (x :: r) 0 = (x.kind == 1) := rfl
      rw [e]
      by_cases c : (x.kind == 1) = true
      · rw [if_pos c, if_pos c, List.length_cons, List.length_cons, List.length_map, ih]
      · rw [if_neg c, if_neg c, List.length_map, ih]
  exact h t

/-- A list up to a place, on the way through its numbers. -/
structure LsAt (t : List Nd) (l : List Int) (k : Nat) (s : Nat) : Prop where
  rest : lstGo t l 0 = lstGo t (l.drop k) s
  bit : ∀ n : Int, 0 ≤ n → s.testBit n.toNat = decide (n ∈ l.take k)
theorem LsAt.start (t : List Nd) (l : List Int) : LsAt t l 0 0 := ⟨rfl, fun n _ => by simp⟩
theorem LsAt.no {t : List Nd} {l : List Int} {k s : Nat} {n : Int} (h : LsAt t l k s) (hn : l[k]? = some n) (hb : basI t n = false) : (lstGo t l 0).1 = 4 := by
  obtain ⟨hk, rfl⟩ := List.getElem?_eq_some_iff.1 hn
  rw [h.rest, List.drop_eq_getElem_cons hk, lstGo, if_pos hb]
theorem LsAt.twice {t : List Nd} {l : List Int} {k s : Nat} {n : Int} (h : LsAt t l k s) (hn : l[k]? = some n) (hb : basI t n = true) (hm : n ∈ l.take k) : (lstGo t l 0).1 = 5 := by
  obtain ⟨hk, rfl⟩ := List.getElem?_eq_some_iff.1 hn
  rw [h.rest, List.drop_eq_getElem_cons hk, lstGo, if_neg (by rw [hb]; decide), if_pos (by rw [h.bit _ (basI_iff.1 hb).1]; simpa using hm)]
theorem LsAt.next {t : List Nd} {l : List Int} {k s : Nat} {n : Int} (h : LsAt t l k s) (hn : l[k]? = some n) (hb : basI t n = true) (hm : n ∉ l.take k) : LsAt t l (k + 1) (withN s n.toNat) := by
  obtain ⟨hk, rfl⟩ := List.getElem?_eq_some_iff.1 hn
  have h0 := (basI_iff.1 hb).1
  refine ⟨?_, fun m hm0 => ?_⟩
  · rw [h.rest, List.drop_eq_getElem_cons hk, lstGo, if_neg (by rw [hb]; decide), if_neg (by rw [h.bit _ h0]; simpa using hm)]
  · rw [withN_bit, h.bit m hm0, List.take_succ_eq_append_getElem hk, Bool.eq_iff_iff]
    simp only [Bool.or_eq_true, decide_eq_true_eq, List.mem_append, List.mem_singleton]
    constructor
    · rintro (h | h)
      · exact .inl h
      · right; omega
    · rintro (h | h)
      · exact .inl h
      · right; omega
theorem LsAt.done {t : List Nd} {l : List Int} {k s : Nat} (h : LsAt t l k s) (hk : l.length ≤ k) : (lstGo t l 0).1 = 0 := by
  rw [h.rest, List.drop_eq_nil_iff.2 hk]; rfl

/-- The error of a tree, and of a node. -/
def askT (t : List Nd) (n : Int) : Int := if (chkT t).2 ≠ 0 then (chkT t).2 else if outB n 0 ((t.length : Int) - 1) = true then 4 else 0
def setT (t : List Nd) (l : List Int) : Int := (lstGo t l 0).1
theorem ask_about (t : List Nd) (n : Int) : (aboutT t n []).1 = askT t n := by
  unfold aboutT askT
  split
  · rfl
  · split
    · rfl
    · rfl
theorem ask_about1 (t : List Nd) (n : Int) (l : List Int) : (aboutT t n [l]).1 = if askT t n ≠ 0 then askT t n else setT t l := by
  unfold aboutT askT setT
  by_cases h1 : (chkT t).2 ≠ 0
  · rw [if_pos h1, if_pos h1, if_pos h1]
  · rw [if_neg h1, if_neg h1]
    by_cases h2 : outB n 0 ((t.length : Int) - 1) = true
    · rw [if_pos h2, if_pos h2, if_pos (by decide)]
    · rw [if_neg h2, if_neg h2, if_neg (by decide)]
      simp only [abS]
      by_cases h3 : (lstGo t l 0).1 = 0
      · rw [if_pos h3, h3]
      · rw [if_neg h3]
theorem ask_about2 (t : List Nd) (n : Int) (l g : List Int) : (aboutT t n [l, g]).1 = if askT t n ≠ 0 then askT t n else if setT t l ≠ 0 then setT t l else setT t g := by
  unfold aboutT askT setT
  by_cases h1 : (chkT t).2 ≠ 0
  · rw [if_pos h1, if_pos h1, if_pos h1]
  · rw [if_neg h1, if_neg h1]
    by_cases h2 : outB n 0 ((t.length : Int) - 1) = true
    · rw [if_pos h2, if_pos h2, if_pos (by decide)]
    · rw [if_neg h2, if_neg h2, if_neg (by decide)]
      simp only [abS]
      by_cases h3 : (lstGo t l 0).1 = 0
      · rw [if_pos h3, if_neg (show ¬ (lstGo t l 0).1 ≠ 0 from fun c => c h3)]
        by_cases h4 : (lstGo t g 0).1 = 0
        · rw [if_pos h4, h4]
        · rw [if_neg h4]
      · rw [if_neg h3, if_pos h3]
theorem about_set1 {t : List Nd} {n : Int} {l : List Int} (h : (aboutT t n [l]).1 = 0) : (aboutT t n [l]).2 = [(lstGo t l 0).2] ∧ setT t l = 0 ∧ askT t n = 0 := by
  rw [ask_about1] at h
  by_cases h1 : askT t n ≠ 0
  · rw [if_pos h1] at h; exact absurd h h1
  · rw [if_neg h1] at h
    have h1' : askT t n = 0 := Classical.byContradiction h1
    refine ⟨?_, h, h1'⟩
    unfold askT at h1'
    unfold aboutT
    by_cases h2 : (chkT t).2 ≠ 0
    · rw [if_pos h2] at h1'; exact absurd h1' h2
    · rw [if_neg h2] at h1' ⊢
      by_cases h3 : outB n 0 ((t.length : Int) - 1) = true
      · rw [if_pos h3] at h1'; exact absurd h1' (by decide)
      · rw [if_neg h3]
        unfold setT at h
        simp only [abS, h, if_true, List.nil_append]
theorem about_set2 {t : List Nd} {n : Int} {l g : List Int} (h : (aboutT t n [l, g]).1 = 0) : (aboutT t n [l, g]).2 = [(lstGo t l 0).2, (lstGo t g 0).2] ∧ setT t l = 0 ∧ setT t g = 0 ∧ askT t n = 0 := by
  rw [ask_about2] at h
  by_cases h1 : askT t n ≠ 0
  · rw [if_pos h1] at h; exact absurd h h1
  · rw [if_neg h1] at h
    have h1' : askT t n = 0 := Classical.byContradiction h1
    by_cases h4 : setT t l ≠ 0
    · rw [if_pos h4] at h; exact absurd h h4
    rw [if_neg h4] at h
    have h4' : setT t l = 0 := Classical.byContradiction h4
    refine ⟨?_, h4', h, h1'⟩
    unfold askT at h1'
    unfold aboutT
    by_cases h2 : (chkT t).2 ≠ 0
    · rw [if_pos h2] at h1'; exact absurd h1' h2
    · rw [if_neg h2] at h1' ⊢
      by_cases h3 : outB n 0 ((t.length : Int) - 1) = true
      · rw [if_pos h3] at h1'; exact absurd h1' (by decide)
      · rw [if_neg h3]
        unfold setT at h h4'
        simp only [abS, h, h4', if_true, List.nil_append, List.cons_append]
/-- The first node is there in a valid tree. -/
theorem ask_zero (t : List Nd) : askT t 0 = (chkT t).2 := by
  unfold askT
  by_cases h1 : (chkT t).2 ≠ 0
  · rw [if_pos h1]
  · have h1' : (chkT t).2 = 0 := Classical.byContradiction h1
    have := (chkT_ok.1 h1').l1
    rw [if_neg h1, if_neg (by rw [Bool.not_eq_true, outB_eq_false]; omega), h1']
theorem ask_ok {t : List Nd} {n : Int} (h : askT t n = 0) : TrOk t ∧ 0 ≤ n ∧ n < t.length := by
  unfold askT at h
  by_cases h1 : (chkT t).2 ≠ 0
  · rw [if_pos h1] at h; exact absurd h h1
  · rw [if_neg h1] at h
    have h1' : (chkT t).2 = 0 := Classical.byContradiction h1
    by_cases h2 : outB n 0 ((t.length : Int) - 1) = true
    · rw [if_pos h2] at h; exact absurd h (by decide)
    · have := outB_false (Bool.eq_false_iff.2 h2)
      exact ⟨chkT_ok.1 h1', by omega, by omega⟩
/-- A list of nodes fails as its set does. -/
theorem lst_ef {t : List Nd} {l : List Int} (hl : setT t l = 0) : (lstGo t l 0).2.testBit = fun j : Nat => decide ((j : Int) ∈ l) := by
  funext j; exact lst_bits hl j
theorem lst_sub {t : List Nd} (l : List Int) : Sub t (lstGo t l 0).2 := lstGo_sub (t := t) l 0 (Sub.zero t)
/-- The nodes that fail, ascending. -/
def effL (t : List Nd) (b : Nat → Bool) : List Int := ((List.range t.length).filter (ef t b)).map Int.ofNat
theorem bitsL_eff {t : List Nd} (h : TrOk t) {s : Nat} (hs : Sub t s) : bitsL (eff t s) = effL t s.testBit := by
  have h64 : eff t s < 2 ^ 64 := by have := pow_40 h (eff_lt h hs); omega
  refine sorted_uniq (bitsL_sorted _) ?_ fun x => ?_
  · unfold effL
    rw [List.pairwise_map]
    refine List.Pairwise.imp ?_ (List.Pairwise.filter _ List.pairwise_lt_range)
    intro a b h
    exact Int.ofNat_lt.2 h
  · rw [mem_bitsL h64, eff_bit h hs]
    unfold effL
    rw [List.mem_map]
    constructor
    · rintro ⟨h0, h1⟩
      refine ⟨x.toNat, ?_, by simp; omega⟩
      rw [List.mem_filter, List.mem_range]
      refine ⟨?_, h1⟩
      rcases Nat.lt_or_ge x.toNat t.length with h' | h'
      · exact h'
      · rw [ef_out h'] at h1; cases h1
    · rintro ⟨k, hk, rfl⟩
      rw [List.mem_filter] at hk
      exact ⟨Int.natCast_nonneg k, hk.2⟩
end Go.Proofs.YtadldndpphdmpaaGreat
namespace Go.Proofs.YtadldndpphdmpaaGreat


theorem count_sorted (j : Int) : ∀ {L : List Int}, L.Pairwise (· ≤ ·) → ∀ m : Nat, 1 ≤ m → ((m ≤ (L.filter fun y => decide (y ≤ j)).length) ↔ (m ≤ L.length ∧ L.getD (m - 1) 0 ≤ j))
  | [], _, m, hm => by simp; omega
  | a :: r, h, m, hm => by
    have hs := List.pairwise_cons.1 h
    by_cases ha : a ≤ j
    · rw [List.filter_cons_of_pos (by simpa using ha), List.length_cons, List.length_cons]
      obtain ⟨k, rfl⟩ : ∃ k, m = k + 1 := ⟨m - 1, by omega⟩
      by_cases hk : k = 0
      · subst hk
        simp
        exact ha
      · obtain ⟨q, rfl⟩ : ∃ q, k = q + 1 := ⟨k - 1, by omega⟩
        have := count_sorted j hs.2 (q + 1) (by omega)
        simp only [Nat.add_sub_cancel] at this ⊢
        rw [show (a :: r).getD (q + 1) 0 = r.getD q 0 from rfl]
        omega
    · have : (a :: r).filter (fun y => decide (y ≤ j)) = [] := by
        rw [List.filter_eq_nil_iff]
        intro y hy
        rcases List.mem_cons.1 hy with rfl | hy
        · simpa using ha
        · have := hs.1 y hy
          simp; omega
      rw [this]
      constructor
      · intro h; simp at h; omega
      · rintro ⟨h1, h2⟩
        have hmem : (a :: r).getD (m - 1) 0 ∈ a :: r := getD_mem (by omega)
        exfalso
        rcases List.mem_cons.1 hmem with e | e
        · omega
        · have := hs.1 _ e; omega
theorem hits_tick (all : Nat) (x : Nd) (f : Nat → Int) (j : Int) : hitsF x (fun m => all.testBit m && decide (f m ≤ j)) = ((tickF all x f).filter fun y => decide (y ≤ j)).length := by
  unfold hitsF tickF
  rw [((sortD_perm _).filter _).length_eq, List.filter_map, List.length_map, List.filter_filter]
  congr 1
  exact List.filter_congr fun k _ => by rw [Bool.and_comm]; rfl
theorem tick_nonneg {t : List Nd} (h : TrOk t) (all : Nat) {i : Nat} {x : Nd} (hx : t[i]? = some x) : ∀ y ∈ tickF all x (atL t all), 0 ≤ y := by
  intro y hy
  unfold tickF at hy
  rw [(sortD_perm _).mem_iff, List.mem_map] at hy
  obtain ⟨k, hk, rfl⟩ := hy
  have hl : i < t.length := (List.getElem?_eq_some_iff.1 hx).1
  have := ins_lt (h.nd i x hx) (List.mem_filter.1 hk).1
  exact (atL_bd h all k.toNat (by omega)).1
/-- Nodes that fail at a tick and stay so: each effect fails its Left later, and stays so. -/
theorem left_ft {t : List Nd} (h : TrOk t) {s : Nat} (hs : Sub t s) (a : Nat) {B : Nat → Nat → Bool} (hB : ∀ i k, isBas t i = true → B i k = (s.testBit i && decide (a ≤ k))) :
    ∀ i, i < t.length → ∀ k : Nat, ft t B i k = (ef t s.testBit i && decide ((a : Int) + atL t (eff t s) i ≤ (k : Int))) := by
  intro i
  induction i using Nat.strongRecOn with
  | ind i ih =>
    intro hl k
    have hx := List.getElem?_eq_getElem hl
    have ok := h.nd i _ hx
    by_cases h1 : t[i].kind = 1
    · have hat : atL t (eff t s) i = 0 := by
        rw [atL_eq h _ hx]
        unfold atF
        rw [tickF_len]
        have : hitsF t[i] (eff t s).testBit = 0 := by unfold hitsF; rw [ok.b0 h1]; rfl
        rw [this]
        have : need t[i] = 1 := by unfold need; rw [if_pos h1]
        rw [this, if_neg (by decide)]
      rw [ft_bas h _ hx h1, hB i k (by rw [isBas_kind hx]; simpa using h1), ef_eq h _ hx, if_pos h1, hat]
      congr 1
      rw [decide_eq_decide]
      omega
    · have hn1 := need_pos ok
      have hh0 := ok.h0
      have hso : ∀ j : Nat, so t[i] (fun m => ft t B m j) = true ↔ need t[i] ≤ ((tickF (eff t s) t[i] (atL t (eff t s))).length : Int) ∧ (tickF (eff t s) t[i] (atL t (eff t s))).getD (need t[i] - 1).toNat 0 ≤ (j : Int) - a := by
        intro j
        rw [so_need ok h1, hitsF_congr (g := fun m => (eff t s).testBit m && decide (atL t (eff t s) m ≤ (j : Int) - a)) (fun k hk => ?_), hits_tick, decide_eq_true_eq]
        · have := count_sorted ((j : Int) - a) (sortD_sorted ((t[i].ins.filter fun k => (eff t s).testBit k.toNat).map fun k => atL t (eff t s) k.toNat)) (need t[i]).toNat (by omega)
          rw [show sortD ((t[i].ins.filter fun k => (eff t s).testBit k.toNat).map fun k => atL t (eff t s) k.toNat) = tickF (eff t s) t[i] (atL t (eff t s)) from rfl] at this
          rw [show (need t[i] - 1).toNat = (need t[i]).toNat - 1 by omega]
          omega
        · have hlt := ins_lt ok hk
          rw [ih _ hlt (by omega), eff_bit h hs]
          congr 1
          rw [decide_eq_decide]
          omega
      have hef : ef t s.testBit i = decide (need t[i] ≤ ((tickF (eff t s) t[i] (atL t (eff t s))).length : Int)) := by
        rw [ef_eq h _ hx, if_neg h1, so_need ok h1, tickF_len]
        rw [hitsF_congr (fun k _ => (eff_bit h hs k.toNat).symm)]
      rw [Bool.eq_iff_iff, ft_not h _ hx h1, hef, atL_eq h _ hx]
      unfold atF
      by_cases hc : need t[i] ≤ ((tickF (eff t s) t[i] (atL t (eff t s))).length : Int)
      · rw [if_pos hc]
        have hT : 0 ≤ (tickF (eff t s) t[i] (atL t (eff t s))).getD (need t[i] - 1).toNat 0 := tick_nonneg h _ hx _ (getD_mem (by omega))
        simp only [Bool.and_eq_true, decide_eq_true_eq]
        constructor
        · rintro ⟨h2, h3⟩
          have := ((hso _).1 (h3 (k - t[i].hold.toNat) (Nat.le_refl _) (by omega))).2
          exact ⟨hc, by omega⟩
        · rintro ⟨_, h2⟩
          refine ⟨by omega, fun j h3 h4 => (hso j).2 ⟨hc, by omega⟩⟩
      · rw [decide_eq_false hc, Bool.false_and]
        constructor
        · rintro ⟨h2, h3⟩
          exact absurd ((hso k).1 (h3 k (by omega) (Nat.le_refl _))).1 hc
        · intro e; cases e

/-- The sum of Hold of the first i nodes. -/
def holdsN (t : List Nd) (i : Nat) : Int := ((t.take i).map (·.hold)).sum
theorem holdsN_succ {t : List Nd} {i : Nat} {x : Nd} (hx : t[i]? = some x) : holdsN t (i + 1) = holdsN t i + x.hold := by
  obtain ⟨hk, rfl⟩ := List.getElem?_eq_some_iff.1 hx
  unfold holdsN
  rw [List.take_succ_eq_append_getElem hk, List.map_append, List.sum_append]
  simp
theorem holdsN_mono {t : List Nd} (h : TrOk t) : ∀ {j i : Nat}, j ≤ i → i ≤ t.length → holdsN t j ≤ holdsN t i
  | j, 0, hj, _ => by obtain rfl : j = 0 := by omega
                      exact Int.le_refl _
  | j, i + 1, hj, hi => by
    by_cases e : j = i + 1
    · rw [e]; exact Int.le_refl _
    · have hx := List.getElem?_eq_getElem (l := t) (i := i) (by omega)
      have h0 := (h.nd i _ hx).h0
      have := holdsN_mono h (j := j) (i := i) (by omega) (by omega)
      rw [holdsN_succ hx]
      omega
theorem holdsN_zero (t : List Nd) : holdsN t 0 = 0 := rfl
theorem holdsN_le {t : List Nd} (h : TrOk t) : ∀ i, i ≤ t.length → holdsN t i ≤ 100 * (i : Int)
  | 0, _ => by rw [holdsN_zero]; decide
  | i + 1, hi => by
    have hx := List.getElem?_eq_getElem (l := t) (i := i) (by omega)
    have h1 := (h.nd i _ hx).h1
    have := holdsN_le h i (by omega)
    rw [holdsN_succ hx]
    omega
theorem atL_holds {t : List Nd} (h : TrOk t) (all : Nat) : ∀ i, i < t.length → atL t all i ≤ holdsN t (i + 1) := by
  intro i
  induction i using Nat.strongRecOn with
  | ind i ih =>
    intro hl
    have hx := List.getElem?_eq_getElem hl
    have ok := h.nd i _ hx
    have h0 := ok.h0
    have hz := holdsN_mono h (Nat.zero_le i) (by omega)
    rw [holdsN_zero] at hz
    rw [atL_eq h all hx, holdsN_succ hx]
    unfold atF
    by_cases hn : need t[i] ≤ ((tickF all t[i] (atL t all)).length : Int)
    · rw [if_pos hn]
      have h1 := need_pos ok
      have hm : (tickF all t[i] (atL t all)).getD (need t[i] - 1).toNat 0 ∈ tickF all t[i] (atL t all) := getD_mem (by omega)
      have hb : ∀ y ∈ tickF all t[i] (atL t all), y ≤ holdsN t i := by
        intro y hy
        unfold tickF at hy
        rw [(sortD_perm _).mem_iff, List.mem_map] at hy
        obtain ⟨k, hk, rfl⟩ := hy
        have hlt := ins_lt ok (List.mem_filter.1 hk).1
        have h2 := ih k.toNat hlt (by omega)
        have h3 := holdsN_mono h (j := k.toNat + 1) (i := i) (by omega) (by omega)
        omega
      have := hb _ hm
      omega
    · rw [if_neg hn]; omega

/-- Where the basic nodes change no more, the others do not, all of Hold later. -/
theorem ft_steady {t : List Nd} (h : TrOk t) {B : Nat → Nat → Bool} {c : Nat → Bool} {T : Nat} (hB : ∀ i k, isBas t i = true → T ≤ k → B i k = c i) :
    ∀ i, i < t.length → ∀ k : Nat, (T : Int) + holdsN t (i + 1) ≤ k → ft t B i k = ef t c i := by
  intro i
  induction i using Nat.strongRecOn with
  | ind i ih =>
    intro hl k hk
    have hx := List.getElem?_eq_getElem hl
    have ok := h.nd i _ hx
    have h0 := ok.h0
    have hz := holdsN_mono h (Nat.zero_le i) (by omega)
    rw [holdsN_zero] at hz
    rw [holdsN_succ hx] at hk
    by_cases h1 : t[i].kind = 1
    · rw [ft_bas h _ hx h1, hB i k (by rw [isBas_kind hx]; simpa using h1) (by omega), ef_eq h _ hx, if_pos h1]
    · have hso : ∀ j : Nat, k - t[i].hold.toNat ≤ j → so t[i] (fun m => ft t B m j) = so t[i] (ef t c) := fun j hj => so_congr fun n hn => by
        have hlt := ins_lt ok hn
        have h3 := holdsN_mono h (j := n.toNat + 1) (i := i) (by omega) (by omega)
        exact ih _ hlt (by omega) j (by omega)
      rw [ef_eq h _ hx, if_neg h1, Bool.eq_iff_iff, ft_not h _ hx h1]
      constructor
      · rintro ⟨h2, h3⟩
        rw [← hso k (by omega)]
        exact h3 k (by omega) (Nat.le_refl _)
      · intro h2
        exact ⟨by omega, fun j h3 _ => by rw [hso j h3]; exact h2⟩
theorem ft_mono {t : List Nd} (h : TrOk t) {B C : Nat → Nat → Bool} (hBC : ∀ i k, isBas t i = true → B i k = true → C i k = true) : ∀ i, ∀ k, ft t B i k = true → ft t C i k = true := by
  intro i
  induction i using Nat.strongRecOn with
  | ind i ih =>
    intro k hk
    by_cases hl : i < t.length
    · have hx := List.getElem?_eq_getElem hl
      have ok := h.nd i _ hx
      by_cases h1 : t[i].kind = 1
      · rw [ft_bas h _ hx h1] at hk ⊢
        exact hBC i k (by rw [isBas_kind hx]; simpa using h1) hk
      · rw [ft_not h _ hx h1] at hk ⊢
        exact ⟨hk.1, fun j h2 h3 => so_mono ok h1 (fun n hn => ih _ (ins_lt ok hn) j) (hk.2 j h2 h3)⟩
    · rw [ft_out (by omega)] at hk; cases hk
/-- What has failed at a tick is an effect of the basic nodes that failed by then. -/
theorem ft_told {t : List Nd} (h : TrOk t) {B : Nat → Nat → Bool} {c : Nat → Bool} {K : Nat} (hB : ∀ i k, isBas t i = true → k ≤ K → B i k = true → c i = true) : ∀ i, ∀ k, k ≤ K → ft t B i k = true → ef t c i = true := by
  intro i
  induction i using Nat.strongRecOn with
  | ind i ih =>
    intro k hK hk
    by_cases hl : i < t.length
    · have hx := List.getElem?_eq_getElem hl
      have ok := h.nd i _ hx
      rw [ef_eq h _ hx]
      by_cases h1 : t[i].kind = 1
      · rw [ft_bas h _ hx h1] at hk
        rw [if_pos h1]
        exact hB i k (by rw [isBas_kind hx]; simpa using h1) hK hk
      · rw [ft_not h _ hx h1] at hk
        rw [if_neg h1]
        exact so_mono ok h1 (fun n hn => ih _ (ins_lt ok hn) k hK) (hk.2 k (by omega) (Nat.le_refl _))
    · rw [ft_out (by omega)] at hk; cases hk
/-- Without Hold, what has failed at a tick is the effects of the basic nodes that have. -/
theorem ft_now {t : List Nd} (h : TrOk t) (h0 : ∀ x ∈ t, x.hold = 0) (B : Nat → Nat → Bool) (k : Nat) (i : Nat) : ft t B i k = ef t (fun j => B j k) i := by
  by_cases hl : i < t.length
  · refine ef_uniq (g := fun i => ft t B i k) h (fun i x hx => ?_) i hl
    by_cases h1 : x.kind = 1
    · rw [if_pos h1, ft_bas h _ hx h1]
    · rw [if_neg h1, Bool.eq_iff_iff, ft_not h _ hx h1, h0 x (List.mem_of_getElem? hx)]
      constructor
      · rintro ⟨_, h3⟩; exact h3 k (by simp) (Nat.le_refl _)
      · intro h3
        refine ⟨by simp, fun j h4 h5 => ?_⟩
        have : j = k := by simp at h4; omega
        rw [this]; exact h3
  · rw [ft_out (by omega), ef_out (by omega)]
theorem so_none {t : List Nd} {i : Nat} {x : Nd} (ok : NdOk t i x) (h1 : x.kind ≠ 1) {f : Nat → Bool} (hf : ∀ m, f m = false) : so x f = false := by
  rw [so_need ok h1, decide_eq_false_iff_not]
  have := need_pos ok
  have e : hitsF x f = 0 := by
    unfold hitsF
    rw [List.filter_eq_nil_iff.2 (fun k _ => by rw [hf]; decide)]
    rfl
  rw [e]
  omega
/-- Some ticks later all that fails fails as much later. -/
theorem ft_shift {t : List Nd} (h : TrOk t) (d : Nat) {B C : Nat → Nat → Bool} (hBC : ∀ i k, isBas t i = true → C i k = (decide (d ≤ k) && B i (k - d))) : ∀ i, ∀ k, ft t C i k = (decide (d ≤ k) && ft t B i (k - d)) := by
  intro i
  induction i using Nat.strongRecOn with
  | ind i ih =>
    intro k
    by_cases hl : i < t.length
    · have hx := List.getElem?_eq_getElem hl
      have ok := h.nd i _ hx
      by_cases h1 : t[i].kind = 1
      · rw [ft_bas h _ hx h1, ft_bas h _ hx h1]
        exact hBC i k (by rw [isBas_kind hx]; simpa using h1)
      · have hso : ∀ j, d ≤ j → so t[i] (fun m => ft t C m j) = so t[i] (fun m => ft t B m (j - d)) := fun j hj => so_congr fun n hn => by
          rw [ih _ (ins_lt ok hn) j, decide_eq_true hj, Bool.true_and]
        have hno : ∀ j, j < d → so t[i] (fun m => ft t C m j) = false := fun j hj => by
          rw [so_congr (g := fun _ => false) (fun n hn => by rw [ih _ (ins_lt ok hn) j, decide_eq_false (by omega), Bool.false_and])]
          exact so_none ok h1 fun _ => rfl
        rw [Bool.eq_iff_iff, ft_not h _ hx h1, Bool.and_eq_true, decide_eq_true_eq, ft_not h _ hx h1]
        constructor
        · rintro ⟨h2, h3⟩
          have hd : d ≤ k - t[i].hold.toNat := by
            rcases Nat.lt_or_ge (k - t[i].hold.toNat) d with c | c
            · have := h3 _ (Nat.le_refl _) (by omega)
              rw [hno _ c] at this; cases this
            · exact c
          refine ⟨by omega, by omega, fun j h4 h5 => ?_⟩
          have := h3 (j + d) (by omega) (by omega)
          rwa [hso _ (by omega), Nat.add_sub_cancel] at this
        · rintro ⟨h2, h3, h4⟩
          refine ⟨by omega, fun j h5 h6 => ?_⟩
          rw [hso j (by omega)]
          exact h4 _ (by omega) (by omega)
    · rw [ft_out (by omega), ft_out (by omega), Bool.and_false]

/-- For how many ticks something is so by tick k. -/
def longF (raw : Nat → Bool) : Nat → Nat
  | 0 => 0
  | k + 1 => if raw k = true then longF raw k + 1 else 0
theorem longF_iff (raw : Nat → Bool) : ∀ (k h : Nat), h < longF raw (k + 1) ↔ h ≤ k ∧ ∀ j, k - h ≤ j → j ≤ k → raw j = true := by
  intro k
  induction k with
  | zero =>
    intro h
    rw [longF]
    by_cases c : raw 0 = true
    · rw [if_pos c]
      constructor
      · intro h1
        have : h = 0 := by rw [longF] at h1; omega
        exact ⟨by omega, fun j _ h3 => by obtain rfl : j = 0 := by omega
                                          exact c⟩
      · rintro ⟨h1, _⟩; rw [longF]; omega
    · rw [if_neg c]
      constructor
      · intro h1; omega
      · rintro ⟨_, h2⟩; exact absurd (h2 0 (by omega) (Nat.le_refl _)) c
  | succ k ih =>
    intro h
    rw [longF]
    by_cases c : raw (k + 1) = true
    · rw [if_pos c]
      by_cases h0 : h = 0
      · subst h0
        constructor
        · intro _
          exact ⟨by omega, fun j h2 h3 => by obtain rfl : j = k + 1 := by omega
                                             exact c⟩
        · intro _; omega
      · have := ih (h - 1)
        constructor
        · intro h1
          obtain ⟨h2, h3⟩ := this.1 (by omega)
          refine ⟨by omega, fun j h4 h5 => ?_⟩
          by_cases e : j = k + 1
          · rw [e]; exact c
          · exact h3 j (by omega) (by omega)
        · rintro ⟨h2, h3⟩
          have := this.2 ⟨by omega, fun j h4 h5 => h3 j (by omega) (by omega)⟩
          omega
    · rw [if_neg c]
      constructor
      · intro h1; omega
      · rintro ⟨_, h2⟩; exact absurd (h2 (k + 1) (by omega) (Nat.le_refl _)) c
/-- Is what a node asks so at a tick? -/
def rawF (t : List Nd) (B : Nat → Nat → Bool) (i : Nat) (x : Nd) (k : Nat) : Bool := if x.kind = 1 then B i k else so x (fun m => ft t B m k)
theorem ft_long {t : List Nd} (h : TrOk t) (B : Nat → Nat → Bool) {i : Nat} {x : Nd} (hx : t[i]? = some x) (k : Nat) : ft t B i k = decide (x.hold < (longF (rawF t B i x) (k + 1) : Int)) := by
  have ok := h.nd i x hx
  have h0 := ok.h0
  have e : (x.hold < (longF (rawF t B i x) (k + 1) : Int)) ↔ x.hold.toNat < longF (rawF t B i x) (k + 1) := by omega
  rw [Bool.eq_iff_iff, decide_eq_true_eq, e, longF_iff]
  by_cases h1 : x.kind = 1
  · rw [ft_bas h _ hx h1, ok.hb h1]
    constructor
    · intro h2
      refine ⟨by simp, fun j h3 h4 => ?_⟩
      have : j = k := by simp at h3; omega
      unfold rawF
      rw [if_pos h1, this]; exact h2
    · rintro ⟨_, h2⟩
      have := h2 k (by simp) (Nat.le_refl _)
      unfold rawF at this
      rwa [if_pos h1] at this
  · rw [ft_not h _ hx h1]
    have : ∀ j, rawF t B i x j = so x (fun m => ft t B m j) := fun j => by unfold rawF; rw [if_neg h1]
    simp only [this]

/-- The first tick of m, from i on, at which p holds; else -1. -/
theorem idxF_first {p : Nat → Bool} {d n : Nat} (hd : d < n) (hp : ∀ k, k < n → (p k = true ↔ d ≤ k)) : idxF p 0 n = (d : Int) := by
  have key : ∀ (m i : Nat), i ≤ d → i + m = n → idxF p i m = (d : Int) := by
    intro m
    induction m with
    | zero => intro i h1 h2; omega
    | succ m ih =>
      intro i h1 h2
      rw [idxF]
      by_cases e : i = d
      · rw [if_pos ((hp i (by omega)).2 (by omega)), e]
      · rw [if_neg (fun c => by have := (hp i (by omega)).1 c; omega)]
        exact ih (i + 1) (by omega) (by omega)
  exact key n 0 (Nat.zero_le _) (by omega)
end Go.Proofs.YtadldndpphdmpaaGreat
namespace Go.Proofs.YtadldndpphdmpaaGreat


/-- Spans of node n that are as f says before tick k. -/
structure RunInv (n : Int) (f : Nat → Bool) (k : Nat) (l : List Sp) : Prop where
  can : Canon n l
  inr : InR 0 k l
  cov : ∀ j : Nat, cov l j = (decide (j < k) && f j)
theorem RunInv.zero (n : Int) (f : Nat → Bool) : RunInv n f 0 [] := ⟨Canon.nil n, fun s hs => by simp at hs, fun j => by simp [cov_nil]⟩
theorem RunInv.no {n : Int} {f : Nat → Bool} {k : Nat} {l : List Sp} (h : RunInv n f k l) (hf : f k = false) : RunInv n f (k + 1) l :=
  ⟨h.can, fun s hs => by have := h.inr s hs; omega, fun j => by
    rw [h.cov]
    by_cases e : j = k
    · rw [e, hf]; simp
    · congr 1
      rw [decide_eq_decide]; omega⟩
theorem RunInv.new {n : Int} {f : Nat → Bool} {k : Nat} {l : List Sp} (h : RunInv n f k l) (hf : f k = true) (hp : k = 0 ∨ f (k - 1) = false) : RunInv n f (k + 1) (l ++ [⟨n, k, k + 1⟩]) := by
  have hlt : ∀ s ∈ l, s.b < (k : Int) := fun s hs => by
    have h1 := h.inr s hs
    have h2 := (h.can.one s hs).2
    rcases (by omega : s.b < (k : Int) ∨ s.b = (k : Int)) with e | e
    · exact e
    · exfalso
      rcases hp with hp | hp
      · omega
      · have h3 : Go.Proofs.YtadldndpphdmpaaGreat.cov l ((k - 1 : Nat) : Int) = true := cov_iff.2 ⟨s, hs, by omega, by omega⟩
        rw [h.cov, hp, Bool.and_false] at h3
        cases h3
  refine ⟨⟨fun s hs => ?_, ?_⟩, fun s hs => ?_, fun j => ?_⟩
  · rcases List.mem_append.1 hs with hs | hs
    · exact h.can.one s hs
    · rw [List.mem_singleton] at hs
      subst hs
      exact ⟨rfl, by dsimp only; omega⟩
  · rw [List.pairwise_append]
    refine ⟨h.can.apart, List.pairwise_singleton _ _, fun s hs u hu => ?_⟩
    rw [List.mem_singleton] at hu
    subst hu
    exact hlt s hs
  · rcases List.mem_append.1 hs with hs | hs
    · have := h.inr s hs; omega
    · rw [List.mem_singleton] at hs
      subst hs
      dsimp only
      omega
  · rw [cov_app, h.cov]
    have e1 : Go.Proofs.YtadldndpphdmpaaGreat.cov [⟨n, (k : Int), (k : Int) + 1⟩] (j : Int) = decide (j = k) := by
      unfold Go.Proofs.YtadldndpphdmpaaGreat.cov covS
      rw [Bool.eq_iff_iff]
      simp
      omega
    rw [e1]
    by_cases e : j = k
    · rw [e, hf]; simp
    · rw [decide_eq_false e, Bool.or_false]
      congr 1
      rw [decide_eq_decide]; omega
theorem RunInv.last {n : Int} {f : Nat → Bool} {k : Nat} {l : List Sp} (h : RunInv n f k l) (hk : 0 < k) (hp : f (k - 1) = true) : ∃ l' a, l = l' ++ [⟨n, a, k⟩] := by
  have h1 : Go.Proofs.YtadldndpphdmpaaGreat.cov l ((k - 1 : Nat) : Int) = true := by
    rw [h.cov, hp, Bool.and_true]
    simp
    omega
  obtain ⟨s, hs, h2, h3⟩ := cov_iff.1 h1
  have h4 := h.inr s hs
  have hb : s.b = (k : Int) := by omega
  obtain ⟨l1, l2, e⟩ := List.append_of_mem hs
  have h5 : l2 = [] := by
    cases l2 with
    | nil => rfl
    | cons u r =>
      exfalso
      have hu : u ∈ l := by rw [e]; simp
      have h6 := h.inr u hu
      have h7 := h.can.apart
      rw [e, List.pairwise_append] at h7
      have := (List.pairwise_cons.1 h7.2.1).1 u (List.mem_cons_self ..)
      omega
  subst h5
  refine ⟨l1, s.a, ?_⟩
  rw [e]
  have hn := (h.can.one s hs).1
  obtain ⟨x, y, z⟩ := s
  dsimp only at hn hb ⊢
  rw [hn, hb]
theorem RunInv.more {n a : Int} {f : Nat → Bool} {k : Nat} {l : List Sp} (h : RunInv n f k (l ++ [⟨n, a, k⟩])) (hf : f k = true) : RunInv n f (k + 1) (l ++ [⟨n, a, k + 1⟩]) := by
  have h1 := h.can.apart
  rw [List.pairwise_append] at h1
  have ha := h.inr ⟨n, a, k⟩ (by simp)
  have hb := (h.can.one ⟨n, a, k⟩ (by simp)).2
  dsimp only at ha hb
  refine ⟨⟨fun s hs => ?_, ?_⟩, fun s hs => ?_, fun j => ?_⟩
  · rcases List.mem_append.1 hs with hs | hs
    · exact h.can.one s (List.mem_append_left _ hs)
    · rw [List.mem_singleton] at hs
      subst hs
      exact ⟨rfl, by dsimp only; omega⟩
  · rw [List.pairwise_append]
    refine ⟨h1.1, List.pairwise_singleton _ _, fun s hs u hu => ?_⟩
    rw [List.mem_singleton] at hu
    subst hu
    exact h1.2.2 s hs ⟨n, a, k⟩ (by simp)
  · rcases List.mem_append.1 hs with hs | hs
    · have := h.inr s (List.mem_append_left _ hs); omega
    · rw [List.mem_singleton] at hs
      subst hs
      dsimp only
      omega
  · have hc := h.cov j
    rw [cov_app] at hc ⊢
    have e1 : Go.Proofs.YtadldndpphdmpaaGreat.cov [⟨n, a, (k : Int)⟩] (j : Int) = (decide (a ≤ (j : Int)) && decide (j < k)) := by
      unfold Go.Proofs.YtadldndpphdmpaaGreat.cov covS
      rw [Bool.eq_iff_iff]
      simp
    have e2 : Go.Proofs.YtadldndpphdmpaaGreat.cov [⟨n, a, (k : Int) + 1⟩] (j : Int) = (decide (a ≤ (j : Int)) && decide (j < k + 1)) := by
      unfold Go.Proofs.YtadldndpphdmpaaGreat.cov covS
      rw [Bool.eq_iff_iff]
      simp
      omega
    rw [e1] at hc
    rw [e2]
    by_cases e : j = k
    · rw [e, hf, decide_eq_true (by omega : a ≤ (k : Int)), decide_eq_true (by omega : k < k + 1)]; simp
    · rw [show decide (j < k + 1) = decide (j < k) by rw [decide_eq_decide]; omega]
      exact hc
theorem cov_out {lo hi k : Int} {l : List Sp} (h : InR lo hi l) (hk : k < lo ∨ hi ≤ k) : cov l k = false := by
  rw [Bool.eq_false_iff]
  intro c
  obtain ⟨s, hs, h1, h2⟩ := cov_iff.1 c
  have := h s hs
  omega
theorem int_tri (k n : Int) : k < 0 ∨ n ≤ k ∨ ∃ j : Nat, k = (j : Int) := by
  by_cases h : k < 0
  · exact .inl h
  · exact .inr (.inr ⟨k.toNat, by omega⟩)
/-- The spans of a run are the ones that its ticks give. -/
theorem run_uniq {t : List Nd} (h : TrOk t) {own : Nat → List Sp} {n : Nat} (hr : ∀ i, isBas t i = true → InR 0 n (own i)) {B : Nat → Nat → Bool} (hB : ∀ i k, isBas t i = true → k < n → B i k = cov (own i) k) {i : Nat} (hi : i < t.length) {l : List Sp}
    (hl : RunInv i (ft t B i) n l) : l = spL t own i := by
  obtain ⟨h1, h2, h3⟩ := spL_spec h hr i hi
  refine canon_uniq hl.can h1 fun k => ?_
  rcases int_tri k n with c | c | ⟨j, rfl⟩
  · rw [cov_out hl.inr (.inl c), cov_out h2 (.inl c)]
  · rw [cov_out hl.inr (.inr c), cov_out h2 (.inr c)]
  · rw [hl.cov, h3]
    by_cases c : j < n
    · rw [decide_eq_true c, Bool.true_and]
      exact ft_local h (k := j) (fun i k hb hk => hB i k hb (by omega)) i j (Nat.le_refl _)
    · rw [decide_eq_false c, Bool.false_and, ← h3, cov_out h2 (.inr (by omega))]
/-- A node never fails exactly if it has no span. -/
theorem spL_nil {t : List Nd} (h : TrOk t) {own : Nat → List Sp} {hi : Int} (hr : ∀ i, isBas t i = true → InR 0 hi (own i)) {i : Nat} (hl : i < t.length) : spL t own i = [] ↔ ∀ k : Nat, ft t (fun i k => cov (own i) k) i k = false := by
  obtain ⟨h1, h2, h3⟩ := spL_spec h hr i hl
  constructor
  · intro e k
    rw [← h3, e]; rfl
  · intro H
    cases hs : spL t own i with
    | nil => rfl
    | cons s r =>
      exfalso
      have hm : s ∈ spL t own i := by rw [hs]; exact List.mem_cons_self ..
      have a := h2 s hm
      have b := (h1.one s hm).2
      have : cov (spL t own i) ((s.a.toNat : Nat) : Int) = true := cov_iff.2 ⟨s, hm, by omega, by omega⟩
      rw [h3, H] at this
      cases this
/-- A run in which some nodes fail at a tick and stay so. -/
theorem run_left {t : List Nd} (h : TrOk t) {s : Nat} (hs : Sub t s) (a n : Nat) {own : Nat → List Sp} (hr : ∀ i, isBas t i = true → InR 0 n (own i)) (hB : ∀ i k, isBas t i = true → k < n → cov (own i) (k : Nat) = (s.testBit i && decide (a ≤ k))) {i : Nat} (hi : i < t.length) :
    spL t own i = if ef t s.testBit i = true ∧ (a : Int) + atL t (eff t s) i < n then [⟨i, (a : Int) + atL t (eff t s) i, n⟩] else [] := by
  obtain ⟨h1, h2, h3⟩ := spL_spec h hr i hi
  have hb := atL_bd h (eff t s) i hi
  have hf : ∀ j : Nat, j < n → ft t (fun i k => cov (own i) k) i j = (ef t s.testBit i && decide ((a : Int) + atL t (eff t s) i ≤ (j : Int))) := fun j hj => by
    rw [← left_ft h hs a (B := fun i k => s.testBit i && decide (a ≤ k)) (fun _ _ _ => rfl) i hi j]
    exact ft_local h (k := j) (fun i k hb hk => hB i k hb (by omega)) i j (Nat.le_refl _)
  refine canon_uniq h1 ?_ fun k => ?_
  · split
    · rename_i c
      exact ⟨fun u hu => by rw [List.mem_singleton] at hu; subst hu; exact ⟨rfl, c.2⟩, List.pairwise_singleton _ _⟩
    · exact Canon.nil _
  · have hcov : cov (if ef t s.testBit i = true ∧ (a : Int) + atL t (eff t s) i < n then [⟨(i : Int), (a : Int) + atL t (eff t s) i, (n : Int)⟩] else []) k = (ef t s.testBit i && decide ((a : Int) + atL t (eff t s) i ≤ k ∧ k < n)) := by
      split
      · rename_i c
        rw [c.1, Bool.true_and]
        unfold cov covS
        rw [Bool.eq_iff_iff]
        simp
      · rename_i c
        rw [cov_nil]
        symm
        rw [Bool.eq_false_iff]
        intro e
        simp only [Bool.and_eq_true, decide_eq_true_eq] at e
        exact c ⟨e.1, by omega⟩
    rw [hcov]
    rcases int_tri k n with c | c | ⟨j, rfl⟩
    · rw [cov_out h2 (.inl c), decide_eq_false (by omega), Bool.and_false]
    · rw [cov_out h2 (.inr c), decide_eq_false (by omega), Bool.and_false]
    · by_cases c : j < n
      · rw [h3, hf j c]
        congr 1
        rw [decide_eq_decide]
        omega
      · rw [cov_out h2 (.inr (by omega)), decide_eq_false (by omega), Bool.and_false]
end Go.Proofs.YtadldndpphdmpaaGreat
namespace Go.Proofs.YtadldndpphdmpaaGreat


/-- The span that is open. -/
def opL (n : Int) : Option Int → List Sp
  | none => []
  | some a => [⟨n, a, 0⟩]
/-- How far the spans are: those that are done, and the one that is open. -/
structure SwS (n many : Int) (ch : Int → Int) (rest : List Int) (f : Int) (op : Option Int) (done total : List Sp) : Prop where
  all : done ++ swR n many ch rest f op = total
  no : op = none → f < many
  yes : ∀ a, op = some a → many ≤ f
  sum : f + (rest.map ch).sum = 0
theorem SwS.start {n many : Int} {ch : Int → Int} {ks : List Int} (h : 1 ≤ many) (hs : (ks.map ch).sum = 0) : SwS n many ch ks 0 none [] (swR n many ch ks 0 none) := ⟨rfl, fun _ => by omega, fun a e => by (cases e), by rw [hs]; rfl⟩
theorem SwS.begins {n many : Int} {ch : Int → Int} {t : Int} {rest : List Int} {f : Int} {done total : List Sp} (h : SwS n many ch (t :: rest) f none done total) (hm : many ≤ f + ch t) : SwS n many ch rest (f + ch t) (some t) done total :=
  ⟨by have := h.all; rw [swR, if_pos hm] at this; exact this, fun e => by (cases e), fun a _ => hm, by have := h.sum; rw [List.map_cons, List.sum_cons] at this; omega⟩
theorem SwS.still {n many : Int} {ch : Int → Int} {t : Int} {rest : List Int} {f : Int} {done total : List Sp} (h : SwS n many ch (t :: rest) f none done total) (hm : ¬ many ≤ f + ch t) : SwS n many ch rest (f + ch t) none done total :=
  ⟨by have := h.all; rw [swR, if_neg hm] at this; exact this, fun _ => by omega, fun a e => by (cases e), by have := h.sum; rw [List.map_cons, List.sum_cons] at this; omega⟩
theorem SwS.keep {n many : Int} {ch : Int → Int} {t a : Int} {rest : List Int} {f : Int} {done total : List Sp} (h : SwS n many ch (t :: rest) f (some a) done total) (hm : many ≤ f + ch t) : SwS n many ch rest (f + ch t) (some a) done total :=
  ⟨by have := h.all; rw [swR, if_pos hm] at this; exact this, fun e => by (cases e), fun a _ => hm, by have := h.sum; rw [List.map_cons, List.sum_cons] at this; omega⟩
theorem SwS.close {n many : Int} {ch : Int → Int} {t a : Int} {rest : List Int} {f : Int} {done total : List Sp} (h : SwS n many ch (t :: rest) f (some a) done total) (hm : ¬ many ≤ f + ch t) : SwS n many ch rest (f + ch t) none (done ++ [⟨n, a, t⟩]) total :=
  ⟨by have := h.all; rw [swR, if_neg hm] at this; rw [List.append_assoc]; exact this, fun _ => by omega, fun a e => by (cases e), by have := h.sum; rw [List.map_cons, List.sum_cons] at this; omega⟩
theorem SwS.fin {n many : Int} {ch : Int → Int} {f : Int} {op : Option Int} {done total : List Sp} (h : SwS n many ch [] f op done total) : done = total := by
  have := h.all
  rw [swR, List.append_nil] at this
  exact this
theorem sum_keys {lo hi : Int} {l : List Sp} (hl : InR lo hi l) : ((keysL l).map (chg l)).sum = 0 := by
  have hd : (keysL l).Nodup := (keysL_sorted l).imp fun h => Int.ne_of_lt h
  have hk : ∀ s ∈ l, s.a ∈ keysL l ∧ s.b ∈ keysL l ∧ s.a ≤ s.b := fun s hs => ⟨(mem_keysL _ l).2 ⟨s, hs, .inl rfl⟩, (mem_keysL _ l).2 ⟨s, hs, .inr rfl⟩, (hl s hs).2.1⟩
  obtain ⟨k, hk1⟩ := le_all (keysL l)
  rw [← sum_all (chg l) hk1, cum_chg hd k l hk]
  have : l.countP (covS k) = 0 := by
    rw [List.countP_eq_zero]
    intro s hs
    have := hk1 _ (hk s hs).2.1
    unfold covS
    simp
    omega
  rw [this]
  rfl
end Go.Proofs.YtadldndpphdmpaaGreat
namespace Go.Proofs.YtadldndpphdmpaaGreat


theorem swR_b {n many : Int} {ch : Int → Int} : ∀ (ks : List Int) (f : Int) (op : Option Int), (op = none → f < many) → (∀ a, op = some a → many ≤ f) → ∀ s ∈ swR n many ch ks f op, ch s.b < 0
  | [], f, op, _, _, s, hs => by simp [swR] at hs
  | t :: ks, f, none, h1, _, s, hs => by
    rw [swR] at hs
    have := h1 rfl
    by_cases c : many ≤ f + ch t
    · rw [if_pos c] at hs
      exact swR_b ks _ _ (by intro e; cases e) (by intro a e; exact c) s hs
    · rw [if_neg c] at hs
      exact swR_b ks _ _ (by intro _; omega) (by intro a e; cases e) s hs
  | t :: ks, f, some a, _, h2, s, hs => by
    rw [swR] at hs
    have := h2 a rfl
    by_cases c : many ≤ f + ch t
    · rw [if_pos c] at hs
      exact swR_b ks _ _ (by intro e; cases e) (by intro a e; exact c) s hs
    · rw [if_neg c] at hs
      rcases List.mem_cons.1 hs with rfl | hs
      · show ch t < 0
        omega
      · exact swR_b ks _ _ (by intro _; omega) (by intro a e; cases e) s hs
theorem chg_neg : ∀ (l : List Sp) (t : Int), chg l t < 0 → ∃ u ∈ l, u.b = t
  | [], t, h => by simp [chg] at h
  | s :: l, t, h => by
    have e : chg (s :: l) t = chS s t + chg l t := rfl
    rw [e] at h
    by_cases hb : s.b = t
    · exact ⟨s, List.mem_cons_self .., hb⟩
    · have : 0 ≤ chS s t := by unfold chS; rw [if_neg hb]; split <;> omega
      obtain ⟨u, hu, hu2⟩ := chg_neg l t (by omega)
      exact ⟨u, List.mem_cons_of_mem _ hu, hu2⟩
theorem joinL_b {n many : Int} (hm : 1 ≤ many) {l : List Sp} {s : Sp} (hs : s ∈ joinL n many l) : ∃ u ∈ l, u.b = s.b :=
  chg_neg l s.b (swR_b (keysL l) 0 none (by intro _; omega) (by intro a e; cases e) s hs)
theorem holdL_b {h : Int} {l : List Sp} {s : Sp} (hs : s ∈ holdL h l) : ∃ u ∈ l, u.b = s.b := by
  unfold holdL at hs
  rw [List.mem_map] at hs
  obtain ⟨u, hu, rfl⟩ := hs
  exact ⟨u, (List.mem_filter.1 hu).1, rfl⟩
theorem lsF_b {own : Nat → List Sp} {i : Nat} {x : Nd} {f : Nat → List Sp} {Bs : List Int} (h0 : x.kind = 1 → ∀ s ∈ own i, s.b ∈ Bs) (h : ∀ k ∈ x.ins, ∀ s ∈ f k.toNat, s.b ∈ Bs) : ∀ s ∈ (lsF own i x f).flatten, s.b ∈ Bs := by
  intro s hs
  obtain ⟨u, hu, hsu⟩ := List.mem_flatten.1 hs
  unfold lsF at hu
  by_cases h1 : x.kind = 1
  · rw [if_pos h1, List.mem_map] at hu
    obtain ⟨v, hv, rfl⟩ := hu
    rw [List.mem_singleton] at hsu
    subst hsu
    exact h0 h1 s (List.mem_filter.1 hv).1
  · rw [if_neg h1, List.mem_map] at hu
    obtain ⟨k, hk, rfl⟩ := hu
    exact h k hk s hsu
/-- All spans end where one of the basic nodes' does. -/
theorem spL_b {t : List Nd} (h : TrOk t) {own : Nat → List Sp} {Bs : List Int} (ho : ∀ i, isBas t i = true → ∀ s ∈ own i, s.b ∈ Bs) : ∀ i, ∀ s ∈ spL t own i, s.b ∈ Bs := by
  intro i
  induction i using Nat.strongRecOn with
  | ind i ih =>
    intro s hs
    by_cases hl : i < t.length
    · have hx := List.getElem?_eq_getElem hl
      rw [spL_eq h own hx] at hs
      unfold runF at hs
      obtain ⟨u, hu, e1⟩ := holdL_b hs
      obtain ⟨v, hv, e2⟩ := joinL_b (need_pos (h.nd i _ hx)) hu
      rw [← e1, ← e2]
      exact lsF_b (fun hk => ho i (by rw [isBas_kind hx]; simpa using hk)) (fun k hk => ih _ (ins_lt (h.nd i _ hx) hk)) v hv
    · rw [spL_out (by omega)] at hs; simp at hs
theorem nodup_le {α : Type} [DecidableEq α] : ∀ (xs ys : List α), xs.Nodup → (∀ x ∈ xs, x ∈ ys) → xs.length ≤ ys.length
  | [], _, _, _ => Nat.zero_le _
  | x :: xs, ys, hn, h => by
    have hc := List.nodup_cons.1 hn
    have hx := h x (List.mem_cons_self ..)
    have := nodup_le xs (ys.erase x) hc.2 fun y hy => by
      have hne : y ≠ x := fun e => hc.1 (e ▸ hy)
      exact (List.mem_erase_of_ne hne).2 (h y (List.mem_cons_of_mem _ hy))
    rw [List.length_erase_of_mem hx] at this
    have hp : 0 < ys.length := List.length_pos_of_mem hx
    rw [List.length_cons]
    omega
theorem canon_b {n : Int} : ∀ {l : List Sp}, Canon n l → (l.map (·.b)).Pairwise (· < ·)
  | [], _ => .nil
  | s :: l, h => by
    rw [List.map_cons, List.pairwise_cons]
    refine ⟨fun b hb => ?_, canon_b h.tail⟩
    rw [List.mem_map] at hb
    obtain ⟨u, hu, rfl⟩ := hb
    have h1 := h.behind u hu
    have h2 := (h.tail.one u hu).2
    omega
theorem canon_len {n : Int} {l : List Sp} {Bs : List Int} (h : Canon n l) (hb : ∀ s ∈ l, s.b ∈ Bs) : l.length ≤ Bs.length := by
  have hnd : (l.map (·.b)).Nodup := (canon_b h).imp fun h => Int.ne_of_lt h
  have := nodup_le (l.map (·.b)) Bs hnd fun b hb' => by
    rw [List.mem_map] at hb'
    obtain ⟨s, hs, rfl⟩ := hb'
    exact hb s hs
  rwa [List.length_map] at this
theorem spL_len {t : List Nd} (h : TrOk t) {own : Nat → List Sp} {hi : Int} {Bs : List Int} (hr : ∀ i, isBas t i = true → InR 0 hi (own i)) (ho : ∀ i, isBas t i = true → ∀ s ∈ own i, s.b ∈ Bs) (i : Nat) : (spL t own i).length ≤ Bs.length := by
  by_cases hl : i < t.length
  · exact canon_len (spL_spec h hr i hl).1 (spL_b h ho i)
  · rw [spL_out (by omega)]; exact Nat.zero_le _
end Go.Proofs.YtadldndpphdmpaaGreat
