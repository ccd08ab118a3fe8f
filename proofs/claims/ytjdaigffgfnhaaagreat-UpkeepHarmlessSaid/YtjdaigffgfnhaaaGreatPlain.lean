/- The plain functions of the upkeep layer: no program in sight. -/
namespace Go.Proofs.YtjdaigffgfnhaaaGreat

structure High where
  year : Int
  day : Int
  level : Int
structure Rec where
  first : Int
  years : Int
  highs : List High

def outB (n lo hi : Int) : Bool := decide (n < lo) || decide (hi < n)
def lateB (n : Int) : Bool := outB n 0 364
def highB (n : Int) : Bool := outB n (-20000) 20000

theorem outB_false {n lo hi : Int} (h : outB n lo hi = false) : lo ≤ n ∧ n ≤ hi := by
  unfold outB at h; simp at h; omega
theorem outB_true {n lo hi : Int} (h : outB n lo hi = true) : n < lo ∨ hi < n := by
  unfold outB at h; simp at h; omega
theorem outB_eq_false {n lo hi : Int} : outB n lo hi = false ↔ lo ≤ n ∧ n ≤ hi := by
  unfold outB; simp

/-- The first index from i on, of m, at which g is not 0, and what g is there; else 0, 0. -/
def firstErr (g : Nat → Int) : Nat → Nat → Int × Int
  | _, 0 => (0, 0)
  | i, m + 1 => if g i = 0 then firstErr g (i + 1) m else ((i : Int), g i)

theorem firstErr_zero {g : Nat → Int} {i n : Nat} (hi : i < n) (h : g i = 0) : firstErr g i (n - i) = firstErr g (i + 1) (n - (i + 1)) := by
  obtain ⟨m, hm⟩ : ∃ m, n - i = m + 1 := ⟨n - i - 1, by omega⟩
  rw [hm, show n - (i + 1) = m by omega, firstErr, if_pos h]
theorem firstErr_not {g : Nat → Int} {i n : Nat} (hi : i < n) (h : g i ≠ 0) : firstErr g i (n - i) = ((i : Int), g i) := by
  obtain ⟨m, hm⟩ : ∃ m, n - i = m + 1 := ⟨n - i - 1, by omega⟩
  rw [hm, firstErr, if_neg h]
theorem firstErr_end {g : Nat → Int} {i n : Nat} (hi : n ≤ i) : firstErr g i (n - i) = (0, 0) := by
  rw [show n - i = 0 by omega, firstErr]

/-- The number of the day of a high. -/
def numF (f : Int) (h : High) : Int := (h.year - f) * 365 + h.day

/-- The error of row i of a record. -/
def hErr (f y : Int) (hs : List High) (i : Nat) : Int :=
  match hs[i]? with
  | none => 0
  | some h => if outB h.year f (f + y - 1) || lateB h.day || highB h.level then 7
    else match i with
      | 0 => 0
      | j + 1 => match hs[j]? with
        | none => 0
        | some b => if numF f h ≤ numF f b then 2 else 0

theorem hErr_row {f y : Int} {hs : List High} {i : Nat} {h : High} (hi : hs[i]? = some h) (he : hErr f y hs i = 0) : outB h.year f (f + y - 1) = false ∧ lateB h.day = false ∧ highB h.level = false := by
  unfold hErr at he
  rw [hi] at he
  by_cases hc : (outB h.year f (f + y - 1) || lateB h.day || highB h.level) = true
  · simp [hc] at he
  · simp at hc
    exact ⟨hc.1.1, hc.1.2, hc.2⟩
theorem hErr_out {f y : Int} {hs : List High} {i : Nat} {h : High} (hi : hs[i]? = some h) (hc : (outB h.year f (f + y - 1) || lateB h.day || highB h.level) = true) : hErr f y hs i = 7 := by
  unfold hErr; rw [hi]; simp only [hc, if_true]
theorem hErr_first {f y : Int} {hs : List High} {h : High} (hi : hs[0]? = some h) (hc : (outB h.year f (f + y - 1) || lateB h.day || highB h.level) = false) : hErr f y hs 0 = 0 := by
  unfold hErr; rw [hi]; simp [hc]
theorem hErr_next {f y : Int} {hs : List High} {i : Nat} {h b : High} (hi : hs[i + 1]? = some h) (hb : hs[i]? = some b) (hc : (outB h.year f (f + y - 1) || lateB h.day || highB h.level) = false) : hErr f y hs (i + 1) = if numF f h ≤ numF f b then 2 else 0 := by
  unfold hErr; rw [hi]; simp [hc, hb]

def chkRec (r : Rec) : Int × Int :=
  if outB r.first 0 9999 || outB r.years 2 200 then (-1, 7)
  else if 300 < r.highs.length then (-1, 3)
  else firstErr (hErr r.first r.years r.highs) 0 (r.highs.length - 0)

end Go.Proofs.YtjdaigffgfnhaaaGreat
