/- The plain functions of the upkeep layer: works and tasks. -/
import Derived.Test.YtjdaigffgfnhaaaGreatPlain2
namespace Go.Proofs.YtjdaigffgfnhaaaGreat

structure Work where
  name : ByteArray
  gate : Int
  days : Int
  frm : Int
  til : Int
  step : Int
  level : Int
structure Task where
  rd : Rec
  works : List Work
  gap : Int
  width : Int
  day : Int × Int
  plan : Int × Int


/-- May a byte stand at place i of a name? -/
def chB (i : Nat) (c : UInt8) : Bool := (decide (97 ≤ c.toNat) && decide (c.toNat ≤ 122)) || (decide (0 < i) && (decide (c.toNat = 45) || (decide (48 ≤ c.toNat) && decide (c.toNat ≤ 57))))
def nameB (s : ByteArray) : Bool := decide (0 < s.size) && decide (s.size ≤ 24) && (List.range s.size).all fun i => chB i (s.data.toList.getD i 0)

/-- The first index from i on, of m, at which p holds; else -1. -/
def idxF (p : Nat → Bool) : Nat → Nat → Int
  | _, 0 => -1
  | i, m + 1 => if p i then (i : Int) else idxF p (i + 1) m
theorem idxF_yes {p : Nat → Bool} {i n : Nat} (hi : i < n) (h : p i = true) : idxF p i (n - i) = (i : Int) := by
  obtain ⟨m, hm⟩ : ∃ m, n - i = m + 1 := ⟨n - i - 1, by omega⟩
  rw [hm, idxF, if_pos h]
theorem idxF_no {p : Nat → Bool} {i n : Nat} (hi : i < n) (h : p i = false) : idxF p i (n - i) = idxF p (i + 1) (n - (i + 1)) := by
  obtain ⟨m, hm⟩ : ∃ m, n - i = m + 1 := ⟨n - i - 1, by omega⟩
  rw [hm, show n - (i + 1) = m by omega, idxF, if_neg (by simp [h])]
theorem idxF_end {p : Nat → Bool} {i n : Nat} (hi : n ≤ i) : idxF p i (n - i) = -1 := by
  rw [show n - i = 0 by omega, idxF]
theorem idxF_neg (p : Nat → Bool) : ∀ (m i : Nat), 0 ≤ idxF p i m ↔ ∃ j, i ≤ j ∧ j < i + m ∧ p j = true
  | 0, i => by simp [idxF]; omega
  | m + 1, i => by
    rw [idxF]
    by_cases h : p i = true
    · rw [if_pos h]; simp; exact ⟨i, by omega, by omega, h⟩
    · rw [if_neg h, idxF_neg p m (i + 1)]
      constructor
      · rintro ⟨j, h1, h2, h3⟩; exact ⟨j, by omega, by omega, h3⟩
      · rintro ⟨j, h1, h2, h3⟩
        have : j ≠ i := fun e => by subst e; exact h h3
        exact ⟨j, by omega, by omega, h3⟩

/-- Has work j of a list this name? -/
def sameB (ws : List Work) (nm : ByteArray) (j : Nat) : Bool := match ws[j]? with | some v => v.name.toList == nm.toList | none => false
/-- Has one of the first n works this name? -/
def anyB (ws : List Work) (nm : ByteArray) (n : Nat) : Bool := decide (0 ≤ idxF (sameB ws nm) 0 (n - 0))

theorem idxF_congr {p q : Nat → Bool} : ∀ (m i : Nat), (∀ j, i ≤ j → j < i + m → p j = q j) → idxF p i m = idxF q i m
  | 0, _, _ => rfl
  | m + 1, i, h => by rw [idxF, idxF, h i (by omega) (by omega), idxF_congr m (i + 1) (fun j h1 h2 => h j (by omega) (by omega))]
theorem anyB_take (ws : List Work) (nm : ByteArray) (k : Nat) : anyB (ws.take k) nm k = anyB ws nm k := by
  unfold anyB
  rw [idxF_congr (k - 0) 0 (fun j _ h2 => ?_)]
  unfold sameB
  rw [List.getElem?_take_of_lt (by omega)]

/-- Is a number of a work out of its range? -/
def wOut (v : Work) : Bool := outB v.gate 0 99 || outB v.days 1 200 || lateB v.til || outB v.frm 0 v.til || outB v.step 1 365 || highB v.level
/-- The error of a work. -/
def vErr (ws : List Work) (i : Nat) (v : Work) : Int :=
  if nameB v.name = false then 6
  else if anyB ws v.name i = true then 5
  else if wOut v = true then 7
  else if 40 ≤ (v.til - v.frm) / v.step then 3
  else 0
def wErr (ws : List Work) (i : Nat) : Int := match ws[i]? with | none => 0 | some v => vErr ws i v
def chkTail (t : Task) : Int × Int × Int := if outB t.gap 0 365 || outB t.width 1 365 || wildB t.day || wildB t.plan then (3, 0, 7) else (0, 0, 0)
def chkTask (t : Task) : Int × Int × Int :=
  if (chkRec t.rd).2 != 0 then (1, (chkRec t.rd).1, (chkRec t.rd).2)
  else if 4 < t.works.length then (2, 0, 3)
  else if (firstErr (wErr t.works) 0 (t.works.length - 0)).2 = 0 then chkTail t
  else (2, (firstErr (wErr t.works) 0 (t.works.length - 0)).1, (firstErr (wErr t.works) 0 (t.works.length - 0)).2)


/-- Is a day in the season of a work? -/
def sB (t : Task) (v : Work) (d : Int) : Bool := seasonB t.rd t.width v.level t.day d
/-- The first of the days s + k, s + k + 1, .., m of them, around the year, for which g holds; else -1. -/
def dayF (g : Int → Bool) (s : Int) : Nat → Nat → Int
  | _, 0 => -1
  | k, m + 1 => if g ((s + (k : Int)) % 365) then (s + (k : Int)) % 365 else dayF g s (k + 1) m
theorem dayF_yes {g : Int → Bool} {s : Int} {k n : Nat} (hk : k < n) (h : g ((s + (k : Int)) % 365) = true) : dayF g s k (n - k) = (s + (k : Int)) % 365 := by
  obtain ⟨m, hm⟩ : ∃ m, n - k = m + 1 := ⟨n - k - 1, by omega⟩
  rw [hm, dayF, if_pos h]
theorem dayF_no {g : Int → Bool} {s : Int} {k n : Nat} (hk : k < n) (h : g ((s + (k : Int)) % 365) = false) : dayF g s k (n - k) = dayF g s (k + 1) (n - (k + 1)) := by
  obtain ⟨m, hm⟩ : ∃ m, n - k = m + 1 := ⟨n - k - 1, by omega⟩
  rw [hm, show n - (k + 1) = m by omega, dayF, if_neg (by simp [h])]
theorem dayF_end {g : Int → Bool} {s : Int} {k n : Nat} (hk : n ≤ k) : dayF g s k (n - k) = -1 := by
  rw [show n - k = 0 by omega, dayF]
def badF (t : Task) (v : Work) (s : Int) : Int := dayF (sB t v) s 0 (v.days.toNat - 0)


/-- d, d + step, .. up to til. -/
def triesG (til step : Int) : Nat → Int → List Int
  | 0, _ => []
  | f + 1, d => if d ≤ til then d :: triesG til step f (d + step) else []
def triesF (v : Work) : List Int := triesG v.til v.step 400 v.frm
def startsF (t : Task) (v : Work) : List Int := (triesF v).filter fun d => decide (badF t v d < 0)


/-- Does one of some works, each with its start, meet harm in a year? -/
def harmP (hs : List High) (ps : List (Int × Work)) (y : Int) : Bool := ps.any fun p => excB hs p.1 p.2.days p.2.level y
def harmW (ps : List (Int × Work)) : Bool := ps.any fun p => wrapsB p.1 p.2.days
/-- The years in which a plan meets harm. -/
def harmL (t : Task) (ss : List Int) : List Int := yearsL t.rd.first (ofF t.rd.years (harmW (ss.zip t.works))) (harmP t.rd.highs (ss.zip t.works))
def harmR (t : Task) (ss : List Int) : Int × Int := (((harmL t ss).length : Int), ofF t.rd.years (harmW (ss.zip t.works)))


/-- Do two works meet? -/
def mB (gap s1 d1 s2 d2 : Int) : Bool :=
  if s2 < s1 then decide (s1 < s2 + d2 + gap) || decide (s2 + 365 < s1 + d1 + gap) else decide (s2 < s1 + d1 + gap) || decide (s1 + 365 < s2 + d2 + gap)

end Go.Proofs.YtjdaigffgfnhaaaGreat
