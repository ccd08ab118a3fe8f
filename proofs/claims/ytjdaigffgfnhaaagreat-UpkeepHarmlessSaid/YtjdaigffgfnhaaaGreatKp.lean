/- Plain: what is right of a basin and of a task of closing. -/
import Derived.Test.YtjdaigffgfnhaaaGreatPlain
import Derived.Test.YtjdaigffgfnhaaaGreatPlain3
namespace Go.Proofs.YtjdaigffgfnhaaaGreat

structure Pol where
  nm : ByteArray
  sill : Int
  take : Int
  room : Int
/-- A basin: its rows of level and volume, and its polders. -/
structure Bas where
  rows : List (Int × Int)
  leak : Int
  crest : Int
  over : Int
  pols : List Pol
def lvlB (n : Int) : Bool := outB n (-20000) 20000
def prevB (rows : List (Int × Int)) (i : Nat) (x : Int × Int) : Bool := match rows[i - 1]? with
  | some p => decide (x.1 ≤ p.1) || decide (x.2 ≤ p.2)
  | none => false
def rowErr (rows : List (Int × Int)) (i : Nat) : Int := match rows[i]? with
  | none => 0
  | some x => if (lvlB x.1 || outB x.2 0 1000000000) = true then 7 else if (decide (0 < i) && prevB rows i x) = true then 2 else 0
def parErr (B : Bas) : Int := if (outB B.leak 0 10000 || outB B.over 0 10000 || lvlB B.crest) = true then 7 else if 6 < B.pols.length then 3 else 0
def row0 (B : Bas) : Int := (B.rows.headD (0, 0)).1
def polErr (B : Bas) (i : Nat) : Int := match B.pols[i]? with
  | none => 0
  | some x => if nameB x.nm = false then 6 else if ((B.pols.take i).any fun y => y.nm.data.toList == x.nm.data.toList) = true then 5
    else if (outB x.sill (row0 B) 20000 || outB x.take 0 10000 || outB x.room 0 1000000000) = true then 7 else 0
def takeM (B : Bas) (k : Nat) : Int := (B.pols.take k).foldl (fun g x => max g x.take) B.leak
def slopeErr (B : Bas) (i : Nat) : Int := match B.rows[i]?, B.rows[i + 1]? with
  | some x, some y => if y.2 - x.2 < takeM B B.pols.length * (y.1 - x.1) then 2 else 0
  | _, _ => 0
/-- The error of a basin. -/
def basErr (B : Bas) : Int :=
  if outB B.rows.length 2 12 = true then 3
  else if (firstErr (rowErr B.rows) 0 (B.rows.length - 0)).2 ≠ 0 then (firstErr (rowErr B.rows) 0 (B.rows.length - 0)).2
  else if parErr B ≠ 0 then parErr B
  else if (firstErr (polErr B) 0 (B.pols.length - 0)).2 ≠ 0 then (firstErr (polErr B) 0 (B.pols.length - 0)).2
  else (firstErr (slopeErr B) 0 (B.rows.length - 1 - 0)).2
/-- The error of a task of closing with one history that begins at tick 0, of the values hv, and rivers that bring nothing. -/
def clErr (B : Bas) (filled hv : List Int) (out limit delay : Int) : Int :=
  if basErr B ≠ 0 then basErr B
  else if outB hv.length 1 60 = true then 3
  else if (outB 0 0 (200000 - (hv.length : Int) + 1) || hv.any lvlB) = true then 7
  else if filled.length ≠ B.pols.length then 2
  else if (outB out 0 10000000 || outB limit (row0 B) 20000 || outB delay 0 30) = true then 7
  else if ((List.range filled.length).any fun i => match filled[i]?, B.pols[i]? with
    | some n, some p => outB n 0 p.room
    | _, _ => false) = true then 7
  else 0
end Go.Proofs.YtjdaigffgfnhaaaGreat
