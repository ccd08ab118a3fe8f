/- How many sets make a node fail, and the weight of a basic node: the words alone. -/
import Derived.Test.YtadldndpphdmpaaGreatQP
namespace Go.Proofs.YtadldndpphdmpaaGreat
/-- How many sets of basic nodes make a node fail. -/
def cntN (t : List Nd) (y : Nat) : Nat := ((subL (bas t)).filter fun s => (eff t s).testBit y).length
def othN (t : List Nd) (b : Nat) : Nat := diffN (bas t) (withN 0 b)
/-- For how many sets of the others a node decides. -/
def wtB (t : List Nd) (y b s : Nat) : Bool := (eff t (withN s b)).testBit y && !(eff t s).testBit y
def wtN (t : List Nd) (y b : Nat) : Nat := ((subL (othN t b)).filter (wtB t y b)).length
def countT (t : List Nd) (y : Int) : Int × Int := if askT t y ≠ 0 then (0, askT t y) else ((cntN t y.toNat : Int), 0)
def weightT (t : List Nd) (y b : Int) : Int × Int := if askT t y ≠ 0 then (0, askT t y) else if basI t b = false then (0, 4) else ((wtN t y.toNat b.toNat : Int), 0)

end Go.Proofs.YtadldndpphdmpaaGreat
