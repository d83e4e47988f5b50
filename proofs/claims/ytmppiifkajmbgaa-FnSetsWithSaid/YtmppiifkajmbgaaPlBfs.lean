/- The plain search over sets of places: which sets are reached, by how many moves. -/
import Derived.Test.YtmppiifkajmbgaaPlPeb
namespace Go.Proofs.Ytmppiifkajmbgaa
open Go.RowKit
set_option linter.unusedVariables false

/-- one place tried at the set at: the numbers of moves so far, the sets still to come -/
def bStep (p b at' : Int) (st : List Int × List Int) (k : Nat) : List Int × List Int :=
  if 0 ≤ mdI p at' k ∧ st.1.getD (mdI p at' k).toNat 0 < 0 ∧ popI (mdI p at' k) 8 ≤ b then
    (st.1.set (mdI p at' k).toNat (st.1.getD at'.toNat 0 + 1), st.2 ++ [mdI p at' k]) else st
/-- all places up to k tried -/
def bPl (p b at' : Int) (st : List Int × List Int) : Nat → List Int × List Int
  | 0 => st
  | k + 1 => bStep p b at' (bPl p b at' st k) k
/-- the whole search with fuel: far, the queue, the place in it -/
def bRun (p b : Int) (np : Nat) : Nat → Nat → List Int × List Int → List Int
  | 0, _, st => st.1
  | f + 1, k, st => if k < st.2.length then bRun p b np f (k + 1) (bPl p b (st.2.getD k 0) st np) else st.1
def bStart (np : Nat) : List Int × List Int := ((List.replicate (2 ^ np) (-1)).set 0 0, [0])
def bfs (p b : Int) : List Int := bRun p b p.toNat 300 0 (bStart p.toNat)
/-- SetsWith -/
def swL (p b : Int) : List Int := if (inB p 1 8 && inB b 0 4) = true then bfs p b else []

end Go.Proofs.Ytmppiifkajmbgaa
