/- The law's own inputs: symbols and rows. -/
import Derived.Test.YtdibepkfgemddaaTimes
import Derived.Test.YtdibepkfgemddaaOps4
namespace Go.Bw
set_option linter.unusedVariables false
set_option linter.unusedSimpArgs false
open Go.Proofs

/-- What laid makes. -/
def laidG (G : UInt8) : Nat := 1 + G.toNat % 10
def laidSyms (g s : Nat) (l : List (List UInt8)) : List (List UInt8) := (List.range g).map fun i => padTo s (l.getD i [])
def laidRow (g s : Nat) (syms : List (List UInt8)) (c : List UInt8) : RowD := (padTo g c, comb s syms (padTo g c))
def laidRows (g s : Nat) (syms : List (List UInt8)) (l : List (List UInt8)) : List RowD := (l.take 40).map (laidRow g s syms)

-- left out, for this seat has no (braidwork/braidworklaw07.Mix).laid: theorem laid_ok (G S
end Go.Bw
