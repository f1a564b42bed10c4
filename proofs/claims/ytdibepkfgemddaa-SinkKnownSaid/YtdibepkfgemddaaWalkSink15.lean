/- SinkKnown. -/
import Derived.Test.YtdibepkfgemddaaSinkB
import Derived.Test.YtdibepkfgemddaaLaw
namespace Go.Bw
set_option linter.unusedVariables false
set_option linter.unusedSimpArgs false
open Go.Proofs

theorem law_SinkKnown (W : World) : Calls Try.prog 3 #[] W fun e w' => e = .returned (.bool true) ∧ Go.RowKit.Below W.heap.size W w' :=
  (known15_ok _ W (heapOf.sub W)).mono fun e w' h => h.law fun _ _ h => h

end Go.Bw
