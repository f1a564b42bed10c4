/- SourceKnown. -/
import Derived.Test.YtbgdgmilcojlbaaKnown13
import Derived.Test.YtbgdgmilcojlbaaLaw
namespace Go.Bw
set_option linter.unusedVariables false
set_option linter.unusedSimpArgs false
open Go.Proofs

theorem law_SourceKnown (W : World) : Calls Try.prog 9 #[] W fun e w' => e = .returned (.bool true) ∧ Go.RowKit.Below W.heap.size W w' :=
  (known13_ok _ W (heapOf.sub W)).mono fun e w' h => h.law fun _ _ h => h

end Go.Bw
