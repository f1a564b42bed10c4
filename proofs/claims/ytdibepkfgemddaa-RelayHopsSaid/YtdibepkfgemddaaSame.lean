/- Rows held against rows. -/
import Derived.Test.YtdibepkfgemddaaInsert
namespace Go.Bw
set_option linter.unusedVariables false
set_option linter.unusedSimpArgs false
open Go.Proofs

-- left out, for this seat has no braidwork/basis.Same$1: theorem same1_ok (x y
-- left out, for this seat has no slices.EqualFunc[[]braidwork/api.Row,[]braidwork/api.Row,braidwork/api.Row,braidwork/api.Row]: theorem same_ok (a b
-- left out, for this seat has no basis.Same: theorem bsame_ok (a b
end Go.Bw
