/- Coefficients times symbols. -/
import Derived.Test.YtdibepkfgemddaaRef
namespace Go.Bw
set_option linter.unusedVariables false
set_option linter.unusedSimpArgs false
open Go.Proofs

theorem zip_takeR {α β : Type} : ∀ (a : List α) (b : List β), a.zip (b.take a.length) = a.zip b
  | [], b => by simp
  | x :: a, [] => by simp
  | x :: a, y :: b => by simp [zip_takeR a b]
theorem zip_takeL {α β : Type} : ∀ (a : List α) (b : List β), (a.take b.length).zip b = a.zip b
  | [], b => by simp
  | x :: a, [] => by simp
  | x :: a, y :: b => by simp [zip_takeL a b]

-- left out, for this seat has no braidworkref07.Times: theorem times_ok (vc vs
end Go.Bw
