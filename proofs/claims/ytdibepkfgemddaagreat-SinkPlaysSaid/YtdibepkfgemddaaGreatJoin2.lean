/- Two roads that meet behind the second piece of code. -/
import Derived.Test.YtdibepkfgemddaaGreatCore
namespace Go.Bw
set_option linter.unusedVariables false
set_option linter.unusedSimpArgs false
variable {P : Program} {n : Nat} {ds : List Deferred} {env : Env} {w : World} {k : Kont}
theorem WC.joinK2 {ι : Type} {c x y : Code} (E : ι → Env) (W : ι → World → Prop)
    (h1 : WC P n ds c (.seq x (.cut fun e a' w' => e = .normal ∧ ∃ j, St n ds (E j) a' ∧ W j w')) env w)
    (h2 : ∀ i w, W i w → WC P n ds y k (E i) w) : WC P n ds c (.seq (.seq x y) k) env w := by
  intro a ha
  refine wp_mono (h1 a ha) ?_
  intro e a' w' h
  cases e with
  | normal =>
    refine wp_seq (wp_mono h ?_)
    rintro e2 a2 w2 ⟨rfl, j, hs, hW⟩
    exact h2 j w2 hW a2 hs
  | _ => obtain ⟨h3, _⟩ := h; cases h3
end Go.Bw
