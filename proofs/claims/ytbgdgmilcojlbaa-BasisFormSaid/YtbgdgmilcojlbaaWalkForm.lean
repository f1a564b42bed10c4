/- BasisForm, from whatever argument can be read. -/
import Derived.Test.YtbgdgmilcojlbaaForm
import Derived.Test.YtbgdgmilcojlbaaOpenMix
namespace Go.Bw
set_option linter.unusedVariables false
set_option linter.unusedSimpArgs false
open Go.Proofs Go.RowKit

set_option maxRecDepth 20000 in
theorem law_BasisForm {H : Type} {enc : TypeId × Value → H} {W : World} {base : Nat} {v : Value} {d : DataW H} {p : List MemPlace}
    (hv : Value.okWide Try.prog W .any base 25 v) (h : DataW.Trod enc Try.prog W 0 (fun _ => true) true 25 v d p) :
    Calls Try.prog 5 #[v] W fun e w' => e = .returned (.bool true) ∧ Below W.heap.size W w' := by
  obtain ⟨G, S, vs, vc, vo, sy, co, od, rfl, hsy, hco, hod, l1, l2, l3, _⟩ := open_mix hv h
  obtain ⟨b, c, rfl⟩ := hod.form
  exact (form_ok G S _ _ _ sy co _ W (heapOf.sub W) hsy hco l1 l2 rfl).mono fun e w' h => h.law fun _ _ h => h

end Go.Bw
