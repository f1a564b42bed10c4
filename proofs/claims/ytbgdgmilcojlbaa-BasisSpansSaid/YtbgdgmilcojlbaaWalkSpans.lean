/- BasisSpans, from whatever arguments can be read. -/
import Derived.Test.YtbgdgmilcojlbaaSpans
import Derived.Test.YtbgdgmilcojlbaaOpenMix
namespace Go.Bw
set_option linter.unusedVariables false
set_option linter.unusedSimpArgs false
open Go.Proofs Go.RowKit Go.ChangeShapes

set_option maxRecDepth 20000 in
theorem law_BasisSpans {H : Type} {enc : TypeId × Value → H} {W : World} {base : Nat} {v v1 : Value} {d d1 : DataW H} {p p1 : List MemPlace}
    (hv : Value.okWide Try.prog W .any base 25 v) (h : DataW.Trod enc Try.prog W 0 (fun _ => true) true 25 v d p)
    (hv1 : Value.okWide Try.prog W .any base 23 v1) (h1 : DataW.Trod enc Try.prog W 0 (fun _ => true) true 23 v1 d1 p1) :
    Calls Try.prog 12 #[v, v1] W fun e w' => e = .returned (.bool true) ∧ Below W.heap.size W w' := by
  obtain ⟨G, S, vs, vc, vo, sy, co, od, rfl, hsy, hco, hod, l1, l2, l3, _⟩ := open_mix hv h
  obtain ⟨a, len, cap, rfl⟩ := Go.WideShapes.okWide_slice T23.und hv1
  obtain ⟨fuel, h1⟩ := h1
  obtain ⟨vb, bl, e, hbl, _⟩ := read_bytes T23.und T5.und (by kernel_rfl) h1
  have e2 : Value.slice a len cap = vb := by simpa [Value.cells] using e
  rw [e2]
  obtain ⟨bo, co', rfl⟩ := hod.form
  exact (spans_ok G S _ _ _ _ sy co bl _ W (heapOf.sub W) hsy hco hbl l1 l2 rfl).mono fun e w' h => h.law fun _ _ h => h

end Go.Bw
