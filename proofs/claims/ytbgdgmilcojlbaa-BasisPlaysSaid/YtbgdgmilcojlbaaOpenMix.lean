/- The law's own argument: symbols, rows of coefficients, an order, as lists. -/
import Derived.Test.YtbgdgmilcojlbaaTypes
import Derived.Test.YtbgdgmilcojlbaaLaw
namespace Go.Bw
set_option linter.unusedVariables false
set_option linter.unusedSimpArgs false
open Go.Proofs Go.RowKit

set_option maxRecDepth 20000 in
theorem open_mix {H : Type} {enc : TypeId × Value → H} {W : World} {base : Nat} {v : Value} {d : DataW H} {p : List MemPlace}
    (hv : Value.okWide Try.prog W .any base 25 v) (h : DataW.Trod enc Try.prog W 0 (fun _ => true) true 25 v d p) :
    ∃ (G S : UInt8) (vs vc vo : Value) (sy co : List (List UInt8)) (od : List UInt8), v = .agg #[B G, B S, vs, vc, vo] ∧ BytesL (heapOf W) vs sy ∧ BytesL (heapOf W) vc co ∧ Bytes (heapOf W) vo od ∧
      sy.length ≤ 9223372036854775807 ∧ co.length ≤ 9223372036854775807 ∧ od.length ≤ 9223372036854775807 ∧ (∀ l ∈ co, l.length ≤ 9223372036854775807) := by
  obtain ⟨cs, rfl, hsz⟩ := read_struct T25.und hv
  obtain ⟨fuel, h⟩ := h
  obtain ⟨_, n, hf⟩ := read_fields T25.und h
  have c1 : Try.prog.cellsOf 5 = 1 := by kernel_rfl
  have c2 : Try.prog.cellsOf 23 = 1 := by kernel_rfl
  have c3 : Try.prog.cellsOf 22 = 1 := by kernel_rfl
  have c4 : Try.prog.cellsOf 25 = 5 := by kernel_rfl
  rw [c4] at hsz
  obtain ⟨l⟩ := cs
  match l, hsz with
  | [a0, a1, a2, a3, a4], _ =>
    obtain ⟨y0, h0⟩ := read_field 5 [a0] (hf 0 _ rfl) rfl c1 rfl
    obtain ⟨y1, h1⟩ := read_field 5 [a1] (hf 1 _ rfl) rfl c1 rfl
    obtain ⟨y2, h2⟩ := read_field 22 [a2] (hf 2 _ rfl) rfl c3 rfl
    obtain ⟨y3, h3⟩ := read_field 22 [a3] (hf 3 _ rfl) rfl c3 rfl
    obtain ⟨y4, h4⟩ := read_field 23 [a4] (hf 4 _ rfl) rfl c2 rfl
    obtain ⟨G, e0⟩ := read_byte T5.und h0
    obtain ⟨S, e1⟩ := read_byte T5.und h1
    obtain ⟨v2, sy, e2, hsy, l2, _⟩ := read_bytesL T22.und T23.und T5.und c2 c1 h2
    obtain ⟨v3, co, e3, hco, l3, l3'⟩ := read_bytesL T22.und T23.und T5.und c2 c1 h3
    obtain ⟨v4, od, e4, hod, l4⟩ := read_bytes T23.und T5.und c1 h4
    simp at e0 e1 e2 e3 e4
    subst e0 e1 e2 e3 e4
    exact ⟨G, S, _, _, _, sy, co, od, rfl, hsy, hco, hod, l2, l3, l4, l3'⟩

end Go.Bw
