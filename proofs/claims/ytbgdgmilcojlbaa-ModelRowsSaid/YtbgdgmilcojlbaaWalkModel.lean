/- ModelRows, from whatever arguments can be read. -/
import Derived.Test.YtbgdgmilcojlbaaMod12
import Derived.Test.YtbgdgmilcojlbaaLaw
namespace Go.Bw
set_option linter.unusedVariables false
set_option linter.unusedSimpArgs false
open Go.Proofs Go.RowKit Go.ChangeShapes

theorem okWide_cell {P : Program} {w : World} {r : Go.Reach} {base : Nat} {t : TypeId} {k : IntKind} {v : Value} (ht : P.underlying t = some (.int k)) (h : Value.okWide P w r base t v) : v.cells = #[v] := by
  simp only [Value.okWide, ht, Cell.okWide] at h
  cases v <;> simp_all [Cell.ok, Value.cells]
theorem read_byteV {H : Type} {enc : TypeId × Value → H} {P : Program} {W : World} {base : Nat} {t : TypeId} {v : Value} {d : DataW H} {p : List MemPlace} (ht : P.underlying t = some (.int .u8)) (hv : Value.okWide P W .any base t v)
    (h : DataW.Trod enc P W 0 (fun _ => true) true t v d p) : ∃ b : UInt8, v = B b := by
  obtain ⟨fuel, h⟩ := h
  rw [okWide_cell ht hv] at h
  obtain ⟨b, e⟩ := read_byte ht h
  exact ⟨b, by simpa using e⟩
theorem read_bytesV {H : Type} {enc : TypeId × Value → H} {P : Program} {W : World} {base : Nat} {t e : TypeId} {v : Value} {d : DataW H} {p : List MemPlace} (ht : P.underlying t = some (.slice e)) (he : P.underlying e = some (.int .u8)) (hc : P.cellsOf e = 1) (hv : Value.okWide P W .any base t v)
    (h : DataW.Trod enc P W 0 (fun _ => true) true t v d p) : ∃ l : List UInt8, Bytes (heapOf W) v l ∧ l.length ≤ 9223372036854775807 := by
  obtain ⟨a, len, cap, rfl⟩ := Go.WideShapes.okWide_slice ht hv
  obtain ⟨fuel, h⟩ := h
  obtain ⟨vb, bl, e, hbl, hl⟩ := read_bytes ht he hc h
  have e2 : Value.slice a len cap = vb := by simpa [Value.cells] using e
  exact ⟨bl, by rw [e2]; exact hbl, hl⟩
theorem read_byte2 {H : Type} {enc : TypeId × Value → H} {P : Program} {W : World} {base : Nat} {t e : TypeId} {v : Value} {d : DataW H} {p : List MemPlace} (ht : P.underlying t = some (.array 2 e)) (he : P.underlying e = some (.int .u8)) (hc : P.cellsOf e = 1) (hct : P.cellsOf t = 2) (hv : Value.okWide P W .any base t v)
    (h : DataW.Trod enc P W 0 (fun _ => true) true t v d p) : ∃ a b : UInt8, v = .agg #[B a, B b] := by
  unfold Value.okWide at hv
  rw [ht] at hv
  obtain ⟨cs, rfl, hsz, _⟩ := hv
  obtain ⟨fuel, h⟩ := h
  obtain ⟨xs, m, _, _, hl, hxl, hf⟩ := DataW.trod_array ht h
  rw [hct] at hsz
  obtain ⟨l⟩ := cs
  match l, hsz with
  | [c0, c1], _ =>
    have h0 := hf 0 (by omega)
    have h1 := hf 1 (by omega)
    rw [hc] at h0 h1
    match xs, hxl with
    | [x0, x1], _ =>
      obtain ⟨a, e0⟩ := read_byte he h0
      obtain ⟨b, e1⟩ := read_byte he h1
      have e0' : c0 = B a := by simpa [Value.cells] using e0
      have e1' : c1 = B b := by simpa [Value.cells] using e1
      exact ⟨a, b, by rw [e0', e1']⟩

set_option maxRecDepth 20000 in
theorem law_ModelRows {H : Type} {enc : TypeId × Value → H} {W : World} {base : Nat} {v0 v1 v2 v3 v4 : Value} {d0 d1 d2 d3 d4 : DataW H} {p0 p1 p2 p3 p4 : List MemPlace}
    (hv0 : Value.okWide Try.prog W .any base 23 v0) (h0 : DataW.Trod enc Try.prog W 0 (fun _ => true) true 23 v0 d0 p0)
    (hv1 : Value.okWide Try.prog W .any base 114 v1) (h1 : DataW.Trod enc Try.prog W 0 (fun _ => true) true 114 v1 d1 p1)
    (hv2 : Value.okWide Try.prog W .any base 23 v2) (h2 : DataW.Trod enc Try.prog W 0 (fun _ => true) true 23 v2 d2 p2)
    (hv3 : Value.okWide Try.prog W .any base 23 v3) (h3 : DataW.Trod enc Try.prog W 0 (fun _ => true) true 23 v3 d3 p3)
    (hv4 : Value.okWide Try.prog W .any base 5 v4) (h4 : DataW.Trod enc Try.prog W 0 (fun _ => true) true 5 v4 d4 p4) :
    Calls Try.prog 11 #[v0, v1, v2, v3, v4] W fun e w' => e = .returned (.bool true) ∧ Below W.heap.size W w' := by
  have c1 : Try.prog.cellsOf 5 = 1 := by kernel_rfl
  obtain ⟨b, hb, lb⟩ := read_bytesV T23.und T5.und c1 hv0 h0
  obtain ⟨a, c, rfl⟩ := read_byte2 T114.und T5.und c1 (by kernel_rfl) hv1 h1
  obtain ⟨x, hx, lx⟩ := read_bytesV T23.und T5.und c1 hv2 h2
  obtain ⟨y, hy, ly⟩ := read_bytesV T23.und T5.und c1 hv3 h3
  obtain ⟨g, rfl⟩ := read_byteV T5.und hv4 h4
  exact (mrows_ok a c g _ _ _ b x y _ W (heapOf.sub W) hb hx hy lb).mono fun e w' h => h.law fun _ _ h => h
end Go.Bw
