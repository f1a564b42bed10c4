/- Arguments read: bytes, two bytes, slices of bytes, lists of these. -/
import Derived.Test.YtdibepkfgemddaaGreatLaw
namespace Go.Bw
set_option linter.unusedVariables false
set_option linter.unusedSimpArgs false
open Go.RowKit Go.ChangeShapes

theorem okWide_cell {P : Program} {w : World} {r : Go.Reach} {base : Nat} {t : TypeId} {k : IntKind} {v : Value} (ht : P.underlying t = some (.int k)) (h : Value.okWide P w r base t v) : v.cells = #[v] := by
  simp only [Value.okWide, ht, Cell.okWide] at h
  cases v <;> simp_all [Cell.ok, Value.cells]
theorem read_byteV {H : Type} {enc : TypeId × Value → H} {P : Program} {W : World} {base : Nat} {t : TypeId} {v : Value} {d : DataW H} {p : List MemPlace} (ht : P.underlying t = some (.int .u8)) (hv : Value.okWide P W .any base t v)
    (h : DataW.Trod enc P W 0 (fun _ => true) true t v d p) : ∃ b : UInt8, v = B b := by
  obtain ⟨fuel, h⟩ := h
  rw [okWide_cell ht hv] at h
  obtain ⟨b, e⟩ := read_byte ht h
  exact ⟨b, by simpa using e⟩
theorem read_bytesV {H : Type} {enc : TypeId × Value → H} {P : Program} {W : World} {base : Nat} {t e : TypeId} {v : Value} {d : DataW H} {p : List MemPlace} (ht : P.underlying t = some (.slice e)) (he : P.underlying e = some (.int .u8)) (hc : P.cellsOf e = 1) (hv : Value.okWide P W .any base t v)
    (h : DataW.Trod enc P W 0 (fun _ => true) true t v d p) : ∃ l : List UInt8, Bytes (heapOf W) v l ∧ l.length ≤ 9223372036854775807 := by
  obtain ⟨a, len, cap, rfl⟩ := Go.WideShapes.okWide_slice ht hv
  obtain ⟨fuel, h⟩ := h
  obtain ⟨vb, bl, e, hbl, hl⟩ := read_bytes ht he hc h
  have e2 : Value.slice a len cap = vb := by simpa [Value.cells] using e
  exact ⟨bl, by rw [e2]; exact hbl, hl⟩
theorem read_byte2 {H : Type} {enc : TypeId × Value → H} {P : Program} {W : World} {base : Nat} {t e : TypeId} {v : Value} {d : DataW H} {p : List MemPlace} (ht : P.underlying t = some (.array 2 e)) (he : P.underlying e = some (.int .u8)) (hc : P.cellsOf e = 1) (hct : P.cellsOf t = 2) (hv : Value.okWide P W .any base t v)
    (h : DataW.Trod enc P W 0 (fun _ => true) true t v d p) : ∃ a b : UInt8, v = .agg #[B a, B b] := by
  unfold Value.okWide at hv
  rw [ht] at hv
  obtain ⟨cs, rfl, hsz, _⟩ := hv
  obtain ⟨fuel, h⟩ := h
  obtain ⟨xs, m, _, _, hl, hxl, hf⟩ := DataW.trod_array ht h
  rw [hct] at hsz
  obtain ⟨l⟩ := cs
  match l, hsz with
  | [c0, c1], _ =>
    have h0 := hf 0 (by omega)
    have h1 := hf 1 (by omega)
    rw [hc] at h0 h1
    match xs, hxl with
    | [x0, x1], _ =>
      obtain ⟨a, e0⟩ := read_byte he h0
      obtain ⟨b, e1⟩ := read_byte he h1
      have e0' : c0 = B a := by simpa [Value.cells] using e0
      have e1' : c1 = B b := by simpa [Value.cells] using e1
      exact ⟨a, b, by rw [e0', e1']⟩
theorem read_bytesLV {H : Type} {enc : TypeId × Value → H} {P : Program} {W : World} {base : Nat} {t e e2 : TypeId} {v : Value} {d : DataW H} {p : List MemPlace} (ht : P.underlying t = some (.slice e)) (he : P.underlying e = some (.slice e2)) (he2 : P.underlying e2 = some (.int .u8)) (hc : P.cellsOf e = 1) (hc2 : P.cellsOf e2 = 1) (hv : Value.okWide P W .any base t v)
    (h : DataW.Trod enc P W 0 (fun _ => true) true t v d p) : ∃ l : List (List UInt8), BytesL (heapOf W) v l ∧ l.length ≤ 9223372036854775807 ∧ ∀ r ∈ l, r.length ≤ 9223372036854775807 := by
  obtain ⟨a, len, cap, rfl⟩ := Go.WideShapes.okWide_slice ht hv
  obtain ⟨fuel, h⟩ := h
  obtain ⟨vb, bl, e9, hbl, hl, hl2⟩ := read_bytesL ht he he2 hc hc2 h
  have e2 : Value.slice a len cap = vb := by simpa [Value.cells] using e9
  exact ⟨bl, by rw [e2]; exact hbl, hl, hl2⟩
end Go.Bw
