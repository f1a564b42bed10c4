/- BasisPlays, from whatever arguments can be read. -/
import Derived.Test.YtbgdgmilcojlbaaPlays
import Derived.Test.YtbgdgmilcojlbaaOpenMix
namespace Go.Bw
set_option linter.unusedVariables false
set_option linter.unusedSimpArgs false
open Go.Proofs Go.RowKit Go.ChangeShapes Go.Deep

instance : Inhabited PActD := ⟨⟨0, ([], []), []⟩⟩
theorem read_int {H : Type} {enc : TypeId × Value → H} {P : Program} {w : World} {base : Nat} {spare : Nat → Bool} {held : Bool} {t : TypeId} {fuel : Nat} {cs : List Value} {x : DataW H × List MemPlace} (ht : P.underlying t = some (.int .i64)) (h : DataW.trod enc P w base spare held fuel t cs = some x) : ∃ n : Int, cs = [.int .i64 n] := by
  obtain ⟨n, rfl, _, _⟩ := DataW.trod_int ht h
  exact ⟨n, rfl⟩

set_option maxRecDepth 20000 in
theorem read_pact {H : Type} {enc : TypeId × Value → H} {W : World} {spare : Nat → Bool} {held : Bool} {fuel base : Nat} {cs : List Value} {x : DataW H × List MemPlace} (h : DataW.trod enc Try.prog W base spare held fuel 74 cs = some x) :
    ∃ (a : PActD) (v : Value × Value × Value), cs = [.int .i64 a.what, v.1, v.2.1, v.2.2] ∧ Bytes (heapOf W) v.1 a.row.1 ∧ Bytes (heapOf W) v.2.1 a.row.2 ∧ Bytes (heapOf W) v.2.2 a.b ∧ a.row.1.length ≤ 9223372036854775807 ∧ a.row.2.length ≤ 9223372036854775807 ∧ a.b.length ≤ 9223372036854775807 := by
  obtain ⟨hsz, n, hf⟩ := read_fields T74.und h
  have c1 : Try.prog.cellsOf 5 = 1 := by kernel_rfl
  have c2 : Try.prog.cellsOf 23 = 1 := by kernel_rfl
  have c3 : Try.prog.cellsOf 3 = 1 := by kernel_rfl
  have c5 : Try.prog.cellsOf 35 = 2 := by kernel_rfl
  have c4 : Try.prog.cellsOf 74 = 4 := by kernel_rfl
  rw [c4] at hsz
  match cs, hsz with
  | [a0, a1, a2, a3], _ =>
    obtain ⟨y0, h0⟩ := read_field 3 [a0] (hf 0 _ rfl) rfl c3 rfl
    obtain ⟨y1, h1⟩ := read_field 35 [a1, a2] (hf 1 _ rfl) rfl c5 rfl
    obtain ⟨y3, h3⟩ := read_field 23 [a3] (hf 2 _ rfl) rfl c2 rfl
    obtain ⟨hsz2, n2, hf2⟩ := read_fields T35.und h1
    obtain ⟨z1, k1⟩ := read_field 23 [a1] (hf2 0 _ rfl) rfl c2 rfl
    obtain ⟨z2, k2⟩ := read_field 23 [a2] (hf2 1 _ rfl) rfl c2 rfl
    obtain ⟨wh, e0⟩ := read_int T3.und h0
    obtain ⟨v1, l1, e1, hl1, hll1⟩ := read_bytes T23.und T5.und c1 k1
    obtain ⟨v2, l2, e2, hl2, hll2⟩ := read_bytes T23.und T5.und c1 k2
    obtain ⟨v3, l3, e3, hl3, hll3⟩ := read_bytes T23.und T5.und c1 h3
    simp at e0 e1 e2 e3
    subst e0 e1 e2 e3
    exact ⟨⟨wh, (l1, l2), l3⟩, (_, _, _), rfl, hl1, hl2, hl3, hll1, hll2, hll3⟩

set_option maxRecDepth 20000 in
theorem law_BasisPlays {H : Type} {enc : TypeId × Value → H} {W : World} {base : Nat} {v v1 v2 : Value} {d d1 d2 : DataW H} {p p1 p2 : List MemPlace}
    (hv : Value.okWide Try.prog W .any base 3 v) (h : DataW.Trod enc Try.prog W 0 (fun _ => true) true 3 v d p)
    (hv1 : Value.okWide Try.prog W .any base 3 v1) (h1 : DataW.Trod enc Try.prog W 0 (fun _ => true) true 3 v1 d1 p1)
    (hv2 : Value.okWide Try.prog W .any base 69 v2) (h2 : DataW.Trod enc Try.prog W 0 (fun _ => true) true 69 v2 d2 p2) :
    Calls Try.prog 7 #[v, v1, v2] W fun e w' => e = .returned (.bool true) ∧ Below W.heap.size W w' := by
  obtain ⟨x, rfl⟩ := Go.WideShapes.okWide_int T3.und hv
  obtain ⟨x1, rfl⟩ := Go.WideShapes.okWide_int T3.und hv1
  obtain ⟨a, len, cap, rfl⟩ := Go.WideShapes.okWide_slice T69.und hv2
  obtain ⟨f2, h2⟩ := h2
  have c4 : Try.prog.cellsOf 74 = 4 := by kernel_rfl
  obtain ⟨vl, ln, C, n, e2, hln, hC, hsl⟩ := read_slice T69.und c4 (by omega) h2
  have e2' : Value.slice a len cap = vl := by simpa [Value.cells] using e2
  obtain ⟨g, hg⟩ := choose_lt (α := PActD × Value × Value × Value) (p := fun i q => C i = [.int .i64 q.1.what, q.2.1, q.2.2.1, q.2.2.2] ∧ Bytes (heapOf W) q.2.1 q.1.row.1 ∧ Bytes (heapOf W) q.2.2.1 q.1.row.2 ∧ Bytes (heapOf W) q.2.2.2 q.1.b ∧ q.1.row.1.length ≤ 9223372036854775807 ∧ q.1.row.2.length ≤ 9223372036854775807 ∧ q.1.b.length ≤ 9223372036854775807) (fun i hi => by
    obtain ⟨_, y, hy⟩ := hC i hi
    obtain ⟨a, v, h1, h2⟩ := read_pact hy
    exact ⟨(a, v), h1, h2⟩)
  rw [e2']
  refine (plays_ok x x1 vl ln (fun i => (g i).1) (fun i => (g i).2) _ W (heapOf.sub W) ⟨?_, fun i hi => (hg i hi).2⟩ hln).mono fun e w' h => h.law fun _ _ h => h
  have : (List.range ln).flatMap C = (List.range ln).flatMap fun i => [.int .i64 (g i).1.what, (g i).2.1, (g i).2.2.1, (g i).2.2.2] := by
    rw [List.flatMap_def, List.flatMap_def]
    congr 1
    exact List.map_congr_left fun i hi => (hg i (List.mem_range.1 hi)).1
  rw [← this]
  exact hsl

end Go.Bw
