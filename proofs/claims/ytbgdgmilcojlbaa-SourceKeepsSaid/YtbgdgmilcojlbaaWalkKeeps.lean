/- SourceKeeps, from whatever arguments can be read. -/
import Derived.Test.YtbgdgmilcojlbaaKeeps
namespace Go.Bw
set_option linter.unusedVariables false
set_option linter.unusedSimpArgs false
open Go.Proofs Go.RowKit Go.ChangeShapes Go.Deep

instance : Inhabited ActD := ⟨⟨0, [], 0, 0⟩⟩
theorem read_u64 {H : Type} {enc : TypeId × Value → H} {P : Program} {w : World} {base : Nat} {spare : Nat → Bool} {held : Bool} {t : TypeId} {fuel : Nat} {cs : List Value} {x : DataW H × List MemPlace} (ht : P.underlying t = some (.int .u64)) (h : DataW.trod enc P w base spare held fuel t cs = some x) : ∃ n : Nat, cs = [.int .u64 (n : Int)] ∧ n < 18446744073709551616 := by
  obtain ⟨n, rfl, _, hw⟩ := DataW.trod_int ht h
  have hb : 0 ≤ n ∧ n ≤ 18446744073709551615 := by simpa [Lit.wf, IntKind.min, IntKind.max, IntKind.bits, IntKind.signed] using hw
  obtain ⟨k, rfl⟩ := Int.eq_ofNat_of_zero_le hb.1
  exact ⟨k, rfl, by omega⟩
theorem read_i64 {H : Type} {enc : TypeId × Value → H} {P : Program} {w : World} {base : Nat} {spare : Nat → Bool} {held : Bool} {t : TypeId} {fuel : Nat} {cs : List Value} {x : DataW H × List MemPlace} (ht : P.underlying t = some (.int .i64)) (h : DataW.trod enc P w base spare held fuel t cs = some x) : ∃ n : Int, cs = [.int .i64 n] := by
  obtain ⟨n, rfl, _, _⟩ := DataW.trod_int ht h
  exact ⟨n, rfl⟩

set_option maxRecDepth 20000 in
theorem read_act {H : Type} {enc : TypeId × Value → H} {W : World} {spare : Nat → Bool} {held : Bool} {fuel base : Nat} {cs : List Value} {x : DataW H × List MemPlace} (h : DataW.trod enc Try.prog W base spare held fuel 102 cs = some x) :
    ∃ (a : ActD) (v : Value), cs = [.int .i64 a.what, v, .int .u64 (a.n : Int), .int .u64 (a.sent : Int)] ∧ Bytes (heapOf W) v a.b ∧ a.b.length ≤ 9223372036854775807 ∧ a.n < 18446744073709551616 := by
  obtain ⟨hsz, n, hf⟩ := read_fields T102.und h
  have c1 : Try.prog.cellsOf 5 = 1 := by kernel_rfl
  have c2 : Try.prog.cellsOf 23 = 1 := by kernel_rfl
  have c3 : Try.prog.cellsOf 3 = 1 := by kernel_rfl
  have c5 : Try.prog.cellsOf 58 = 1 := by kernel_rfl
  have c4 : Try.prog.cellsOf 102 = 4 := by kernel_rfl
  rw [c4] at hsz
  match cs, hsz with
  | [a0, a1, a2, a3], _ =>
    obtain ⟨y0, h0⟩ := read_field 3 [a0] (hf 0 _ rfl) rfl c3 rfl
    obtain ⟨y1, h1⟩ := read_field 23 [a1] (hf 1 _ rfl) rfl c2 rfl
    obtain ⟨y2, h2⟩ := read_field 58 [a2] (hf 2 _ rfl) rfl c5 rfl
    obtain ⟨y3, h3⟩ := read_field 58 [a3] (hf 3 _ rfl) rfl c5 rfl
    obtain ⟨wh, e0⟩ := read_i64 T3.und h0
    obtain ⟨v1, l, e1, hl, hll⟩ := read_bytes T23.und T5.und c1 h1
    obtain ⟨nn, e2, hn⟩ := read_u64 T58.und h2
    obtain ⟨se, e3, _⟩ := read_u64 T58.und h3
    simp at e0 e1 e2 e3
    subst e0 e1 e2 e3
    exact ⟨⟨wh, l, nn, se⟩, _, rfl, hl, hll, hn⟩

set_option maxRecDepth 20000 in
theorem law_SourceKeeps {H : Type} {enc : TypeId × Value → H} {W : World} {base : Nat} {v v1 v2 : Value} {d d1 d2 : DataW H} {p p1 p2 : List MemPlace}
    (hv : Value.okWide Try.prog W .any base 5 v) (h : DataW.Trod enc Try.prog W 0 (fun _ => true) true 5 v d p)
    (hv1 : Value.okWide Try.prog W .any base 5 v1) (h1 : DataW.Trod enc Try.prog W 0 (fun _ => true) true 5 v1 d1 p1)
    (hv2 : Value.okWide Try.prog W .any base 94 v2) (h2 : DataW.Trod enc Try.prog W 0 (fun _ => true) true 94 v2 d2 p2) :
    Calls Try.prog 13 #[v, v1, v2] W fun e w' => e = .returned (.bool true) ∧ Below W.heap.size W w' := by
  obtain ⟨x, rfl⟩ := Go.WideShapes.okWide_int T5.und hv
  obtain ⟨x1, rfl⟩ := Go.WideShapes.okWide_int T5.und hv1
  obtain ⟨a, len, cap, rfl⟩ := Go.WideShapes.okWide_slice T94.und hv2
  obtain ⟨f0, h⟩ := h
  obtain ⟨f1, h1⟩ := h1
  obtain ⟨f2, h2⟩ := h2
  obtain ⟨G, e0⟩ := read_byte T5.und h
  obtain ⟨S, e1⟩ := read_byte T5.und h1
  have c4 : Try.prog.cellsOf 102 = 4 := by kernel_rfl
  obtain ⟨vl, ln, C, n, e2, hln, hC, hsl⟩ := read_slice T94.und c4 (by omega) h2
  have e0' : Value.int .u8 x = B G := by simpa [Value.cells] using e0
  have e1' : Value.int .u8 x1 = B S := by simpa [Value.cells] using e1
  have e2' : Value.slice a len cap = vl := by simpa [Value.cells] using e2
  obtain ⟨g, hg⟩ := choose_lt (α := ActD × Value) (p := fun i q => C i = [.int .i64 q.1.what, q.2, .int .u64 (q.1.n : Int), .int .u64 (q.1.sent : Int)] ∧ Bytes (heapOf W) q.2 q.1.b ∧ q.1.b.length ≤ 9223372036854775807 ∧ q.1.n < 18446744073709551616) (fun i hi => by
    obtain ⟨_, y, hy⟩ := hC i hi
    obtain ⟨a, v, h1, h2⟩ := read_act hy
    exact ⟨(a, v), h1, h2⟩)
  rw [e0', e1', e2']
  refine (skeeps_ok G S vl ln (fun i => (g i).1) (fun i => (g i).2) _ W (heapOf.sub W) ⟨?_, fun i hi => (hg i hi).2⟩ hln).mono fun e w' h => h.law fun _ _ h => h
  have : (List.range ln).flatMap C = (List.range ln).flatMap fun i => [.int .i64 (g i).1.what, (g i).2, .int .u64 ((g i).1.n : Int), .int .u64 ((g i).1.sent : Int)] := by
    rw [List.flatMap_def, List.flatMap_def]
    congr 1
    exact List.map_congr_left fun i hi => (hg i (List.mem_range.1 hi)).1
  rw [← this]
  exact hsl

end Go.Bw
