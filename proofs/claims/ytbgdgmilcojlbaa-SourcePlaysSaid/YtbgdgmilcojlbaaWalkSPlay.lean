/- SourcePlays, from whatever arguments can be read. -/
import Derived.Test.YtbgdgmilcojlbaaSPlay
namespace Go.Bw
set_option linter.unusedVariables false
set_option linter.unusedSimpArgs false
open Go.Proofs Go.RowKit Go.ChangeShapes Go.Deep

instance : Inhabited ActD := ⟨⟨0, [], 0, 0⟩⟩
theorem read_u64 {H : Type} {enc : TypeId × Value → H} {P : Program} {w : World} {base : Nat} {spare : Nat → Bool} {held : Bool} {t : TypeId} {fuel : Nat} {cs : List Value} {x : DataW H × List MemPlace} (ht : P.underlying t = some (.int .u64)) (h : DataW.trod enc P w base spare held fuel t cs = some x) : ∃ n : Nat, cs = [.int .u64 (n : Int)] ∧ n < 18446744073709551616 := by
  obtain ⟨n, rfl, _, hw⟩ := DataW.trod_int ht h
  have hb : 0 ≤ n ∧ n ≤ 18446744073709551615 := by simpa [Lit.wf, IntKind.min, IntKind.max, IntKind.bits, IntKind.signed] using hw
  obtain ⟨k, rfl⟩ := Int.eq_ofNat_of_zero_le hb.1
  exact ⟨k, rfl, by omega⟩
theorem read_i64 {H : Type} {enc : TypeId × Value → H} {P : Program} {w : World} {base : Nat} {spare : Nat → Bool} {held : Bool} {t : TypeId} {fuel : Nat} {cs : List Value} {x : DataW H × List MemPlace} (ht : P.underlying t = some (.int .i64)) (h : DataW.trod enc P w base spare held fuel t cs = some x) : ∃ n : Int, cs = [.int .i64 n] := by
  obtain ⟨n, rfl, _, _⟩ := DataW.trod_int ht h
  exact ⟨n, rfl⟩

theorem read_bool {H : Type} {enc : TypeId × Value → H} {P : Program} {w : World} {base : Nat} {spare : Nat → Bool} {held : Bool} {t : TypeId} {fuel : Nat} {cs : List Value} {x : DataW H × List MemPlace} (ht : P.underlying t = some .bool) (h : DataW.trod enc P w base spare held fuel t cs = some x) : ∃ b : Bool, cs = [.bool b] := by
  obtain ⟨b, rfl, _⟩ := DataW.trod_bool ht h
  exact ⟨b, rfl⟩
theorem read_ints {H : Type} {enc : TypeId × Value → H} {P : Program} {w : World} {base : Nat} {spare : Nat → Bool} {held : Bool} {t e : TypeId} {fuel : Nat} {cs : List Value} {x : DataW H × List MemPlace} (ht : P.underlying t = some (.slice e)) (he : P.underlying e = some (.int .i64)) (hc : P.cellsOf e = 1)
    (h : DataW.trod enc P w base spare held fuel t cs = some x) : ∃ v l, cs = [v] ∧ Ints (heapOf w) v l ∧ l.length ≤ 9223372036854775807 := by
  obtain ⟨v, len, C, n, rfl, hl, hC, hsl⟩ := read_slice ht hc (by omega) h
  obtain ⟨g, hg⟩ := choose_lt (α := Int) (p := fun i b => C i = [.int .i64 b]) (fun i hi => by
    obtain ⟨_, y, hy⟩ := hC i hi
    exact read_i64 he hy)
  refine ⟨v, (List.range len).map g, rfl, ?_, by simpa using hl⟩
  rw [flat_one len C (fun i => .int .i64 i) g hg] at hsl
  unfold Ints
  simpa using hsl

set_option maxRecDepth 20000 in
theorem read_begin {H : Type} {enc : TypeId × Value → H} {W : World} {spare : Nat → Bool} {held : Bool} {fuel base : Nat} {cs : List Value} {x : DataW H × List MemPlace} (h : DataW.trod enc Try.prog W base spare held fuel 93 cs = some x) :
    ∃ (g s : Int) (v1 v2 : Value) (bb : List UInt8) (cu : List Int) (cl rs : Bool), cs = [.int .i64 g, .int .i64 s, v1, v2, .bool cl, .bool rs] ∧ Bytes (heapOf W) v1 bb ∧ Ints (heapOf W) v2 cu ∧ bb.length ≤ 9223372036854775807 ∧ cu.length ≤ 9223372036854775807 := by
  obtain ⟨hsz, n, hf⟩ := read_fields T93.und h
  have c1 : Try.prog.cellsOf 5 = 1 := by kernel_rfl
  have c2 : Try.prog.cellsOf 23 = 1 := by kernel_rfl
  have c3 : Try.prog.cellsOf 3 = 1 := by kernel_rfl
  have c6 : Try.prog.cellsOf 87 = 1 := by kernel_rfl
  have c7 : Try.prog.cellsOf 4 = 1 := by kernel_rfl
  have c5 : Try.prog.cellsOf 91 = 2 := by kernel_rfl
  have c4 : Try.prog.cellsOf 93 = 6 := by kernel_rfl
  rw [c4] at hsz
  match cs, hsz with
  | [a0, a1, a2, a3, a4, a5], _ =>
    obtain ⟨y0, h0⟩ := read_field 3 [a0] (hf 0 _ rfl) rfl c3 rfl
    obtain ⟨y1, h1⟩ := read_field 3 [a1] (hf 1 _ rfl) rfl c3 rfl
    obtain ⟨y2, h2⟩ := read_field 91 [a2, a3] (hf 2 _ rfl) rfl c5 rfl
    obtain ⟨y3, h3⟩ := read_field 4 [a4] (hf 3 _ rfl) rfl c7 rfl
    obtain ⟨y4, h4⟩ := read_field 4 [a5] (hf 4 _ rfl) rfl c7 rfl
    obtain ⟨hsz2, n2, hf2⟩ := read_fields T91.und h2
    obtain ⟨z1, k1⟩ := read_field 23 [a2] (hf2 0 _ rfl) rfl c2 rfl
    obtain ⟨z2, k2⟩ := read_field 87 [a3] (hf2 1 _ rfl) rfl c6 rfl
    obtain ⟨g, e0⟩ := read_i64 T3.und h0
    obtain ⟨s, e1⟩ := read_i64 T3.und h1
    obtain ⟨v1, l1, e2, hl1, hll1⟩ := read_bytes T23.und T5.und c1 k1
    obtain ⟨v2, l2, e3, hl2, hll2⟩ := read_ints T87.und T3.und c3 k2
    obtain ⟨cl, e4⟩ := read_bool T4.und h3
    obtain ⟨rs, e5⟩ := read_bool T4.und h4
    simp at e0 e1 e2 e3 e4 e5
    subst e0 e1 e2 e3 e4 e5
    exact ⟨g, s, _, _, l1, l2, cl, rs, rfl, hl1, hl2, hll1, hll2⟩

set_option maxRecDepth 20000 in
theorem read_act2 {H : Type} {enc : TypeId × Value → H} {W : World} {spare : Nat → Bool} {held : Bool} {fuel base : Nat} {cs : List Value} {x : DataW H × List MemPlace} (h : DataW.trod enc Try.prog W base spare held fuel 102 cs = some x) :
    ∃ (a : ActD) (v : Value), cs = [.int .i64 a.what, v, .int .u64 (a.n : Int), .int .u64 (a.sent : Int)] ∧ Bytes (heapOf W) v a.b ∧ a.b.length ≤ 9223372036854775807 ∧ a.n < 18446744073709551616 ∧ a.sent < 18446744073709551616 := by
  obtain ⟨hsz, n, hf⟩ := read_fields T102.und h
  have c1 : Try.prog.cellsOf 5 = 1 := by kernel_rfl
  have c2 : Try.prog.cellsOf 23 = 1 := by kernel_rfl
  have c3 : Try.prog.cellsOf 3 = 1 := by kernel_rfl
  have c5 : Try.prog.cellsOf 58 = 1 := by kernel_rfl
  have c4 : Try.prog.cellsOf 102 = 4 := by kernel_rfl
  rw [c4] at hsz
  match cs, hsz with
  | [a0, a1, a2, a3], _ =>
    obtain ⟨y0, h0⟩ := read_field 3 [a0] (hf 0 _ rfl) rfl c3 rfl
    obtain ⟨y1, h1⟩ := read_field 23 [a1] (hf 1 _ rfl) rfl c2 rfl
    obtain ⟨y2, h2⟩ := read_field 58 [a2] (hf 2 _ rfl) rfl c5 rfl
    obtain ⟨y3, h3⟩ := read_field 58 [a3] (hf 3 _ rfl) rfl c5 rfl
    obtain ⟨wh, e0⟩ := read_i64 T3.und h0
    obtain ⟨v1, l, e1, hl, hll⟩ := read_bytes T23.und T5.und c1 h1
    obtain ⟨nn, e2, hn⟩ := read_u64 T58.und h2
    obtain ⟨se, e3, hse⟩ := read_u64 T58.und h3
    simp at e0 e1 e2 e3
    subst e0 e1 e2 e3
    exact ⟨⟨wh, l, nn, se⟩, _, rfl, hl, hll, hn, hse⟩

set_option maxRecDepth 20000 in
theorem law_SourcePlays {H : Type} {enc : TypeId × Value → H} {W : World} {base : Nat} {v v1 : Value} {d d1 : DataW H} {p p1 : List MemPlace}
    (hv : Value.okWide Try.prog W .any base 93 v) (h : DataW.Trod enc Try.prog W 0 (fun _ => true) true 93 v d p)
    (hv1 : Value.okWide Try.prog W .any base 94 v1) (h1 : DataW.Trod enc Try.prog W 0 (fun _ => true) true 94 v1 d1 p1) :
    Calls Try.prog 10 #[v, v1] W fun e w' => e = .returned (.bool true) ∧ Below W.heap.size W w' := by
  obtain ⟨cs0, rfl, hsz0⟩ := read_struct T93.und hv
  obtain ⟨a, len, cap, rfl⟩ := Go.WideShapes.okWide_slice T94.und hv1
  obtain ⟨f0, h⟩ := h
  obtain ⟨f1, h1⟩ := h1
  have c4 : Try.prog.cellsOf 102 = 4 := by kernel_rfl
  obtain ⟨g, s, vb, vc, bb, cu, cl, rs, e0, hb, hc, hbl, hcl⟩ := read_begin h
  obtain ⟨vl, ln, C, n, e2, hln, hC, hsl⟩ := read_slice T94.und c4 (by omega) h1
  have e0' : cs0 = #[.int .i64 g, .int .i64 s, vb, vc, .bool cl, .bool rs] := by
    apply Array.toList_inj.1
    simpa [Value.cells] using e0
  have e2' : Value.slice a len cap = vl := by simpa [Value.cells] using e2
  obtain ⟨q, hq⟩ := choose_lt (α := ActD × Value) (p := fun i q => C i = [.int .i64 q.1.what, q.2, .int .u64 (q.1.n : Int), .int .u64 (q.1.sent : Int)] ∧ Bytes (heapOf W) q.2 q.1.b ∧ q.1.b.length ≤ 9223372036854775807 ∧ q.1.n < 18446744073709551616 ∧ q.1.sent < 18446744073709551616) (fun i hi => by
    obtain ⟨_, y, hy⟩ := hC i hi
    obtain ⟨a, v, h1, h2⟩ := read_act2 hy
    exact ⟨(a, v), h1, h2⟩)
  rw [e0', e2']
  refine (splays_ok g s vb vc vl bb cu cl rs ln (fun i => (q i).1) (fun i => (q i).2) _ W (heapOf.sub W) hb hc hbl hcl ⟨?_, fun i hi => ⟨(hq i hi).2.1, (hq i hi).2.2.1, (hq i hi).2.2.2.1⟩⟩ (fun i hi => (hq i hi).2.2.2.2) hln).mono fun e w' h => h.law fun _ _ h => h
  have : (List.range ln).flatMap C = (List.range ln).flatMap fun i => [.int .i64 (q i).1.what, (q i).2, .int .u64 ((q i).1.n : Int), .int .u64 ((q i).1.sent : Int)] := by
    rw [List.flatMap_def, List.flatMap_def]
    congr 1
    exact List.map_congr_left fun i hi => (hq i (List.mem_range.1 hi)).1
  rw [← this]
  exact hsl
end Go.Bw
