/- SinkPlays, from whatever arguments can be read. -/
import Derived.Test.YtdibepkfgemddaaGreatSPlay15
import Derived.Test.YtdibepkfgemddaaGreatReadV
namespace Go.Bw
set_option linter.unusedVariables false
set_option linter.unusedSimpArgs false
open Go.Proofs Go.RowKit Go.ChangeShapes Go.Deep

instance : Inhabited KActD := ⟨⟨0, 0, ([], [])⟩⟩
theorem read_int {H : Type} {enc : TypeId × Value → H} {P : Program} {w : World} {base : Nat} {spare : Nat → Bool} {held : Bool} {t : TypeId} {fuel : Nat} {cs : List Value} {x : DataW H × List MemPlace} (ht : P.underlying t = some (.int .i64)) (h : DataW.trod enc P w base spare held fuel t cs = some x) : ∃ n : Int, cs = [.int .i64 n] := by
  obtain ⟨n, rfl, _, _⟩ := DataW.trod_int ht h
  exact ⟨n, rfl⟩
theorem read_u64 {H : Type} {enc : TypeId × Value → H} {P : Program} {w : World} {base : Nat} {spare : Nat → Bool} {held : Bool} {t : TypeId} {fuel : Nat} {cs : List Value} {x : DataW H × List MemPlace} (ht : P.underlying t = some (.int .u64)) (h : DataW.trod enc P w base spare held fuel t cs = some x) : ∃ n : Nat, cs = [.int .u64 (n : Int)] ∧ n < 18446744073709551616 := by
  obtain ⟨n, rfl, _, hw⟩ := DataW.trod_int ht h
  have hb : 0 ≤ n ∧ n ≤ 18446744073709551615 := by simpa [Lit.wf, IntKind.min, IntKind.max, IntKind.bits, IntKind.signed] using hw
  obtain ⟨k, rfl⟩ := Int.eq_ofNat_of_zero_le hb.1
  exact ⟨k, rfl, by omega⟩
set_option maxRecDepth 20000 in
theorem read_kact {H : Type} {enc : TypeId × Value → H} {W : World} {spare : Nat → Bool} {held : Bool} {fuel base : Nat} {cs : List Value} {x : DataW H × List MemPlace} (h : DataW.trod enc Tryz.prog W base spare held fuel 47 cs = some x) :
    ∃ (a : KActD) (v : Value × Value), cs = [.int .i64 a.what, .int .u64 (a.n : Int), v.1, v.2] ∧ Bytes (heapOf W) v.1 a.row.1 ∧ Bytes (heapOf W) v.2 a.row.2 ∧ a.row.1.length ≤ 9223372036854775807 ∧ a.row.2.length ≤ 9223372036854775807 ∧ a.n < 18446744073709551616 := by
  obtain ⟨hsz, n, hf⟩ := read_fields T47.und h
  have c1 : Tryz.prog.cellsOf 5 = 1 := by kernel_rfl
  have c2 : Tryz.prog.cellsOf 43 = 1 := by kernel_rfl
  have c3 : Tryz.prog.cellsOf 3 = 1 := by kernel_rfl
  have c6 : Tryz.prog.cellsOf 22 = 1 := by kernel_rfl
  have c5 : Tryz.prog.cellsOf 45 = 2 := by kernel_rfl
  have c4 : Tryz.prog.cellsOf 47 = 4 := by kernel_rfl
  rw [c4] at hsz
  match cs, hsz with
  | [a0, a1, a2, a3], _ =>
    obtain ⟨y0, h0⟩ := read_field 3 [a0] (hf 0 _ rfl) rfl c3 rfl
    obtain ⟨y1, h1⟩ := read_field 22 [a1] (hf 1 _ rfl) rfl c6 rfl
    obtain ⟨y2, h2⟩ := read_field 45 [a2, a3] (hf 2 _ rfl) rfl c5 rfl
    obtain ⟨hsz2, n2, hf2⟩ := read_fields T45.und h2
    obtain ⟨z1, k1⟩ := read_field 43 [a2] (hf2 0 _ rfl) rfl c2 rfl
    obtain ⟨z2, k2⟩ := read_field 43 [a3] (hf2 1 _ rfl) rfl c2 rfl
    obtain ⟨wh, e0⟩ := read_int T3.und h0
    obtain ⟨nn, e1, hnn⟩ := read_u64 T22.und h1
    obtain ⟨v1, l1, e2, hl1, hll1⟩ := read_bytes T43.und T5.und c1 k1
    obtain ⟨v2, l2, e3, hl2, hll2⟩ := read_bytes T43.und T5.und c1 k2
    simp at e0 e1 e2 e3
    subst e0 e1 e2 e3
    exact ⟨⟨wh, nn, (l1, l2)⟩, (_, _), rfl, hl1, hl2, hll1, hll2, hnn⟩
set_option maxRecDepth 20000 in
theorem open_begin {H : Type} {enc : TypeId × Value → H} {W : World} {base : Nat} {v : Value} {d : DataW H} {p : List MemPlace}
    (hv : Value.okWide Tryz.prog W .any base 24 v) (h : DataW.Trod enc Tryz.prog W 0 (fun _ => true) true 24 v d p) :
    ∃ (g s wd : Int) (dl : Nat), v = .agg #[.int .i64 g, .int .i64 s, .int .i64 wd, .int .u64 (dl : Int)] ∧ dl < 18446744073709551616 := by
  obtain ⟨cs, rfl, hsz⟩ := read_struct T24.und hv
  obtain ⟨fuel, h⟩ := h
  obtain ⟨_, n, hf⟩ := read_fields T24.und h
  have c3 : Tryz.prog.cellsOf 3 = 1 := by kernel_rfl
  have c6 : Tryz.prog.cellsOf 22 = 1 := by kernel_rfl
  have c4 : Tryz.prog.cellsOf 24 = 4 := by kernel_rfl
  rw [c4] at hsz
  obtain ⟨l⟩ := cs
  match l, hsz with
  | [a0, a1, a2, a3], _ =>
    obtain ⟨y0, h0⟩ := read_field 3 [a0] (hf 0 _ rfl) rfl c3 rfl
    obtain ⟨y1, h1⟩ := read_field 3 [a1] (hf 1 _ rfl) rfl c3 rfl
    obtain ⟨y2, h2⟩ := read_field 3 [a2] (hf 2 _ rfl) rfl c3 rfl
    obtain ⟨y3, h3⟩ := read_field 22 [a3] (hf 3 _ rfl) rfl c6 rfl
    obtain ⟨g, e0⟩ := read_int T3.und h0
    obtain ⟨s, e1⟩ := read_int T3.und h1
    obtain ⟨wd, e2⟩ := read_int T3.und h2
    obtain ⟨dl, e3, hdl⟩ := read_u64 T22.und h3
    simp at e0 e1 e2 e3
    subst e0 e1 e2 e3
    exact ⟨g, s, wd, dl, rfl, hdl⟩
set_option maxRecDepth 20000 in
theorem law_SinkPlays {H : Type} {enc : TypeId × Value → H} {W : World} {base : Nat} {v v1 : Value} {d d1 : DataW H} {p p1 : List MemPlace}
    (hv : Value.okWide Tryz.prog W .any base 24 v) (h : DataW.Trod enc Tryz.prog W 0 (fun _ => true) true 24 v d p)
    (hv1 : Value.okWide Tryz.prog W .any base 25 v1) (h1 : DataW.Trod enc Tryz.prog W 0 (fun _ => true) true 25 v1 d1 p1) :
    Calls Tryz.prog 3 #[v, v1] W fun e w' => e = .returned (.bool true) ∧ Below W.heap.size W w' := by
  obtain ⟨g, s, wd, dl, rfl, hdl⟩ := open_begin hv h
  obtain ⟨a, len, cap, rfl⟩ := Go.WideShapes.okWide_slice T25.und hv1
  obtain ⟨f2, h2⟩ := h1
  have c4 : Tryz.prog.cellsOf 47 = 4 := by kernel_rfl
  obtain ⟨vl, ln, C, n, e2, hln, hC, hsl⟩ := read_slice T25.und c4 (by omega) h2
  have e2' : Value.slice a len cap = vl := by simpa [Value.cells] using e2
  obtain ⟨q, hq⟩ := choose_lt (α := KActD × Value × Value) (p := fun i q => C i = [.int .i64 q.1.what, .int .u64 (q.1.n : Int), q.2.1, q.2.2] ∧ Bytes (heapOf W) q.2.1 q.1.row.1 ∧ Bytes (heapOf W) q.2.2 q.1.row.2 ∧ q.1.row.1.length ≤ 9223372036854775807 ∧ q.1.row.2.length ≤ 9223372036854775807 ∧ q.1.n < 18446744073709551616) (fun i hi => by
    obtain ⟨_, y, hy⟩ := hC i hi
    obtain ⟨a, v, h1, h2⟩ := read_kact hy
    exact ⟨(a, v), h1, h2⟩)
  rw [e2']
  refine (splays_ok g s wd dl vl ln (fun i => (q i).1) (fun i => (q i).2) _ W (heapOf.sub W) ⟨?_, fun i hi => (hq i hi).2⟩ hln).mono fun e w' h => h.law fun _ _ h => h
  have : (List.range ln).flatMap C = (List.range ln).flatMap fun i => [.int .i64 (q i).1.what, .int .u64 ((q i).1.n : Int), (q i).2.1, (q i).2.2] := by
    rw [List.flatMap_def, List.flatMap_def]
    congr 1
    exact List.map_congr_left fun i hi => (hq i (List.mem_range.1 hi)).1
  rw [← this]
  exact hsl
end Go.Bw
