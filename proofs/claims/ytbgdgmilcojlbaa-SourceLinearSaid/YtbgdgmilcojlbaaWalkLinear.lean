/- SourceLinear, from whatever argument can be read. -/
import Derived.Test.YtbgdgmilcojlbaaLinear
import Derived.Test.YtbgdgmilcojlbaaLaw
namespace Go.Bw
set_option linter.unusedVariables false
set_option linter.unusedSimpArgs false
open Go.Proofs Go.RowKit Go.ChangeShapes

theorem read_u16 {H : Type} {enc : TypeId × Value → H} {P : Program} {w : World} {base : Nat} {spare : Nat → Bool} {held : Bool} {t : TypeId} {fuel : Nat} {cs : List Value} {x : DataW H × List MemPlace} (ht : P.underlying t = some (.int .u16)) (h : DataW.trod enc P w base spare held fuel t cs = some x) : ∃ n : Nat, cs = [.int .u16 (n : Int)] ∧ n < 65536 := by
  obtain ⟨n, rfl, _, hw⟩ := DataW.trod_int ht h
  have hb : 0 ≤ n ∧ n ≤ 65535 := by simpa [Lit.wf, IntKind.min, IntKind.max, IntKind.bits, IntKind.signed] using hw
  obtain ⟨k, rfl⟩ := Int.eq_ofNat_of_zero_le hb.1
  exact ⟨k, rfl, by omega⟩

set_option maxRecDepth 20000 in
theorem law_SourceLinear {H : Type} {enc : TypeId × Value → H} {W : World} {base : Nat} {v : Value} {d : DataW H} {p : List MemPlace}
    (hv : Value.okWide Try.prog W .any base 53 v) (h : DataW.Trod enc Try.prog W 0 (fun _ => true) true 53 v d p) :
    Calls Try.prog 6 #[v] W fun e w' => e = .returned (.bool true) ∧ Below W.heap.size W w' := by
  obtain ⟨cs, rfl, hsz⟩ := read_struct T53.und hv
  obtain ⟨fuel, h⟩ := h
  obtain ⟨_, n, hf⟩ := read_fields T53.und h
  have c1 : Try.prog.cellsOf 5 = 1 := by kernel_rfl
  have c2 : Try.prog.cellsOf 23 = 1 := by kernel_rfl
  have c3 : Try.prog.cellsOf 51 = 1 := by kernel_rfl
  have c4 : Try.prog.cellsOf 53 = 8 := by kernel_rfl
  rw [c4] at hsz
  obtain ⟨l⟩ := cs
  match l, hsz with
  | [a0, a1, a2, a3, a4, a5, a6, a7], _ =>
    obtain ⟨y0, h0⟩ := read_field 5 [a0] (hf 0 _ rfl) rfl c1 rfl
    obtain ⟨y1, h1⟩ := read_field 5 [a1] (hf 1 _ rfl) rfl c1 rfl
    obtain ⟨y2, h2⟩ := read_field 23 [a2] (hf 2 _ rfl) rfl c2 rfl
    obtain ⟨y3, h3⟩ := read_field 23 [a3] (hf 3 _ rfl) rfl c2 rfl
    obtain ⟨y4, h4⟩ := read_field 23 [a4] (hf 4 _ rfl) rfl c2 rfl
    obtain ⟨y5, h5⟩ := read_field 5 [a5] (hf 5 _ rfl) rfl c1 rfl
    obtain ⟨y6, h6⟩ := read_field 51 [a6] (hf 6 _ rfl) rfl c3 rfl
    obtain ⟨y7, h7⟩ := read_field 51 [a7] (hf 7 _ rfl) rfl c3 rfl
    obtain ⟨G, e0⟩ := read_byte T5.und h0
    obtain ⟨S, e1⟩ := read_byte T5.und h1
    obtain ⟨v2, st, e2, hst, l2⟩ := read_bytes T23.und T5.und c1 h2
    obtain ⟨v3, la, e3, hla, l3⟩ := read_bytes T23.und T5.und c1 h3
    obtain ⟨v4, lb, e4, hlb, l4⟩ := read_bytes T23.und T5.und c1 h4
    obtain ⟨C, e5⟩ := read_byte T5.und h5
    obtain ⟨Gen, e6, l6⟩ := read_u16 T51.und h6
    obtain ⟨Sent, e7, l7⟩ := read_u16 T51.und h7
    simp at e0 e1 e2 e3 e4 e5 e6 e7
    subst e0 e1 e2 e3 e4 e5 e6 e7
    exact (slinear_ok G S C Gen Sent _ _ _ st la lb _ W (heapOf.sub W) hst hla hlb l2 l6 l7).mono fun e w' h => h.law fun _ _ h => h

end Go.Bw
