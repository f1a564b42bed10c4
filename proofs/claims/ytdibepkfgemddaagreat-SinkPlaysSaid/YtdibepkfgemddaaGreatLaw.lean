/- From arguments that can be read to lists; what a call that changes nothing leaves. -/
import Derived.Test.YtdibepkfgemddaaGreatRep
import Derived.Deep.Slices
import Derived.ProofKit
import Derived.OpenShut
import Derived.ShutString
import Derived.ChangeOld
import Derived.Below
import Derived.SizedLaws
namespace Go.Bw
set_option linter.unusedVariables false
set_option linter.unusedSimpArgs false
open Go.RowKit Go.Deep Go.ChangeShapes

/-- All of memory. -/
def heapOf (w : World) : Hp := fun b => w.heap[b]?
theorem heapOf.sub (w : World) : Sub (heapOf w) w := fun _ _ h => h
theorem HS.below {w w' : World} {H0 H : Hp} {M : Mem} (h : HS [] H0 w H M w') : Below w.heap.size w w' :=
  ⟨h.os, h.tape, h.out, h.size, fun k hk => h.keep k hk (by simp)⟩
theorem Pure.law {w w' : World} {e : Ending} {H0 : Hp} {R : Value → Hp → Prop} (h : Pure H0 w R e w') (hR : ∀ v H, R v H → v = .bool true) : e = .returned (.bool true) ∧ Below w.heap.size w w' := by
  obtain ⟨v, H', M', rfl, hs, _, _, hr⟩ := h
  exact ⟨by rw [hR v H' hr], hs.below⟩

section
variable {H : Type} {enc : TypeId × Value → H} {P : Program} {w : World} {base : Nat} {spare : Nat → Bool} {held : Bool}

theorem flat_get {C : Nat → List Value} {sz : Nat} : ∀ (n : Nat), (∀ i, i < n → (C i).length = sz) → ((List.range n).flatMap C).length = n * sz ∧
    ∀ i, i < n → ∀ j, j < sz → ((List.range n).flatMap C)[i * sz + j]? = (C i)[j]?
  | 0, _ => ⟨by simp, fun i hi => by omega⟩
  | n + 1, h => by
    obtain ⟨h1, h2⟩ := flat_get n (fun i hi => h i (by omega))
    rw [List.range_succ, List.flatMap_append, List.flatMap_singleton]
    refine ⟨by rw [List.length_append, h1, h n (by omega), Nat.succ_mul], fun i hi j hj => ?_⟩
    by_cases e : i < n
    · rw [List.getElem?_append_left, h2 i e j hj]
      rw [h1]
      have := Nat.mul_le_mul_right sz (show i + 1 ≤ n by omega)
      rw [Nat.succ_mul] at this
      omega
    · have : i = n := by omega
      subst this
      rw [List.getElem?_append_right (by rw [h1]; omega), h1]
      congr 1
      omega

/-- A slice that can be read. -/
theorem read_slice {t e : TypeId} {fuel sz : Nat} {cs : List Value} {x : DataW H × List MemPlace} (ht : P.underlying t = some (.slice e)) (hc : P.cellsOf e = sz) (hsz : 0 < sz) (h : DataW.trod enc P w base spare held fuel t cs = some x) :
    ∃ (v : Value) (len : Nat) (C : Nat → List Value) (n : Nat), cs = [v] ∧ len ≤ 9223372036854775807 ∧ (∀ i, i < len → (C i).length = sz ∧ ∃ y, DataW.trod enc P w base spare held n e (C i) = some y) ∧
      Sl (heapOf w) sz v len ((List.range len).flatMap C) := by
  rcases open_slice ht h with ⟨rfl, _⟩ | ⟨a, len, cap, m, n, D, Pl, rfl, hb, hl, hm, hmm, _, hx⟩
  · exact ⟨_, 0, fun _ => [], 0, rfl, by omega, fun i hi => by omega, by simpa using Sl.nil (heapOf w) sz⟩
  have hlm : len ≤ m := by rw [hmm]; split <;> omega
  obtain ⟨C, hC⟩ := choose_lt (α := List Value) (p := fun i c => w.cells? base (a.add (i * P.cellsOf e)) (P.cellsOf e) = some c ∧ DataW.trod enc P w base spare held n e c = some (D i, Pl i)) (fun i hi => hx i hi)
  rw [hc] at hC
  have hcl : ∀ i, i < len → (C i).length = sz := fun i hi => (World.cells?_some (hC i (by omega)).1).2.1
  obtain ⟨f1, f2⟩ := flat_get len hcl
  refine ⟨_, len, C, n, rfl, Nat.le_trans hl (Nat.le_trans hm (by unfold maxLen; omega)), fun i hi => ⟨hcl i hi, _, (hC i (by omega)).2⟩, f1, some a, cap, rfl, hl, (fun h => by cases h), fun b hb' => ?_⟩
  cases hb'
  have hcell : ∀ i, i < len → ∀ j, j < sz → w.cell? ((a.add (i * sz)).add j) = (C i)[j]? := fun i hi j hj => (World.cells?_some (hC i (by omega)).1).2.2 j hj
  have hspot : 0 < len → a.spot = none := by
    intro h0
    have h1 := hcell 0 h0 0 hsz
    rw [Nat.zero_mul] at h1
    have h2 : ((a.add 0).add 0) = a := rfl
    rw [h2, List.getElem?_eq_getElem (by rw [hcl 0 h0]; exact hsz)] at h1
    unfold World.cell? at h1
    split at h1
    · split at h1
      · cases h1
      · rename_i hs
        simpa using hs
    · cases h1
  refine ⟨hspot, fun k u hk => ?_⟩
  have hk0 := (List.getElem?_eq_some_iff.1 hk).1
  rw [f1] at hk0
  have hi : k / sz < len := (Nat.div_lt_iff_lt_mul hsz).2 hk0
  have hj := Nat.mod_lt k hsz
  have hkl : 0 < len := Nat.lt_of_le_of_lt (Nat.zero_le _) hi
  have e : k / sz * sz + k % sz = k := by rw [Nat.mul_comm]; exact Nat.div_add_mod k sz
  have h3 := f2 _ hi _ hj
  rw [e, hk] at h3
  have h4 := hcell _ hi _ hj
  rw [← h3, add_add, e] at h4
  have hs := hspot hkl
  obtain ⟨b, o, sp⟩ := a
  simp only at hs
  subst hs
  rw [add_off] at h4
  exact h4

theorem read_byte {t : TypeId} {fuel : Nat} {cs : List Value} {x : DataW H × List MemPlace} (ht : P.underlying t = some (.int .u8)) (h : DataW.trod enc P w base spare held fuel t cs = some x) : ∃ b : UInt8, cs = [B b] := by
  obtain ⟨n, rfl, _, hw⟩ := DataW.trod_int ht h
  have hb : 0 ≤ n ∧ n ≤ 255 := by simpa [Lit.wf, IntKind.min, IntKind.max, IntKind.bits, IntKind.signed] using hw
  refine ⟨UInt8.ofNat n.toNat, ?_⟩
  show [Value.int .u8 n] = [Value.int .u8 ((UInt8.ofNat n.toNat).toNat : Int)]
  have : ((UInt8.ofNat n.toNat).toNat : Int) = n := by
    rw [UInt8.toNat_ofNat']
    omega
  rw [this]

theorem flat_one {α : Type} (len : Nat) (C : Nat → List Value) (f : α → Value) (g : Nat → α) (h : ∀ i, i < len → C i = [f (g i)]) : (List.range len).flatMap C = ((List.range len).map g).map f := by
  induction len with
  | zero => rfl
  | succ n ih => rw [List.range_succ, List.flatMap_append, List.map_append, List.map_append, ih (fun i hi => h i (by omega)), List.flatMap_singleton, h n (by omega)]; rfl

theorem read_bytes {t e : TypeId} {fuel : Nat} {cs : List Value} {x : DataW H × List MemPlace} (ht : P.underlying t = some (.slice e)) (he : P.underlying e = some (.int .u8)) (hc : P.cellsOf e = 1)
    (h : DataW.trod enc P w base spare held fuel t cs = some x) : ∃ v l, cs = [v] ∧ Bytes (heapOf w) v l ∧ l.length ≤ 9223372036854775807 := by
  obtain ⟨v, len, C, n, rfl, hl, hC, hsl⟩ := read_slice ht hc (by omega) h
  obtain ⟨g, hg⟩ := choose_lt (α := UInt8) (p := fun i b => C i = [B b]) (fun i hi => by
    obtain ⟨_, y, hy⟩ := hC i hi
    exact read_byte he hy)
  refine ⟨v, (List.range len).map g, rfl, ?_, by simpa using hl⟩
  rw [flat_one len C B g hg] at hsl
  unfold Bytes
  simpa using hsl

theorem read_bytesL {t e e2 : TypeId} {fuel : Nat} {cs : List Value} {x : DataW H × List MemPlace} (ht : P.underlying t = some (.slice e)) (he : P.underlying e = some (.slice e2)) (he2 : P.underlying e2 = some (.int .u8)) (hc : P.cellsOf e = 1) (hc2 : P.cellsOf e2 = 1)
    (h : DataW.trod enc P w base spare held fuel t cs = some x) : ∃ v ll, cs = [v] ∧ BytesL (heapOf w) v ll ∧ ll.length ≤ 9223372036854775807 ∧ ∀ l ∈ ll, l.length ≤ 9223372036854775807 := by
  obtain ⟨v, len, C, n, rfl, hl, hC, hsl⟩ := read_slice ht hc (by omega) h
  obtain ⟨g, hg⟩ := choose_lt (α := Value × List UInt8) (p := fun i b => C i = [b.1] ∧ Bytes (heapOf w) b.1 b.2 ∧ b.2.length ≤ 9223372036854775807) (fun i hi => by
    obtain ⟨_, y, hy⟩ := hC i hi
    obtain ⟨v, l, h1, h2, h3⟩ := read_bytes he he2 hc2 hy
    exact ⟨(v, l), h1, h2, h3⟩)
  refine ⟨v, (List.range len).map (fun i => (g i).2), rfl, ⟨(List.range len).map (fun i => (g i).1), ?_, by simp, ?_⟩, by simpa using hl, ?_⟩
  · have := flat_one len C id (fun i => (g i).1) (fun i hi => (hg i hi).1)
    rw [List.map_id] at this
    rw [this] at hsl
    simpa using hsl
  · intro i h1 h2
    simp only [List.length_map, List.length_range] at h1
    simpa using (hg i h1).2.1
  · intro l hl
    obtain ⟨i, hi, rfl⟩ := List.mem_map.1 hl
    exact (hg i (List.mem_range.1 hi)).2.2

/-- A field of a struct that can be read. -/
theorem read_fields {t : TypeId} {fs : Array Field} {fuel : Nat} {cs : List Value} {x : DataW H × List MemPlace} (ht : P.underlying t = some (.struct fs)) (h : DataW.trod enc P w base spare held fuel t cs = some x) :
    cs.length = P.cellsOf t ∧ ∃ n, ∀ (i : Nat) (f : Field), fs[i]? = some f → ∃ y, DataW.trod enc P w base spare held n f.type ((cs.drop f.offset).take (P.cellsOf f.type)) = some y := by
  obtain ⟨xs, n, _, _, hl, hxl, hf⟩ := DataW.trod_struct ht h
  refine ⟨hl, n, fun i f hi => ?_⟩
  have hlt : i < xs.length := by rw [hxl]; exact (Array.getElem?_eq_some_iff.1 hi).1
  exact ⟨xs[i], by rw [hf i f hi, List.getElem?_eq_getElem hlt]⟩
theorem read_field {f : Field} {cs : List Value} {n k : Nat} (t : TypeId) (ys : List Value) (h : ∃ y, DataW.trod enc P w base spare held n f.type ((cs.drop f.offset).take (P.cellsOf f.type)) = some y)
    (ht : f.type = t) (hc : P.cellsOf t = k) (hy : (cs.drop f.offset).take k = ys) : ∃ y, DataW.trod enc P w base spare held n t ys = some y := by
  rw [ht, hc, hy] at h
  exact h
theorem read_struct {t : TypeId} {fs : Array Field} {r : Go.Reach} {v : Value} (ht : P.underlying t = some (.struct fs)) (hv : Value.okWide P w r base t v) : ∃ cs : Array Value, v = .agg cs ∧ cs.size = P.cellsOf t := by
  unfold Value.okWide at hv
  rw [ht] at hv
  obtain ⟨cs, h1, h2, _⟩ := hv
  exact ⟨cs, h1, h2⟩
end

end Go.Bw
