/- Matrices: Size, copies. -/
import Derived.Test.YtdibepkfgemddaaGreatGauss
import Derived.Test.YtdibepkfgemddaaGreatGone
import Derived.Test.YtdibepkfgemddaaGreatOps5
import Derived.Test.YtdibepkfgemddaaGreatConts
import Derived.Test.YtdibepkfgemddaaGreatDrawL
import Derived.Test.YtdibepkfgemddaaGreatSmall
namespace Go.Bw
set_option linter.unusedVariables false
set_option linter.unusedSimpArgs false
open Go.Proofs

-- left out, for this seat has no braidwork/matrix.Size$1: theorem size1_ok (gs
-- left out, for this seat has no slices.Clone[[][]byte,[]byte]: theorem cloneL_ok (v
end Go.Bw
namespace Go.Bw
set_option linter.unusedVariables false
set_option linter.unusedSimpArgs false
open Go.Proofs

/-- Cells that hold rows of bytes. -/
def MatF (H : Hp) (c : Array Value) (n : Nat) (f : Nat → List UInt8) : Prop := ∀ i, i < n → ∃ v, c.toList[i]? = some v ∧ Bytes H v (f i)
theorem MatF.mono {H H' : Hp} {c : Array Value} {n : Nat} {f : Nat → List UInt8} (h : MatF H c n f) (hle : Hp.le H H') : MatF H' c n f := by
  intro i hi
  obtain ⟨v, h1, h2⟩ := h i hi
  exact ⟨v, h1, h2.mono hle⟩
theorem MatF.congr {H : Hp} {c : Array Value} {n : Nat} {f f' : Nat → List UInt8} (h : MatF H c n f) (he : ∀ i, i < n → f i = f' i) : MatF H c n f' := by
  intro i hi
  obtain ⟨v, h1, h2⟩ := h i hi
  exact ⟨v, h1, by rw [← he i hi]; exact h2⟩
theorem setL_one (l : List Value) (k : Nat) (v : Value) : setL l k [v] = l.set k v := by rw [setL_step, setL_nil]
theorem MatF.set {H : Hp} {c : Array Value} {n : Nat} {f : Nat → List UInt8} (h : MatF H c n f) (k : Nat) (hk : k < c.size) {v : Value} {l : List UInt8} (hv : Bytes H v l) :
    MatF H (setL c.toList k [v]).toArray n (fun j => if j = k then l else f j) := by
  intro i hi
  rw [List.toList_toArray, setL_one]
  by_cases e : i = k
  · subst e
    refine ⟨v, by rw [List.getElem?_set_self (by simpa using hk)], ?_⟩
    simp only [if_pos]
    exact hv
  · obtain ⟨u, h1, h2⟩ := h i hi
    refine ⟨u, by rw [List.getElem?_set_ne (Ne.symm e)]; exact h1, ?_⟩
    simp only [if_neg e]
    exact h2
theorem HS.startW {H : Hp} {w : World} {g g' : Nat} {o o' : Obj} (h : Sub H w) (hg : w.heap[g]? = some o) (hn : H g = none) (hg' : w.heap[g']? = some o') (hn' : H g' = none) (hne : g ≠ g') : HS [g, g'] H w H [(g, o, true), (g', o', true)] w := by
  refine HS.start [g, g'] h (fun q o2 t hm => ?_) (by simp [Mem.keys]; exact hne)
  rcases List.mem_cons.1 hm with e | hm
  · cases e; exact ⟨hg, hn, fun _ => by simp⟩
  · have := List.mem_singleton.1 hm; cases this; exact ⟨hg', hn', fun _ => by simp⟩

theorem cells_ne {c c' : Array Value} {e e' : TypeId} {x y : Nat × Nat} (h : some (Obj.cells c e x) = some (Obj.cells c' e' y)) (hne : e ≠ e') : False := by
  cases h
  exact hne rfl

-- left out, for this seat has no braidwork/matrix.Size: theorem msize_ok (v
-- left out, for this seat has no braidwork/matrix.work: def wObj (g n cap d
/-- The first k rows freed. -/
def clrF (R : List (List UInt8)) (lead d k : Nat) (i : Nat) : List UInt8 := if i < k ∧ i ≠ d then addS (E R i lead) (R.getD i []) (R.getD d []) else R.getD i []

-- left out, for this seat has no (*braidwork/matrix.work).clear: theorem clear_ok (R
end Go.Bw
namespace Go.Bw
set_option linter.unusedVariables false
set_option linter.unusedSimpArgs false
open Go.Proofs

theorem gFind_at {k d i : Nat} {R : List (List UInt8)} (h1 : d ≤ i) (h2 : i < R.length) (h3 : ∀ j, d ≤ j → j < i → E R j k = 0) (h4 : E R i k ≠ 0) : gFind k d R = some i := by
  unfold gFind
  have hE : ∀ j (hj : d ≤ j) (hl : j < R.length), E R j k = (R[j]).getD k 0 := fun j hj hl => by unfold E; rw [List.getD_eq_getElem?_getD (l := R), List.getElem?_eq_getElem hl]; rfl
  rw [Option.map_eq_some_iff]
  refine ⟨i - d, ?_, by omega⟩
  rw [List.findIdx?_eq_some_iff_getElem]
  refine ⟨by rw [List.length_drop]; omega, ?_, fun j hj => ?_⟩
  · rw [List.getElem_drop]
    have e : d + (i - d) = i := by omega
    simp only [e]
    rw [← hE i h1 h2]
    simpa using h4
  · rw [List.getElem_drop, ← hE (d + j) (by omega) (by omega), h3 (d + j) (by omega) (by omega)]
    simp
theorem gFind_no {k d : Nat} {R : List (List UInt8)} (h3 : ∀ j, d ≤ j → j < R.length → E R j k = 0) : gFind k d R = none := by
  cases h : gFind k d R with
  | none => rfl
  | some i =>
    obtain ⟨h1, h2, h4⟩ := gFind_some h
    exact absurd (h3 i h1 h2) h4
theorem gAll_succ (R : List (List UInt8)) (n : Nat) : gAll (n + 1) R = gStep (gAll n R) n := by unfold gAll; rw [List.range_succ, List.foldl_append]; rfl

-- left out, for this seat has no (*braidwork/matrix.work).reduced: theorem reducedM_ok (R
theorem BytesL.all_one {H : Hp} {cs : List Value} {R : List (List UInt8)} (h : cs.length = R.length) (hb : ∀ i (h : i < R.length) (h' : i < cs.length), Bytes H cs[i] R[i]) : cs.all (·.oneCell') = true := by
  rw [List.all_eq_true]
  intro v hv
  obtain ⟨i, hi, rfl⟩ := List.mem_iff_getElem.1 hv
  obtain ⟨_, _, e⟩ := (hb i (by omega) hi).form
  rw [e]; rfl
-- left out, for this seat has no braidwork/matrix.work: theorem build_work (a
-- left out, for this seat has no braidwork/matrix.copied: theorem copiedM_ok (v
-- left out, for this seat has no braidwork/matrix.Reduce: theorem reduceM_ok (v
-- left out, for this seat has no braidwork/matrix.Rank: theorem rankM_ok (v
end Go.Bw
