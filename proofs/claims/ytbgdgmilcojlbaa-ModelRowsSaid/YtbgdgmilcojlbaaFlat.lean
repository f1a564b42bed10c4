/- Plain laws of chunks and of sent rows. -/
import Derived.Test.YtbgdgmilcojlbaaAwake13
import Derived.Test.YtbgdgmilcojlbaaTrue
namespace Go.Bw
set_option linter.unusedVariables false
set_option linter.unusedSimpArgs false

theorem whole_flat (room : Nat) (st : List UInt8) (a : Nat) : ∀ n, a + n * room ≤ st.length → (wholeL room st a n).flatten = (st.drop a).take (n * room)
  | 0, _ => by simp [wholeL]
  | n + 1, h => by
    rw [Nat.add_mul, Nat.one_mul] at h
    rw [wholeL_succ, List.flatten_append, whole_flat room st a n (by omega), List.flatten_cons, List.flatten_nil, List.append_nil, Nat.add_mul, Nat.one_mul, List.take_add, List.drop_drop]
theorem step_flat {room : Nat} {st : List UInt8} {p : List (List UInt8) × Nat} {cut : Nat} (hp : p.1.flatten = st.take p.2) (h1 : p.2 ≤ cut) (h2 : cut ≤ st.length) :
    (chunkStep room st p ((cut : Nat) : Int)).1.flatten = st.take cut := by
  have hd : (cut - p.2) / room * room ≤ cut - p.2 := Nat.div_mul_le_self _ _
  rw [chunkStep, List.flatten_append, List.flatten_append, hp, Int.toNat_natCast, whole_flat _ _ _ _ (by omega)]
  generalize (cut - p.2) / room * room = k at *
  rw [← List.take_add]
  have hc : (cutPiece st (p.2 + k) cut).flatten = (st.drop (p.2 + k)).take (cut - (p.2 + k)) := by
    unfold cutPiece
    split
    · simp
    · rw [show cut - (p.2 + k) = 0 by omega]; simp
  rw [hc, ← List.take_add]
  congr 1
  omega
theorem chunkP_flat {room : Nat} {st : List UInt8} : ∀ (cuts : List Int) (p : List (List UInt8) × Nat), p.1.flatten = st.take p.2 → p.2 ≤ st.length → cutsOk st.length (p.2 : Int) cuts = true →
    (cuts.foldl (chunkStep room st) p).1.flatten = st.take (cuts.foldl (chunkStep room st) p).2 ∧ (cuts.foldl (chunkStep room st) p).2 ≤ st.length
  | [], p, h1, h2, _ => ⟨h1, h2⟩
  | c :: cs, p, h1, h2, h => by
    simp only [cutsOk, Bool.and_eq_true, decide_eq_true_eq] at h
    obtain ⟨⟨h3, h4⟩, h5⟩ := h
    obtain ⟨k, rfl⟩ := Int.eq_ofNat_of_zero_le (show 0 ≤ c by omega)
    have hk : (chunkStep room st p ((k : Nat) : Int)).2 = k := rfl
    exact chunkP_flat cs _ (by rw [hk]; exact step_flat h1 (by omega) (by omega)) (by rw [hk]; omega) (by rw [hk]; exact h5)
theorem chunks_flat {room : Nat} {st : List UInt8} {cuts : List Int} (h : cutsOk st.length 0 cuts = true) : (chunksF room st cuts).flatten ++ openF room st cuts = st := by
  have h1 := chunkP_flat (room := room) (st := st) cuts ([], 0) (by simp) (Nat.zero_le _) h
  have h2 : (chunkP room st cuts).1.flatten = st.take (chunkP room st cuts).2 := h1.1
  have h3 : (chunkP room st cuts).2 ≤ st.length := h1.2
  have hd : (st.length - (chunkP room st cuts).2) / room * room ≤ st.length - (chunkP room st cuts).2 := Nat.div_mul_le_self _ _
  rw [chunksF, openF, List.flatten_append, h2, whole_flat _ _ _ _ (by omega), ← List.take_add, List.take_append_drop]
theorem SrcOk.flat {x : SrcD} (h : SrcOk x) : x.chunks.flatten ++ x.opn = x.st := by
  rw [h.ch, h.op]
  exact chunks_flat h.cuts
theorem open_snoc (room : Nat) (st : List UInt8) (cuts : List Int) : openF room st (cuts ++ [(st.length : Int)]) = [] := by
  have : (chunkP room st (cuts ++ [(st.length : Int)])).2 = st.length := by
    unfold chunkP
    rw [List.foldl_append]
    rfl
  rw [openF, this]
  simp
theorem cutD_open (x : SrcD) : (cutD x).opn = [] := by
  unfold cutD
  split
  · assumption
  · exact open_snoc _ _ _
theorem cutD_st (x : SrcD) : (cutD x).st = x.st := by unfold cutD; split <;> rfl
theorem cutD_cl (x : SrcD) : (cutD x).cl = x.cl := by unfold cutD; split <;> rfl
theorem cutD_g (x : SrcD) : (cutD x).g = x.g ∧ (cutD x).s = x.s := by unfold cutD; split <;> exact ⟨rfl, rfl⟩

theorem comb_add {s : Nat} (ys : List (List UInt8)) (a b : List UInt8) (d : UInt8) (hr : ∀ r ∈ ys, r.length = s) (h : a.length = b.length) : comb s ys (addS d a b) = addS d (comb s ys a) (comb s ys b) := by
  have l1 := comb_length s ys (addS d a b) hr
  have l2 := comb_length s ys a hr
  have l3 := comb_length s ys b hr
  refine list_ext (by rw [addS_length _ _ _ (l2.trans l3.symm), l1, l2]) fun j => ?_
  rw [addS_getD _ _ _ (l2.trans l3.symm), comb_T ys _ hr, comb_T ys _ hr, comb_T ys _ hr, T_add _ _ _ _ _ h]
theorem unit_getD (n i k : Nat) (h : i < n) : ((List.replicate n (0 : UInt8)).set i 1).getD k 0 = if k = i then 1 else 0 := by
  rw [List.getD_eq_getElem?_getD, List.getElem?_set]
  by_cases e : i = k
  · subst e; simp [h]
  · rw [if_neg e, if_neg (fun q => e q.symm), List.getElem?_replicate]
    split <;> rfl
theorem T_unitL : ∀ (ys : List (List UInt8)) (n i j : Nat), ys.length = n → (h : i < ys.length) → T ys ((List.replicate n (0 : UInt8)).set i 1) j = ys[i].getD j 0
  | [], n, i, j, _, h => by simp at h
  | y :: ys, 0, i, j, hn, h => by simp at hn
  | y :: ys, n + 1, 0, j, hn, h => by
    rw [List.replicate_succ, List.set_cons_zero, T, mul_one, T_zero ys _ j (fun k => by rw [List.getD_eq_getElem?_getD, List.getElem?_replicate]; split <;> rfl), xor_zero8]
    rfl
  | y :: ys, n + 1, i + 1, j, hn, h => by
    rw [List.replicate_succ, List.set_cons_succ, T, mul_zero, zero_xor8, T_unitL ys n i j (by simpa using hn) (by simpa using h)]
    rfl
theorem comb_unit {s : Nat} (ys : List (List UInt8)) (n i : Nat) (hr : ∀ r ∈ ys, r.length = s) (hn : ys.length = n) (h : i < ys.length) : comb s ys ((List.replicate n (0 : UInt8)).set i 1) = ys[i] := by
  refine list_ext (by rw [comb_length _ _ _ hr, hr _ (List.getElem_mem h)]) fun j => ?_
  rw [comb_T ys _ hr, T_unitL ys n i j hn h]
theorem zeros_lead (n : Nat) : lead (List.replicate n (0 : UInt8)) < 0 := lead_none.2 fun j => by rw [List.getD_eq_getElem?_getD, List.getElem?_replicate]; split <;> rfl
theorem sendC_unit (x : SrcD) (i : Nat) (l : List UInt8) (h : i < x.g) : sendC x i l = (List.replicate x.g (0 : UInt8)).set i 1 := by
  rw [sendC, if_pos h, Nat.mod_eq_of_lt h, coefF, padTo_nil, if_pos (zeros_lead _)]
theorem coefF_lead (n t : Nat) (l : List UInt8) (h : t < n) : ¬ lead (coefF n t l) < 0 := by
  unfold coefF
  split
  · intro h2
    have := lead_none.1 h2 t
    rw [List.getD_eq_getElem?_getD, List.getElem?_set, if_pos rfl, if_pos (by rw [padTo_length]; exact h)] at this
    exact absurd this (by decide)
  · assumption
end Go.Bw
