/- The law's waking test. -/
import Derived.Test.YtdibepkfgemddaaGreatLaid
import Derived.Test.YtdibepkfgemddaaGreatSrc6
import Derived.Test.YtdibepkfgemddaaGreatSame
import Derived.Test.YtdibepkfgemddaaGreatSpan
namespace Go.Bw
set_option linter.unusedVariables false
set_option linter.unusedSimpArgs false
open Go.Proofs

theorem mul_fast (a b : UInt8) : mul a b = rmul 8 a b 0 := by
  rw [rmul_ok 8 a b 0 (by have := b.toNat_lt; omega), zero_xor8]
theorem inv_of {a b : UInt8} (h : rmul 8 a b 0 = 1) : inv a = b := by
  rw [← mul_fast] at h
  have ha : a ≠ 0 := by
    intro e
    subst e
    rw [zero_mul] at h
    exact absurd h (by decide)
  have : mul (mul b a) (inv a) = inv a := by rw [mul_comm b a, h, one_mul]
  rw [mul_assoc, mul_inv a ha, mul_one] at this
  exact this.symm
theorem normR_inv (q : RowD) : normR q = (q.1.map (fun x => mul x (inv (q.1.getD (lead q.1).toNat 0))), q.2.map (fun x => mul x (inv (q.1.getD (lead q.1).toNat 0)))) := rfl

theorem aw1 : insR 2 1 [] ([2, 4], [6]) = (true, [([1, 2], [3])]) := by
  have h1 : redR [] (([2, 4], [6]) : RowD) = ([2, 4], [6]) := rfl
  have h2 : lead [2, 4] = 0 := by rfl
  have h3 : inv 2 = 141 := inv_of (by kernel_rfl)
  have h4 : normR (([2, 4], [6]) : RowD) = ([1, 2], [3]) := by
    rw [normR_inv]
    simp only [h2, Int.toNat_zero, List.getD_cons_zero, h3, mul_fast, List.map_cons, List.map_nil]
    rfl
  simp only [insR, h1, h2, h4]
  rfl
theorem aw2 : insR 2 1 [([1, 2], [3])] ([1, 2], [9]) = (false, [([1, 2], [3])]) := by
  have h1 : redR [([1, 2], [3])] (([1, 2], [9]) : RowD) = ([0, 0], [10]) := by
    have h2 : lead [1, 2] = 0 := by rfl
    simp only [redR, List.foldl_cons, List.foldl_nil, stepR, plusR, addS, eachR, h2, mul_fast]
    rfl
  simp only [insR, h1]
  rfl
theorem aw3 : ∃ rs, insR 2 1 [([1, 2], [3])] ([0, 3], [5]) = (true, rs) ∧ rs.length = 2 := by
  have h1 : redR [([1, 2], [3])] (([0, 3], [5]) : RowD) = ([0, 3], [5]) := by
    have h2 : lead [1, 2] = 0 := by rfl
    simp only [redR, List.foldl_cons, List.foldl_nil, stepR, plusR, addS, eachR, h2, mul_fast]
    rfl
  refine ⟨_, by simp only [insR, h1]; rfl, ?_⟩
  rfl

theorem gs1 {g s : Nat} {c p : List UInt8} (h1 : c.length = g) (h2 : p.length = s) : RowGS g s (c, p) := ⟨h1, h2⟩
-- left out, for this seat has no braidworklaw07.awake: theorem awake_ok (H0
end Go.Bw
namespace Go.Bw
set_option linter.unusedVariables false
set_option linter.unusedSimpArgs false
open Go.Proofs

theorem newD_ok {g s : Nat} (h : goodGS g s) : SrcOk (newD g s [] [] false) := ⟨h, rfl, rfl, rfl, Nat.zero_le _⟩
theorem SrcOk.sub {x : SrcD} (h : SrcOk x) (l : List UInt8) (most : Nat) : SrcOk (subD x l most) := by
  unfold subD
  split
  · exact h
  · split
    · rename_i hf
      exact h.long hf.1
    · exact h
theorem SrcOk.flush {x : SrcD} (h : SrcOk x) : SrcOk (flushD x) := by
  unfold flushD
  split
  · exact h
  · exact h.cut
theorem SrcOk.close {x : SrcD} (h : SrcOk x) : SrcOk (closeD x) := by
  unfold closeD
  split
  · exact h
  · exact ⟨h.cut.gs, h.cut.cuts, h.cut.ch, h.cut.op, h.cut.len⟩

def aD0 : SrcD := newD 2 3 [] [] false
def aD1 : SrcD := subD aD0 [97, 98, 99] 9
def aD2 : SrcD := flushD aD1
theorem aE1 : subE aD0 [97, 98, 99] 9 = 0 := by decide +kernel
theorem aG1 : aD1.chunks.length = 1 := by decide +kernel
theorem aC1 : aD1.cl = false := by decide +kernel
theorem aG2 : aD2.chunks.length = 2 := by decide +kernel
theorem aS2 : aD2.s = 3 ∧ aD2.g = 2 := by decide +kernel
theorem aK1 : aD1.cuts.length = 0 := by decide +kernel
theorem aK0 : aD0.cuts.length = 0 := by decide +kernel
theorem aY0 : symF aD2 0 = [[0, 0, 0], [2, 97, 98]] := by decide +kernel
theorem aY1 : symF aD2 1 = [[0, 0, 0], [1, 99, 0]] := by decide +kernel
theorem aR1 : rowF aD2 1 [1, 1] = ([1, 1], [1, 99, 0]) := by
  rw [rowF, if_pos (by decide +kernel), aY1, aS2.1]
  have : comb 3 [[0, 0, 0], [1, 99, 0]] [1, 1] = [1, 99, 0] := by
    simp only [comb, List.zip_cons_cons, List.zip_nil_right, List.foldl_cons, List.foldl_nil, addS, eachR, mul_fast]
    rfl
  rw [this]
theorem aC : sendC aD2 1 [] = [0, 1] := by decide +kernel
theorem aR0 : rowF aD2 0 (sendC aD2 1 []) = ([0, 1], [2, 97, 98]) := by
  rw [aC, rowF, if_pos (by decide +kernel), aY0, aS2.1]
  have : comb 3 [[0, 0, 0], [2, 97, 98]] [0, 1] = [2, 97, 98] := by
    simp only [comb, List.zip_cons_cons, List.zip_nil_right, List.foldl_cons, List.foldl_nil, addS, eachR, mul_fast]
    rfl
  rw [this]

-- left out, for this seat has no braidworklaw13.awake: theorem awake13_ok (H0
end Go.Bw
namespace Go.Bw
set_option linter.unusedVariables false
set_option linter.unusedSimpArgs false

theorem whole_flat (room : Nat) (st : List UInt8) (a : Nat) : ∀ n, a + n * room ≤ st.length → (wholeL room st a n).flatten = (st.drop a).take (n * room)
  | 0, _ => by simp [wholeL]
  | n + 1, h => by
    rw [Nat.add_mul, Nat.one_mul] at h
    rw [wholeL_succ, List.flatten_append, whole_flat room st a n (by omega), List.flatten_cons, List.flatten_nil, List.append_nil, Nat.add_mul, Nat.one_mul, List.take_add, List.drop_drop]
theorem step_flat {room : Nat} {st : List UInt8} {p : List (List UInt8) × Nat} {cut : Nat} (hp : p.1.flatten = st.take p.2) (h1 : p.2 ≤ cut) (h2 : cut ≤ st.length) :
    (chunkStep room st p ((cut : Nat) : Int)).1.flatten = st.take cut := by
  have hd : (cut - p.2) / room * room ≤ cut - p.2 := Nat.div_mul_le_self _ _
  rw [chunkStep, List.flatten_append, List.flatten_append, hp, Int.toNat_natCast, whole_flat _ _ _ _ (by omega)]
  generalize (cut - p.2) / room * room = k at *
  rw [← List.take_add]
  have hc : (cutPiece st (p.2 + k) cut).flatten = (st.drop (p.2 + k)).take (cut - (p.2 + k)) := by
    unfold cutPiece
    split
    · simp
    · rw [show cut - (p.2 + k) = 0 by omega]; simp
  rw [hc, ← List.take_add]
  congr 1
  omega
theorem chunkP_flat {room : Nat} {st : List UInt8} : ∀ (cuts : List Int) (p : List (List UInt8) × Nat), p.1.flatten = st.take p.2 → p.2 ≤ st.length → cutsOk st.length (p.2 : Int) cuts = true →
    (cuts.foldl (chunkStep room st) p).1.flatten = st.take (cuts.foldl (chunkStep room st) p).2 ∧ (cuts.foldl (chunkStep room st) p).2 ≤ st.length
  | [], p, h1, h2, _ => ⟨h1, h2⟩
  | c :: cs, p, h1, h2, h => by
    simp only [cutsOk, Bool.and_eq_true, decide_eq_true_eq] at h
    obtain ⟨⟨h3, h4⟩, h5⟩ := h
    obtain ⟨k, rfl⟩ := Int.eq_ofNat_of_zero_le (show 0 ≤ c by omega)
    have hk : (chunkStep room st p ((k : Nat) : Int)).2 = k := rfl
    exact chunkP_flat cs _ (by rw [hk]; exact step_flat h1 (by omega) (by omega)) (by rw [hk]; omega) (by rw [hk]; exact h5)
theorem chunks_flat {room : Nat} {st : List UInt8} {cuts : List Int} (h : cutsOk st.length 0 cuts = true) : (chunksF room st cuts).flatten ++ openF room st cuts = st := by
  have h1 := chunkP_flat (room := room) (st := st) cuts ([], 0) (by simp) (Nat.zero_le _) h
  have h2 : (chunkP room st cuts).1.flatten = st.take (chunkP room st cuts).2 := h1.1
  have h3 : (chunkP room st cuts).2 ≤ st.length := h1.2
  have hd : (st.length - (chunkP room st cuts).2) / room * room ≤ st.length - (chunkP room st cuts).2 := Nat.div_mul_le_self _ _
  rw [chunksF, openF, List.flatten_append, h2, whole_flat _ _ _ _ (by omega), ← List.take_add, List.take_append_drop]
theorem SrcOk.flat {x : SrcD} (h : SrcOk x) : x.chunks.flatten ++ x.opn = x.st := by
  rw [h.ch, h.op]
  exact chunks_flat h.cuts
theorem open_snoc (room : Nat) (st : List UInt8) (cuts : List Int) : openF room st (cuts ++ [(st.length : Int)]) = [] := by
  have : (chunkP room st (cuts ++ [(st.length : Int)])).2 = st.length := by
    unfold chunkP
    rw [List.foldl_append]
    rfl
  rw [openF, this]
  simp
theorem cutD_open (x : SrcD) : (cutD x).opn = [] := by
  unfold cutD
  split
  · assumption
  · exact open_snoc _ _ _
theorem cutD_st (x : SrcD) : (cutD x).st = x.st := by unfold cutD; split <;> rfl
theorem cutD_cl (x : SrcD) : (cutD x).cl = x.cl := by unfold cutD; split <;> rfl
theorem cutD_g (x : SrcD) : (cutD x).g = x.g ∧ (cutD x).s = x.s := by unfold cutD; split <;> exact ⟨rfl, rfl⟩

theorem comb_add {s : Nat} (ys : List (List UInt8)) (a b : List UInt8) (d : UInt8) (hr : ∀ r ∈ ys, r.length = s) (h : a.length = b.length) : comb s ys (addS d a b) = addS d (comb s ys a) (comb s ys b) := by
  have l1 := comb_length s ys (addS d a b) hr
  have l2 := comb_length s ys a hr
  have l3 := comb_length s ys b hr
  refine list_ext (by rw [addS_length _ _ _ (l2.trans l3.symm), l1, l2]) fun j => ?_
  rw [addS_getD _ _ _ (l2.trans l3.symm), comb_T ys _ hr, comb_T ys _ hr, comb_T ys _ hr, T_add _ _ _ _ _ h]
theorem unit_getD (n i k : Nat) (h : i < n) : ((List.replicate n (0 : UInt8)).set i 1).getD k 0 = if k = i then 1 else 0 := by
  rw [List.getD_eq_getElem?_getD, List.getElem?_set]
  by_cases e : i = k
  · subst e; simp [h]
  · rw [if_neg e, if_neg (fun q => e q.symm), List.getElem?_replicate]
    split <;> rfl
theorem T_unitL : ∀ (ys : List (List UInt8)) (n i j : Nat), ys.length = n → (h : i < ys.length) → T ys ((List.replicate n (0 : UInt8)).set i 1) j = ys[i].getD j 0
  | [], n, i, j, _, h => by simp at h
  | y :: ys, 0, i, j, hn, h => by simp at hn
  | y :: ys, n + 1, 0, j, hn, h => by
    rw [List.replicate_succ, List.set_cons_zero, T, mul_one, T_zero ys _ j (fun k => by rw [List.getD_eq_getElem?_getD, List.getElem?_replicate]; split <;> rfl), xor_zero8]
    rfl
  | y :: ys, n + 1, i + 1, j, hn, h => by
    rw [List.replicate_succ, List.set_cons_succ, T, mul_zero, zero_xor8, T_unitL ys n i j (by simpa using hn) (by simpa using h)]
    rfl
theorem comb_unit {s : Nat} (ys : List (List UInt8)) (n i : Nat) (hr : ∀ r ∈ ys, r.length = s) (hn : ys.length = n) (h : i < ys.length) : comb s ys ((List.replicate n (0 : UInt8)).set i 1) = ys[i] := by
  refine list_ext (by rw [comb_length _ _ _ hr, hr _ (List.getElem_mem h)]) fun j => ?_
  rw [comb_T ys _ hr, T_unitL ys n i j hn h]
theorem zeros_lead (n : Nat) : lead (List.replicate n (0 : UInt8)) < 0 := lead_none.2 fun j => by rw [List.getD_eq_getElem?_getD, List.getElem?_replicate]; split <;> rfl
theorem sendC_unit (x : SrcD) (i : Nat) (l : List UInt8) (h : i < x.g) : sendC x i l = (List.replicate x.g (0 : UInt8)).set i 1 := by
  rw [sendC, if_pos h, Nat.mod_eq_of_lt h, coefF, padTo_nil, if_pos (zeros_lead _)]
theorem coefF_lead (n t : Nat) (l : List UInt8) (h : t < n) : ¬ lead (coefF n t l) < 0 := by
  unfold coefF
  split
  · intro h2
    have := lead_none.1 h2 t
    rw [List.getD_eq_getElem?_getD, List.getElem?_set, if_pos rfl, if_pos (by rw [padTo_length]; exact h)] at this
    exact absurd this (by decide)
  · assumption
end Go.Bw
