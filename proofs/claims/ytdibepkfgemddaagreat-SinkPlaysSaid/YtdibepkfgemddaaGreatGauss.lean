/- Rows without payloads; what Gauss makes of them: plain laws. -/
import Derived.Test.YtdibepkfgemddaaGreatSpan
import Derived.Test.YtdibepkfgemddaaGreatOnes
import Derived.Test.YtdibepkfgemddaaGreatForm
namespace Go.Bw
set_option linter.unusedVariables false
set_option linter.unusedSimpArgs false

/-- A row without its payload. -/
def pr (r : RowD) : RowD := (r.1, [])
theorem addS_nil (c : UInt8) : addS c [] [] = [] := rfl
theorem pr_plus (r x : RowD) (c : UInt8) : pr (plusR r x c) = plusR (pr r) (pr x) c := rfl
theorem pr_step (r x : RowD) : pr (stepR r x) = stepR (pr r) (pr x) := rfl
theorem pr_red : ∀ (rows : List RowD) (r : RowD), pr (redR rows r) = redR (rows.map pr) (pr r)
  | [], r => rfl
  | x :: rows, r => by
    show pr (redR rows (stepR r x)) = redR (rows.map pr) (stepR (pr r) (pr x))
    rw [pr_red rows, pr_step]
theorem pr_norm (q : RowD) : pr (normR q) = normR (pr q) := rfl
theorem pr_free (q x : RowD) : pr (freeR q x) = freeR (pr q) (pr x) := rfl
theorem pr_place : ∀ (rows : List RowD) (L : Int), placeOf (rows.map pr) L = placeOf rows L
  | [], _ => rfl
  | x :: rows, L => by
    show (if lead x.1 > L then 0 else placeOf (rows.map pr) L + 1) = if lead x.1 > L then 0 else placeOf rows L + 1
    rw [pr_place rows L]
theorem insAt_map {α β : Type} (f : α → β) (l : List α) (i : Nat) (x : α) : (insAt l i x).map f = insAt (l.map f) i (f x) := by
  simp [insAt, List.map_take, List.map_drop]
theorem pr_ins {g s : Nat} (A : List RowD) (r : RowD) (hr : RowGS g s r) : insR g 0 (A.map pr) (pr r) = ((insR g s A r).1, (insR g s A r).2.map pr) := by
  have h1 : (pr r).1.length = g ∧ (pr r).2.length = 0 := ⟨hr.1, rfl⟩
  have e : (redR (A.map pr) (pr r)).1 = (redR A r).1 := by rw [← pr_red]; rfl
  unfold insR
  rw [if_pos h1, if_pos (show r.1.length = g ∧ r.2.length = s from hr), e]
  by_cases h : lead (redR A r).1 < 0
  · rw [if_pos h, if_pos h]
  · rw [if_neg h, if_neg h]
    simp only
    have hf : (freeR (redR (A.map pr) (pr r))) ∘ pr = pr ∘ freeR (redR A r) := by
      funext x
      show freeR (redR (A.map pr) (pr r)) (pr x) = pr (freeR (redR A r) x)
      rw [pr_free, pr_red]
    rw [insAt_map, pr_norm, pr_red, pr_place, List.map_map, List.map_map, hf]
theorem pr_all {g s : Nat} : ∀ (rows : List RowD) (A : List RowD), (∀ r ∈ rows, RowGS g s r) → (rows.map pr).foldl (fun b r => (insR g 0 b r).2) (A.map pr) = (rows.foldl (fun b r => (insR g s b r).2) A).map pr
  | [], A, _ => rfl
  | r :: rows, A, h => by
    rw [List.map_cons, List.foldl_cons, List.foldl_cons, pr_ins (s := s) A r (h r (by simp))]
    exact pr_all rows _ (fun x hx => h x (by simp [hx]))
theorem pr_insAll {g s : Nat} (rows : List RowD) (h : ∀ r ∈ rows, RowGS g s r) : insAll g 0 (rows.map pr) = (insAll g s rows).map pr := pr_all rows [] h
theorem pr_has {s : Nat} (A : List RowD) (l : List UInt8) : hasR 0 (A.map pr) l = hasR s A l := by
  unfold hasR
  rw [show ((l, List.replicate 0 0) : RowD) = pr (l, List.replicate s 0) from rfl, ← pr_red]
  rfl

/-- A property of rows that sums and multiples keep. -/
structure Cls (g : Nat) (Q : List UInt8 → Prop) : Prop where
  add : ∀ a b c, a.length = g → b.length = g → Q a → Q b → Q (addS c a b)
  mul : ∀ a c, a.length = g → Q a → Q (a.map fun x => mul x c)
/-- One row taken from another, back again. -/
theorem addS_back (c : UInt8) (a b : List UInt8) (h : a.length = b.length) : addS c (addS c a b) b = a := by
  refine list_ext ?_ fun j => ?_
  · rw [addS_length _ _ _ (by rw [addS_length _ _ _ h]; exact h), addS_length _ _ _ h]
  · rw [addS_getD _ _ _ (by rw [addS_length _ _ _ h]; exact h), addS_getD _ _ _ h, xor_assoc8, xor_self8, xor_zero8]
theorem map_inv_back (a : List UInt8) {c : UInt8} (h : c ≠ 0) : (a.map fun x => mul x (inv c)).map (fun x => mul x c) = a := by
  rw [List.map_map]
  conv => rhs; rw [← List.map_id a]
  refine List.map_congr_left fun x _ => ?_
  show mul (mul x (inv c)) c = x
  rw [mul_assoc, mul_comm (inv c) c, mul_inv c h, mul_one]

/-- All rows but one freed of that one's lead. -/
def gClear (k d : Nat) (R : List (List UInt8)) : List (List UInt8) := (List.range R.length).map fun i => if i = d then R.getD d [] else addS ((R.getD i []).getD k 0) (R.getD i []) (R.getD d [])
/-- The first row from d on that has something at k. -/
def gFind (k d : Nat) (R : List (List UInt8)) : Option Nat := ((R.drop d).findIdx? fun row => decide (row.getD k 0 ≠ 0)).map (d + ·)
def gSwap (d i : Nat) (R : List (List UInt8)) : List (List UInt8) := (R.set i (R.getD d [])).set d (R.getD i [])
def gScale (k d : Nat) (R : List (List UInt8)) : List (List UInt8) := R.set d ((R.getD d []).map fun x => mul x (inv ((R.getD d []).getD k 0)))
def gStep (p : List (List UInt8) × Nat) (k : Nat) : List (List UInt8) × Nat :=
  match gFind k p.2 p.1 with
  | none => p
  | some i => (gClear k p.2 (gScale k p.2 (gSwap p.2 i p.1)), p.2 + 1)
def gAll (cols : Nat) (R : List (List UInt8)) : List (List UInt8) × Nat := (List.range cols).foldl gStep (R, 0)
def gauss (cols : Nat) (R : List (List UInt8)) : List (List UInt8) := (gAll cols R).1.take (gAll cols R).2

/-- An entry. -/
def E (R : List (List UInt8)) (i j : Nat) : UInt8 := (R.getD i []).getD j 0
theorem set_getD (R : List (List UInt8)) (d a : Nat) (x : List UInt8) (h : d < R.length) : (R.set d x).getD a [] = if a = d then x else R.getD a [] := by
  rw [List.getD_eq_getElem?_getD, List.getElem?_set]
  by_cases e : d = a
  · subst e; simp [h]
  · rw [if_neg e, if_neg (fun q => e q.symm), List.getD_eq_getElem?_getD]
theorem gSwap_len (d i : Nat) (R : List (List UInt8)) : (gSwap d i R).length = R.length := by simp [gSwap]
theorem gScale_len (k d : Nat) (R : List (List UInt8)) : (gScale k d R).length = R.length := by simp [gScale]
theorem gClear_len (k d : Nat) (R : List (List UInt8)) : (gClear k d R).length = R.length := by simp [gClear]
theorem gSwap_get (d i a : Nat) (R : List (List UInt8)) (hd : d < R.length) (hi : i < R.length) : (gSwap d i R).getD a [] = if a = d then R.getD i [] else if a = i then R.getD d [] else R.getD a [] := by
  unfold gSwap
  rw [set_getD _ _ _ _ (by simpa using hd), set_getD _ _ _ _ hi]
theorem gScale_get (k d a : Nat) (R : List (List UInt8)) (hd : d < R.length) : (gScale k d R).getD a [] = if a = d then (R.getD d []).map (fun x => mul x (inv (E R d k))) else R.getD a [] := by
  unfold gScale
  rw [set_getD _ _ _ _ hd]
  rfl
theorem gClear_get (k d a : Nat) (R : List (List UInt8)) (ha : a < R.length) : (gClear k d R).getD a [] = if a = d then R.getD d [] else addS (E R a k) (R.getD a []) (R.getD d []) := by
  unfold gClear E
  rw [List.getD_eq_getElem?_getD, List.getElem?_map, List.getElem?_range ha]
  rfl
theorem gFind_some {k d i : Nat} {R : List (List UInt8)} (h : gFind k d R = some i) : d ≤ i ∧ i < R.length ∧ E R i k ≠ 0 := by
  unfold gFind at h
  obtain ⟨j, hj, rfl⟩ := Option.map_eq_some_iff.1 h
  rw [List.findIdx?_eq_some_iff_getElem] at hj
  obtain ⟨h1, h2, _⟩ := hj
  have h3 : d + j < R.length := by rw [List.length_drop] at h1; omega
  refine ⟨by omega, h3, ?_⟩
  have h4 : E R (d + j) k = ((R.drop d)[j]).getD k 0 := by
    unfold E
    rw [List.getElem_drop, List.getD_eq_getElem?_getD (l := R), List.getElem?_eq_getElem h3]
    rfl
  rw [h4]
  simpa using h2
theorem gFind_none {k d : Nat} {R : List (List UInt8)} (h : gFind k d R = none) (i : Nat) (h1 : d ≤ i) (h2 : i < R.length) : E R i k = 0 := by
  unfold gFind at h
  rw [Option.map_eq_none_iff, List.findIdx?_eq_none_iff] at h
  have h3 := h (R[i]) (by
    rw [List.mem_iff_getElem]
    refine ⟨i - d, by rw [List.length_drop]; omega, ?_⟩
    rw [List.getElem_drop]
    congr 1
    omega)
  unfold E
  rw [List.getD_eq_getElem?_getD (l := R), List.getElem?_eq_getElem h2]
  simpa using h3

/-- What holds when the first k columns are done, with d leads at L. -/
structure GI (cols k : Nat) (R : List (List UInt8)) (d : Nat) (L : Nat → Nat) : Prop where
  len : ∀ a, a < R.length → (R.getD a []).length = cols
  dle : d ≤ R.length
  lk : ∀ t, t < d → L t < k
  asc : ∀ t u, t < u → u < d → L t < L u
  one : ∀ t, t < d → E R t (L t) = 1
  pre : ∀ t, t < d → ∀ j, j < L t → E R t j = 0
  zer : ∀ t, t < d → ∀ a, a < R.length → a ≠ t → E R a (L t) = 0
  low : ∀ a, d ≤ a → a < R.length → ∀ j, j < k → E R a j = 0
theorem GI.start (cols : Nat) (R : List (List UInt8)) (h : ∀ a, a < R.length → (R.getD a []).length = cols) (L : Nat → Nat) : GI cols 0 R 0 L :=
  ⟨h, Nat.zero_le _, fun t h => by omega, fun t u _ h => by omega, fun t h => by omega, fun t h => by omega, fun t h => by omega, fun a _ _ j h => by omega⟩
theorem GI.skip {cols k d : Nat} {R : List (List UInt8)} {L : Nat → Nat} (h : GI cols k R d L) (hf : gFind k d R = none) : GI cols (k + 1) R d L :=
  ⟨h.len, h.dle, fun t ht => Nat.lt_succ_of_lt (h.lk t ht), h.asc, h.one, h.pre, h.zer, fun a h1 h2 j hj => by
    by_cases e : j = k
    · subst e; exact gFind_none hf a h1 h2
    · exact h.low a h1 h2 j (by omega)⟩
section
variable {cols k d i : Nat} {R : List (List UInt8)} {L : Nat → Nat}
theorem E_swap (hd : d < R.length) (hi : i < R.length) (a j : Nat) : E (gSwap d i R) a j = if a = d then E R i j else if a = i then E R d j else E R a j := by
  unfold E
  rw [gSwap_get d i a R hd hi]
  split
  · rfl
  · split <;> rfl
theorem E_scale (hd : d < R.length) (a j : Nat) : E (gScale k d R) a j = if a = d then mul (E R d j) (inv (E R d k)) else E R a j := by
  show ((gScale k d R).getD a []).getD j 0 = _
  rw [gScale_get k d a R hd]
  split
  · rw [map_getD _ (fun x => mul x (inv (E R d k))) (zero_mul _)]; rfl
  · rfl
theorem E_clear (hl : ∀ a, a < R.length → (R.getD a []).length = cols) (hd : d < R.length) (a j : Nat) (ha : a < R.length) : E (gClear k d R) a j = if a = d then E R d j else E R a j ^^^ mul (E R d j) (E R a k) := by
  show ((gClear k d R).getD a []).getD j 0 = _
  rw [gClear_get k d a R ha]
  split
  · rfl
  · rw [addS_getD _ _ _ ((hl a ha).trans (hl d hd).symm)]; rfl
theorem GI.step (h : GI cols k R d L) (hf : gFind k d R = some i) : GI cols (k + 1) (gClear k d (gScale k d (gSwap d i R))) (d + 1) (fun t => if t = d then k else L t) := by
  obtain ⟨hdi, hi, hx⟩ := gFind_some hf
  have hd : d < R.length := by omega
  have l1 := gSwap_len d i R
  have l2 : (gScale k d (gSwap d i R)).length = R.length := by rw [gScale_len, l1]
  have l3 : (gClear k d (gScale k d (gSwap d i R))).length = R.length := by rw [gClear_len, l2]
  have len1 : ∀ a, a < (gSwap d i R).length → ((gSwap d i R).getD a []).length = cols := by
    intro a ha
    rw [gSwap_get d i a R hd hi]
    split
    · exact h.len i hi
    · split
      · exact h.len d hd
      · exact h.len a (by omega)
  have len2 : ∀ a, a < (gScale k d (gSwap d i R)).length → ((gScale k d (gSwap d i R)).getD a []).length = cols := by
    intro a ha
    rw [gScale_get k d a _ (by omega)]
    split
    · rw [List.length_map]; exact len1 d (by omega)
    · exact len1 a (by omega)
  have e2 : ∀ a j, E (gScale k d (gSwap d i R)) a j = if a = d then mul (E R i j) (inv (E R i k)) else if a = i then E R d j else E R a j := by
    intro a j
    rw [E_scale (by omega), E_swap hd hi, E_swap hd hi, E_swap hd hi]
    by_cases e : a = d
    · rw [if_pos e, if_pos e, if_pos rfl, if_pos rfl]
    · rw [if_neg e, if_neg e, if_neg e]
  have e3 : ∀ a j, a < R.length → E (gClear k d (gScale k d (gSwap d i R))) a j = if a = d then E (gScale k d (gSwap d i R)) d j else E (gScale k d (gSwap d i R)) a j ^^^ mul (E (gScale k d (gSwap d i R)) d j) (E (gScale k d (gSwap d i R)) a k) :=
    fun a j ha => E_clear len2 (by omega) a j (by omega)
  have hdk : E (gScale k d (gSwap d i R)) d k = 1 := by rw [e2, if_pos rfl, mul_inv _ hx]
  have hdj : ∀ j, j < k → E (gScale k d (gSwap d i R)) d j = 0 := fun j hj => by rw [e2, if_pos rfl, h.low i hdi hi j hj, zero_mul]
  have hlo : ∀ a j, a < R.length → j < k → a ≠ d → E (gClear k d (gScale k d (gSwap d i R))) a j = if a = i then E R d j else E R a j := by
    intro a j ha hj hne
    rw [e3 a j ha, if_neg hne, hdj j hj, zero_mul, xor_zero8, e2, if_neg hne]
  have hdlo : ∀ j, j < k → E (gClear k d (gScale k d (gSwap d i R))) d j = 0 := fun j hj => by rw [e3 d j hd, if_pos rfl, hdj j hj]
  have hkk : ∀ a, a < R.length → a ≠ d → E (gClear k d (gScale k d (gSwap d i R))) a k = 0 := by
    intro a ha hne
    rw [e3 a k ha, if_neg hne, hdk, one_mul, xor_self8]
  refine ⟨?_, by omega, ?_, ?_, ?_, ?_, ?_, ?_⟩
  · intro a ha
    rw [gClear_get k d a _ (by omega)]
    split
    · exact len2 d (by omega)
    · rw [addS_length _ _ _ ((len2 a (by omega)).trans (len2 d (by omega)).symm)]; exact len2 a (by omega)
  · intro t ht
    show (if t = d then k else L t) < k + 1
    split
    · omega
    · have := h.lk t (by omega); omega
  · intro t u htu hu
    show (if t = d then k else L t) < (if u = d then k else L u)
    rw [if_neg (by omega)]
    split
    · exact h.lk t (by omega)
    · exact h.asc t u htu (by omega)
  · intro t ht
    show E _ t (if t = d then k else L t) = 1
    by_cases e : t = d
    · subst e
      rw [if_pos rfl, e3 t k hd, if_pos rfl, hdk]
    · have hlk := h.lk t (by omega)
      rw [if_neg e, hlo t _ (by omega) hlk e, if_neg (by omega)]
      exact h.one t (by omega)
  · intro t ht j hj
    replace hj : j < (if t = d then k else L t) := hj
    by_cases e : t = d
    · subst e
      rw [if_pos rfl] at hj
      exact hdlo j hj
    · have hlk := h.lk t (by omega)
      rw [if_neg e] at hj
      rw [hlo t j (by omega) (by omega) e, if_neg (by omega)]
      exact h.pre t (by omega) j hj
  · intro t ht a ha hat
    show E _ a (if t = d then k else L t) = 0
    by_cases e : t = d
    · rw [if_pos e]
      exact hkk a (by omega) (by omega)
    · have hlk := h.lk t (by omega)
      rw [if_neg e]
      by_cases ea : a = d
      · rw [ea]; exact hdlo _ hlk
      · rw [hlo a _ (by omega) hlk ea]
        split
        · exact h.zer t (by omega) d hd (by omega)
        · exact h.zer t (by omega) a (by omega) hat
  · intro a h1 h2 j hj
    by_cases e : j = k
    · rw [e]; exact hkk a (by omega) (by omega)
    · rw [hlo a j (by omega) (by omega) (by omega)]
      split
      · exact h.low d (Nat.le_refl _) hd j (by omega)
      · exact h.low a (by omega) (by omega) j (by omega)
end

theorem gStep_some {k i : Nat} {p : List (List UInt8) × Nat} (h : gFind k p.2 p.1 = some i) : gStep p k = (gClear k p.2 (gScale k p.2 (gSwap p.2 i p.1)), p.2 + 1) := by unfold gStep; rw [h]
theorem gStep_none {k : Nat} {p : List (List UInt8) × Nat} (h : gFind k p.2 p.1 = none) : gStep p k = p := by unfold gStep; rw [h]
theorem gStep_len (p : List (List UInt8) × Nat) (k : Nat) : (gStep p k).1.length = p.1.length := by
  cases h : gFind k p.2 p.1 with
  | none => rw [gStep_none h]
  | some i => rw [gStep_some h, gClear_len, gScale_len, gSwap_len]
theorem gAll_ok {cols : Nat} {R : List (List UInt8)} (h : ∀ a, a < R.length → (R.getD a []).length = cols) : ∀ n, n ≤ cols → ∃ L, GI cols n (gAll n R).1 (gAll n R).2 L ∧ (gAll n R).1.length = R.length
  | 0, _ => ⟨fun _ => 0, GI.start cols R h _, rfl⟩
  | n + 1, hn => by
    obtain ⟨L, hL, hl⟩ := gAll_ok h n (by omega)
    have e : gAll (n + 1) R = gStep (gAll n R) n := by unfold gAll; rw [List.range_succ, List.foldl_append]; rfl
    rw [e]
    refine ⟨?_, ?_, by rw [gStep_len, hl]⟩
    · exact match gFind n (gAll n R).2 (gAll n R).1 with
        | none => L
        | some _ => fun t => if t = (gAll n R).2 then n else L t
    · cases hf : gFind n (gAll n R).2 (gAll n R).1 with
      | none => rw [gStep_none hf]; exact hL.skip hf
      | some i => rw [gStep_some hf]; exact hL.step hf
theorem GI.red {cols d : Nat} {R : List (List UInt8)} {L : Nat → Nat} (h : GI cols cols R d L) : Red cols 0 ((R.take d).map fun c => (c, [])) := by
  have hget : ∀ t, t < d → ∃ ht : t < R.length, (R.getD t []) = R[t] := fun t ht => ⟨by have := h.dle; omega, by rw [List.getD_eq_getElem?_getD, List.getElem?_eq_getElem (by have := h.dle; omega)]; rfl⟩
  have hld : ∀ t, t < d → lead (R.getD t []) = (L t : Int) := fun t ht => lead_of (by rw [show (R.getD t []).getD (L t) 0 = 1 from h.one t ht]; decide) (h.pre t ht)
  have hmem : ∀ x ∈ (R.take d).map (fun c => ((c, []) : RowD)), ∃ t, t < d ∧ x = (R.getD t [], []) := by
    intro x hx
    obtain ⟨c, hc, rfl⟩ := List.mem_map.1 hx
    obtain ⟨t, ht, rfl⟩ := List.mem_iff_getElem.1 hc
    rw [List.length_take] at ht
    obtain ⟨ht2, e⟩ := hget t (by omega)
    exact ⟨t, by omega, by rw [List.getElem_take, e]⟩
  have hldp : ∀ t, t < d → ldp ((R.getD t [], []) : RowD) = L t := fun t ht => by unfold ldp; rw [hld t ht]; rfl
  refine ⟨?_, ?_, ?_, ?_, ?_⟩
  · intro x hx
    obtain ⟨t, ht, rfl⟩ := hmem x hx
    exact ⟨h.len t (hget t ht).1, rfl⟩
  · intro x hx
    obtain ⟨t, ht, rfl⟩ := hmem x hx
    rw [hld t ht]
    omega
  · rw [List.pairwise_iff_getElem]
    intro t u ht hu htu
    simp only [List.length_map, List.length_take] at ht hu
    have h1 := hld t (by omega)
    have h2 := hld u (by omega)
    rw [(hget t (by omega)).2] at h1
    rw [(hget u (by omega)).2] at h2
    simp only [List.getElem_map, List.getElem_take]
    rw [h1, h2]
    have := h.asc t u htu (by omega)
    omega
  · intro x hx
    obtain ⟨t, ht, rfl⟩ := hmem x hx
    rw [hldp t ht]
    exact h.one t ht
  · intro x hx y hy hne
    obtain ⟨t, ht, rfl⟩ := hmem x hx
    obtain ⟨u, hu, rfl⟩ := hmem y hy
    rw [hldp t ht]
    exact h.zer t ht u (hget u hu).1 (fun e => hne (by rw [e]))
theorem gauss_red {cols : Nat} {R : List (List UInt8)} (h : ∀ a, a < R.length → (R.getD a []).length = cols) : Red cols 0 ((gauss cols R).map fun c => (c, [])) := by
  obtain ⟨L, hL, _⟩ := gAll_ok h cols (Nat.le_refl _)
  exact hL.red

section
variable {cols k d i : Nat} {R : List (List UInt8)} {Q : List UInt8 → Prop}
theorem clear_fwd (hQ : Cls cols Q) (hd : d < R.length) (hl : ∀ a, a < R.length → (R.getD a []).length = cols) (h : ∀ a, a < R.length → Q (R.getD a [])) (a : Nat) (ha : a < R.length) : Q ((gClear k d R).getD a []) := by
  rw [gClear_get k d a R ha]
  split
  · exact h d hd
  · exact hQ.add _ _ _ (hl a ha) (hl d hd) (h a ha) (h d hd)
theorem clear_bwd (hQ : Cls cols Q) (hd : d < R.length) (hl : ∀ a, a < R.length → (R.getD a []).length = cols) (h : ∀ a, a < R.length → Q ((gClear k d R).getD a [])) (a : Nat) (ha : a < R.length) : Q (R.getD a []) := by
  have h1 := h a ha
  have h2 := h d hd
  rw [gClear_get k d d R hd, if_pos rfl] at h2
  rw [gClear_get k d a R ha] at h1
  by_cases e : a = d
  · rw [e]; exact h2
  · rw [if_neg e] at h1
    have := hQ.add _ _ (E R a k) (by rw [addS_length _ _ _ ((hl a ha).trans (hl d hd).symm)]; exact hl a ha) (hl d hd) h1 h2
    rw [addS_back _ _ _ ((hl a ha).trans (hl d hd).symm)] at this
    exact this
theorem scale_fwd (hQ : Cls cols Q) (hd : d < R.length) (hl : ∀ a, a < R.length → (R.getD a []).length = cols) (h : ∀ a, a < R.length → Q (R.getD a [])) (a : Nat) (ha : a < R.length) : Q ((gScale k d R).getD a []) := by
  rw [gScale_get k d a R hd]
  split
  · exact hQ.mul _ _ (hl d hd) (h d hd)
  · exact h a ha
theorem scale_bwd (hQ : Cls cols Q) (hd : d < R.length) (hx : E R d k ≠ 0) (hl : ∀ a, a < R.length → (R.getD a []).length = cols) (h : ∀ a, a < R.length → Q ((gScale k d R).getD a [])) (a : Nat) (ha : a < R.length) : Q (R.getD a []) := by
  have h1 := h a ha
  rw [gScale_get k d a R hd] at h1
  by_cases e : a = d
  · rw [if_pos e] at h1
    have := hQ.mul _ (E R d k) (by rw [List.length_map]; exact hl d hd) h1
    rw [map_inv_back _ hx] at this
    rw [e]
    exact this
  · rw [if_neg e] at h1
    exact h1
theorem swap_fwd (hd : d < R.length) (hi : i < R.length) (h : ∀ a, a < R.length → Q (R.getD a [])) (a : Nat) (ha : a < R.length) : Q ((gSwap d i R).getD a []) := by
  rw [gSwap_get d i a R hd hi]
  split
  · exact h i hi
  · split
    · exact h d hd
    · exact h a ha
theorem swap_bwd (hd : d < R.length) (hi : i < R.length) (h : ∀ a, a < R.length → Q ((gSwap d i R).getD a [])) (a : Nat) (ha : a < R.length) : Q (R.getD a []) := by
  by_cases e : a = i
  · have h1 := h d hd
    rw [gSwap_get d i d R hd hi, if_pos rfl] at h1
    rw [e]; exact h1
  · by_cases e2 : a = d
    · have h1 := h i hi
      rw [gSwap_get d i i R hd hi] at h1
      by_cases e3 : i = d
      · omega
      · rw [if_neg e3, if_pos rfl] at h1
        rw [e2]; exact h1
    · have h1 := h a ha
      rw [gSwap_get d i a R hd hi, if_neg e2, if_neg e] at h1
      exact h1
theorem swap_len (hd : d < R.length) (hi : i < R.length) (hl : ∀ a, a < R.length → (R.getD a []).length = cols) (a : Nat) (ha : a < R.length) : ((gSwap d i R).getD a []).length = cols :=
  swap_fwd (Q := fun l => l.length = cols) hd hi hl a ha
theorem scale_len (hd : d < R.length) (hl : ∀ a, a < R.length → (R.getD a []).length = cols) (a : Nat) (ha : a < R.length) : ((gScale k d R).getD a []).length = cols := by
  rw [gScale_get k d a R hd]
  split
  · rw [List.length_map]; exact hl d hd
  · exact hl a ha
end

theorem step_fwd {cols k : Nat} {Q : List UInt8 → Prop} (hQ : Cls cols Q) (p : List (List UInt8) × Nat) (hl : ∀ a, a < p.1.length → (p.1.getD a []).length = cols) (h : ∀ a, a < p.1.length → Q (p.1.getD a [])) : ∀ a, a < p.1.length → Q ((gStep p k).1.getD a []) := by
  cases hf : gFind k p.2 p.1 with
  | none => rw [gStep_none hf]; exact h
  | some i =>
    rw [gStep_some hf]
    obtain ⟨h1, h2, h3⟩ := gFind_some hf
    have hd : p.2 < p.1.length := by omega
    have e1 := gSwap_len p.2 i p.1
    have e2 : (gScale k p.2 (gSwap p.2 i p.1)).length = p.1.length := by rw [gScale_len, e1]
    have l1 := swap_len hd h2 hl
    have l2 : ∀ a, a < (gSwap p.2 i p.1).length → ((gScale k p.2 (gSwap p.2 i p.1)).getD a []).length = cols := scale_len (cols := cols) (k := k) (d := p.2) (R := gSwap p.2 i p.1) (by omega) (fun a ha => l1 a (by omega))
    generalize hR2 : gScale k p.2 (gSwap p.2 i p.1) = R2 at *
    generalize hR1 : gSwap p.2 i p.1 = R1 at *
    intro a ha
    refine clear_fwd (k := k) (d := p.2) (R := R2) hQ (by omega) (fun a ha => l2 a (by omega)) (fun a ha => ?_) a (by omega)
    rw [← hR2]
    exact scale_fwd (k := k) (d := p.2) (R := R1) hQ (by omega) (fun a ha => l1 a (by omega)) (fun a ha => by rw [← hR1]; exact swap_fwd hd h2 h a (by omega)) a (by omega)
theorem step_bwd {cols k : Nat} {Q : List UInt8 → Prop} (hQ : Cls cols Q) (p : List (List UInt8) × Nat) (hl : ∀ a, a < p.1.length → (p.1.getD a []).length = cols) (h : ∀ a, a < p.1.length → Q ((gStep p k).1.getD a [])) : ∀ a, a < p.1.length → Q (p.1.getD a []) := by
  cases hf : gFind k p.2 p.1 with
  | none => rw [gStep_none hf] at h; exact h
  | some i =>
    rw [gStep_some hf] at h
    obtain ⟨h1, h2, h3⟩ := gFind_some hf
    have hd : p.2 < p.1.length := by omega
    have e1 := gSwap_len p.2 i p.1
    have e2 : (gScale k p.2 (gSwap p.2 i p.1)).length = p.1.length := by rw [gScale_len, e1]
    have l1 := swap_len hd h2 hl
    have l2 : ∀ a, a < (gSwap p.2 i p.1).length → ((gScale k p.2 (gSwap p.2 i p.1)).getD a []).length = cols := scale_len (cols := cols) (k := k) (d := p.2) (R := gSwap p.2 i p.1) (by omega) (fun a ha => l1 a (by omega))
    generalize hR2 : gScale k p.2 (gSwap p.2 i p.1) = R2 at *
    generalize hR1 : gSwap p.2 i p.1 = R1 at *
    have hx : E R1 p.2 k ≠ 0 := by rw [← hR1, E_swap hd h2, if_pos rfl]; exact h3
    refine swap_bwd hd h2 fun a ha => ?_
    rw [hR1]
    refine scale_bwd (k := k) (d := p.2) (R := R1) hQ (by omega) hx (fun a ha => l1 a (by omega)) (fun a ha => ?_) a (by omega)
    rw [hR2]
    exact clear_bwd (k := k) (d := p.2) (R := R2) hQ (by omega) (fun a ha => l2 a (by omega)) (fun a ha => h a (by omega)) a (by omega)
theorem all_both {cols : Nat} {R : List (List UInt8)} {Q : List UInt8 → Prop} (hQ : Cls cols Q) (hl : ∀ a, a < R.length → (R.getD a []).length = cols) : ∀ n, n ≤ cols →
    ((∀ a, a < R.length → Q (R.getD a [])) ↔ ∀ a, a < R.length → Q ((gAll n R).1.getD a []))
  | 0, _ => Iff.rfl
  | n + 1, hn => by
    obtain ⟨L, hL, hll⟩ := gAll_ok hl n (by omega)
    have e : gAll (n + 1) R = gStep (gAll n R) n := by unfold gAll; rw [List.range_succ, List.foldl_append]; rfl
    rw [all_both hQ hl n (by omega), e]
    exact ⟨fun h a ha => step_fwd hQ _ hL.len (fun a ha => h a (by omega)) a (by omega), fun h a ha => step_bwd hQ _ hL.len (fun a ha => h a (by omega)) a (by omega)⟩
theorem cls_in {cols : Nat} (A : List RowD) : Cls cols fun l => InS A (fun _ => True) (l, []) := by
  refine ⟨fun a b c ha hb h1 h2 => ?_, fun a c ha h => ?_⟩
  · exact InS.plus (g := cols) (s := 0) (r := (a, [])) (x := (b, [])) ⟨ha, rfl⟩ ⟨hb, rfl⟩ h1 h2 c
  · have he : ∀ i, ent ((a.map fun x => mul x c, []) : RowD) i = mul (ent (a, []) i) c := by
      intro i
      cases i with
      | inl j => exact map_getD a (fun x => mul x c) (zero_mul _) j
      | inr j => show ([] : List UInt8).getD j 0 = mul (([] : List UInt8).getD j 0) c; simp [zero_mul]
    intro i hi
    rw [he, h i hi, ← S_mul]
    exact S_congr _ _ _ _ fun y _ => (he _).symm
theorem gauss_eq {cols : Nat} {R : List (List UInt8)} (hl : ∀ r ∈ R, r.length = cols) : (gauss cols R).map (fun c => ((c, []) : RowD)) = insAll cols 0 (R.map fun c => (c, [])) := by
  have hl' : ∀ a, a < R.length → (R.getD a []).length = cols := fun a ha => by
    rw [List.getD_eq_getElem?_getD, List.getElem?_eq_getElem ha]; exact hl _ (List.getElem_mem ha)
  have hR : ∀ r ∈ R.map (fun c => ((c, []) : RowD)), Tr [] r ∧ RowGS cols 0 r := by
    intro r hr
    obtain ⟨c, hc, rfl⟩ := List.mem_map.1 hr
    exact ⟨fun j => by simp [T], hl c hc, rfl⟩
  have hG := gauss_red hl'
  have hB := insAll_good (g := cols) (s := 0) (ys := []) _ hR
  have hin := insAll_in (g := cols) (s := 0) (ys := []) _ hR
  obtain ⟨L, hL, hll⟩ := gAll_ok hl' cols (Nat.le_refl _)
  refine Red.unique hG hB.red ?_ ?_
  · intro x hx
    obtain ⟨c, hc, rfl⟩ := List.mem_map.1 hx
    obtain ⟨t, ht, rfl⟩ := List.mem_iff_getElem.1 hc
    unfold gauss at ht
    rw [List.length_take] at ht
    have h1 := (all_both (cls_in (insAll cols 0 (R.map fun c => (c, [])))) hl' cols (Nat.le_refl _)).1 (fun a ha => hin _ (List.mem_map.2 ⟨R.getD a [], by rw [List.getD_eq_getElem?_getD, List.getElem?_eq_getElem ha]; exact List.getElem_mem ha, rfl⟩)) t (by omega)
    rw [List.getD_eq_getElem?_getD, List.getElem?_eq_getElem (by omega)] at h1
    have e : (gauss cols R)[t] = (gAll cols R).1[t]'(by omega) := by simp [gauss]
    rw [e]
    exact h1
  · have hback := (all_both (cls_in ((gauss cols R).map fun c => ((c, []) : RowD))) hl' cols (Nat.le_refl _)).2 (fun a ha => by
      by_cases had : a < (gAll cols R).2
      · refine InS.own hG (List.mem_map.2 ⟨(gAll cols R).1.getD a [], ?_, rfl⟩)
        rw [List.getD_eq_getElem?_getD, List.getElem?_eq_getElem (by omega)]
        unfold gauss
        rw [List.mem_iff_getElem]
        exact ⟨a, by rw [List.length_take]; omega, by rw [List.getElem_take]; rfl⟩
      · refine InS.zero fun i => ?_
        cases i with
        | inl j =>
          by_cases hj : j < cols
          · exact hL.low a (by omega) (by omega) j hj
          · show ((gAll cols R).1.getD a []).getD j 0 = 0
            rw [List.getD_eq_getElem?_getD, List.getElem?_eq_none (by rw [hL.len a (by omega)]; omega)]
            rfl
        | inr j => simp [ent])
    exact insAll_sub (g := cols) (s := 0) _ [] (by simp) (fun r hr => by
      obtain ⟨c, hc, rfl⟩ := List.mem_map.1 hr
      obtain ⟨t, ht, rfl⟩ := List.mem_iff_getElem.1 hc
      refine ⟨(hR _ hr).2, ?_⟩
      have := hback t ht
      rw [List.getD_eq_getElem?_getD, List.getElem?_eq_getElem ht] at this
      exact this) |> fun h x hx => (h x hx).2
end Go.Bw
