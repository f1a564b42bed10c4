/- Rows that are true of symbols. -/
import Derived.Test.YtdibepkfgemddaaSpan
namespace Go.Bw
set_option linter.unusedVariables false
set_option linter.unusedSimpArgs false

/-- One place of coefficients times symbols. -/
def T : List (List UInt8) → List UInt8 → Nat → UInt8
  | y :: ys, c :: cs, j => mul (y.getD j 0) c ^^^ T ys cs j
  | _, _, _ => 0
theorem T_nil (ys : List (List UInt8)) (j : Nat) : T ys [] j = 0 := by cases ys <;> rfl
theorem T_add : ∀ (ys : List (List UInt8)) (a b : List UInt8) (d : UInt8) (j : Nat), a.length = b.length → T ys (addS d a b) j = T ys a j ^^^ mul (T ys b j) d
  | [], a, b, d, j, _ => by simp [T, zero_mul]
  | y :: ys, [], [], d, j, _ => by simp [T, addS, eachR, zero_mul]
  | y :: ys, x :: a, z :: b, d, j, h => by
    have h' : a.length = b.length := by simpa using h
    have e : addS d (x :: a) (z :: b) = (x ^^^ mul z d) :: addS d a b := by simp [addS, eachR, h']
    rw [e, T, T, T, T_add ys a b d j h', mul_xor, xor_mul, mul_assoc, xor4]
  | y :: ys, [], _ :: _, d, j, h => by simp at h
  | y :: ys, _ :: _, [], d, j, h => by simp at h
theorem T_map : ∀ (ys : List (List UInt8)) (a : List UInt8) (d : UInt8) (j : Nat), T ys (a.map (fun x => mul x d)) j = mul (T ys a j) d
  | [], a, d, j => by simp [T, zero_mul]
  | y :: ys, [], d, j => by simp [T, zero_mul]
  | y :: ys, x :: a, d, j => by rw [List.map_cons, T, T, T_map ys a d j, xor_mul, mul_assoc]
theorem T_zero : ∀ (ys : List (List UInt8)) (a : List UInt8) (j : Nat), (∀ k, a.getD k 0 = 0) → T ys a j = 0
  | [], a, j, _ => by simp [T]
  | y :: ys, [], j, _ => T_nil _ _
  | y :: ys, x :: a, j, h => by
    have h0 := h 0
    simp at h0
    rw [T, h0, mul_zero, T_zero ys a j (fun k => by have := h (k + 1); simpa using this), xor_self8]
theorem comb_T {s : Nat} (ys : List (List UInt8)) (c : List UInt8) (hr : ∀ r ∈ ys, r.length = s) (j : Nat) : (comb s ys c).getD j 0 = T ys c j := by
  have key : ∀ (ys : List (List UInt8)) (c : List UInt8) (out : List UInt8), (∀ r ∈ ys, r.length = s) → out.length = s → ((ys.zip c).foldl (fun out p => addS p.2 out p.1) out).getD j 0 = out.getD j 0 ^^^ T ys c j := by
    intro ys
    induction ys with
    | nil => intro c out _ _; simp [T]
    | cons y ys ih =>
      intro c out hr ho
      cases c with
      | nil => simp [T]
      | cons d c =>
        have hy := hr y (by simp)
        rw [List.zip_cons_cons, List.foldl_cons, ih c _ (fun r h => hr r (by simp [h])) (by rw [addS_length _ _ _ (ho.trans hy.symm)]; exact ho), addS_getD _ _ _ (ho.trans hy.symm), T, xor_assoc8]
  unfold comb
  rw [key ys c _ hr (by simp)]
  have : (List.replicate s (0 : UInt8)).getD j 0 = 0 := by
    rw [List.getD_eq_getElem?_getD, List.getElem?_replicate]
    split <;> rfl
  rw [this, zero_xor8]

/-- A row's payload is its coefficients times the symbols. -/
def Tr (ys : List (List UInt8)) (r : RowD) : Prop := ∀ j, r.2.getD j 0 = T ys r.1 j
theorem Tr.plus {ys : List (List UInt8)} {g s : Nat} {r x : RowD} (hr : Tr ys r) (hx : Tr ys x) (gr : RowGS g s r) (gx : RowGS g s x) (c : UInt8) : Tr ys (plusR r x c) := by
  intro j
  show (addS c r.2 x.2).getD j 0 = T ys (addS c r.1 x.1) j
  rw [addS_getD _ _ _ (gr.2.trans gx.2.symm), T_add _ _ _ _ _ (gr.1.trans gx.1.symm), hr j, hx j]
theorem Tr.norm {ys : List (List UInt8)} {q : RowD} (hq : Tr ys q) : Tr ys (normR q) := by
  intro j
  have h := norm_ent q (.inr j)
  simp only [ent] at h
  have h2 := T_map ys q.1 (inv (ent q (.inl (ldp q)))) j
  rw [h, hq j]
  exact h2.symm
theorem Tr.red {ys : List (List UInt8)} {g s : Nat} : ∀ (rows : List RowD) (r : RowD), Tr ys r → RowGS g s r → (∀ x ∈ rows, Tr ys x ∧ RowGS g s x) → Tr ys (redR rows r)
  | [], r, h, _, _ => h
  | x :: rows, r, h, hg, hx => Tr.red rows (stepR r x) (h.plus (hx x (by simp)).1 hg (hx x (by simp)).2 _) (plusR_gs hg (hx x (by simp)).2 _) (fun y hy => hx y (by simp [hy]))
theorem Tr.none {ys : List (List UInt8)} {q : RowD} (hq : Tr ys q) (h : lead q.1 < 0) : ∀ i, ent q i = 0 := by
  intro i
  cases i with
  | inl j => exact lead_none.1 h j
  | inr j => exact (hq j).trans (T_zero ys q.1 j (lead_none.1 h))
theorem laid_true {g s : Nat} (sy : List (List UInt8)) (c : List UInt8) (hr : ∀ r ∈ sy, r.length = s) : Tr sy (laidRow g s sy c) ∧ RowGS g s (laidRow g s sy c) :=
  ⟨fun j => comb_T sy _ hr j, padTo_length _ _, comb_length _ _ _ hr⟩

end Go.Bw
