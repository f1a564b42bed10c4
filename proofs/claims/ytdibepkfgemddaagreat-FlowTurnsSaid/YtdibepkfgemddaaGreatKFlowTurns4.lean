/- What law_FlowTurns needs: laid out of own texts. No condition. -/
import Derived.Test.YtdibepkfgemddaaGreatKFlowTurns3
namespace Go.Bw
set_option linter.unusedVariables false
set_option linter.unusedSimpArgs false
theorem addS_getD (c : UInt8) (a b : List UInt8) (h : a.length = b.length) (j : Nat) : (addS c a b).getD j 0 = a.getD j 0 ^^^ mul (b.getD j 0) c := by
  rw [addS, eachR, if_pos h]
  simp only [List.getD_eq_getElem?_getD, List.getElem?_zipWith]
  by_cases hj : j < a.length
  · have hb : j < b.length := by omega
    simp [hj, hb]
  · have hb : ¬ j < b.length := by omega
    simp [hj, hb, zero_mul]

/-- A place in a row: in its coefficients, or in its payload. -/
abbrev Pl := Nat ⊕ Nat
def ent (r : RowD) : Pl → UInt8
  | .inl j => r.1.getD j 0
  | .inr j => r.2.getD j 0
theorem list_ext {a b : List UInt8} (hl : a.length = b.length) (h : ∀ j, a.getD j 0 = b.getD j 0) : a = b := by
  apply List.ext_getElem hl
  intro i h1 h2
  have := h i
  simpa [h1, h2] using this
theorem row_ext {g s : Nat} {r x : RowD} (hr : RowGS g s r) (hx : RowGS g s x) (h : ∀ i, ent r i = ent x i) : r = x :=
  Prod.ext (list_ext (hr.1.trans hx.1.symm) fun j => h (.inl j)) (list_ext (hr.2.trans hx.2.symm) fun j => h (.inr j))
theorem plus_ent {g s : Nat} {r x : RowD} (hr : RowGS g s r) (hx : RowGS g s x) (c : UInt8) (i : Pl) : ent (plusR r x c) i = ent r i ^^^ mul (ent x i) c := by
  cases i with
  | inl j => exact addS_getD c r.1 x.1 (hr.1.trans hx.1.symm) j
  | inr j => exact addS_getD c r.2 x.2 (hr.2.trans hx.2.symm) j

/-- Sums. -/
def S (rows : List RowD) (cf : RowD → UInt8) (i : Pl) : UInt8 :=
  match rows with
  | [] => 0
  | x :: rows => mul (ent x i) (cf x) ^^^ S rows cf i
theorem S_congr : ∀ (rows : List RowD) (f k : RowD → UInt8) (i : Pl), (∀ x ∈ rows, f x = k x) → S rows f i = S rows k i
  | [], _, _, _, _ => rfl
  | x :: rows, f, k, i, h => by rw [S, S, h x (by simp), S_congr rows f k i (fun y hy => h y (by simp [hy]))]
theorem S_xor : ∀ (rows : List RowD) (f k : RowD → UInt8) (i : Pl), S rows (fun x => f x ^^^ k x) i = S rows f i ^^^ S rows k i
  | [], _, _, _ => by simp only [S]; rfl
  | x :: rows, f, k, i => by rw [S, S, S, S_xor rows f k i, mul_xor, xor4]
theorem S_mul : ∀ (rows : List RowD) (f : RowD → UInt8) (c : UInt8) (i : Pl), S rows (fun x => mul (f x) c) i = mul (S rows f i) c
  | [], _, c, _ => by rw [S, S, zero_mul]
  | x :: rows, f, c, i => by rw [S, S, S_mul rows f c i, xor_mul, mul_assoc]
theorem S_zero : ∀ (rows : List RowD) (f : RowD → UInt8) (i : Pl), (∀ x ∈ rows, f x = 0 ∨ ent x i = 0) → S rows f i = 0
  | [], _, _, _ => rfl
  | x :: rows, f, i, h => by
    rw [S, S_zero rows f i (fun y hy => h y (by simp [hy])), xor_zero8, mul_eq_zero]
    rcases h x (by simp) with h1 | h1
    · exact .inr h1
    · exact .inl h1
theorem S_app : ∀ (a b : List RowD) (f : RowD → UInt8) (i : Pl), S (a ++ b) f i = S a f i ^^^ S b f i
  | [], b, f, i => by rw [List.nil_append, S, zero_xor8]
  | x :: a, b, f, i => by rw [List.cons_append, S, S, S_app a b f i, xor_assoc8]
theorem fold_ent {g s : Nat} : ∀ (rows : List RowD) (cf : RowD → UInt8) (r : RowD), RowGS g s r → (∀ x ∈ rows, RowGS g s x) → ∀ i, ent (rows.foldl (fun a x => plusR a x (cf x)) r) i = ent r i ^^^ S rows cf i
  | [], _, r, h, _, i => by rw [S, xor_zero8]; rfl
  | x :: rows, cf, r, h, hx, i => by
    rw [List.foldl_cons, fold_ent rows cf _ (plusR_gs h (hx x (by simp)) _) (fun y hy => hx y (by simp [hy])), plus_ent h (hx x (by simp)), S, xor_assoc8]

/-- The place of a row's lead. -/
def ldp (x : RowD) : Nat := (lead x.1).toNat
/-- A basis in reduced form. -/
structure Red (g s : Nat) (rows : List RowD) : Prop where
  gs : ∀ x ∈ rows, RowGS g s x
  ld : ∀ x ∈ rows, 0 ≤ lead x.1
  asc : rows.Pairwise fun x y => lead x.1 < lead y.1
  one : ∀ x ∈ rows, ent x (.inl (ldp x)) = 1
  zero : ∀ x ∈ rows, ∀ y ∈ rows, lead y.1 ≠ lead x.1 → ent y (.inl (ldp x)) = 0

theorem Red.nil (g s : Nat) : Red g s [] := ⟨by simp, by simp, List.Pairwise.nil, by simp, by simp⟩
theorem Red.inj {g s : Nat} {rows : List RowD} (h : Red g s rows) {x y : RowD} (hx : x ∈ rows) (hy : y ∈ rows) (e : lead x.1 = lead y.1) : x = y := by
  have key : ∀ l : List RowD, l.Pairwise (fun x y => lead x.1 < lead y.1) → ∀ x ∈ l, ∀ y ∈ l, lead x.1 = lead y.1 → x = y := by
    intro l hl
    induction hl with
    | nil => intro x hx; cases hx
    | cons hz _ ih =>
      intro x hx y hy e
      rcases List.mem_cons.1 hx with h1 | h1 <;> rcases List.mem_cons.1 hy with h2 | h2
      · rw [h1, h2]
      · have := hz y h2; rw [← h1] at this; omega
      · have := hz x h1; rw [← h2] at this; omega
      · exact ih x h1 y h2 e
  exact key rows h.asc x hx y hy e
theorem Red.S_at {g s : Nat} {rows : List RowD} (h : Red g s rows) (cf : RowD → UInt8) {x : RowD} (hx : x ∈ rows) : S rows cf (.inl (ldp x)) = cf x := by
  obtain ⟨a, b, rfl⟩ := List.append_of_mem hx
  have hp := List.pairwise_append.1 h.asc
  have hpc := List.pairwise_cons.1 hp.2.1
  rw [S_app, S, h.one x hx, one_mul, S_zero a, S_zero b, zero_xor8, xor_zero8]
  · intro y hy
    exact .inr (h.zero x hx y (by simp [hy]) (by have := hpc.1 y hy; omega))
  · intro y hy
    exact .inr (h.zero x hx y (by simp [hy]) (by have := hp.2.2 y hy x (by simp); omega))

theorem stepR_eq (r x : RowD) : stepR r x = plusR r x (ent r (.inl (ldp x))) := rfl
theorem redR_fold {g s : Nat} {rows : List RowD} (h : Red g s rows) (r : RowD) (hr : RowGS g s r) : redR rows r = rows.foldl (fun a x => plusR a x (ent r (.inl (ldp x)))) r := by
  have key : ∀ (l : List RowD) (acc : RowD), (∀ x ∈ l, x ∈ rows) → l.Pairwise (fun x y => lead x.1 < lead y.1) → RowGS g s acc → (∀ x ∈ l, ent acc (.inl (ldp x)) = ent r (.inl (ldp x))) →
      l.foldl stepR acc = l.foldl (fun a x => plusR a x (ent r (.inl (ldp x)))) acc := by
    intro l
    induction l with
    | nil => intro acc _ _ _ _; rfl
    | cons x l ih =>
      intro acc hm hp hg he
      have hpc := List.pairwise_cons.1 hp
      have hxg := h.gs x (hm x (by simp))
      rw [List.foldl_cons, List.foldl_cons, stepR_eq, he x (by simp)]
      refine ih _ (fun y hy => hm y (by simp [hy])) hpc.2 (plusR_gs hg hxg _) (fun y hy => ?_)
      rw [plus_ent hg hxg, h.zero y (hm y (by simp [hy])) x (hm x (by simp)) (by have := hpc.1 y hy; omega), zero_mul, xor_zero8]
      exact he y (by simp [hy])
  exact key rows r (fun _ hx => hx) h.asc hr (fun _ _ => rfl)
theorem redR_ent {g s : Nat} {rows : List RowD} (h : Red g s rows) (r : RowD) (hr : RowGS g s r) (i : Pl) : ent (redR rows r) i = ent r i ^^^ S rows (fun x => ent r (.inl (ldp x))) i := by
  rw [redR_fold h r hr]
  exact fold_ent rows (fun x => ent r (.inl (ldp x))) r hr h.gs i
theorem redR_at {g s : Nat} {rows : List RowD} (h : Red g s rows) (r : RowD) (hr : RowGS g s r) {x : RowD} (hx : x ∈ rows) : ent (redR rows r) (.inl (ldp x)) = 0 := by
  rw [redR_ent h r hr, h.S_at _ hx, xor_self8]

theorem lead_of {l : List UInt8} {i : Nat} (h1 : l.getD i 0 ≠ 0) (h2 : ∀ j, j < i → l.getD j 0 = 0) : lead l = (i : Int) := by
  have hi : i < l.length := by
    rcases Nat.lt_or_ge i l.length with h | h
    · exact h
    · exact absurd (by rw [List.getD_eq_getElem?_getD, List.getElem?_eq_none h]; rfl) h1
  have hf : l.findIdx? (fun x => decide (x ≠ 0)) = some i := by
    rw [List.findIdx?_eq_some_iff_getElem]
    refine ⟨hi, by simpa [hi] using h1, fun j hj => ?_⟩
    have := h2 j hj
    have hjl : j < l.length := by omega
    simpa [hjl] using this
  unfold lead idxFrom
  rw [List.drop_zero, hf]
  simp
theorem lead_none {l : List UInt8} : lead l < 0 ↔ ∀ j, l.getD j 0 = 0 := by
  constructor
  · intro h j
    have hf : l.findIdx? (fun x => decide (x ≠ 0)) = none := by
      unfold lead idxFrom at h
      rw [List.drop_zero] at h
      cases hf : l.findIdx? (fun x => decide (x ≠ 0)) with
      | none => rfl
      | some k => rw [hf] at h; simp only at h; omega
    rw [List.findIdx?_eq_none_iff] at hf
    by_cases hj : j < l.length
    · have := hf l[j] (List.getElem_mem _)
      simpa [hj] using this
    · rw [List.getD_eq_getElem?_getD, List.getElem?_eq_none (by omega)]; rfl
  · intro h
    rcases Int.lt_or_le (lead l) 0 with h1 | h1
    · exact h1
    · obtain ⟨i, hi⟩ := Int.eq_ofNat_of_zero_le h1
      obtain ⟨h2, h3, _⟩ := lead_some hi
      have := h i
      simp [h2] at this
      exact absurd this h3
theorem lead_ent {x : RowD} (h : 0 ≤ lead x.1) : ent x (.inl (ldp x)) ≠ 0 ∧ ∀ j, j < ldp x → ent x (.inl j) = 0 := by
  obtain ⟨i, hi⟩ := Int.eq_ofNat_of_zero_le h
  obtain ⟨h2, h3, h4⟩ := lead_some hi
  have e : ldp x = i := by unfold ldp; omega
  rw [e]
  refine ⟨by simpa [ent, h2] using h3, fun j hj => ?_⟩
  have h5 : j < x.1.length := by omega
  simpa [ent, h5] using h4 j hj
theorem lead_lt_of {x : RowD} (h : 0 ≤ lead x.1) : (ldp x : Int) = lead x.1 := by unfold ldp; omega

theorem map_getD (l : List UInt8) (f : UInt8 → UInt8) (h : f 0 = 0) (j : Nat) : (l.map f).getD j 0 = f (l.getD j 0) := by
  simp only [List.getD_eq_getElem?_getD, List.getElem?_map]
  cases l[j]? <;> simp [h]
theorem norm_ent (q : RowD) (i : Pl) : ent (normR q) i = mul (ent q i) (inv (ent q (.inl (ldp q)))) := by
  cases i with
  | inl j => exact map_getD q.1 (fun x => mul x (inv (ent q (.inl (ldp q))))) (zero_mul _) j
  | inr j => exact map_getD q.2 (fun x => mul x (inv (ent q (.inl (ldp q))))) (zero_mul _) j
theorem norm_gs {g s : Nat} {q : RowD} (h : RowGS g s q) : RowGS g s (normR q) := ⟨by simpa [normR] using h.1, by simpa [normR] using h.2⟩
theorem norm_lead {q : RowD} (h : 0 ≤ lead q.1) : lead (normR q).1 = lead q.1 ∧ ent (normR q) (.inl (ldp q)) = 1 := by
  obtain ⟨h1, h2⟩ := lead_ent h
  have e1 : ent (normR q) (.inl (ldp q)) = 1 := by rw [norm_ent, mul_inv _ h1]
  refine ⟨?_, e1⟩
  rw [← lead_lt_of h]
  refine lead_of (l := (normR q).1) ?_ ?_
  · show ent (normR q) (.inl (ldp q)) ≠ 0
    rw [e1]; decide
  · intro j hj
    show ent (normR q) (.inl j) = 0
    rw [norm_ent, h2 j hj, zero_mul]

section
variable {g s : Nat} {rows : List RowD} {q : RowD}
/-- A new row's place is free. -/
theorem free_ent (h : Red g s rows) (hq : RowGS g s q) {x : RowD} (hx : x ∈ rows) (i : Pl) : ent (freeR q x) i = ent x i ^^^ mul (ent (normR q) i) (ent x (.inl (ldp q))) := plus_ent (h.gs x hx) (norm_gs hq) _ i
theorem free_lead (h : Red g s rows) (hq : RowGS g s q) (hld : 0 ≤ lead q.1) (h0 : ∀ x ∈ rows, ent q (.inl (ldp x)) = 0) {x : RowD} (hx : x ∈ rows) : lead (freeR q x).1 = lead x.1 := by
  have hxl := h.ld x hx
  obtain ⟨h1, h2⟩ := lead_ent hxl
  obtain ⟨h3, h4⟩ := lead_ent hld
  rw [← lead_lt_of hxl]
  refine lead_of (l := (freeR q x).1) ?_ ?_
  · show ent (freeR q x) (.inl (ldp x)) ≠ 0
    rw [free_ent h hq hx, norm_ent, h0 x hx, zero_mul, zero_mul, xor_zero8]
    exact h1
  · intro j hj
    show ent (freeR q x) (.inl j) = 0
    rw [free_ent h hq hx, h2 j hj, zero_xor8, mul_eq_zero]
    by_cases hj2 : j < ldp q
    · left; rw [norm_ent, h4 j hj2, zero_mul]
    · right; exact h2 _ (by omega)
theorem lead_ne (h : Red g s rows) (hld : 0 ≤ lead q.1) (h0 : ∀ x ∈ rows, ent q (.inl (ldp x)) = 0) {x : RowD} (hx : x ∈ rows) : lead x.1 ≠ lead q.1 := by
  intro e
  obtain ⟨h3, _⟩ := lead_ent hld
  have := h0 x hx
  unfold ldp at this h3
  rw [e] at this
  exact h3 this
theorem ins_perm {α : Type} (l : List α) (i : Nat) (x : α) : (insAt l i x).Perm (x :: l) := by
  unfold insAt
  have h : (l.take i ++ [x] ++ l.drop i).Perm (x :: (l.take i ++ l.drop i)) := by
    rw [List.append_assoc, List.singleton_append]
    exact List.perm_middle
  rwa [List.take_append_drop] at h
theorem mem_ins {α : Type} {l : List α} {i : Nat} {x y : α} : y ∈ insAt l i x ↔ y = x ∨ y ∈ l := by
  rw [(ins_perm l i x).mem_iff, List.mem_cons]
theorem place_split : ∀ (rows : List RowD) (L : Int), rows.Pairwise (fun x y => lead x.1 < lead y.1) → (∀ x ∈ rows, lead x.1 ≠ L) → (∀ x ∈ rows.take (placeOf rows L), lead x.1 < L) ∧ ∀ x ∈ rows.drop (placeOf rows L), L < lead x.1
  | [], _, _, _ => by simp [placeOf]
  | x :: rows, L, hp, hne => by
    have hpc := List.pairwise_cons.1 hp
    unfold placeOf
    split
    · rename_i hgt
      refine ⟨by simp, fun y hy => ?_⟩
      rw [List.drop_zero] at hy
      rcases List.mem_cons.1 hy with h1 | h1
      · rw [h1]; omega
      · have := hpc.1 y h1; omega
    · rename_i hgt
      obtain ⟨h1, h2⟩ := place_split rows L hpc.2 (fun y hy => hne y (by simp [hy]))
      refine ⟨fun y hy => ?_, fun y hy => h2 y (by simpa using hy)⟩
      rw [List.take_succ_cons] at hy
      rcases List.mem_cons.1 hy with h3 | h3
      · rw [h3]; have := hne x (by simp); omega
      · exact h1 y h3

/-- The basis with a new row is reduced. -/
theorem Red.ins (h : Red g s rows) (hq : RowGS g s q) (hld : 0 ≤ lead q.1) (h0 : ∀ x ∈ rows, ent q (.inl (ldp x)) = 0) :
    Red g s (insAt (rows.map (freeR q)) (placeOf rows (lead q.1)) (normR q)) := by
  have hn := norm_lead hld
  have hldp : ldp (normR q) = ldp q := by unfold ldp; rw [hn.1]
  have hfl : ∀ x ∈ rows, lead (freeR q x).1 = lead x.1 := fun x hx => free_lead h hq hld h0 hx
  have hfp : ∀ x ∈ rows, ldp (freeR q x) = ldp x := fun x hx => by unfold ldp; rw [hfl x hx]
  have hmem : ∀ y, y ∈ insAt (rows.map (freeR q)) (placeOf rows (lead q.1)) (normR q) → y = normR q ∨ ∃ x ∈ rows, y = freeR q x := by
    intro y hy
    rcases mem_ins.1 hy with h1 | h1
    · exact .inl h1
    · obtain ⟨x, hx, e⟩ := List.mem_map.1 h1
      exact .inr ⟨x, hx, e.symm⟩
  have hsp := place_split rows (lead q.1) h.asc (fun x hx => lead_ne h hld h0 hx)
  refine ⟨?_, ?_, ?_, ?_, ?_⟩
  · intro y hy
    rcases hmem y hy with rfl | ⟨x, hx, rfl⟩
    · exact norm_gs hq
    · exact plusR_gs (h.gs x hx) (norm_gs hq) _
  · intro y hy
    rcases hmem y hy with rfl | ⟨x, hx, rfl⟩
    · rw [hn.1]; exact hld
    · rw [hfl x hx]; exact h.ld x hx
  · unfold insAt
    have hm : (rows.map (freeR q)).Pairwise (fun x y => lead x.1 < lead y.1) := by
      rw [List.pairwise_map]
      exact h.asc.imp_of_mem fun ha hb hab => by rw [hfl _ ha, hfl _ hb]; exact hab
    rw [List.append_assoc, List.pairwise_append]
    refine ⟨hm.sublist (List.take_sublist _ _), ?_, ?_⟩
    · rw [List.singleton_append, List.pairwise_cons]
      refine ⟨fun y hy => ?_, hm.sublist (List.drop_sublist _ _)⟩
      rw [← List.map_drop] at hy
      obtain ⟨x, hx, rfl⟩ := List.mem_map.1 hy
      rw [hn.1, hfl x (List.mem_of_mem_drop hx)]
      exact hsp.2 x hx
    · intro y hy z hz
      rw [← List.map_take] at hy
      obtain ⟨x, hx, rfl⟩ := List.mem_map.1 hy
      have hx' := List.mem_of_mem_take hx
      rw [hfl x hx']
      rcases List.mem_append.1 hz with h1 | h1
      · rw [List.mem_singleton.1 h1, hn.1]; exact hsp.1 x hx
      · rw [← List.map_drop] at h1
        obtain ⟨x2, hx2, rfl⟩ := List.mem_map.1 h1
        rw [hfl x2 (List.mem_of_mem_drop hx2)]
        have := hsp.1 x hx
        have := hsp.2 x2 hx2
        omega
  · intro y hy
    rcases hmem y hy with rfl | ⟨x, hx, rfl⟩
    · rw [hldp]; exact hn.2
    · rw [hfp x hx, free_ent h hq hx, norm_ent, h0 x hx, zero_mul, zero_mul, xor_zero8]
      exact h.one x hx
  · intro y hy z hz hne
    rcases hmem y hy with rfl | ⟨x, hx, rfl⟩ <;> rcases hmem z hz with rfl | ⟨x2, hx2, rfl⟩
    · exact absurd rfl hne
    · rw [hldp, free_ent h hq hx2, hn.2, one_mul, xor_self8]
    · rw [hfp x hx, norm_ent, h0 x hx, zero_mul]
    · rw [hfp x hx, free_ent h hq hx2, norm_ent, h0 x hx, zero_mul, zero_mul, xor_zero8]
      exact h.zero x hx x2 hx2 (by rwa [hfl x hx, hfl x2 hx2] at hne)

theorem S_perm {a b : List RowD} (h : a.Perm b) (f : RowD → UInt8) (i : Pl) : S a f i = S b f i := by
  induction h with
  | nil => rfl
  | cons x _ ih => rw [S, S, ih]
  | swap x y l => rw [S, S, S, S, ← xor_assoc8, ← xor_assoc8, xor_comm8 (mul (ent y i) (f y))]
  | trans _ _ h1 h2 => exact h1.trans h2
theorem S_free (h : Red g s rows) (hq : RowGS g s q) (f : RowD → UInt8) (i : Pl) : ∀ l : List RowD, (∀ x ∈ l, x ∈ rows) →
    S (l.map (freeR q)) f i = S l (fun x => f (freeR q x)) i ^^^ mul (ent (normR q) i) (S l (fun x => f (freeR q x)) (.inl (ldp q)))
  | [], _ => by simp only [List.map_nil, S]; rw [mul_zero]; rfl
  | x :: l, hm => by
    rw [List.map_cons, S, S, S, S_free h hq f i l (fun y hy => hm y (by simp [hy])), free_ent h hq (hm x (by simp)), xor_mul, mul_xor, mul_assoc, xor4]
/-- A sum over the basis with a new row. -/
theorem S_ins (h : Red g s rows) (hq : RowGS g s q) (hld : 0 ≤ lead q.1) (h0 : ∀ x ∈ rows, ent q (.inl (ldp x)) = 0) (v : RowD) (hv : RowGS g s v) (i : Pl) :
    S (insAt (rows.map (freeR q)) (placeOf rows (lead q.1)) (normR q)) (fun x => ent v (.inl (ldp x))) i = mul (ent (normR q) i) (ent (redR rows v) (.inl (ldp q))) ^^^ S rows (fun x => ent v (.inl (ldp x))) i := by
  have hldp : ldp (normR q) = ldp q := by unfold ldp; rw [(norm_lead hld).1]
  rw [S_perm (ins_perm _ _ _), S, S_free h hq _ i rows (fun _ hx => hx), hldp]
  have e : ∀ j, S rows (fun x => ent v (.inl (ldp (freeR q x)))) j = S rows (fun x => ent v (.inl (ldp x))) j := fun j => S_congr _ _ _ _ fun x hx => by
    have : ldp (freeR q x) = ldp x := by unfold ldp; rw [free_lead h hq hld h0 hx]
    rw [this]
  rw [e, e, redR_ent h v hv, mul_xor, xor_comm8 (S rows _ i), ← xor_assoc8]
/-- A row is a sum of the basis's, at the places of A. -/
def InS (rows : List RowD) (A : Pl → Prop) (v : RowD) : Prop := ∀ i, A i → ent v i = S rows (fun x => ent v (.inl (ldp x))) i
theorem InS.ins (h : Red g s rows) (hq : RowGS g s q) (hld : 0 ≤ lead q.1) (h0 : ∀ x ∈ rows, ent q (.inl (ldp x)) = 0) {A : Pl → Prop} (hA : ∀ j, A (.inl j)) {v : RowD} (hv : RowGS g s v) (hin : InS rows A v) :
    InS (insAt (rows.map (freeR q)) (placeOf rows (lead q.1)) (normR q)) A v := by
  intro i hi
  rw [S_ins h hq hld h0 v hv, redR_ent h v hv, ← hin _ (hA _), xor_self8, mul_zero, zero_xor8]
  exact hin i hi
theorem InS.new (h : Red g s rows) {r : RowD} (hr : RowGS g s r) (hld : 0 ≤ lead (redR rows r).1) (A : Pl → Prop) :
    InS (insAt (rows.map (freeR (redR rows r))) (placeOf rows (lead (redR rows r).1)) (normR (redR rows r))) A r := by
  intro i _
  have hq := redR_gs rows r hr h.gs
  rw [S_ins h hq hld (fun x hx => redR_at h r hr hx) r hr, norm_ent, mul_assoc, mul_comm (inv _), mul_inv _ (lead_ent hld).1, mul_one, redR_ent h r hr, xor_cancel]
theorem InS.red (h : Red g s rows) {v : RowD} (hv : RowGS g s v) {A : Pl → Prop} : InS rows A v ↔ ∀ i, A i → ent (redR rows v) i = 0 := by
  constructor
  · intro hin i hi
    rw [redR_ent h v hv, ← hin i hi, xor_self8]
  · intro h0 i hi
    have := h0 i hi
    rw [redR_ent h v hv] at this
    have h2 : ent v i ^^^ S rows (fun x => ent v (.inl (ldp x))) i ^^^ S rows (fun x => ent v (.inl (ldp x))) i = 0 ^^^ S rows (fun x => ent v (.inl (ldp x))) i := by rw [this]
    rwa [xor_cancel, zero_xor8] at h2
end
end Go.Bw
namespace Go.Bw
set_option linter.unusedVariables false
set_option linter.unusedSimpArgs false
/-- One place of coefficients times symbols. -/
def T : List (List UInt8) → List UInt8 → Nat → UInt8
  | y :: ys, c :: cs, j => mul (y.getD j 0) c ^^^ T ys cs j
  | _, _, _ => 0
theorem T_add : ∀ (ys : List (List UInt8)) (a b : List UInt8) (d : UInt8) (j : Nat), a.length = b.length → T ys (addS d a b) j = T ys a j ^^^ mul (T ys b j) d
  | [], a, b, d, j, _ => by simp [T, zero_mul]
  | y :: ys, [], [], d, j, _ => by simp [T, addS, eachR, zero_mul]
  | y :: ys, x :: a, z :: b, d, j, h => by
    have h' : a.length = b.length := by simpa using h
    have e : addS d (x :: a) (z :: b) = (x ^^^ mul z d) :: addS d a b := by simp [addS, eachR, h']
    rw [e, T, T, T, T_add ys a b d j h', mul_xor, xor_mul, mul_assoc, xor4]
  | y :: ys, [], _ :: _, d, j, h => by simp at h
  | y :: ys, _ :: _, [], d, j, h => by simp at h
theorem T_map : ∀ (ys : List (List UInt8)) (a : List UInt8) (d : UInt8) (j : Nat), T ys (a.map (fun x => mul x d)) j = mul (T ys a j) d
  | [], a, d, j => by simp [T, zero_mul]
  | y :: ys, [], d, j => by simp [T, zero_mul]
  | y :: ys, x :: a, d, j => by rw [List.map_cons, T, T, T_map ys a d j, xor_mul, mul_assoc]
/-- A row's payload is its coefficients times the symbols. -/
def Tr (ys : List (List UInt8)) (r : RowD) : Prop := ∀ j, r.2.getD j 0 = T ys r.1 j
theorem Tr.plus {ys : List (List UInt8)} {g s : Nat} {r x : RowD} (hr : Tr ys r) (hx : Tr ys x) (gr : RowGS g s r) (gx : RowGS g s x) (c : UInt8) : Tr ys (plusR r x c) := by
  intro j
  show (addS c r.2 x.2).getD j 0 = T ys (addS c r.1 x.1) j
  rw [addS_getD _ _ _ (gr.2.trans gx.2.symm), T_add _ _ _ _ _ (gr.1.trans gx.1.symm), hr j, hx j]
theorem Tr.norm {ys : List (List UInt8)} {q : RowD} (hq : Tr ys q) : Tr ys (normR q) := by
  intro j
  have h := norm_ent q (.inr j)
  simp only [ent] at h
  have h2 := T_map ys q.1 (inv (ent q (.inl (ldp q)))) j
  rw [h, hq j]
  exact h2.symm
theorem Tr.red {ys : List (List UInt8)} {g s : Nat} : ∀ (rows : List RowD) (r : RowD), Tr ys r → RowGS g s r → (∀ x ∈ rows, Tr ys x ∧ RowGS g s x) → Tr ys (redR rows r)
  | [], r, h, _, _ => h
  | x :: rows, r, h, hg, hx => Tr.red rows (stepR r x) (h.plus (hx x (by simp)).1 hg (hx x (by simp)).2 _) (plusR_gs hg (hx x (by simp)).2 _) (fun y hy => hx y (by simp [hy]))
end Go.Bw
namespace Go.Bw
set_option linter.unusedVariables false
set_option linter.unusedSimpArgs false
/-- A reduced basis of true rows. -/
structure Good (g s : Nat) (ys : List (List UInt8)) (b : List RowD) : Prop where
  red : Red g s b
  tr : ∀ x ∈ b, Tr ys x
theorem Good.nil (g s : Nat) (ys : List (List UInt8)) : Good g s ys [] := ⟨Red.nil g s, by simp⟩

section
variable {g s : Nat} {ys : List (List UInt8)} {b : List RowD} {r : RowD}
theorem insR_out (hr : RowGS g s r) (h : lead (redR b r).1 < 0) : insR g s b r = (false, b) := by rw [insR, if_pos (show r.1.length = g ∧ r.2.length = s from hr), if_pos h]
theorem insR_in (hr : RowGS g s r) (h : ¬ lead (redR b r).1 < 0) : insR g s b r = (true, insAt (b.map (freeR (redR b r))) (placeOf b (lead (redR b r).1)) (normR (redR b r))) := by rw [insR, if_pos (show r.1.length = g ∧ r.2.length = s from hr), if_neg h]
theorem Good.ins (h : Good g s ys b) (hr : RowGS g s r) (ht : Tr ys r) : Good g s ys (insR g s b r).2 := by
  by_cases hl : lead (redR b r).1 < 0
  · rw [insR_out hr hl]; exact h
  · rw [insR_in hr hl]
    have hq := redR_gs b r hr h.red.gs
    have htq : Tr ys (redR b r) := Tr.red b r ht hr (fun x hx => ⟨h.tr x hx, h.red.gs x hx⟩)
    refine ⟨h.red.ins hq (by omega) (fun x hx => redR_at h.red r hr hx), fun y hy => ?_⟩
    rcases mem_ins.1 hy with rfl | hy
    · exact htq.norm
    · obtain ⟨x, hx, rfl⟩ := List.mem_map.1 hy
      exact (h.tr x hx).plus htq.norm (h.red.gs x hx) (norm_gs hq) _
/-- What was in the span stays in it. -/
theorem Good.keep (h : Good g s ys b) (hr : RowGS g s r) {A : Pl → Prop} (hA : ∀ j, A (.inl j)) {v : RowD} (hv : RowGS g s v) (hin : InS b A v) : InS (insR g s b r).2 A v := by
  by_cases hl : lead (redR b r).1 < 0
  · rw [insR_out hr hl]; exact hin
  · rw [insR_in hr hl]
    exact hin.ins h.red (redR_gs b r hr h.red.gs) (by omega) (fun x hx => redR_at h.red r hr hx) hA hv
theorem insR_len (hr : RowGS g s r) : (insR g s b r).2.length = b.length + (if (insR g s b r).1 = true then 1 else 0) := by
  by_cases hl : lead (redR b r).1 < 0
  · rw [insR_out hr hl]; simp
  · rw [insR_in hr hl]
    have := (ins_perm (b.map (freeR (redR b r))) (placeOf b (lead (redR b r).1)) (normR (redR b r))).length_eq
    simp at this ⊢
    exact this
theorem asc_len : ∀ (l : List Int) (lo hi : Int), l.Pairwise (· < ·) → (∀ x ∈ l, lo ≤ x ∧ x < hi) → (l.length : Int) ≤ max 0 (hi - lo)
  | [], lo, hi, _, _ => by simp; omega
  | x :: l, lo, hi, hp, hb => by
    have hpc := List.pairwise_cons.1 hp
    have hx := hb x (by simp)
    have := asc_len l (x + 1) hi hpc.2 (fun y hy => ⟨by have := hpc.1 y hy; omega, (hb y (by simp [hy])).2⟩)
    simp only [List.length_cons]
    omega
theorem Red.len (h : Red g s b) : b.length ≤ g := by
  have := asc_len (b.map (fun x => lead x.1)) 0 g (by rw [List.pairwise_map]; exact h.asc) (by
    intro v hv
    obtain ⟨x, hx, rfl⟩ := List.mem_map.1 hv
    have h1 := h.ld x hx
    have h2 := lead_lt h1
    have h3 := (h.gs x hx).1
    omega)
  simp at this
  omega
end
end Go.Bw
namespace Go.Bw
set_option linter.unusedVariables false
set_option linter.unusedSimpArgs false
section
variable {g s : Nat} {ys : List (List UInt8)} {b A C : List RowD} {r : RowD}
theorem InS.plus (hr : RowGS g s r) {x : RowD} (hx : RowGS g s x) {P : Pl → Prop} (h1 : InS A P r) (h2 : InS A P x) (c : UInt8) : InS A P (plusR r x c) := by
  intro i hi
  rw [plus_ent hr hx, h1 i hi, h2 i hi, ← S_mul, ← S_xor]
  exact S_congr _ _ _ _ fun y _ => (plus_ent hr hx c _).symm
theorem InS.norm {P : Pl → Prop} (h1 : InS A P r) : InS A P (normR r) := by
  intro i hi
  rw [norm_ent, h1 i hi, ← S_mul]
  exact S_congr _ _ _ _ fun y _ => (norm_ent r _).symm
theorem InS.zero {P : Pl → Prop} (h0 : ∀ i, ent r i = 0) : InS A P r := by
  intro i _
  rw [h0, S_zero]
  exact fun x _ => .inl (h0 _)
theorem InS.redR {P : Pl → Prop} : ∀ (rows : List RowD) (r : RowD), RowGS g s r → InS A P r → (∀ x ∈ rows, RowGS g s x ∧ InS A P x) → InS A P (redR rows r)
  | [], _, _, h, _ => h
  | x :: rows, r, hg, h, hx => InS.redR rows (stepR r x) (plusR_gs hg (hx x (by simp)).1 _) (InS.plus hg (hx x (by simp)).1 h (hx x (by simp)).2 _) (fun y hy => hx y (by simp [hy]))
/-- What is made of rows of a span is of the span. -/
theorem InS.insR {P : Pl → Prop} (hb : ∀ x ∈ b, RowGS g s x ∧ InS A P x) (hr : RowGS g s r) (hin : InS A P r) : ∀ x ∈ (insR g s b r).2, RowGS g s x ∧ InS A P x := by
  by_cases hl : lead (Bw.redR b r).1 < 0
  · rw [insR_out hr hl]; exact hb
  · rw [insR_in hr hl]
    have hq := redR_gs b r hr (fun x hx => (hb x hx).1)
    have hn : InS A P (normR (Bw.redR b r)) := InS.norm (InS.redR b r hr hin hb)
    intro x hx
    rcases mem_ins.1 hx with rfl | hx
    · exact ⟨norm_gs hq, hn⟩
    · obtain ⟨y, hy, rfl⟩ := List.mem_map.1 hx
      exact ⟨plusR_gs (hb y hy).1 (norm_gs hq) _, InS.plus (hb y hy).1 (norm_gs hq) (hb y hy).2 hn _⟩
/-- A row of a span has its lead there. -/
theorem InS.lead (h : Red g s A) {P : Pl → Prop} (hP : ∀ j, P (.inl j)) {y : RowD} (hy : 0 ≤ lead y.1) (hin : InS A P y) : ∃ z ∈ A, Bw.lead z.1 = Bw.lead y.1 := by
  obtain ⟨h1, h2⟩ := lead_ent hy
  apply Classical.byContradiction
  intro hno
  apply h1
  rw [hin _ (hP _)]
  apply S_zero
  intro z hz
  have hzl := h.ld z hz
  by_cases e : ldp z < ldp y
  · exact .inl (h2 _ e)
  · right
    refine (lead_ent hzl).2 _ ?_
    have : Bw.lead z.1 ≠ Bw.lead y.1 := fun e => hno ⟨z, hz, e⟩
    unfold ldp at *
    omega
theorem asc_mem : ∀ (l k : List Int), l.Pairwise (· < ·) → k.Pairwise (· < ·) → (∀ x, x ∈ l ↔ x ∈ k) → l = k
  | [], [], _, _, _ => rfl
  | [], y :: k, _, _, h => by have := (h y).2 (by simp); simp at this
  | x :: l, [], _, _, h => by have := (h x).1 (by simp); simp at this
  | x :: l, y :: k, hl, hk, h => by
    have h1 := List.pairwise_cons.1 hl
    have h2 := List.pairwise_cons.1 hk
    have e : x = y := by
      rcases List.mem_cons.1 ((h x).1 (by simp)) with e | e
      · exact e
      · rcases List.mem_cons.1 ((h y).2 (by simp)) with e2 | e2
        · exact e2.symm
        · have := h2.1 x e; have := h1.1 y e2; omega
    subst e
    rw [asc_mem l k h1.2 h2.2 (fun z => ?_)]
    constructor
    · intro hz
      rcases List.mem_cons.1 ((h z).1 (by simp [hz])) with e | e
      · have := h1.1 z hz; omega
      · exact e
    · intro hz
      rcases List.mem_cons.1 ((h z).2 (by simp [hz])) with e | e
      · have := h2.1 z hz; omega
      · exact e
/-- Reduced bases of one span are one. -/
theorem Red.unique (hA : Red g s A) (hC : Red g s C) (h1 : ∀ x ∈ A, InS C (fun _ => True) x) (h2 : ∀ x ∈ C, InS A (fun _ => True) x) : A = C := by
  have hle : A.map (fun x => Bw.lead x.1) = C.map (fun x => Bw.lead x.1) := by
    refine asc_mem _ _ (by rw [List.pairwise_map]; exact hA.asc) (by rw [List.pairwise_map]; exact hC.asc) fun v => ?_
    simp only [List.mem_map]
    constructor
    · rintro ⟨x, hx, rfl⟩
      exact InS.lead hC (fun _ => trivial) (hA.ld x hx) (h1 x hx)
    · rintro ⟨x, hx, rfl⟩
      exact InS.lead hA (fun _ => trivial) (hC.ld x hx) (h2 x hx)
  have hlen : A.length = C.length := by have := congrArg List.length hle; simpa using this
  apply List.ext_getElem hlen
  intro k hk1 hk2
  have hat : ∀ i (h1 : i < A.length) (h2 : i < C.length), Bw.lead A[i].1 = Bw.lead C[i].1 := by
    intro i h1 h2
    have : (A.map (fun x => Bw.lead x.1))[i]'(by simpa using h1) = (C.map (fun x => Bw.lead x.1))[i]'(by simpa using h2) := by simp only [hle]
    simpa using this
  have hxA := List.getElem_mem hk1
  have hxC := List.getElem_mem hk2
  refine row_ext (hA.gs _ hxA) (hC.gs _ hxC) fun i => ?_
  rw [h2 _ hxC i trivial]
  obtain ⟨l1, l2, hsp⟩ := List.append_of_mem hxA
  have hp := hA.asc
  rw [hsp] at hp
  have hp1 := List.pairwise_append.1 hp
  have hpc := List.pairwise_cons.1 hp1.2.1
  have key : ∀ z ∈ A, Bw.lead z.1 ≠ Bw.lead A[k].1 → ent C[k] (.inl (ldp z)) = 0 := by
    intro z hz hne
    obtain ⟨j, hj, rfl⟩ := List.mem_iff_getElem.1 hz
    have hj2 : j < C.length := by omega
    have e := hat j hj hj2
    have := hC.zero C[j] (List.getElem_mem _) C[k] hxC (by rw [← hat j hj hj2, ← hat k hk1 hk2]; exact fun e => hne e.symm)
    have el : ldp A[j] = ldp C[j] := by unfold ldp; rw [e]
    rw [el]; exact this
  have hone : ent C[k] (.inl (ldp A[k])) = 1 := by
    have el : ldp A[k] = ldp C[k] := by unfold ldp; rw [hat k hk1 hk2]
    rw [el]; exact hC.one _ hxC
  have e : S A (fun x => ent C[k] (.inl (ldp x))) i = S (l1 ++ A[k] :: l2) (fun x => ent C[k] (.inl (ldp x))) i := by rw [← hsp]
  rw [e, S_app, S, hone, mul_one, S_zero l1, S_zero l2, zero_xor8, xor_zero8]
  · intro y hy
    exact .inl (key y (by rw [hsp]; simp [hy]) (by have := hpc.1 y hy; omega))
  · intro y hy
    exact .inl (key y (by rw [hsp]; simp [hy]) (by have := hp1.2.2 y hy A[k] (by simp); omega))

theorem zero_gs (g s : Nat) : RowGS g s ((List.replicate g 0, List.replicate s 0) : RowD) := ⟨by simp, by simp⟩
theorem zero_ent (g s : Nat) (i : Pl) : ent ((List.replicate g 0, List.replicate s 0) : RowD) i = 0 := by
  cases i with
  | inl j => simp only [ent]; rw [List.getD_eq_getElem?_getD, List.getElem?_replicate]; split <;> rfl
  | inr j => simp only [ent]; rw [List.getD_eq_getElem?_getD, List.getElem?_replicate]; split <;> rfl
/-- A row of the basis is of its span. -/
theorem InS.own (h : Red g s A) {P : Pl → Prop} {x : RowD} (hx : x ∈ A) : InS A P x := by
  intro i _
  obtain ⟨l1, l2, hsp⟩ := List.append_of_mem hx
  have hp := h.asc
  rw [hsp] at hp
  have hp1 := List.pairwise_append.1 hp
  have hpc := List.pairwise_cons.1 hp1.2.1
  have e : S A (fun z => ent x (.inl (ldp z))) i = S (l1 ++ x :: l2) (fun z => ent x (.inl (ldp z))) i := by rw [← hsp]
  rw [e, S_app, S, h.one x hx, mul_one, S_zero l1, S_zero l2, zero_xor8, xor_zero8]
  · intro y hy
    exact .inl (h.zero y (by rw [hsp]; simp [hy]) x hx (by have := hpc.1 y hy; omega))
  · intro y hy
    exact .inl (h.zero y (by rw [hsp]; simp [hy]) x hx (by have := hp1.2.2 y hy x (by simp); omega))
/-- Any combination of the rows is of their span. -/
theorem InS.combAny (h : Red g s A) (by_ : List UInt8) : InS A (fun _ => True) (combR g s A by_) := by
  unfold combR
  have key : ∀ (l : List (RowD × UInt8)) (z : RowD), RowGS g s z → InS A (fun _ => True) z → (∀ p ∈ l, p.1 ∈ A) → InS A (fun _ => True) (l.foldl (fun r p => plusR r p.1 p.2) z) := by
    intro l
    induction l with
    | nil => intro z _ hz _; exact hz
    | cons p l ih =>
      intro z hg hz hp
      have hpA := hp p (by simp)
      rw [List.foldl_cons]
      exact ih _ (plusR_gs hg (h.gs _ hpA) _) (InS.plus hg (h.gs _ hpA) hz (InS.own h hpA) _) (fun q hq => hp q (by simp [hq]))
  exact key _ _ (zero_gs g s) (InS.zero (zero_ent g s)) (fun p hp => (List.of_mem_zip hp).1)
end
end Go.Bw
namespace Go.Bw
set_option linter.unusedVariables false
set_option linter.unusedSimpArgs false
open Go.Proofs
/-- Of each slot: the block of its basis, and where that has its rows; none: it has no basis. -/
abbrev Slots := List (Option (Nat × Value))
def slotV : Option (Nat × Value) → Value
  | none => .pointer none
  | some p => ptr p.1
def slotM (g s : Nat) (t : Bool) : Option (Nat × Value) → Mem
  | none => []
  | some p => [(p.1, basisObj g s p.2, t)]
def slotMem (g s : Nat) (t : Bool) (l : Slots) : Mem := l.flatMap (slotM g s t)
def winObj (base width : Nat) : Obj := .cells #[.int .u64 (base : Int), .int .i64 (width : Int)] 192
def relObj (g s wb : Nat) (l : Slots) : Obj := .cells (.int .i64 (g : Int) :: .int .i64 (s : Int) :: ptr wb :: l.map slotV).toArray 131

theorem slots_split {l : Slots} {i : Nat} {x : Option (Nat × Value)} (h : l[i]? = some x) (y : Option (Nat × Value)) : l = l.take i ++ x :: l.drop (i + 1) ∧ l.set i y = l.take i ++ y :: l.drop (i + 1) := by
  have hi : i < l.length := (List.getElem?_eq_some_iff.1 h).1
  have hx : l[i] = x := by rw [List.getElem?_eq_getElem hi] at h; exact Option.some.inj h
  refine ⟨?_, List.set_eq_take_append_cons_drop .. |>.trans (by rw [if_pos hi])⟩
  rw [← hx, ← List.drop_eq_getElem_cons hi, List.take_append_drop]
theorem slotMem_perm (g s : Nat) (t : Bool) {l : Slots} {i : Nat} {x : Option (Nat × Value)} (h : l[i]? = some x) (y : Option (Nat × Value)) : (slotMem g s t (l.set i y)).Perm (slotM g s t y ++ slotMem g s t (l.set i none)) := by
  obtain ⟨_, h2⟩ := slots_split h y
  obtain ⟨_, h3⟩ := slots_split h none
  rw [h2, h3]
  simp only [slotMem, List.flatMap_append, List.flatMap_cons, slotM, List.nil_append]
  rw [← List.append_assoc, ← List.append_assoc]
  exact (List.perm_append_comm).append_right _
theorem slotMem_same (g s : Nat) (t : Bool) {l : Slots} {i : Nat} {x : Option (Nat × Value)} (h : l[i]? = some x) : (slotMem g s t l).Perm (slotM g s t x ++ slotMem g s t (l.set i none)) := by
  have := slotMem_perm g s t h x
  rwa [show l.set i x = l from by
    have hi : i < l.length := (List.getElem?_eq_some_iff.1 h).1
    have hx : l[i] = x := by rw [List.getElem?_eq_getElem hi] at h; exact Option.some.inj h
    rw [← hx, List.set_getElem_self]] at this
theorem slotMem_flags (g s : Nat) (l : Slots) : ∀ p ∈ slotMem g s true l, p.2.2 = true := by
  intro p hp
  obtain ⟨x, _, hx⟩ := List.mem_flatMap.1 hp
  cases x with
  | none => cases hx
  | some q => rw [List.mem_singleton.1 hx]

structure RelD where
  g : Nat
  s : Nat
  base : Nat
  width : Nat
  rows : Nat → List RowD
structure RelOk (x : RelD) : Prop where
  g1 : 1 ≤ x.g
  g2 : x.g ≤ 255
  s1 : 1 ≤ x.s
  s2 : x.s ≤ 65535
  w1 : 1 ≤ x.width
  w2 : x.width ≤ 16
  b : x.base ≤ 1099511627776
  red : ∀ i, Red x.g x.s (x.rows i)
def slotOk (H : Hp) (rows : List RowD) : Option (Nat × Value) → Prop
  | none => rows = []
  | some p => Rws H p.2 rows
theorem slotOk.mono {H H' : Hp} {rows : List RowD} {x : Option (Nat × Value)} (h : slotOk H rows x) (hle : Hp.le H H') : slotOk H' rows x := by
  cases x with
  | none => exact h
  | some p => exact Rws.mono h hle
def SlotsOk (H : Hp) (x : RelD) (l : Slots) : Prop := l.length = 16 ∧ ∀ i y, l[i]? = some y → slotOk H (x.rows i) y
theorem SlotsOk.mono {H H' : Hp} {x : RelD} {l : Slots} (h : SlotsOk H x l) (hle : Hp.le H H') : SlotsOk H' x l := ⟨h.1, fun i y hy => (h.2 i y hy).mono hle⟩
/-- A relay's memory: its own block, its window's, its bases'. -/
def relMem (t : Bool) (x : RelD) (rb wb : Nat) (l : Slots) : Mem := (rb, relObj x.g x.s wb l, t) :: (wb, winObj x.base x.width, t) :: slotMem x.g x.s t l
theorem relMem_flags (x : RelD) (rb wb : Nat) (l : Slots) : (relMem true x rb wb l).all (·.2.2) = true := by
  rw [List.all_eq_true]
  intro p hp
  rcases List.mem_cons.1 hp with rfl | hp
  · rfl
  · rcases List.mem_cons.1 hp with rfl | hp
    · rfl
    · exact slotMem_flags _ _ _ p hp
/-- Which generations are in the window. -/
def RelD.end_ (x : RelD) : Nat := min (x.base + x.width) 1099511627776
def RelD.isIn (x : RelD) (gen : Nat) : Prop := x.base ≤ gen ∧ gen < x.end_
instance (x : RelD) (gen : Nat) : Decidable (x.isIn gen) := inferInstanceAs (Decidable (_ ∧ _))
/-- A slot's rows set. -/
def RelD.put (x : RelD) (gen : Nat) (rows : List RowD) : RelD := { x with rows := fun i => if i = gen % x.width then rows else x.rows i }
theorem insAny_red {g s : Nat} {A : List RowD} (h : Red g s A) (r : RowD) : Red g s (insR g s A r).2 := by
  by_cases hd : r.1.length = g ∧ r.2.length = s
  · have hr : RowGS g s r := hd
    by_cases hl : lead (redR A r).1 < 0
    · rw [insR_out hr hl]; exact h
    · rw [insR_in hr hl]
      exact h.ins (redR_gs A r hr h.gs) (by omega) (fun x hx => redR_at h r hr hx)
  · unfold insR
    rw [if_neg hd]
    exact h
theorem insAny_false {g s : Nat} {rows : List RowD} {r : RowD} (h : (insR g s rows r).1 = false) : (insR g s rows r).2 = rows := by
  unfold insR at h ⊢
  split
  · rename_i h1
    rw [if_pos h1] at h
    split
    · rfl
    · rename_i h2
      rw [if_neg h2] at h
      cases h
  · rfl
theorem RelOk.slot {x : RelD} (h : RelOk x) (gen : Nat) : gen % x.width < 16 := Nat.lt_of_lt_of_le (Nat.mod_lt _ h.w1) h.w2
theorem RelOk.put {x : RelD} (h : RelOk x) (gen : Nat) (rows : List RowD) (hr : Red x.g x.s rows) : RelOk (x.put gen rows) :=
  ⟨h.g1, h.g2, h.s1, h.s2, h.w1, h.w2, h.b, fun i => by
    show Red x.g x.s (if i = gen % x.width then rows else x.rows i)
    split
    · exact hr
    · exact h.red i⟩
theorem nth_slots (a b c : Value) (l : Slots) (i : Nat) (x : Option (Nat × Value)) (h : l[i]? = some x) : nth (a :: b :: c :: l.map slotV) (3 + i) = some (slotV x) := by
  rw [nth_eq, show 3 + i = i + 1 + 1 + 1 by omega]
  simp [h]
theorem setL_slots (a b c : Value) (l : Slots) (i : Nat) (y : Option (Nat × Value)) (hi : i < l.length) : setL (a :: b :: c :: l.map slotV) (3 + i) [slotV y] = a :: b :: c :: (l.set i y).map slotV := by
  have key : ∀ (m : List Value) (i : Nat) (v : Value), setL m i [v] = m.set i v := by
    intro m
    induction m with
    | nil => intro i v; simp [setL]
    | cons p m ih =>
      intro i v
      cases i with
      | zero => simp [setL, setL_nil]
      | succ i => simp [setL, ih]
  rw [key, show 3 + i = i + 1 + 1 + 1 by omega]
  simp [List.map_set]
theorem slotMem_keys (g s : Nat) (t : Bool) (l : Slots) : Mem.keys (slotMem g s t l) = Mem.keys (slotMem g s true l) := by
  unfold slotMem Mem.keys
  rw [List.map_flatMap, List.map_flatMap]
  congr 1
  funext x
  cases x <;> rfl
theorem slotMem_ro {g s : Nat} {l : Slots} {b : Nat} {o : Obj} {t : Bool} (h : (b, o, t) ∈ slotMem g s false l) : t = false ∧ (b, o, true) ∈ slotMem g s true l := by
  obtain ⟨x, hx, h1⟩ := List.mem_flatMap.1 h
  cases x with
  | none => cases h1
  | some p =>
    have := List.mem_singleton.1 h1
    cases this
    exact ⟨rfl, List.mem_flatMap.2 ⟨_, hx, by simp [slotM]⟩⟩
/-- A relay that is only read. -/
theorem HS.relRO {xs : List Nat} {H0 H : Hp} {w0 w : World} {x : RelD} {rb wb : Nat} {l : Slots} {Mr : Mem} (hs : HS xs H0 w0 H (relMem true x rb wb l ++ Mr) w) : HS [] H w H (relMem false x rb wb l) w := by
  refine HS.start [] hs.sub (fun b o t h => ?_) ?_
  · have h' : t = false ∧ (b, o, true) ∈ relMem true x rb wb l ++ Mr := by
      rcases List.mem_cons.1 h with e | h
      · cases e; exact ⟨rfl, by simp [relMem]⟩
      · rcases List.mem_cons.1 h with e | h
        · cases e; exact ⟨rfl, by simp [relMem]⟩
        · have := slotMem_ro h
          exact ⟨this.1, List.mem_append_left _ (List.mem_cons_of_mem _ (List.mem_cons_of_mem _ this.2))⟩
    have h1 := hs.mem b o true h'.2
    exact ⟨h1.1, h1.2.1, fun ht => by rw [h'.1] at ht; cases ht⟩
  · have h1 := hs.nd
    simp only [Mem.keys, List.map_append, List.nodup_append] at h1
    have h2 := h1.1
    have e : (relMem false x rb wb l).map (·.1) = (relMem true x rb wb l).map (·.1) := by
      have := slotMem_keys x.g x.s false l
      simp only [Mem.keys] at this
      simp [relMem, this]
    show ((relMem false x rb wb l).map (·.1)).Nodup
    rw [e]
    exact h2
/-- A relay that may be written. -/
theorem HS.relRW {xs : List Nat} {H0 H : Hp} {w0 w : World} {x : RelD} {rb wb : Nat} {l : Slots} {Mr : Mem} (hs : HS xs H0 w0 H (relMem true x rb wb l ++ Mr) w) : HS (Mem.keys (relMem true x rb wb l)) H w H (relMem true x rb wb l) w := by
  refine HS.start _ hs.sub (fun b o t h => ?_) ?_
  · have h1 := hs.mem b o t (List.mem_append_left _ h)
    exact ⟨h1.1, h1.2.1, fun _ => List.mem_map.2 ⟨_, h, rfl⟩⟩
  · have h1 := hs.nd
    simp only [Mem.keys, List.map_append, List.nodup_append] at h1
    exact h1.1
/-- A slot's basis comes first; and goes back. -/
theorem HS.slotOut {xs : List Nat} {H0 H : Hp} {w0 w : World} {g s : Nat} {t : Bool} {l : Slots} {A Mr : Mem} {i b : Nat} {rv : Value} (hs : HS xs H0 w0 H (A ++ (slotMem g s t l ++ Mr)) w) (h : l[i]? = some (some (b, rv))) :
    HS xs H0 w0 H ((b, basisObj g s rv, t) :: (A ++ (slotMem g s t (l.set i none) ++ Mr))) w := by
  refine hs.perm ?_
  have h1 := (slotMem_same g s t h).append_right Mr
  have h2 : (A ++ (slotMem g s t l ++ Mr)).Perm (A ++ ((b, basisObj g s rv, t) :: (slotMem g s t (l.set i none) ++ Mr))) := List.Perm.append_left A h1
  exact (h2.trans List.perm_middle).symm
theorem HS.slotIn {xs : List Nat} {H0 H : Hp} {w0 w : World} {g s : Nat} {t : Bool} {l : Slots} {A Mr : Mem} {i b : Nat} {rv : Value} {y : Option (Nat × Value)} (hs : HS xs H0 w0 H ((b, basisObj g s rv, t) :: (A ++ (slotMem g s t (l.set i none) ++ Mr))) w) (h : l[i]? = some y) :
    HS xs H0 w0 H (A ++ (slotMem g s t (l.set i (some (b, rv))) ++ Mr)) w := by
  refine hs.perm ?_
  have h1 := (slotMem_perm g s t h (some (b, rv))).append_right Mr
  have h2 : (A ++ (slotMem g s t (l.set i (some (b, rv))) ++ Mr)).Perm (A ++ ((b, basisObj g s rv, t) :: (slotMem g s t (l.set i none) ++ Mr))) := List.Perm.append_left A h1
  exact h2.trans List.perm_middle
end Go.Bw
namespace Go.Bw
set_option linter.unusedVariables false
set_option linter.unusedSimpArgs false
open Go.Proofs
theorem u64_wrap (n : Nat) (h : n < 18446744073709551616) : IntKind.u64.wrap (n : Int) = (n : Int) := IntWalk.u64_in _ (by omega)
set_option maxRecDepth 20000 in
set_option maxHeartbeats 2000000 in
theorem room_ok (g s : Int) (H0 : Hp) (w0 : World) (h0 : Sub H0 w0) :
    Calls Tryz.prog 62 #[.int .i64 g, .int .i64 s] w0 (Pure H0 w0 fun v _ => v = if 1 ≤ g ∧ g ≤ 255 ∧ 1 ≤ s ∧ s ≤ 65535 ∧ 4 < g * s then .tuple #[.int .i64 (g * s - 4), .int .i64 0] else .tuple #[.int .i64 0, .int .i64 1]) := by
  have hs := HS.init h0
  refine Calls.enter (args := [.int .i64 g, .int .i64 s]) Tryz.func62 rfl Tryz.ntmps62 rfl ?_
  refine WC.seq (WC.region (WO.step rfl (OR.assign rfl (WO.step rfl (OR.assign rfl (WO.done (WX.seq ?_)))))))
  refine WC.seq (WC.seq (WC.region (WO.step rfl (OR.move rfl (WO.step rfl (OR.lss rfl rfl (WO.step rfl ?_)))))))
  refine OR.move rfl ?_
  refine WO.guardSplit (j := 2) rfl (fun q1 => ?_) (fun q1 => ?_)
  · refine WO.guardNo rfl (decide_eq_true q1) rfl rfl (WO.guardNo rfl (decide_eq_true q1) rfl rfl (WO.step rfl (OR.pickT rfl (decide_eq_true q1) rfl (WO.step rfl (OR.move rfl (WO.guardNo rfl rfl rfl rfl (WO.guardNo rfl rfl rfl rfl ?_)))))))
    refine WO.step rfl (OR.pickT rfl rfl rfl (WO.step rfl (OR.move rfl (WO.guardNo rfl rfl rfl rfl (WO.guardNo rfl rfl rfl rfl (WO.step rfl (OR.pickT rfl rfl rfl ?_)))))))
    refine WO.step rfl (OR.move rfl (WO.guardNo rfl rfl rfl rfl (WO.guardNo rfl rfl rfl rfl (WO.guardNo rfl rfl rfl rfl (WO.guardNo rfl rfl rfl rfl (WO.step rfl (OR.pickT rfl rfl rfl ?_)))))))
    refine WO.done (WX.seq (WC.yes rfl rfl (WC.seq (WC.region (WO.step rfl (OR.assign rfl (WO.step rfl ?_)))))))
    refine OR.assign rfl (WO.done (WX.seq (WC.ret (WX.seq_ret ?_))))
    refine WX.ret2 rfl rfl rfl ?_
    exact .mk hs (by rw [if_neg (by omega)])
  · refine WO.guardYes rfl (decide_eq_false q1) rfl rfl (OR.move rfl (WO.guardYes rfl (decide_eq_false q1) rfl rfl (OR.gtr rfl rfl (WO.step rfl (OR.pickF rfl (decide_eq_false q1) rfl (WO.step rfl (OR.move rfl ?_)))))))
    refine WO.guardSplit (j := 6) rfl (fun q2 => ?_) (fun q2 => ?_)
    · refine WO.guardNo rfl (decide_eq_true q2) rfl rfl (WO.guardNo rfl (decide_eq_true q2) rfl rfl (WO.step rfl (OR.pickT rfl (decide_eq_true q2) rfl (WO.step rfl (OR.move rfl (WO.guardNo rfl rfl rfl rfl (WO.guardNo rfl rfl rfl rfl ?_)))))))
      refine WO.step rfl (OR.pickT rfl rfl rfl (WO.step rfl (OR.move rfl (WO.guardNo rfl rfl rfl rfl (WO.guardNo rfl rfl rfl rfl (WO.guardNo rfl rfl rfl rfl (WO.guardNo rfl rfl rfl rfl ?_)))))))
      refine WO.step rfl (OR.pickT rfl rfl rfl (WO.done (WX.seq (WC.yes rfl rfl (WC.seq (WC.region (WO.step rfl ?_)))))))
      refine OR.assign rfl (WO.step rfl (OR.assign rfl (WO.done (WX.seq (WC.ret (WX.seq_ret ?_))))))
      refine WX.ret2 rfl rfl rfl ?_
      exact .mk hs (by rw [if_neg (by omega)])
    · refine WO.guardYes rfl (decide_eq_false q2) rfl rfl (OR.move rfl (WO.guardYes rfl (decide_eq_false q2) rfl rfl (OR.lss rfl rfl (WO.step rfl (OR.pickF rfl (decide_eq_false q2) rfl (WO.step rfl (OR.move rfl ?_)))))))
      refine WO.guardSplit (j := 10) rfl (fun q3 => ?_) (fun q3 => ?_)
      · refine WO.guardNo rfl (decide_eq_true q3) rfl rfl (WO.guardNo rfl (decide_eq_true q3) rfl rfl (WO.step rfl (OR.pickT rfl (decide_eq_true q3) rfl (WO.step rfl (OR.move rfl (WO.guardNo rfl rfl rfl rfl (WO.guardNo rfl rfl rfl rfl ?_)))))))
        refine WO.guardNo rfl rfl rfl rfl (WO.guardNo rfl rfl rfl rfl (WO.step rfl (OR.pickT rfl rfl rfl (WO.done (WX.seq (WC.yes rfl rfl (WC.seq ?_)))))))
        refine WC.region (WO.step rfl (OR.assign rfl (WO.step rfl (OR.assign rfl (WO.done (WX.seq (WC.ret ?_)))))))
        refine WX.seq_ret ?_
        refine WX.ret2 rfl rfl rfl ?_
        exact .mk hs (by rw [if_neg (by omega)])
      · refine WO.guardYes rfl (decide_eq_false q3) rfl rfl (OR.move rfl (WO.guardYes rfl (decide_eq_false q3) rfl rfl (OR.gtr rfl rfl (WO.step rfl (OR.pickF rfl (decide_eq_false q3) rfl (WO.step rfl (OR.move rfl ?_)))))))
        refine WO.guardSplit (j := 14) rfl (fun q4 => ?_) (fun q4 => ?_)
        · refine WO.guardNo rfl (decide_eq_true q4) rfl rfl (WO.guardNo rfl (decide_eq_true q4) rfl rfl (WO.guardNo rfl (decide_eq_true q4) rfl rfl (WO.guardNo rfl (decide_eq_true q4) rfl rfl (WO.step rfl (OR.pickT rfl (decide_eq_true q4) rfl (WO.done (WX.seq ?_)))))))
          refine WC.yes rfl rfl (WC.seq (WC.region (WO.step rfl (OR.assign rfl (WO.step rfl (OR.assign rfl (WO.done ?_)))))))
          refine WX.seq (WC.ret (WX.seq_ret ?_))
          refine WX.ret2 rfl rfl rfl ?_
          exact .mk hs (by rw [if_neg (by omega)])
        · have hb1 : 0 ≤ g * s := Int.mul_nonneg (by omega) (by omega)
          have hb2 : g * s ≤ 255 * 65535 := Int.mul_le_mul (by omega) (by omega) (by omega) (by omega)
          refine WO.guardYes rfl (decide_eq_false q4) rfl rfl (OR.move rfl (WO.guardYes rfl (decide_eq_false q4) rfl rfl (OR.move rfl (WO.guardYes rfl (decide_eq_false q4) rfl rfl (OR.mulI rfl rfl (by omega) (by omega) (WO.guardYes rfl (decide_eq_false q4) rfl rfl (OR.leq rfl rfl ?_)))))))
          refine WO.step rfl (OR.pickF rfl (decide_eq_false q4) rfl (WO.done (WX.seq ?_)))
          refine WC.condD rfl (fun q5 => ?_) (fun q5 => ?_)
          · refine WC.seq (WC.region (WO.step rfl (OR.assign rfl (WO.step rfl (OR.assign rfl (WO.done (WX.seq ?_)))))))
            refine WC.ret (WX.seq_ret ?_)
            refine WX.ret2 rfl rfl rfl ?_
            exact .mk hs (by rw [if_neg (fun h => by have := h.2.2.2.2; omega)])
          · refine WC.skip (WX.seq (WC.seq (WC.region (WO.step rfl (OR.move rfl (WO.step rfl (OR.move rfl ?_)))))))
            refine WO.step rfl (OR.mulI rfl rfl (by omega) (by omega) (WO.step rfl (OR.subI rfl rfl (by omega) (by omega) (WO.step rfl (OR.assign rfl (WO.step rfl (OR.assign rfl ?_)))))))
            refine WO.done (WX.seq (WC.ret ?_))
            refine WX.ret2 rfl rfl rfl ?_
            exact .mk hs (by rw [if_pos ⟨by omega, by omega, by omega, by omega, by omega⟩])

theorem BytesL.single {H : Hp} {v c : Value} {l : List UInt8} (hs : Sl H 1 v 1 [c]) (hb : Bytes H c l) : BytesL H v [l] := by
  refine ⟨[c], hs, rfl, fun i h h' => ?_⟩
  cases i with
  | zero => exact hb
  | succ i => simp at h
/-- A published block, owned again. -/
theorem HS.unpub {xs : List Nat} {H0 H : Hp} {w0 w : World} {M : Mem} {g : Nat} {o : Obj} (h0 : Sub H0 w0) (hs : HS xs H0 w0 H M w) (hg : H g = some o) (hnew : w0.heap.size ≤ g) : HS xs H0 w0 (H.del g) ((g, o, true) :: M) w := by
  refine ⟨fun b u hb => ?_, fun b u hb => ?_, fun b u hb => ?_, hs.keep, hs.size, hs.os, hs.tape, hs.out, fun q u t hm => ?_, ?_⟩
  · have hne : b ≠ g := fun e => by
      have := lt_of_heap (h0 b u hb)
      omega
    unfold Hp.del
    rw [if_neg hne]
    exact hs.le b u hb
  · unfold Hp.del at hb
    split at hb
    · cases hb
    · exact hs.sub b u hb
  · unfold Hp.del at hb
    split at hb
    · cases hb
    · exact hs.new b u hb
  · rcases List.mem_cons.1 hm with e | hm
    · cases e
      exact ⟨hs.sub _ _ hg, by simp [Hp.del], fun _ => .inr hnew⟩
    · have h1 := hs.mem q u t hm
      refine ⟨h1.1, ?_, h1.2.2⟩
      unfold Hp.del
      split
      · rfl
      · exact h1.2.1
  · refine List.nodup_cons.2 ⟨?_, hs.nd⟩
    intro hm
    obtain ⟨⟨q, u, t⟩, h1, h2⟩ := List.mem_map.1 hm
    have h3 := (hs.mem q u t h1).2.1
    simp at h2
    subst h2
    rw [hg] at h3
    cases h3
theorem Hp.le_del {H H' : Hp} {g : Nat} (h : Hp.le H H') (hg : H g = none) : Hp.le H (H'.del g) := by
  intro b u hb
  have hne : b ≠ g := fun e => by rw [e, hg] at hb; cases hb
  unfold Hp.del
  rw [if_neg hne]
  exact h b u hb
end Go.Bw
namespace Go.Bw
set_option linter.unusedVariables false
set_option linter.unusedSimpArgs false
open Go.Proofs
def winEnd (base width : Nat) : Nat := min (base + width) 1099511627776
def inWin (base width gen : Nat) : Prop := base ≤ gen ∧ gen < winEnd base width
instance (base width gen : Nat) : Decidable (inWin base width gen) := inferInstanceAs (Decidable (_ ∧ _))
section
variable (wb base width : Nat) (H0 : Hp) (w0 : World)
set_option maxRecDepth 20000 in
set_option maxHeartbeats 2000000 in
theorem wbase_ok (h0 : Sub H0 w0) (hb : w0.heap[wb]? = some (winObj base width)) (hn : H0 wb = none) : Calls Tryz.prog 170 #[ptr wb] w0 (Pure H0 w0 fun v _ => v = .int .u64 (base : Int)) := by
  have hs := HS.startR h0 hb hn
  refine Calls.enter (args := [ptr wb]) Tryz.func170 rfl Tryz.ntmps170 rfl ?_
  refine WC.seq (WC.region (WO.step rfl (OR.assign rfl (WO.done (WX.seq (WC.seq (WC.seq ?_)))))))
  refine WC.region (WO.step rfl (OR.move rfl (WO.step rfl (OR.eqlNilP T123.und rfl rfl (WO.done (WX.seq (WC.no rfl rfl ?_)))))))
  refine WC.skip (WX.seq (WC.seq (WC.region (WO.step rfl (OR.move rfl (WO.step rfl (OR.nilCheck rfl ?_)))))))
  refine WO.step rfl (OR.fieldAddr FA192_0 rfl (WO.step rfl (OR.load T22 rfl rfl (hs.cellM (i := 0) rfl rfl) (WO.step rfl (OR.assign rfl (WO.done (WX.seq ?_)))))))
  refine WC.ret ?_
  refine WX.ret1 rfl rfl ?_
  exact .mk hs rfl
set_option maxRecDepth 20000 in
set_option maxHeartbeats 2000000 in
theorem wwidth_ok (h0 : Sub H0 w0) (hb : w0.heap[wb]? = some (winObj base width)) (hn : H0 wb = none) : Calls Tryz.prog 79 #[ptr wb] w0 (Pure H0 w0 fun v _ => v = .int .i64 (width : Int)) := by
  have hs := HS.startR h0 hb hn
  refine Calls.enter (args := [ptr wb]) Tryz.func79 rfl Tryz.ntmps79 rfl ?_
  refine WC.seq (WC.region (WO.step rfl (OR.assign rfl (WO.done (WX.seq (WC.seq (WC.seq ?_)))))))
  refine WC.region (WO.step rfl (OR.move rfl (WO.step rfl (OR.eqlNilP T123.und rfl rfl (WO.done (WX.seq (WC.no rfl rfl ?_)))))))
  refine WC.skip (WX.seq (WC.seq (WC.region (WO.step rfl (OR.move rfl (WO.step rfl (OR.nilCheck rfl ?_)))))))
  refine WO.step rfl (OR.fieldAddr FA192_1 rfl (WO.step rfl (OR.load T3 rfl rfl (hs.cellM (i := 0) rfl rfl) (WO.step rfl (OR.assign rfl (WO.done (WX.seq ?_)))))))
  refine WC.ret ?_
  refine WX.ret1 rfl rfl ?_
  exact .mk hs rfl
set_option maxRecDepth 20000 in
set_option maxHeartbeats 2000000 in
theorem wend_ok (h0 : Sub H0 w0) (hb : w0.heap[wb]? = some (winObj base width)) (hn : H0 wb = none) (hB : base ≤ 1099511627776) (hW : width ≤ 16) : Calls Tryz.prog 171 #[ptr wb] w0 (Pure H0 w0 fun v _ => v = .int .u64 (winEnd base width : Int)) := by
  have hs := HS.startR h0 hb hn
  have hle := Hp.le.refl H0
  refine Calls.enter (args := [ptr wb]) Tryz.func171 rfl Tryz.ntmps171 rfl ?_
  refine WC.seq (WC.region (WO.step rfl (OR.assign rfl (WO.done (WX.seq (WC.seq (WC.seq ?_)))))))
  refine WC.region (WO.step rfl (OR.move rfl (WO.step rfl (OR.eqlNilP T123.und rfl rfl (WO.done (WX.seq (WC.no rfl rfl ?_)))))))
  refine WC.skip (WX.seq (WC.seq ?_))
  refine WC.draw 9 mixed hs (by kernel_rfl) ?_
  refine ⟨MF.eq _, by intro Mx H w hle hs; refine forVals_nil (ORg.plain (OR.move rfl ?_)); exact ⟨_, [], Hp.le.refl _, hs, rfl, rfl⟩, ?_⟩
  refine ⟨MF.eq _, by intro Mx H w hle hs; refine forVals_eq rfl rfl rfl ?_; refine forVals_nil (ORg.plain (OR.nilCheck rfl ?_)); exact ⟨_, [], Hp.le.refl _, hs, rfl, rfl⟩, ?_⟩
  refine ⟨MF.eq _, by intro Mx H w hle hs; refine forVals_eq rfl rfl rfl ?_; refine forVals_nil (ORg.plain (OR.fieldAddr FA192_0 rfl ?_)); exact ⟨_, [], Hp.le.refl _, hs, rfl, rfl⟩, ?_⟩
  refine ⟨MF.eq _, by intro Mx H w hle hs; refine forVals_eq rfl rfl rfl ?_; refine forVals_nil (ORg.plain (OR.load T22 rfl rfl (hs.right.cellM (i := 0) rfl rfl) ?_)); exact ⟨_, [], Hp.le.refl _, hs, rfl, rfl⟩, ?_⟩
  refine ⟨MF.eq _, by intro Mx H w hle hs; refine forVals_nil (ORg.plain (OR.move rfl ?_)); exact ⟨_, [], Hp.le.refl _, hs, rfl, rfl⟩, ?_⟩
  refine ⟨MF.eq _, by intro Mx H w hle hs; refine forVals_eq rfl rfl rfl ?_; refine forVals_nil (ORg.plain (OR.nilCheck rfl ?_)); exact ⟨_, [], Hp.le.refl _, hs, rfl, rfl⟩, ?_⟩
  refine ⟨MF.eq _, by intro Mx H w hle hs; refine forVals_eq rfl rfl rfl ?_; refine forVals_nil (ORg.plain (OR.fieldAddr FA192_1 rfl ?_)); exact ⟨_, [], Hp.le.refl _, hs, rfl, rfl⟩, ?_⟩
  refine ⟨MF.eq _, by intro Mx H w hle hs; refine forVals_eq rfl rfl rfl ?_; refine forVals_nil (ORg.plain (OR.load T3 rfl rfl (hs.right.cellM (i := 0) rfl rfl) ?_)); exact ⟨_, [], Hp.le.refl _, hs, rfl, rfl⟩, ?_⟩
  refine ⟨MF.eq (.int .u64 (width : Int)), ?_, ?_⟩
  · intro Mx H w hle2 hs; (try replace hle := hle.trans hle2); (try replace hlb := hlb.trans hle2); refine forVals_eq rfl rfl rfl ?_
    refine forVals_nil (ORg.plain (OR.convI T3.und T22.und rfl ?_))
    exact ⟨_, [], Hp.le.refl _, hs, (by rw [u64_wrap _ (by omega)]), rfl⟩
  intro H w hle2; (try replace hle := hle.trans hle2); (try replace hlb := hlb.trans hle2)
  refine forAllVals_eq rfl ?_
  refine forAllVals_eq rfl ?_
  refine forAllVals_eq rfl ?_
  refine forAllVals_eq rfl ?_
  refine forAllVals_eq rfl ?_
  refine forAllVals_eq rfl ?_
  refine forAllVals_eq rfl ?_
  refine forAllVals_eq rfl ?_
  refine forAllVals_eq rfl ?_
  refine forAllVals_nil ?_; (try clear hs); intro hs
  refine WO.step rfl (OR.add rfl rfl ?_)
  rw [show IntKind.u64.wrap ((base : Int) + (width : Int)) = ((base + width : Nat) : Int) from u64_wrap (base + width) (by omega)]
  refine WO.step rfl (OR.minI rfl rfl ?_)
  refine WO.step rfl (OR.assign rfl (WO.done (WX.seq (WC.ret ?_))))
  refine WX.ret1 rfl rfl ?_
  refine .mk hs ?_
  unfold winEnd
  congr 1
  split <;> omega
set_option maxRecDepth 20000 in
set_option maxHeartbeats 2000000 in
theorem win_ok (gen : Nat) (h0 : Sub H0 w0) (hb : w0.heap[wb]? = some (winObj base width)) (hn : H0 wb = none) (hB : base ≤ 1099511627776) (hW : width ≤ 16) : Calls Tryz.prog 135 #[ptr wb, .int .u64 (gen : Int)] w0 (Pure H0 w0 fun v _ => v = .bool (decide (inWin base width gen))) := by
  have hs := HS.startR h0 hb hn
  have hle := Hp.le.refl H0
  refine Calls.enter (args := [ptr wb, .int .u64 (gen : Int)]) Tryz.func135 rfl Tryz.ntmps135 rfl ?_
  refine WC.seq (WC.region (WO.step rfl (OR.assign rfl (WO.done (WX.seq (WC.seq (WC.region ?_)))))))
  refine WO.step rfl (OR.move rfl (WO.step rfl (OR.move rfl ?_)))
  refine WO.step rfl (OR.call hs body170 rfl rfl (wbase_ok wb base width _ _ hs.toSub (hs.blk (i := 0) rfl) (hs.nh (i := 0) rfl)) ?_)
  clear hs; rintro _ H w hs hle1 rfl; replace hle := hle.trans hle1; (try replace hlb := hlb.trans hle1)
  refine WO.step rfl (OR.geq rfl rfl (WO.step rfl (OR.move rfl ?_)))
  refine WO.guardSplit (j := 4) rfl (fun hg => ?_) (fun hg => ?_)
  · refine WO.guardYes rfl (decide_eq_true hg) rfl rfl (OR.move rfl (WO.guardYes rfl (decide_eq_true hg) rfl rfl (OR.move rfl ?_)))
    refine WO.guardYes rfl (decide_eq_true hg) rfl rfl (OR.call hs body171 rfl rfl (wend_ok wb base width _ _ hs.toSub (hs.blk (i := 0) rfl) (hs.nh (i := 0) rfl) hB hW) ?_)
    clear hs; rintro _ H w hs hle1 rfl; replace hle := hle.trans hle1; (try replace hlb := hlb.trans hle1)
    refine WO.guardYes rfl (decide_eq_true hg) rfl rfl (OR.lss rfl rfl (WO.step rfl (OR.pickT rfl (decide_eq_true hg) rfl (WO.step rfl (OR.assign rfl (WO.done (WX.seq ?_)))))))
    refine WC.ret ?_
    refine WX.ret1 rfl rfl ?_
    refine .mk (hs.drop 0) ?_
    congr 1
    rw [decide_eq_decide]
    constructor
    · intro h; exact ⟨by omega, by omega⟩
    · intro h; have := h.2; omega
  · refine WO.guardNo rfl (decide_eq_false hg) rfl rfl (WO.guardNo rfl (decide_eq_false hg) rfl rfl (WO.guardNo rfl (decide_eq_false hg) rfl rfl (WO.guardNo rfl (decide_eq_false hg) rfl rfl (WO.step rfl (OR.pickF rfl (decide_eq_false hg) rfl (WO.step rfl (OR.assign rfl ?_)))))))
    refine WO.done (WX.seq (WC.ret ?_))
    refine WX.ret1 rfl rfl ?_
    refine .mk (hs.drop 0) ?_
    rw [decide_eq_false (fun h => hg (by have := h.1; omega))]
set_option maxRecDepth 20000 in
set_option maxHeartbeats 2000000 in
theorem wslot_ok (gen : Nat) (h0 : Sub H0 w0) (hb : w0.heap[wb]? = some (winObj base width)) (hn : H0 wb = none) (hB : base ≤ 1099511627776) (hW : width ≤ 16) (hW1 : 1 ≤ width) (hg : gen < 18446744073709551616) : Calls Tryz.prog 118 #[ptr wb, .int .u64 (gen : Int)] w0 (Pure H0 w0 fun v _ => v = .tuple #[.int .i64 (if inWin base width gen then ((gen % width : Nat) : Int) else 0), .int .i64 (if inWin base width gen then 0 else 1)]) := by
  have hs := HS.startR h0 hb hn
  have hle := Hp.le.refl H0
  refine Calls.enter (args := [ptr wb, .int .u64 (gen : Int)]) Tryz.func118 rfl Tryz.ntmps118 rfl ?_
  refine WC.seq (WC.region (WO.step rfl (OR.assign rfl (WO.step rfl (OR.assign rfl (WO.done (WX.seq ?_)))))))
  refine WC.seq (WC.block (WC.seq (WC.region (WO.step rfl (OR.move rfl ?_)))))
  refine WO.step rfl (OR.call hs body79 rfl rfl (wwidth_ok wb base width _ _ hs.toSub (hs.blk (i := 0) rfl) (hs.nh (i := 0) rfl)) ?_)
  clear hs; rintro _ H w hs hle1 rfl; replace hle := hle.trans hle1; (try replace hlb := hlb.trans hle1)
  refine WO.step rfl (OR.eql rfl rfl (WO.step rfl (OR.assign rfl (WO.done (WX.seq ?_)))))
  refine WC.no rfl (decide_eq_false (by omega)) ?_
  refine WC.seq (WC.region (WO.step rfl (OR.move rfl (WO.step rfl (OR.move rfl ?_)))))
  refine WO.step rfl (OR.call hs body135 rfl rfl (win_ok wb base width _ _ gen hs.toSub (hs.blk (i := 0) rfl) (hs.nh (i := 0) rfl) hB hW) ?_)
  clear hs; rintro _ H w hs hle1 rfl; replace hle := hle.trans hle1; (try replace hlb := hlb.trans hle1)
  by_cases hin : inWin base width gen
  · rw [decide_eq_true hin, if_pos hin, if_pos hin]
    refine WO.step rfl (OR.not rfl (WO.step rfl (OR.assign rfl (WO.done (WX.seq ?_)))))
    refine WC.no rfl rfl ?_
    refine WC.skip (WX.block (WX.seq (WC.seq (WC.region (WO.step rfl (OR.move rfl (WO.step rfl ?_)))))))
    refine OR.move rfl (WO.step rfl (OR.nilCheck rfl (WO.step rfl (OR.fieldAddr FA192_1 rfl (WO.step rfl (OR.load T3 rfl rfl (hs.cellM (i := 0) rfl rfl) ?_))))))
    refine WO.step rfl (OR.convI T3.und T22.und rfl ?_)
    rw [u64_wrap _ (by omega)]
    refine WO.step rfl (OR.rem rfl rfl (by omega) ?_)
    rw [← Int.ofNat_tmod]
    have hlt := Nat.mod_lt gen (by omega : 0 < width)
    refine WO.step rfl (OR.convI T22.und T3.und rfl ?_)
    rw [IntWalk.i64_in ((gen % width : Nat) : Int) (by omega)]
    refine WO.step rfl (OR.assign rfl (WO.step rfl (OR.assign rfl (WO.done (WX.seq (WC.ret ?_))))))
    refine WX.ret2 rfl rfl rfl ?_
    exact .mk (hs.drop 0) rfl
  · rw [decide_eq_false hin, if_neg hin, if_neg hin]
    refine WO.step rfl (OR.not rfl (WO.step rfl (OR.assign rfl (WO.done (WX.seq ?_)))))
    refine WC.yes rfl rfl ?_
    refine WC.seq (WC.region (WO.step rfl (OR.assign rfl (WO.step rfl (OR.assign rfl (WO.done (WX.seq ?_)))))))
    refine WC.ret (WX.block_ret (WX.seq_ret ?_))
    refine WX.ret2 rfl rfl rfl ?_
    exact .mk (hs.drop 0) rfl
end
set_option maxRecDepth 20000 in
set_option maxHeartbeats 2000000 in
theorem wnewW_ok (width : Int) (H0 : Hp) (w0 : World) (h0 : Sub H0 w0) :
    Calls Tryz.prog 64 #[.int .i64 width] w0 (Ret [] H0 w0 fun v H' M' => H' = H0 ∧ if 1 ≤ width ∧ width ≤ 16 then ∃ b, v = .tuple #[ptr b, .int .i64 0] ∧ M' = [(b, winObj 0 width.toNat, true)] else v = .tuple #[.pointer none, .int .i64 1] ∧ M' = []) := by
  have hs := HS.init h0
  have hle := Hp.le.refl H0
  refine Calls.enter (args := [.int .i64 width]) Tryz.func64 rfl Tryz.ntmps64 rfl ?_
  refine WC.seq (WC.region (WO.step rfl (OR.assign rfl (WO.step rfl (OR.assign rfl (WO.done (WX.seq ?_)))))))
  refine WC.seq (WC.seq (WC.region (WO.step rfl (OR.move rfl (WO.step rfl (OR.lss rfl rfl (WO.step rfl ?_)))))))
  refine OR.move rfl ?_
  refine WO.guardSplit (j := 2) rfl (fun hg => ?_) (fun hg => ?_)
  · refine WO.guardNo rfl (decide_eq_true hg) rfl rfl (WO.guardNo rfl (decide_eq_true hg) rfl rfl (WO.step rfl (OR.pickT rfl (decide_eq_true hg) rfl (WO.done (WX.seq (WC.yes rfl rfl (WC.seq ?_)))))))
    refine WC.region (WO.step rfl (OR.assign rfl (WO.step rfl (OR.assign rfl (WO.done (WX.seq (WC.ret ?_)))))))
    refine WX.seq_ret ?_
    refine WX.ret2 rfl rfl rfl ?_
    refine ⟨_, _, [], rfl, hs, by simp, rfl, ?_⟩
    rw [if_neg (by omega)]
    exact ⟨rfl, rfl⟩
  · refine WO.guardYes rfl (decide_eq_false hg) rfl rfl (OR.move rfl (WO.guardYes rfl (decide_eq_false hg) rfl rfl (OR.gtr rfl rfl (WO.step rfl (OR.pickF rfl (decide_eq_false hg) rfl (WO.done (WX.seq ?_)))))))
    refine WC.condD rfl (fun hbig => ?_) (fun hbig => ?_)
    · refine WC.seq (WC.region (WO.step rfl (OR.assign rfl (WO.step rfl (OR.assign rfl (WO.done (WX.seq ?_)))))))
      refine WC.ret (WX.seq_ret ?_)
      refine WX.ret2 rfl rfl rfl ?_
      refine ⟨_, _, [], rfl, hs, by simp, rfl, ?_⟩
      rw [if_neg (by omega)]
      exact ⟨rfl, rfl⟩
    · refine WC.skip (WX.seq (WC.seq (WC.region (WO.step rfl (OR.move rfl ?_)))))
      refine WO.step rfl (OR.build (cs := #[.int .u64 0, .int .i64 width]) rfl (by intro w; kernel_rfl) ?_)
      refine WO.step rfl (OR.box hs rfl ?_)
      clear hs; intro g1 w hg1 hs
      refine WO.step rfl (OR.assign rfl (WO.step rfl (OR.assign rfl (WO.done (WX.seq (WC.ret ?_))))))
      refine WX.ret2 rfl rfl rfl ?_
      refine ⟨_, _, [_], rfl, hs, by simp, rfl, ?_⟩
      rw [if_pos (by omega)]
      obtain ⟨n, rfl⟩ := Int.eq_ofNat_of_zero_le (show 0 ≤ width by omega)
      exact ⟨g1, rfl, rfl⟩
end Go.Bw
namespace Go.Bw
set_option linter.unusedVariables false
set_option linter.unusedSimpArgs false
open Go.Proofs
set_option maxRecDepth 20000 in
set_option maxHeartbeats 2000000 in
theorem weach_ok (wb base width lp : Nat) (t : Bool) (xs : List Nat) (H0 : Hp) (w0 : World) (hB : base ≤ 1099511627776) (hWd : width ≤ 16) (I : Nat → Hp → Mem → Prop) (hI : ∀ k H H' M, Hp.le H H' → I k H M → I k H' M) (Cx : World → Prop)
    (hround : ∀ k H M w, k < winEnd base width - base → HS xs H0 w0 H ((wb, winObj base width, t) :: M) w → I k H M → YieldAt (fen none) 0 Tryz.prog lp #[.int .u64 ((base + k : Nat) : Int)] w (fun e w' =>
      (e = .returned (.bool true) ∧ ∃ H' M', HS xs H0 w0 H' ((wb, winObj base width, t) :: M') w' ∧ I (k + 1) H' M') ∨ (e = .returned (.bool false) ∧ Cx w')))
    (H1 : Hp) (M1 : Mem) (w1 : World) (hs : HS xs H0 w0 H1 ((wb, winObj base width, t) :: M1) w1) (h0 : I 0 H1 M1) :
    Calls Tryz.prog 134 #[ptr wb, .func (.yield lp) #[] #[]] w1 (fun e w' => e = .returned (.tuple #[]) ∧ ((∃ H' M', HS xs H0 w0 H' ((wb, winObj base width, t) :: M') w' ∧ I (winEnd base width - base) H' M') ∨ Cx w')) := by
  have hle := Hp.le.refl H1
  have hle9 : winEnd base width ≤ 1099511627776 := Nat.min_le_right _ _
  refine Calls.enter (args := [ptr wb, .func (.yield lp) #[] #[]]) Tryz.func134 rfl Tryz.ntmps134 rfl ?_
  refine WC.seq (WC.region (WO.step rfl (OR.move rfl ?_)))
  refine WO.step rfl (OR.call hs body170 rfl rfl (wbase_ok wb base width _ _ hs.toSub (hs.blk (i := 0) rfl) (hs.nh (i := 0) rfl)) ?_)
  clear hs; rintro _ H w hs hle1 rfl; replace hle := hle.trans hle1; (try replace hlb := hlb.trans hle1)
  refine WO.step rfl (OR.assign rfl (WO.done (WX.seq (WC.block ?_))))
  refine WC.loop (ι := Nat) (fun k => [(0, ptr wb), (1, .func (.yield lp) #[] #[]), (4, .int .u64 ((base + k : Nat) : Int))]) (fun k w => (base + k ≤ max base (winEnd base width) ∧ ∃ H M, HS xs H0 w0 H ((wb, winObj base width, t) :: M) w ∧ I k H M)) (fun k => winEnd base width - base - k) 0 ⟨rfl, rfl, rfl,  trivial⟩ ?_ (fun k w hW => ?_)
  · exact ⟨by omega, H, M1, hs, hI _ _ _ _ hle h0⟩
  clear hs hle hle1
  obtain ⟨hk, H, M, hs, hinv⟩ := hW
  have hle := Hp.le.refl H
  refine WC.seq (WC.seq ?_)
  refine WC.regionR ?_
  refine RO.step rfl rfl (OR.move rfl (RO.step rfl rfl (OR.move rfl ?_)))
  refine RO.step rfl rfl (OR.call hs body171 rfl rfl (wend_ok wb base width _ _ hs.toSub (hs.blk (i := 0) rfl) (hs.nh (i := 0) rfl) hB hWd) ?_)
  clear hs; rintro _ H w hs hle1 rfl; replace hle := hle.trans hle1; (try replace hlb := hlb.trans hle1)
  refine RO.step rfl rfl (OR.lss rfl rfl (RO.step rfl rfl (OR.move rfl ?_)))
  refine RO.guardSplit (j := 4) rfl (fun hlt => ?_) (fun hlt => ?_)
  · have hk2 : k < winEnd base width - base := by omega
    refine RO.guardYes rfl (decide_eq_true hlt) rfl rfl rfl (OR.move rfl (RO.guardYes rfl (decide_eq_true hlt) rfl rfl rfl (OR.move rfl ?_)))
    refine RO.yieldG rfl (decide_eq_true hlt) rfl rfl rfl rfl (hround k _ _ _ hk2 hs (hI _ _ _ _ hle hinv)) ?_
    rintro e w hC
    clear hs
    rcases hC with ⟨rfl, H2, M2, hs, hinv2⟩ | ⟨rfl, hx⟩
    · refine ⟨_, rfl, ?_⟩
      refine RO.step rfl rfl (OR.pickT rfl (decide_eq_true hlt) rfl ?_)
      refine RO.doneW ?_
      refine WX.seq ?_
      refine WC.yes rfl rfl ?_
      refine WC.skip (WX.seq (WC.seq (WC.block (WC.skip (WX.block (WX.seq (WC.region ?_)))))))
      refine WO.step rfl (OR.move rfl ?_)
      refine WO.step rfl (OR.add rfl rfl ?_)
      rw [show IntKind.u64.wrap (((base + k : Nat) : Int) + 1) = ((base + (k + 1) : Nat) : Int) from u64_wrap (base + (k + 1)) (by omega)]
      refine WO.step rfl (OR.assign rfl (WO.done ?_))
      refine WX.again (k + 1) ⟨rfl, rfl, rfl,  trivial⟩ ?_ ?_
      · exact ⟨by omega, H2, M2, hs, hinv2⟩
      · omega
    · refine ⟨_, rfl, ?_⟩
      refine RO.step rfl rfl (OR.pickT rfl (decide_eq_true hlt) rfl ?_)
      refine RO.doneW ?_
      refine WX.seq ?_
      refine WC.no rfl rfl ?_
      refine WC.exit (WX.seq_exit (WX.loop_exit (WX.block_hit ?_)))
      refine WX.end0 rfl ?_
      exact ⟨rfl, .inr hx⟩
  · refine RO.guardNo rfl (decide_eq_false hlt) rfl rfl (RO.guardNo rfl (decide_eq_false hlt) rfl rfl (RO.guardNo rfl (decide_eq_false hlt) rfl rfl (RO.step rfl rfl (OR.pickF rfl (decide_eq_false hlt) rfl ?_))))
    refine RO.doneW ?_
    refine WX.seq (WC.no rfl rfl (WC.exit (WX.seq_exit (WX.loop_exit (WX.block_hit ?_)))))
    refine WX.end0 rfl ?_
    have e : k = winEnd base width - base := by omega
    subst e
    exact ⟨rfl, .inl ⟨_, _, hs, hI _ _ _ _ hle hinv⟩⟩

/-- Whole numbers in a slice. -/
def Nums (H : Hp) (v : Value) (l : List Nat) : Prop := Sl H 1 v l.length (l.map fun n : Nat => Value.int .u64 (n : Int))
theorem Nums.mono {H H' : Hp} {v : Value} {l : List Nat} (h : Nums H v l) (hle : Hp.le H H') : Nums H' v l := Sl.mono h hle
def numsC (l : List Nat) : List Value := l.map fun n : Nat => Value.int .u64 (n : Int)
theorem nums_one (l : List Nat) : (numsC l).all (·.oneCell') = true := by
  rw [List.all_eq_true]
  intro u hu
  obtain ⟨n, _, rfl⟩ := List.mem_map.1 hu
  rfl
/-- The numbers that are in a window. -/
def winNums (base n : Nat) : List Nat := (List.range n).map fun k => base + k
theorem winNums_succ (base n : Nat) : winNums base (n + 1) = winNums base n ++ [base + n] := by
  unfold winNums
  rw [List.range_succ, List.map_append]
  rfl
set_option maxRecDepth 20000 in
set_option maxHeartbeats 2000000 in
theorem appendSeq_ok (wb base width : Nat) (H0 : Hp) (w0 : World) (h0 : Sub H0 w0) (hb : w0.heap[wb]? = some (winObj base width)) (hn : H0 wb = none) (hB : base ≤ 1099511627776) (hWd : width ≤ 16) :
    Calls Tryz.prog 181 #[.slice none 0 0, .func (.func 134) #[ptr wb] #[]] w0 (Pure H0 w0 fun v H' => Nums H' v (winNums base (winEnd base width - base))) := by
  have hs := HS.startR h0 hb hn
  have hle := Hp.le.refl H0
  refine Calls.enterM (args := [.slice none 0 0, .func (.func 134) #[ptr wb] #[]]) Tryz.func181 rfl Tryz.ntmps181 rfl ?_
  refine WC.seq (WC.region (WO.step rfl (OR.box hs rfl ?_)))
  clear hs; intro g1 w hg1 hs
  refine WO.step rfl (OR.assign rfl (WO.done (WX.seq (WC.seq (WC.seq (WC.region (WO.step rfl ?_)))))))
  refine OR.move rfl (WO.done (WX.seq (WC.block ?_)))
  refine WC.rangeFunc (fl := [ptr wb]) (lb := []) hs rfl body134 ?_
  clear hs; intro fn tmps D lp w hD hlp hst hs
  refine (weach_ok wb base width lp false [] H0 w0 hB hWd (fun k H M => ∃ v Mo, M = (lp, loopObj .ready none fn tmps _ _ _ D, true) :: (D, .deferred (some []), true) :: (g1, .cells #[v] 152, true) :: Mo ∧ Own w0.heap.size 22 1 v k (numsC (winNums base k)) Mo) (fun k H H' M _ h => h) (fun _ => False) ?_ H0 _ w ((hs.front (i := 3) rfl)) ⟨_, [], rfl, Own.nil _ _ _⟩).mono ?_
  · clear hs
    rintro k H M w hk hs ⟨v, Mo, rfl, ho⟩
    replace hs := hs.front (i := 1) rfl
    refine yieldAt hs rfl (hst.param1 rfl _) ?_
    have hle := Hp.le.refl H
    have hlen : (numsC (winNums base k)).length = k * 1 := by simp [numsC, winNums]
    have hk9 : k ≤ 16 := by have : winEnd base width ≤ base + width := Nat.min_le_left _ _; omega
    refine RC.region (RO.step rfl rfl (OR.assign rfl (RO.done ?_)))
    refine RC.assigned hs ?_; clear hs; intro w hs
    obtain ⟨bo, co, rfl⟩ := ho.form
    refine RC.block (RC.region (RO.step rfl rfl (OR.load T152 rfl rfl (hs.cellM (i := 3) rfl rfl) (RO.step rfl rfl (OR.move rfl ?_)))))
    refine RO.step rfl rfl (OR.buildSlice (vs := [_]) hs T152.und T22 rfl rfl rfl rfl (by simp) ?_)
    clear hs; intro q1 w hq1 hs
    obtain ⟨H, hle1, hp_q1, hs9⟩ := hs.pub1 hq1; clear hs; have hs := hs9; clear hs9; replace hle := hle.trans hle1; (try replace hlb := hlb.trans hle1)
    have hone : Nums H (.slice (some ⟨q1, 0, none⟩) 1 1) [base + k] := Sl.block hp_q1 rfl rfl (by simp)
    refine RO.step rfl rfl (OR.append (m := 1) (news := numsC [base + k]) (Mo := Mo) (M := [_, _, _, _]) (HS.mtail (A := [_, _, _, _]) hs) ho T152.und T22 rfl (by omega) rfl rfl rfl (Sl.src hone hs) (Sl.src0 hone) (nums_one _) (by omega) (by omega) ?_)
    clear hs ho; intro v' w Mo' hs ho hge
    replace hs := HS.mtail (B := [_, _, _, _]) hs
    obtain ⟨bo2, co2, rfl⟩ := ho.form
    replace hs := hs.front (i := 3) rfl
    refine RO.stepN rfl (OR.storeAll hs T152 rfl rfl rfl rfl rfl ?_)
    clear hs; intro w hs
    refine RO.done (RX.block ?_)
    replace hs := hs.front (i := 1) rfl
    refine RX.on hs fun w hs => ?_
    replace hs := hs.front (i := 1) rfl
    replace hs := hs.front (i := 3) rfl
    replace hs := hs.front (i := 2) rfl
    replace hs := hs.front (i := 3) rfl
    refine .inl ⟨rfl, H, _, hs, _, Mo', rfl, ?_⟩
    rw [winNums_succ]
    have e : numsC (winNums base k ++ [base + k]) = numsC (winNums base k) ++ numsC [base + k] := by simp [numsC]
    rw [e]
    exact ho
  · rintro e w3 ⟨rfl, (⟨H3, M3, hs, v, Mo, rfl, ho⟩ | h)⟩
    · refine ⟨⟨_, rfl⟩, H3, _, .ready, none, by decide, hs.front (i := 1) rfl, fun w hs => ⟨fun _ => ?_, fun c h => by cases h⟩⟩
      refine WX.block (WX.seq (WC.seq (WC.region (WO.step rfl (OR.load T152 rfl rfl (hs.cellM (i := 3) rfl rfl) (WO.step rfl (OR.assign rfl ?_)))))))
      refine WO.done (WX.seq (WC.ret ?_))
      replace hs := hs.front (i := 2) rfl
      refine WX.retM hs fun w hs a ha => ⟨_, results_tmp rfl a.tmps _ w, ?_⟩
      rw [ha 4 _ rfl]
      obtain ⟨H4, hle4, hs, hsl, _⟩ := HS.pub (HS.mtail (A := [_, _, _, _]) hs) ho
      have hl : (winNums base (winEnd base width - base)).length = winEnd base width - base := by simp [winNums]
      refine .mk ((((hs.drop 0).drop 0).drop 0).drop 0) ?_
      unfold Nums
      rw [hl]
      exact hsl
    · exact h.elim
end Go.Bw
namespace Go.Bw
set_option linter.unusedVariables false
set_option linter.unusedSimpArgs false
open Go.Proofs
set_option maxRecDepth 20000 in
set_option maxHeartbeats 2000000 in
theorem wall_ok (wb base width : Nat) (H0 : Hp) (w0 : World) (h0 : Sub H0 w0) (hb : w0.heap[wb]? = some (winObj base width)) (hn : H0 wb = none) (hB : base ≤ 1099511627776) (hWd : width ≤ 16) :
    Calls Tryz.prog 141 #[ptr wb] w0 (Pure H0 w0 fun v H' => Nums H' v (winNums base (winEnd base width - base))) := by
  have hs := HS.startR h0 hb hn
  have hle := Hp.le.refl H0
  have hcol : ∀ (H0 : Hp) (w0 : World), Sub H0 w0 → w0.heap[wb]? = some (winObj base width) → H0 wb = none → Calls Tryz.prog 174 #[.func (.func 134) #[ptr wb] #[]] w0 (Pure H0 w0 fun v H' => Nums H' v (winNums base (winEnd base width - base))) := by
    intro H0 w0 h0 hb hn
    have hs := HS.startR h0 hb hn
    have hle := Hp.le.refl H0
    refine Calls.enter (args := [.func (.func 134) #[ptr wb] #[]]) Tryz.func174 rfl Tryz.ntmps174 rfl ?_
    refine WC.seq (WC.region (WO.step rfl (OR.assign rfl (WO.done (WX.seq (WC.seq (WC.region ?_)))))))
    refine WO.step rfl (OR.move rfl ?_)
    refine WO.step rfl (OR.call hs body181 rfl rfl (appendSeq_ok wb base width _ _ hs.toSub (hs.blk (i := 0) rfl) (hs.nh (i := 0) rfl) hB hWd) ?_)
    clear hs; rintro _ H w hs hle1 hr; replace hle := hle.trans hle1; (try replace hlb := hlb.trans hle1)
    refine WO.step rfl (OR.assign rfl (WO.done (WX.seq (WC.ret ?_))))
    refine WX.ret1 rfl rfl ?_
    exact .mk (hs.drop 0) hr
  refine Calls.enter (args := [ptr wb]) Tryz.func141 rfl Tryz.ntmps141 rfl ?_
  refine WC.seq (WC.region (WO.step rfl (OR.assign rfl (WO.done (WX.seq (WC.seq (WC.region ?_)))))))
  refine WO.step rfl (OR.move rfl (WO.step rfl (OR.makeFunc rfl rfl ?_)))
  refine WO.step rfl (OR.call hs body174 rfl rfl (hcol _ _ hs.toSub (hs.blk (i := 0) rfl) (hs.nh (i := 0) rfl)) ?_)
  clear hs; rintro _ H w hs hle1 hr; replace hle := hle.trans hle1; (try replace hlb := hlb.trans hle1)
  refine WO.step rfl (OR.assign rfl (WO.done (WX.seq (WC.ret ?_))))
  refine WX.ret1 rfl rfl ?_
  exact .mk (hs.drop 0) hr

/-- What falls out of a window. -/
def winGone (base width nb k : Nat) : List Nat := (winNums base k).filter fun n => !decide (inWin nb width n)
theorem winGone_succ (base width nb k : Nat) : winGone base width nb (k + 1) = winGone base width nb k ++ (if inWin nb width (base + k) then [] else [base + k]) := by
  unfold winGone
  rw [winNums_succ, List.filter_append]
  congr 1
  by_cases h : inWin nb width (base + k)
  · simp [h]
  · simp [h]
theorem winGone_len (base width nb k : Nat) : (winGone base width nb k).length ≤ k := by
  refine Nat.le_trans (List.length_filter_le _ _) ?_
  simp [winNums]
set_option maxRecDepth 20000 in
set_option maxHeartbeats 2000000 in
theorem wmove_ok (wb base width nb : Nat) (H0 : Hp) (w0 : World) (h0 : Sub H0 w0) (hb : w0.heap[wb]? = some (winObj base width)) (hn : H0 wb = none) (hB : base ≤ 1099511627776) (hWd : width ≤ 16) (hW1 : 1 ≤ width) (hnb : nb < 18446744073709551616) :
    Calls Tryz.prog 78 #[ptr wb, .int .u64 (nb : Int)] w0 (Ret [wb] H0 w0 fun v H' M' => if nb ≤ 1099511627776 then ∃ r, v = .tuple #[r, .int .i64 0] ∧ Nums H' r (winGone base width nb (winEnd base width - base)) ∧ M' = [(wb, winObj nb width, true)]
      else v = .tuple #[.slice none 0 0, .int .i64 1] ∧ M' = [(wb, winObj base width, true)]) := by
  have hs := HS.start1 h0 hb hn
  have hle := Hp.le.refl H0
  refine Calls.enterM (args := [ptr wb, .int .u64 (nb : Int)]) Tryz.func78 rfl Tryz.ntmps78 rfl ?_
  refine WC.seq (WC.region (WO.step rfl (OR.assign rfl (WO.step rfl (OR.assign rfl (WO.done (WX.seq ?_)))))))
  refine WC.seq (WC.block (WC.seq (WC.region (WO.step rfl (OR.move rfl ?_)))))
  refine WO.step rfl (OR.call hs body79 rfl rfl (wwidth_ok wb base width _ _ hs.toSub (hs.blk (i := 0) rfl) (hs.nh (i := 0) rfl)) ?_)
  clear hs; rintro _ H w hs hle1 rfl; replace hle := hle.trans hle1; (try replace hlb := hlb.trans hle1)
  refine WO.step rfl (OR.eql rfl rfl (WO.step rfl (OR.assign rfl (WO.done (WX.seq ?_)))))
  refine WC.no rfl (decide_eq_false (by omega)) ?_
  refine WC.seq (WC.region (WO.step rfl (OR.move rfl (WO.step rfl (OR.gtr rfl rfl (WO.step rfl (OR.assign rfl ?_)))))))
  refine WO.done (WX.seq ?_)
  refine WC.condD rfl (fun hbig => ?_) (fun hbig => ?_)
  · refine WC.seq (WC.region (WO.step rfl (OR.assign rfl (WO.step rfl (OR.assign rfl (WO.done (WX.seq ?_)))))))
    refine WC.ret (WX.block_ret (WX.seq_ret ?_))
    refine WX.retM0 fun a ha => ⟨_, results_tmp2 rfl a.tmps _ w, ?_⟩
    rw [ha 4 _ rfl, ha 5 _ rfl]
    refine ⟨_, _, _, rfl, hs, by simp, ?_⟩
    show ite _ _ _
    rw [if_neg (by omega)]
    exact ⟨rfl, rfl⟩
  · have hnb2 : nb ≤ 1099511627776 := by omega
    refine WC.skip (WX.block (WX.seq (WC.seq (WC.region (WO.step rfl (OR.move rfl (WO.step rfl ?_)))))))
    refine OR.move rfl (WO.step rfl (OR.nilCheck rfl (WO.step rfl (OR.fieldAddr FA192_1 rfl (WO.step rfl (OR.load T3 rfl rfl (hs.cellM (i := 0) rfl rfl) (WO.step rfl ?_)))))))
    refine OR.buildAll T192 rfl rfl PL192 rfl rfl (WO.step rfl (OR.box hs rfl ?_))
    clear hs; intro g1 w hg1 hs
    refine WO.step rfl (OR.alloc hs T123 ?_)
    clear hs; intro g2 w hg2 hs
    refine WO.stepN (OR.storeAll hs T123 rfl rfl rfl rfl rfl ?_)
    clear hs; intro w hs
    refine WO.done (WX.seq (WC.seq (WC.region (WO.step rfl (OR.alloc hs T152 ?_)))))
    clear hs; intro g3 w hg3 hs
    refine WO.done (WX.seq (WC.seq (WC.seq (WC.region (WO.step rfl (OR.move rfl (WO.step rfl ?_)))))))
    refine OR.makeFunc rfl rfl (WO.done (WX.seq (WC.block ?_)))
    refine WC.rangeFunc (fl := [ptr wb]) (lb := []) hs rfl body134 ?_
    clear hs; intro fn tmps D lp w hD hlp hst hs
    refine (weach_ok wb base width lp true [wb] H0 w0 hB hWd (fun k H M => Hp.le H0 H ∧ ∃ v Mo, M = (lp, loopObj .ready none fn tmps _ _ _ D, true) :: (D, .deferred (some []), true) :: (g3, .cells #[v] 152, true) :: (g2, .cells #[ptr g1] 123, true) :: (g1, winObj nb width, true) :: Mo ∧ Own w0.heap.size 22 1 v (winGone base width nb k).length (numsC (winGone base width nb k)) Mo) (fun k H H' M hle h => ⟨h.1.trans hle, h.2⟩) (fun _ => False) ?_ H _ w ((hs.front (i := 5) rfl)) ⟨hle, _, [], rfl, Own.nil _ _ _⟩).mono ?_
    · clear hs
      rintro k H M w hk hs ⟨hle0, v, Mo, rfl, ho⟩
      replace hs := hs.front (i := 1) rfl
      refine yieldAt hs rfl (hst.param1 rfl _) ?_
      have hle := Hp.le.refl H
      have hk9 : k ≤ 16 := by have : winEnd base width ≤ base + width := Nat.min_le_left _ _; omega
      have hgl := winGone_len base width nb k
      obtain ⟨bo, co, rfl⟩ := ho.form
      refine RC.region (RO.step rfl rfl (OR.assign rfl (RO.done ?_)))
      refine RC.assigned hs ?_; clear hs; intro w hs
      refine RC.block (RC.seq (RC.region (RO.step rfl rfl (OR.load T123 rfl rfl (hs.cellM (i := 4) rfl rfl) (RO.step rfl rfl (OR.move rfl ?_))))))
      refine RO.step rfl rfl (OR.call hs body135 rfl rfl (win_ok g1 nb width _ _ (base + k) hs.toSub (hs.blk (i := 5) rfl) (hs.nh (i := 5) rfl) hnb2 hWd) ?_)
      clear hs; rintro _ H w hs hle1 rfl; replace hle := hle.trans hle1; (try replace hlb := hlb.trans hle1)
      refine RO.step rfl rfl (OR.not rfl (RO.done (RX.seq ?_)))
      by_cases hin : inWin nb width (base + k)
      · rw [decide_eq_true hin]
        refine RC.no rfl rfl ?_
        refine RC.skip (RX.block ?_)
        refine RX.on hs fun w hs => ?_
        replace hs := hs.front (i := 1) rfl
        refine .inl ⟨rfl, H, _, hs, hle0.trans hle1, _, Mo, rfl, ?_⟩
        rw [winGone_succ, if_pos hin, List.append_nil]
        exact ho
      · rw [decide_eq_false hin]
        refine RC.yes rfl rfl ?_
        refine RC.region (RO.step rfl rfl (OR.load T152 rfl rfl (hs.cellM (i := 3) rfl rfl) (RO.step rfl rfl (OR.move rfl ?_))))
        refine RO.step rfl rfl (OR.buildSlice (vs := [_]) hs T152.und T22 rfl rfl rfl rfl (by simp) ?_)
        clear hs; intro q1 w hq1 hs
        have hle9 := hle1
        obtain ⟨H, hle1, hp_q1, hs9⟩ := hs.pub1 hq1; clear hs; have hs := hs9; clear hs9; replace hle := hle.trans hle1; (try replace hlb := hlb.trans hle1)
        have hone : Nums H (.slice (some ⟨q1, 0, none⟩) 1 1) [base + k] := Sl.block hp_q1 rfl rfl (by simp)
        refine RO.step rfl rfl (OR.append (m := 1) (news := numsC [base + k]) (Mo := Mo) (M := [_, _, _, _, _, _]) (HS.mtail (A := [_, _, _, _, _, _]) hs) ho T152.und T22 rfl (by omega) rfl rfl rfl (Sl.src hone hs) (Sl.src0 hone) (nums_one _) (by omega) (by omega) ?_)
        clear hs ho; intro v' w Mo' hs ho hge
        replace hs := HS.mtail (B := [_, _, _, _, _, _]) hs
        obtain ⟨bo2, co2, rfl⟩ := ho.form
        replace hs := hs.front (i := 3) rfl
        refine RO.stepN rfl (OR.storeAll hs T152 rfl rfl rfl rfl rfl ?_)
        clear hs; intro w hs
        refine RO.done (RX.block ?_)
        replace hs := hs.front (i := 1) rfl
        refine RX.on hs fun w hs => ?_
        replace hs := hs.front (i := 5) rfl
        replace hs := hs.front (i := 5) rfl
        replace hs := hs.front (i := 3) rfl
        replace hs := hs.front (i := 5) rfl
        replace hs := hs.front (i := 4) rfl
        replace hs := hs.front (i := 5) rfl
        refine .inl ⟨rfl, H, _, hs, hle0.trans (hle9.trans hle1), _, Mo', rfl, ?_⟩
        rw [winGone_succ, if_neg hin]
        have e : numsC (winGone base width nb k ++ [base + k]) = numsC (winGone base width nb k) ++ numsC [base + k] := by simp [numsC]
        rw [e, List.length_append]
        exact ho
    · rintro e w3 ⟨rfl, (⟨H3, M3, hs, hle3, v, Mo, rfl, ho⟩ | h)⟩
      · refine ⟨⟨_, rfl⟩, H3, _, .ready, none, by decide, hs.front (i := 1) rfl, fun w hs => ⟨fun _ => ?_, fun c h => by cases h⟩⟩
        refine WX.block (WX.seq (WC.seq (WC.region (WO.step rfl (OR.move rfl (WO.step rfl (OR.load T123 rfl rfl (hs.cellM (i := 4) rfl rfl) ?_)))))))
        refine WO.step rfl (OR.nilCheck rfl (WO.step rfl (OR.loadAll T192 rfl rfl (hs.blk (i := 5) rfl) rfl (WO.step rfl (OR.nilCheck rfl ?_)))))
        replace hs := hs.front (i := 1) rfl
        refine WO.stepN (OR.storeAll hs T192 rfl rfl rfl rfl rfl ?_)
        clear hs; intro w hs
        refine WO.done (WX.seq (WC.seq (WC.region (WO.step rfl (OR.load T152 rfl rfl (hs.cellM (i := 3) rfl rfl) (WO.step rfl (OR.assign rfl ?_)))))))
        refine WO.step rfl (OR.assign rfl (WO.done (WX.seq (WC.ret ?_))))
        replace hs := hs.front (i := 2) rfl
        refine WX.retM hs fun w hs a ha => ⟨_, results_tmp2 rfl a.tmps _ w, ?_⟩
        rw [ha 4 _ rfl, ha 5 _ rfl]
        obtain ⟨H4, hle4, hs, hsl, _⟩ := HS.pub (HS.mtail (A := [_, _, _, _, _, _]) hs) ho
        refine ⟨_, H4, _, rfl, ((((hs.drop 5).drop 4).drop 3).drop 2).drop 0, by simp, ?_⟩
        show ite _ _ _
        rw [if_pos hnb2]
        exact ⟨_, rfl, hsl, rfl⟩
      · exact h.elim
end Go.Bw
namespace Go.Bw
set_option linter.unusedVariables false
set_option linter.unusedSimpArgs false
open Go.Proofs
set_option maxRecDepth 20000 in
set_option maxHeartbeats 2000000 in
theorem may_ok (n : Int) (H0 : Hp) (w0 : World) (h0 : Sub H0 w0) : Calls Tryz.prog 205 #[.int .i64 n] w0 (Pure H0 w0 fun v _ => v = .bool (decide (1 ≤ n ∧ n ≤ 255))) := by
  have hs := HS.init h0
  refine Calls.enter (args := [.int .i64 n]) Tryz.func205 rfl Tryz.ntmps205 rfl ?_
  refine WC.seq (WC.region (WO.step rfl (OR.assign rfl (WO.done (WX.seq (WC.seq (WC.region ?_)))))))
  refine WO.step rfl (OR.move rfl (WO.step rfl (OR.geq rfl rfl (WO.step rfl (OR.move rfl ?_)))))
  refine WO.guardSplit (j := 2) rfl (fun q => ?_) (fun q => ?_)
  · refine WO.guardYes rfl (decide_eq_true q) rfl rfl (OR.move rfl (WO.guardYes rfl (decide_eq_true q) rfl rfl (OR.leq rfl rfl (WO.step rfl (OR.pickT rfl (decide_eq_true q) rfl (WO.step rfl (OR.assign rfl ?_)))))))
    refine WO.done (WX.seq (WC.ret ?_))
    refine WX.ret1 rfl rfl ?_
    refine .mk hs ?_
    congr 1
    rw [decide_eq_decide]
    exact ⟨fun h => ⟨q, h⟩, fun h => h.2⟩
  · refine WO.guardNo rfl (decide_eq_false q) rfl rfl (WO.guardNo rfl (decide_eq_false q) rfl rfl (WO.step rfl (OR.pickF rfl (decide_eq_false q) rfl (WO.step rfl (OR.assign rfl (WO.done (WX.seq ?_)))))))
    refine WC.ret ?_
    refine WX.ret1 rfl rfl ?_
    refine .mk hs ?_
    rw [decide_eq_false (fun h => q h.1)]
set_option maxRecDepth 20000 in
set_option maxHeartbeats 2000000 in
theorem syst_ok (a b : Int) (H0 : Hp) (w0 : World) (h0 : Sub H0 w0) : Calls Tryz.prog 213 #[.int .i64 a, .int .i64 b] w0 (Pure H0 w0 fun v _ => v = .bool (decide (0 ≤ a ∧ a < b))) := by
  have hs := HS.init h0
  refine Calls.enter (args := [.int .i64 a, .int .i64 b]) Tryz.func213 rfl Tryz.ntmps213 rfl ?_
  refine WC.seq (WC.region (WO.step rfl (OR.assign rfl (WO.done (WX.seq (WC.seq (WC.region ?_)))))))
  refine WO.step rfl (OR.move rfl (WO.step rfl (OR.geq rfl rfl (WO.step rfl (OR.move rfl ?_)))))
  refine WO.guardSplit (j := 2) rfl (fun q => ?_) (fun q => ?_)
  · refine WO.guardYes rfl (decide_eq_true q) rfl rfl (OR.move rfl (WO.guardYes rfl (decide_eq_true q) rfl rfl (OR.move rfl (WO.guardYes rfl (decide_eq_true q) rfl rfl (OR.lss rfl rfl (WO.step rfl (OR.pickT rfl (decide_eq_true q) rfl ?_)))))))
    refine WO.step rfl (OR.assign rfl (WO.done (WX.seq (WC.ret ?_))))
    refine WX.ret1 rfl rfl ?_
    refine .mk hs ?_
    congr 1
    rw [decide_eq_decide]
    exact ⟨fun h => ⟨q, h⟩, fun h => h.2⟩
  · refine WO.guardNo rfl (decide_eq_false q) rfl rfl (WO.guardNo rfl (decide_eq_false q) rfl rfl (WO.guardNo rfl (decide_eq_false q) rfl rfl (WO.step rfl (OR.pickF rfl (decide_eq_false q) rfl (WO.step rfl (OR.assign rfl (WO.done ?_)))))))
    refine WX.seq (WC.ret ?_)
    refine WX.ret1 rfl rfl ?_
    refine .mk hs ?_
    rw [decide_eq_false (fun h => q h.1)]
theorem i64_small (n : Nat) (h : n < 9223372036854775808) : IntKind.i64.wrap (n : Int) = (n : Int) := wrap_i64 (by omega) (by omega)
set_option maxRecDepth 20000 in
set_option maxHeartbeats 2000000 in
theorem turn_ok (sent n : Nat) (H0 : Hp) (w0 : World) (h0 : Sub H0 w0) (hn : 1 ≤ n ∧ n ≤ 255) (hsent : sent < 18446744073709551616) : Calls Tryz.prog 202 #[.int .u64 (sent : Int), .int .i64 (n : Int)] w0 (Pure H0 w0 fun v _ => v = .tuple #[.int .i64 ((sent % n : Nat) : Int), .int .i64 0]) := by
  have hs := HS.init h0
  have hle := Hp.le.refl H0
  refine Calls.enter (args := [.int .u64 (sent : Int), .int .i64 (n : Int)]) Tryz.func202 rfl Tryz.ntmps202 rfl ?_
  refine WC.seq (WC.region (WO.step rfl (OR.assign rfl (WO.step rfl (OR.assign rfl (WO.done (WX.seq ?_)))))))
  refine WC.seq (WC.seq (WC.region (WO.step rfl (OR.move rfl ?_))))
  refine WO.step rfl (OR.call hs body205 rfl rfl (may_ok (n : Int) _ _ hs.toSub) ?_)
  clear hs; rintro _ H w hs hle1 rfl; replace hle := hle.trans hle1; (try replace hlb := hlb.trans hle1)
  rw [decide_eq_true (show 1 ≤ (n : Int) ∧ (n : Int) ≤ 255 by omega)]
  refine WO.step rfl (OR.not rfl (WO.done (WX.seq ?_)))
  refine WC.no rfl rfl ?_
  refine WC.skip (WX.seq (WC.seq (WC.region (WO.step rfl (OR.move rfl (WO.step rfl (OR.move rfl ?_)))))))
  refine WO.step rfl (OR.convI T3.und T22.und rfl ?_)
  rw [IntWalk.u64_in (n : Int) (by omega)]
  refine WO.step rfl (OR.rem rfl rfl (by omega) ?_)
  have hmod : (sent : Int).tmod (n : Int) = ((sent % n : Nat) : Int) := rfl
  rw [hmod]
  refine WO.step rfl (OR.convI T22.und T3.und rfl ?_)
  have := Nat.mod_lt sent (show 0 < n by omega)
  rw [i64_small _ (by omega)]
  refine WO.step rfl (OR.assign rfl (WO.step rfl (OR.assign rfl (WO.done (WX.seq (WC.ret ?_))))))
  refine WX.ret2 rfl rfl rfl ?_
  exact .mk hs rfl

/-- A draw's coefficients. -/
def coefF (n turn : Nat) (l : List UInt8) : List UInt8 := if lead (padTo n l) < 0 then (padTo n l).set turn 1 else padTo n l
theorem coefF_len (n turn : Nat) (l : List UInt8) : (coefF n turn l).length = n := by
  unfold coefF; split
  · rw [List.length_set, padTo_length]
  · exact padTo_length _ _

set_option maxRecDepth 20000 in
set_option maxHeartbeats 2000000 in
theorem fill_ok (gm gout gt : Nat) (n turn : Nat) (l : List UInt8) (H0 : Hp) (w0 : World) (hl : l.length = n) (hn : n ≤ 255) (ht : turn < n)
    (hs : HS [gm] H0 w0 H0 [(gm, .cells (l.map B).toArray 5, true), (gout, .cells #[.slice (some ⟨gm, 0, none⟩) n n] 43, false), (gt, .cells #[.int .i64 (turn : Int)] 3, false)] w0) :
    Calls Tryz.prog 206 #[ptr gout, ptr gt] w0 (Ret [gm] H0 w0 fun v H' M' => v = .tuple #[] ∧ M' = [(gm, .cells ((if lead l < 0 then l.set turn 1 else l).map B).toArray 5, true)]) := by
  have hle := Hp.le.refl H0
  refine Calls.enter (args := [ptr gout, ptr gt]) Tryz.func206 rfl Tryz.ntmps206 rfl ?_
  refine WC.seq (WC.region (WO.step rfl (OR.load T43 rfl rfl (hs.cellM (i := 1) rfl rfl) ?_)))
  have hb : Bytes (H0.put gm (.cells (l.map B).toArray 5)) (.slice (some ⟨gm, 0, none⟩) l.length l.length) l := Bytes.block (Hp.put_same ..) (by rw [List.take_of_length_le (by simp)]) (Nat.le_refl _)
  rw [hl] at hb
  refine WO.step rfl (OR.callL hs body50 rfl rfl (isZero_ok _ l _ _ (hs.toSub.put (hs.blk (i := 0) rfl)) hb (by omega)) ?_)
  clear hs; rintro _ H w hs hle1 rfl; replace hle := hle.trans hle1
  refine WO.done (WX.seq ?_)
  refine WC.condD rfl (fun hz => ?_) (fun hz => ?_)
  · refine WC.region (WO.step rfl (OR.load T43 rfl rfl (hs.cellM (i := 1) rfl rfl) (WO.step rfl (OR.load T3 rfl rfl (hs.cellM (i := 2) rfl rfl) ?_))))
    refine WO.step rfl (OR.idx turn T43.und T5 rfl rfl rfl ht ?_)
    refine WO.stepN (OR.store hs T5 rfl rfl rfl (by simp [hl]; omega) rfl ?_)
    clear hs; intro w hs
    refine WO.done ?_
    refine WX.end0 rfl ?_
    refine ⟨_, H, _, rfl, (hs.drop 1).drop 1, by simp [dropAt], rfl, ?_⟩
    rw [if_pos hz]
    have e : (setL (l.map B).toArray.toList (0 + turn) (B 1).cells.toList) = (l.set turn 1).map B := by
      rw [Nat.zero_add, List.map_set]
      show setL (l.map B) turn [B 1] = _
      rw [setL_step, setL_nil]
    exact congrArg (fun c : List Value => [(gm, Obj.cells c.toArray 5, true)]) e
  · refine WC.skip ?_
    refine WX.end0 rfl ?_
    refine ⟨_, H, _, rfl, (hs.drop 1).drop 1, by simp [dropAt], rfl, ?_⟩
    rw [if_neg hz]
    rfl

set_option maxRecDepth 20000 in
set_option maxHeartbeats 2000000 in
theorem coefs_ok (vd : Value) (l : List UInt8) (n turn : Nat) (H0 : Hp) (w0 : World) (h0 : Sub H0 w0) (hl : Bytes H0 vd l) (hn : 1 ≤ n ∧ n ≤ 255) (ht : turn < n) :
    Calls Tryz.prog 203 #[vd, .int .i64 (n : Int), .int .i64 (turn : Int)] w0 (Pure H0 w0 fun v H' => ∃ r, v = .tuple #[r, .int .i64 0] ∧ Bytes H' r (coefF n turn l)) := by
  have hs := HS.init h0
  have hle := Hp.le.refl H0
  obtain ⟨b1, c1, rfl⟩ := hl.form
  refine Calls.enter (args := [.slice b1 l.length c1, .int .i64 (n : Int), .int .i64 (turn : Int)]) Tryz.func203 rfl Tryz.ntmps203 rfl ?_
  refine WC.seq (WC.region (WO.step rfl (OR.box hs rfl ?_)))
  clear hs; intro g1 w hg1 hs
  refine WO.step rfl (OR.assign rfl (WO.step rfl (OR.assign rfl (WO.done (WX.seq (WC.seq (WC.seq ?_)))))))
  refine WC.region (WO.step rfl (OR.move rfl ?_))
  refine WO.step rfl (OR.call hs body205 rfl rfl (may_ok (n : Int) _ _ hs.toSub) ?_)
  clear hs; rintro _ H w hs hle1 rfl; replace hle := hle.trans hle1; (try replace hlb := hlb.trans hle1)
  rw [decide_eq_true (show 1 ≤ (n : Int) ∧ (n : Int) ≤ 255 by omega)]
  refine WO.step rfl (OR.not rfl (WO.step rfl (OR.move rfl ?_)))
  refine WO.guardYes rfl rfl rfl rfl (OR.load T3 rfl rfl (hs.cellM (i := 0) rfl rfl) (WO.guardYes rfl rfl rfl rfl (OR.lss rfl rfl (WO.step rfl (OR.pickF rfl rfl rfl (WO.step rfl (OR.move rfl ?_)))))))
  refine WO.guardYes rfl (decide_eq_false (by omega : ¬ (turn : Int) < 0)) rfl rfl (OR.load T3 rfl rfl (hs.cellM (i := 0) rfl rfl) (WO.guardYes rfl (decide_eq_false (by omega : ¬ (turn : Int) < 0)) rfl rfl (OR.move rfl (WO.guardYes rfl (decide_eq_false (by omega : ¬ (turn : Int) < 0)) rfl rfl (OR.geq rfl rfl (WO.step rfl (OR.pickF rfl (decide_eq_false (by omega : ¬ (turn : Int) < 0)) rfl ?_)))))))
  refine WO.done (WX.seq ?_)
  refine WC.no rfl (decide_eq_false (by omega)) ?_
  refine WC.skip (WX.seq (WC.seq (WC.region (WO.step rfl (OR.move rfl ?_)))))
  refine WO.step rfl (OR.make1 (m := n) hs T43.und T5 rfl rfl rfl (by omega) (by omega) ?_)
  clear hs; intro gm w hgm hs
  refine WO.step rfl (OR.alloc hs T43 ?_)
  clear hs; intro g2 w hg2 hs
  refine WO.stepN (OR.storeAll hs T43 rfl rfl rfl rfl rfl ?_)
  clear hs; intro w hs
  refine WO.done (WX.seq (WC.seq (WC.region (WO.step rfl (OR.makeFunc rfl rfl (WO.step rfl (OR.assign rfl ?_)))))))
  refine WO.done (WX.seq (WC.seq (WC.region (WO.step rfl (OR.load T43 rfl rfl (hs.cellM (i := 0) rfl rfl) (WO.step rfl (OR.move rfl ?_)))))))
  replace hs := hs.front (i := 1) rfl
  refine WO.step rfl (OR.copyO hs ((l.take n).map B) T43.und T5 rfl rfl (by rw [List.length_map, List.length_take, natmin (c := min n l.length) (by omega)]; omega) (Sl.src0 (hl.mono hle)) (fun b hb j u hj => Sl.src (hl.mono hle) hs b hb j u (by rw [List.map_take] at hj; exact get_take hj)) (by simp; omega) (bytes_one _) ?_)
  clear hs; intro w hs
  replace hs : HS [] H0 w0 H ([(gm, .cells ((padTo n l).map B).toArray 5, true)] ++ [(g2, .cells #[.slice (some ⟨gm, 0, none⟩) n n] 43, true), (g1, .cells #[.int .i64 (turn : Int)] 3, true)]) w := by rw [← padTo_cells]; exact hs
  refine WO.done (WX.seq (WC.seq (WC.region (WO.step rfl (OR.move rfl ?_)))))
  refine WO.step rfl (OR.callX (Mx := [_]) hs body206 rfl rfl (fill_ok gm g2 g1 n turn (padTo n l) _ _ (padTo_length _ _) hn.2 ht (hs.begin [true, false, false])) rfl rfl ?_)
  clear hs; rintro v H2 M2 w hs hle1 hnew ⟨rfl, rfl⟩
  replace hle := hle.trans hle1
  refine WO.done (WX.seq (WC.seq (WC.region (WO.step rfl (OR.load T43 rfl rfl (hs.cellM (i := 1) rfl rfl) (WO.step rfl (OR.assign rfl ?_)))))))
  refine WO.step rfl (OR.assign rfl (WO.done (WX.seq (WC.ret ?_))))
  refine WX.ret2 rfl rfl rfl ?_
  have hs2 : HS [] H0 w0 H2 ((gm, .cells ((coefF n turn l).map B).toArray 5, true) :: []) w := (hs.drop 1).drop 1
  have hp := hs2.publish hgm
  refine .mk hp ⟨_, rfl, ?_⟩
  have := Bytes.block (c := ((coefF n turn l).map B).toArray) (l := coefF n turn l) (cap := n) (Hp.put_same H2 gm (.cells ((coefF n turn l).map B).toArray 5)) (by rw [coefF_len, List.take_of_length_le (by simp [coefF_len])]) (by rw [coefF_len]; exact Nat.le_refl _)
  rw [coefF_len] at this
  exact this

end Go.Bw
namespace Go.Bw
set_option linter.unusedVariables false
set_option linter.unusedSimpArgs false
open Go.Proofs
set_option maxRecDepth 20000 in
set_option maxHeartbeats 2000000 in
theorem rnone_ok (rb g s wb : Nat) (l : Slots) (H0 : Hp) (w0 : World) (h0 : Sub H0 w0) (hb : w0.heap[rb]? = some (relObj g s wb l)) (hn : H0 rb = none) : Calls Tryz.prog 77 #[ptr rb] w0 (Pure H0 w0 fun v _ => v = .bool false) := by
  have hs := HS.startR h0 hb hn
  refine Calls.enter (args := [ptr rb]) Tryz.func77 rfl Tryz.ntmps77 rfl ?_
  refine WC.seq (WC.region (WO.step rfl (OR.assign rfl (WO.done (WX.seq (WC.seq (WC.region ?_)))))))
  refine WO.step rfl (OR.move rfl (WO.step rfl (OR.eqlNilP T34.und rfl rfl (WO.step rfl (OR.move rfl (WO.guardYes rfl rfl rfl rfl (OR.move rfl ?_)))))))
  refine WO.guardYes rfl rfl rfl rfl (OR.nilCheck rfl (WO.guardYes rfl rfl rfl rfl (OR.fieldAddr FA131_2 rfl (WO.guardYes rfl rfl rfl rfl (OR.load T123 rfl rfl (hs.cellM (i := 0) rfl rfl) (WO.guardYes rfl rfl rfl rfl (OR.eqlNilP T123.und rfl rfl ?_)))))))
  refine WO.step rfl (OR.pickF rfl rfl rfl (WO.step rfl (OR.assign rfl (WO.done (WX.seq (WC.ret ?_))))))
  refine WX.ret1 rfl rfl ?_
  exact .mk (hs.drop 0) rfl

def MF.newB (N : Nat) (Hb : Hp) (g s : Nat) (f : Value → Value) : MF := MF.of (fun v H => ∃ b, N ≤ b ∧ Hb b = none ∧ v = f (.pointer (some ⟨b, 0, none⟩)) ∧ H b = some (basisObj g s (.slice none 0 0))) fun _ _ _ hle ⟨b, h1, h2, h3, h4⟩ => ⟨b, h1, h2, h3, hle _ _ h4⟩
set_option maxRecDepth 20000 in
set_option maxHeartbeats 2000000 in
theorem rat_ok (rb wb f gen : Nat) (first cap : List Value) (x : RelD) (l : Slots) (t : Bool) (xs : List Nat) (H0 H1 : Hp) (Mr : Mem) (w0 w1 : World) (C : Ending → World → Prop) (h00 : Sub H0 w0)
    (hs : HS xs H0 w0 H1 ((rb, relObj x.g x.s wb l, t) :: (wb, winObj x.base x.width, t) :: (slotMem x.g x.s t l ++ Mr)) w1) (hx : SlotsOk H1 x l) (hok : RelOk x) (hg : gen < 18446744073709551616) (hb : Body Tryz.prog f)
    (hC : ∀ e w, C e w → ∃ i : Int, e = .returned (.int .i64 i))
    (hout : ¬ inWin x.base x.width gen → ∀ H w, Hp.le H1 H → HS xs H0 w0 H ((rb, relObj x.g x.s wb l, t) :: (wb, winObj x.base x.width, t) :: (slotMem x.g x.s t l ++ Mr)) w → C (.returned (.int .i64 23)) w)
    (hdo : inWin x.base x.width gen → ∀ H w b rv t', Hp.le H1 H → (t = true → t' = true) → HS xs H0 w0 H ((b, basisObj x.g x.s rv, t') :: (rb, relObj x.g x.s wb l, t) :: (wb, winObj x.base x.width, t) :: (slotMem x.g x.s t (l.set (gen % x.width) none) ++ Mr)) w →
      (l[gen % x.width]? = some (some (b, rv)) ∨ l[gen % x.width]? = some none) → (l[gen % x.width]? = some (some (b, rv)) → t' = t) → Rws H rv (x.rows (gen % x.width)) → Calls Tryz.prog f (first ++ [.int .i64 ((gen % x.width : Nat) : Int), ptr b] ++ cap).toArray w C) :
    Calls Tryz.prog 70 #[ptr rb, .int .u64 (gen : Int), .func (.func f) first.toArray cap.toArray] w1 C := by
  have hle := Hp.le.refl H1
  have hw16 := hok.w2
  have hw1 := hok.w1
  have hsl := hok.slot gen
  obtain ⟨h16, hx⟩ := hx
  refine Calls.enter (args := [ptr rb, .int .u64 (gen : Int), .func (.func f) first.toArray cap.toArray]) Tryz.func70 rfl Tryz.ntmps70 rfl ?_
  refine WC.seq (WC.region (WO.step rfl (OR.assign rfl (WO.done (WX.seq (WC.seq (WC.seq ?_)))))))
  refine WC.region (WO.step rfl (OR.move rfl ?_))
  refine WO.step rfl (OR.call hs body77 rfl rfl (rnone_ok rb x.g x.s wb l _ _ hs.toSub (hs.blk (i := 0) rfl) (hs.nh (i := 0) rfl)) ?_)
  clear hs; rintro _ H w hs hle1 rfl; replace hle := hle.trans hle1; (try replace hlb := hlb.trans hle1)
  refine WO.done (WX.seq ?_)
  refine WC.no rfl rfl ?_
  refine WC.skip (WX.seq (WC.seq (WC.region (WO.step rfl (OR.move rfl (WO.step rfl (OR.nilCheck rfl ?_)))))))
  refine WO.step rfl (OR.fieldAddr FA131_2 rfl (WO.step rfl (OR.load T123 rfl rfl (hs.cellM (i := 0) rfl rfl) (WO.step rfl (OR.move rfl ?_)))))
  refine WO.step rfl (OR.call hs body118 rfl rfl (wslot_ok wb x.base x.width _ _ gen hs.toSub (hs.blk (i := 1) rfl) (hs.nh (i := 1) rfl) hok.b hw16 hw1 hg) ?_)
  clear hs; rintro _ H w hs hle1 rfl; replace hle := hle.trans hle1; (try replace hlb := hlb.trans hle1)
  refine WO.step rfl (OR.move rfl (WO.step rfl (OR.extract rfl rfl (WO.step rfl (OR.extract rfl rfl (WO.step rfl (OR.assign rfl ?_)))))))
  refine WO.step rfl (OR.assign rfl (WO.done (WX.seq (WC.seq (WC.seq (WC.region (WO.step rfl ?_)))))))
  refine OR.move rfl (WO.step rfl (OR.neq rfl rfl (WO.done (WX.seq ?_))))
  by_cases hin : inWin x.base x.width gen
  · rw [if_pos hin, if_pos hin]
    refine WC.no rfl (decide_eq_false (by decide)) ?_
    have hget : ∃ y, l[gen % x.width]? = some y := ⟨_, List.getElem?_eq_getElem (by omega)⟩
    obtain ⟨y, hy⟩ := hget
    have hnth := nth_slots (.int .i64 (x.g : Int)) (.int .i64 (x.s : Int)) (ptr wb) l _ y hy
    refine WC.skip (WX.seq (WC.seq (WC.region (WO.step rfl (OR.move rfl (WO.step rfl (OR.move rfl ?_)))))))
    refine WO.step rfl (OR.nilCheck rfl (WO.step rfl (OR.fieldAddr FA131_3 rfl ?_)))
    refine WO.step rfl (OR.idxArr (gen % x.width) T129.und T126 rfl rfl rfl (by omega) ?_)
    refine WO.step rfl (OR.load T126 rfl rfl (hs.cellM (i := 0) rfl (by rw [Nat.zero_add]; exact hnth)) ?_)
    have hslot := hx _ _ hy
    cases y with
    | none =>
      refine WO.step rfl (OR.assign rfl (WO.done (WX.seq (WC.seq (WC.seq (WC.region (WO.step rfl ?_)))))))
      refine OR.move rfl (WO.step rfl (OR.eqlNilP T126.und rfl rfl (WO.done (WX.seq ?_))))
      refine WC.yes rfl rfl ?_
      have hlb := Hp.le.refl H
      refine WC.drawL 12 11 mixed hs (by kernel_rfl) ?_
      refine ⟨MF.eq _, by intro Mx H w hle hs; refine forVals_nil (ORg.plain (OR.move rfl ?_)); exact ⟨_, [], Hp.le.refl _, hs, rfl, rfl⟩, ?_⟩
      refine ⟨MF.eq _, by intro Mx H w hle hs; refine forVals_eq rfl rfl rfl ?_; refine forVals_nil (ORg.plain (OR.nilCheck rfl ?_)); exact ⟨_, [], Hp.le.refl _, hs, rfl, rfl⟩, ?_⟩
      refine ⟨MF.eq _, by intro Mx H w hle hs; refine forVals_eq rfl rfl rfl ?_; refine forVals_nil (ORg.plain (OR.fieldAddr FA131_0 rfl ?_)); exact ⟨_, [], Hp.le.refl _, hs, rfl, rfl⟩, ?_⟩
      refine ⟨MF.eq _, by intro Mx H w hle hs; refine forVals_eq rfl rfl rfl ?_; refine forVals_nil (ORg.plain (OR.load T3 rfl rfl (hs.right.cellM (i := 0) rfl rfl) ?_)); exact ⟨_, [], Hp.le.refl _, hs, rfl, rfl⟩, ?_⟩
      refine ⟨MF.eq _, by intro Mx H w hle hs; refine forVals_nil (ORg.plain (OR.move rfl ?_)); exact ⟨_, [], Hp.le.refl _, hs, rfl, rfl⟩, ?_⟩
      refine ⟨MF.eq _, by intro Mx H w hle hs; refine forVals_eq rfl rfl rfl ?_; refine forVals_nil (ORg.plain (OR.nilCheck rfl ?_)); exact ⟨_, [], Hp.le.refl _, hs, rfl, rfl⟩, ?_⟩
      refine ⟨MF.eq _, by intro Mx H w hle hs; refine forVals_eq rfl rfl rfl ?_; refine forVals_nil (ORg.plain (OR.fieldAddr FA131_1 rfl ?_)); exact ⟨_, [], Hp.le.refl _, hs, rfl, rfl⟩, ?_⟩
      refine ⟨MF.eq _, by intro Mx H w hle hs; refine forVals_eq rfl rfl rfl ?_; refine forVals_nil (ORg.plain (OR.load T3 rfl rfl (hs.right.cellM (i := 0) rfl rfl) ?_)); exact ⟨_, [], Hp.le.refl _, hs, rfl, rfl⟩, ?_⟩
      refine ⟨MF.newB w0.heap.size H1 x.g x.s (fun v => .tuple #[v, .int .i64 0]), ?_, ?_⟩
      · intro Mx H w hle2 hs; (try replace hle := hle.trans hle2); (try replace hlb := hlb.trans hle2); refine forVals_eq rfl rfl rfl ?_; refine forVals_eq rfl rfl rfl ?_
        have hsz := hs.size
        have hdom : ∀ q, w.heap.size ≤ q → H1 q = none := fun q hq => by
          cases hh : H1 q with
          | none => rfl
          | some u => have := lt_of_heap (hs.sub q u (hle _ _ hh)); omega
        refine forVals_nil (ORg.plain (OR.callX (Mx := []) hs body65 rfl rfl (new_ok (x.g : Int) (x.s : Int) _ _ hs.toSub) rfl rfl ?_))
        clear hs; rintro v H3 M3 w hs hle3 hnew ⟨rfl, hc⟩
        rw [if_pos (by have h1 := hok.g1; have h2 := hok.g2; have h3 := hok.s1; have h4 := hok.s2; omega)] at hc
        obtain ⟨b, hb1, rfl, rfl⟩ := hc
        obtain ⟨H4, hle4, hp, hs⟩ := HS.pub1 hs (Nat.le_trans hsz hb1)
        exact ⟨_, [], hle4, hs, ⟨b, Nat.le_trans hsz hb1, hdom b hb1, rfl, hp⟩, rfl⟩
      refine ⟨MF.newB w0.heap.size H1 x.g x.s (fun v => .tuple #[v, .int .i64 0]), ?_, ?_⟩
      · intro Mx H w hle2 hs; (try replace hle := hle.trans hle2); (try replace hlb := hlb.trans hle2); refine forVals_of rfl rfl rfl ?_; intro v8 h8
        refine forVals_nil (ORg.plain (OR.move rfl ?_))
        exact ⟨_, [], Hp.le.refl _, hs, h8, rfl⟩
      refine ⟨MF.newB w0.heap.size H1 x.g x.s (fun v => v), ?_, ?_⟩
      · intro Mx H w hle2 hs; (try replace hle := hle.trans hle2); (try replace hlb := hlb.trans hle2); refine forVals_of rfl rfl rfl ?_; intro v9 h9
        obtain ⟨b, hb1, hb2, rfl, hb3⟩ := h9
        refine forVals_nil (ORg.plain (OR.extract rfl rfl ?_))
        exact ⟨_, [], Hp.le.refl _, hs, ⟨b, hb1, hb2, rfl, hb3⟩, rfl⟩
      refine ⟨MF.eq (.int .i64 0), ?_, ?_⟩
      · intro Mx H w hle2 hs; (try replace hle := hle.trans hle2); (try replace hlb := hlb.trans hle2); refine forVals_of rfl rfl rfl ?_; intro v9 h9
        obtain ⟨b, hb1, hb2, rfl, hb3⟩ := h9
        refine forVals_nil (ORg.plain (OR.extract rfl rfl ?_))
        exact ⟨_, [], Hp.le.refl _, hs, rfl, rfl⟩
      intro H w hle2; (try replace hle := hle.trans hle2); (try replace hlb := hlb.trans hle2)
      refine forAllVals_eq rfl ?_
      refine forAllVals_eq rfl ?_
      refine forAllVals_eq rfl ?_
      refine forAllVals_eq rfl ?_
      refine forAllVals_eq rfl ?_
      refine forAllVals_eq rfl ?_
      refine forAllVals_eq rfl ?_
      refine forAllVals_eq rfl ?_
      refine forAllVals_of rfl ?_; intro v8 h8
      refine forAllVals_of rfl ?_; intro v9 h9
      refine forAllVals_of rfl ?_; intro v10 h10
      refine forAllVals_eq rfl ?_
      refine forAllVals_nil ?_; (try clear hs); intro hs
      obtain ⟨b, hb1, hb2, rfl, hb3⟩ := h10
      have hs2 := HS.unpub h00 hs hb3 hb1
      rw [show slotMem x.g x.s t l = slotMem x.g x.s t (l.set (gen % x.width) none) from by
        congr 1
        have hi : gen % x.width < l.length := (List.getElem?_eq_some_iff.1 hy).1
        have hx2 : l[gen % x.width] = none := by rw [List.getElem?_eq_getElem hi] at hy; exact Option.some.inj hy
        conv => lhs; rw [← List.set_getElem_self hi, hx2]] at hs2
      have hrows : x.rows (gen % x.width) = [] := hslot
      refine WO.step rfl (OR.assign rfl (WO.done (WX.seq (WC.seq (WC.region (WO.step rfl (OR.move rfl ?_)))))))
      refine WO.step rfl (OR.move rfl (WO.step rfl (OR.move rfl ?_)))
      refine WO.step rfl (OR.callW hb rfl rfl (hdo hin _ _ b (.slice none 0 0) true (Hp.le_del hle hb2) (fun _ => rfl) hs2 (.inr hy) (fun h => by rw [hy] at h; cases h) (by rw [hrows]; exact ⟨[], Sl.nil _ _, rfl, fun i h => by simp at h⟩)) ?_)
      intro e w hCe
      obtain ⟨i, rfl⟩ := hC e w hCe
      refine ⟨_, rfl, ?_⟩
      refine WO.step rfl (OR.assign rfl (WO.done (WX.seq (WC.ret ?_))))
      refine WX.ret1 rfl rfl ?_
      exact hCe
    | some p =>
      obtain ⟨b, rv⟩ := p
      refine WO.step rfl (OR.assign rfl (WO.done (WX.seq (WC.seq (WC.seq (WC.region (WO.step rfl ?_)))))))
      refine OR.move rfl (WO.step rfl (OR.eqlNilP T126.und rfl rfl (WO.done (WX.seq ?_))))
      refine WC.no rfl rfl ?_
      have hs2 := HS.slotOut (A := [_, _]) hs hy
      refine WC.skip (WX.seq (WC.seq (WC.region (WO.step rfl (OR.move rfl (WO.step rfl (OR.move rfl ?_)))))))
      refine WO.step rfl (OR.move rfl ?_)
      refine WO.step rfl (OR.callW hb rfl rfl (hdo hin _ _ b rv t hle id hs2 (.inl hy) (fun _ => rfl) (Rws.mono hslot hle)) ?_)
      intro e w hCe
      obtain ⟨i, rfl⟩ := hC e w hCe
      refine ⟨_, rfl, ?_⟩
      refine WO.step rfl (OR.assign rfl (WO.done (WX.seq (WC.ret ?_))))
      refine WX.ret1 rfl rfl ?_
      exact hCe
  · rw [if_neg hin, if_neg hin]
    refine WC.yes rfl (decide_eq_true (by decide)) ?_
    refine WC.seq (WC.region (WO.step rfl (OR.assign rfl (WO.done (WX.seq (WC.ret (WX.seq_ret ?_)))))))
    refine WX.ret1 rfl rfl ?_
    exact hout hin _ _ hle hs
end Go.Bw
namespace Go.Bw
set_option linter.unusedVariables false
set_option linter.unusedSimpArgs false
open Go.Proofs
theorem HS.last1 {xs : List Nat} {H0 H : Hp} {w0 w : World} {A : Mem} {q : Nat × Obj × Bool} (hs : HS xs H0 w0 H (A ++ [q]) w) : HS xs H0 w0 H [q] w := hs.sublist (List.sublist_append_right _ _)
theorem HS.pick2 {xs : List Nat} {H0 H : Hp} {w0 w : World} {A : Mem} {p q : Nat × Obj × Bool} (hs : HS xs H0 w0 H (p :: (A ++ [q])) w) : HS xs H0 w0 H [q, p] w :=
  (hs.sublist ((List.sublist_append_right A [q]).cons_cons p)).front (i := 1) rfl
def RelD.rk (x : RelD) (gen : Nat) : List RowD := if inWin x.base x.width gen then x.rows (gen % x.width) else []
theorem RelOk.rk {x : RelD} (h : RelOk x) (gen : Nat) : Red x.g x.s (x.rk gen) := by
  unfold RelD.rk
  split
  · exact h.red _
  · exact Red.nil _ _
theorem Red.forB {g s : Nat} {A : List RowD} (h : Red g s A) (hg : g ≤ 255) : (∀ y ∈ A, RowGS g s y) ∧ (∀ y ∈ A, RowGS g s y ∧ 0 ≤ lead y.1) ∧ A.length ≤ 255 :=
  ⟨h.gs, fun y hy => ⟨h.gs y hy, h.ld y hy⟩, Nat.le_trans h.len hg⟩

set_option maxRecDepth 20000 in
set_option maxHeartbeats 2000000 in
theorem rrank1_ok (gn b g s : Nat) (v0 u rv : Value) (rows : List RowD) (t : Bool) (xs : List Nat) (H0 H1 : Hp) (w0 w1 : World) (hs : HS xs H0 w0 H1 [(gn, .cells #[u] 3, true), (b, basisObj g s rv, t)] w1) (hg : 0 < g) (hr : Rws H1 rv rows) :
    Calls Tryz.prog 92 #[v0, ptr b, ptr gn] w1 (fun e w' => ∃ H', e = .returned (.int .i64 0) ∧ HS xs H0 w0 H' [(gn, .cells #[.int .i64 (rows.length : Int)] 3, true)] w') := by
  have hle := Hp.le.refl H1
  refine Calls.enter (args := [v0, ptr b, ptr gn]) Tryz.func92 rfl Tryz.ntmps92 rfl ?_
  refine WC.seq (WC.region (WO.step rfl (OR.assign rfl (WO.done (WX.seq (WC.seq (WC.region ?_)))))))
  refine WO.step rfl (OR.move rfl ?_)
  refine WO.step rfl (OR.call hs body93 rfl rfl (rank_ok b g s rv rows _ _ hs.toSub (hs.blk (i := 1) rfl) (hs.nh (i := 1) rfl) hg hr) ?_)
  clear hs; rintro _ H w hs hle1 rfl; replace hle := hle.trans hle1; (try replace hlb := hlb.trans hle1)
  refine WO.stepN (OR.storeAll hs T3 rfl rfl rfl rfl rfl ?_)
  clear hs; intro w hs
  refine WO.done (WX.seq (WC.seq (WC.region (WO.step rfl (OR.assign rfl (WO.done (WX.seq ?_)))))))
  refine WC.ret ?_
  refine WX.ret1 rfl rfl ?_
  exact ⟨H, rfl, hs.drop 1⟩
set_option maxRecDepth 20000 in
set_option maxHeartbeats 2000000 in
theorem rrank_ok (rb wb gen : Nat) (x : RelD) (l : Slots) (H0 : Hp) (w0 : World) (hs : HS [] H0 w0 H0 (relMem false x rb wb l) w0) (hx : SlotsOk H0 x l) (hok : RelOk x) (hg : gen < 18446744073709551616) :
    Calls Tryz.prog 34 #[ptr rb, .int .u64 (gen : Int)] w0 (Pure H0 w0 fun v _ => v = .int .i64 ((x.rk gen).length : Int)) := by
  have hle := Hp.le.refl H0
  have h00 := hs.toSub
  have hgp := hok.g1
  refine Calls.enter (args := [ptr rb, .int .u64 (gen : Int)]) Tryz.func34 rfl Tryz.ntmps34 rfl ?_
  refine WC.seq (WC.region (WO.step rfl (OR.alloc hs T3 ?_)))
  clear hs; intro g1 w hg1 hs
  refine WO.done (WX.seq (WC.seq (WC.region (WO.step rfl (OR.move rfl (WO.step rfl (OR.move rfl ?_)))))))
  refine WO.step rfl (OR.makeFunc rfl rfl ?_)
  have hs9 := HS.mtail (A := [_]) hs
  refine WO.step rfl (OR.callW body70 rfl rfl (rat_ok rb wb 92 gen [] [ptr g1] x l false [] H0 H0 [_] w0 _ (fun e w' => ∃ H' i, e = .returned (.int .i64 i) ∧ HS [] H0 w0 H' [(g1, .cells #[.int .i64 ((x.rk gen).length : Int)] 3, true)] w') h00 hs9 hx hok hg body92 (fun e w ⟨_, i, h, _⟩ => ⟨i, h⟩) (fun hno H w hl hs => ⟨H, 23, rfl, by rw [RelD.rk, if_neg hno]; exact HS.last1 (A := _ :: _ :: _) hs⟩) (fun hin H w b rv t' hl _ hs _ _ hr => (rrank1_ok g1 b x.g x.s _ _ rv _ t' [] H0 H w0 w (HS.pick2 (A := _ :: _ :: _) hs) hgp hr).mono fun e w' ⟨H', h1, h2⟩ => ⟨H', 0, h1, by rw [RelD.rk, if_pos hin]; exact h2⟩)) ?_)
  clear hs hs9
  rintro e w ⟨H, i, rfl, hs⟩
  refine ⟨_, rfl, ?_⟩
  refine WO.done (WX.seq (WC.seq (WC.region (WO.step rfl (OR.load T3 rfl rfl (hs.cellM (i := 0) rfl rfl) (WO.stepN (OR.storeAll hs T3 rfl rfl rfl rfl rfl ?_)))))))
  clear hs; intro w hs
  refine WO.done (WX.seq (WC.ret ?_))
  refine WX.retCellS T3 rfl rfl rfl (hs.cellM (i := 0) rfl rfl) ?_
  exact .mk (hs.drop 0) rfl

set_option maxRecDepth 20000 in
set_option maxHeartbeats 2000000 in
theorem rrows1_ok (gn b g s : Nat) (v0 u rv : Value) (rows : List RowD) (t : Bool) (xs : List Nat) (H0 H1 : Hp) (w0 w1 : World) (hs : HS xs H0 w0 H1 [(gn, .cells #[u] 97, true), (b, basisObj g s rv, t)] w1) (hg : 0 < g) (hg2 : g ≤ 255) (hs2 : s ≤ 65535) (hr : Rws H1 rv rows) (hred : Red g s rows) :
    Calls Tryz.prog 142 #[v0, ptr b, ptr gn] w1 (fun e w' => ∃ H' r, e = .returned (.int .i64 0) ∧ HS xs H0 w0 H' [(gn, .cells #[r] 97, true)] w' ∧ Rws H' r rows) := by
  have hle := Hp.le.refl H1
  obtain ⟨q1, q2, q3⟩ := Red.forB hred hg2
  refine Calls.enter (args := [v0, ptr b, ptr gn]) Tryz.func142 rfl Tryz.ntmps142 rfl ?_
  refine WC.seq (WC.region (WO.step rfl (OR.assign rfl (WO.done (WX.seq (WC.seq (WC.region ?_)))))))
  refine WO.step rfl (OR.move rfl ?_)
  refine WO.step rfl (OR.call hs body143 rfl rfl (rows_ok rows rv b g s _ _ hs.toSub (hs.blk (i := 1) rfl) (hs.nh (i := 1) rfl) hr q1 hg hg2 hs2 q3) ?_)
  clear hs; rintro _ H w hs hle1 hr2; replace hle := hle.trans hle1; (try replace hlb := hlb.trans hle1)
  obtain ⟨cs, hsl, hro⟩ := hr2
  obtain ⟨b1, c1, rfl⟩ := hsl.form
  refine WO.stepN (OR.storeAll hs T97 rfl rfl rfl rfl rfl ?_)
  clear hs; intro w hs
  refine WO.done (WX.seq (WC.seq (WC.region (WO.step rfl (OR.assign rfl (WO.done (WX.seq ?_)))))))
  refine WC.ret ?_
  refine WX.ret1 rfl rfl ?_
  exact ⟨H, _, rfl, hs.drop 1, cs, hsl, hro⟩
set_option maxRecDepth 20000 in
set_option maxHeartbeats 2000000 in
theorem rrows_ok (rb wb gen : Nat) (x : RelD) (l : Slots) (H0 : Hp) (w0 : World) (hs : HS [] H0 w0 H0 (relMem false x rb wb l) w0) (hx : SlotsOk H0 x l) (hok : RelOk x) (hg : gen < 18446744073709551616) :
    Calls Tryz.prog 101 #[ptr rb, .int .u64 (gen : Int)] w0 (Pure H0 w0 fun v H' => Rws H' v (x.rk gen)) := by
  have hle := Hp.le.refl H0
  have h00 := hs.toSub
  refine Calls.enter (args := [ptr rb, .int .u64 (gen : Int)]) Tryz.func101 rfl Tryz.ntmps101 rfl ?_
  refine WC.seq (WC.region (WO.step rfl (OR.alloc hs T97 ?_)))
  clear hs; intro g1 w hg1 hs
  refine WO.done (WX.seq (WC.seq (WC.region (WO.step rfl (OR.move rfl (WO.step rfl (OR.move rfl ?_)))))))
  refine WO.step rfl (OR.makeFunc rfl rfl ?_)
  have hs9 := HS.mtail (A := [_]) hs
  refine WO.step rfl (OR.callW body70 rfl rfl (rat_ok rb wb 142 gen [] [ptr g1] x l false [] H0 H0 [_] w0 _ (fun e w' => ∃ H' i r, e = .returned (.int .i64 i) ∧ HS [] H0 w0 H' [(g1, .cells #[r] 97, true)] w' ∧ Rws H' r (x.rk gen)) h00 hs9 hx hok hg body142 (fun e w ⟨_, i, _, h, _⟩ => ⟨i, h⟩) (fun hno H w hl hs => ⟨H, 23, .slice none 0 0, rfl, HS.last1 (A := _ :: _ :: _) hs, by rw [RelD.rk, if_neg hno]; exact ⟨[], Sl.nil _ _, rfl, fun i h => by simp at h⟩⟩) (fun hin H w b rv t' hl _ hs _ _ hr => (rrows1_ok g1 b x.g x.s _ _ rv _ t' [] H0 H w0 w (HS.pick2 (A := _ :: _ :: _) hs) hok.g1 hok.g2 hok.s2 hr (hok.red _)).mono fun e w' ⟨H', r, h1, h2, h3⟩ => ⟨H', 0, r, h1, h2, by rw [RelD.rk, if_pos hin]; exact h3⟩)) ?_)
  clear hs hs9
  rintro e w ⟨H, i, r, rfl, hs, hr⟩
  refine ⟨_, rfl, ?_⟩
  obtain ⟨cs, hsl, hro⟩ := hr
  obtain ⟨b1, c1, rfl⟩ := hsl.form
  refine WO.done (WX.seq (WC.seq (WC.region (WO.step rfl (OR.load T97 rfl rfl (hs.cellM (i := 0) rfl rfl) (WO.stepN (OR.storeAll hs T97 rfl rfl rfl rfl rfl ?_)))))))
  clear hs; intro w hs
  refine WO.done (WX.seq (WC.ret ?_))
  refine WX.retCellS T97 rfl rfl rfl (hs.cellM (i := 0) rfl rfl) ?_
  exact .mk (hs.drop 0) ⟨cs, hsl, hro⟩

def RelD.solE (x : RelD) (gen : Nat) : Int := if inWin x.base x.width gen then (if (x.rows (gen % x.width)).length < x.g then 24 else 0) else 23
def RelD.solF (x : RelD) (gen : Nat) : List (List UInt8) := if inWin x.base x.width gen then (if (x.rows (gen % x.width)).length < x.g then [] else (x.rows (gen % x.width)).map (·.2)) else []
set_option maxRecDepth 20000 in
set_option maxHeartbeats 2000000 in
theorem rsolve1_ok (gn b g s : Nat) (v0 u rv : Value) (rows : List RowD) (t : Bool) (xs : List Nat) (H0 H1 : Hp) (w0 w1 : World) (hs : HS xs H0 w0 H1 [(gn, .cells #[u] 40, true), (b, basisObj g s rv, t)] w1) (hg : 0 < g) (hg2 : g ≤ 255) (hs2 : s ≤ 65535) (hr : Rws H1 rv rows) (hred : Red g s rows) :
    Calls Tryz.prog 151 #[v0, ptr b, ptr gn] w1 (fun e w' => ∃ H' r, e = .returned (.int .i64 (if rows.length < g then 24 else 0)) ∧ HS xs H0 w0 H' [(gn, .cells #[r] 40, true)] w' ∧ BytesL H' r (if rows.length < g then [] else rows.map (·.2))) := by
  have hle := Hp.le.refl H1
  obtain ⟨q1, q2, q3⟩ := Red.forB hred hg2
  refine Calls.enter (args := [v0, ptr b, ptr gn]) Tryz.func151 rfl Tryz.ntmps151 rfl ?_
  refine WC.seq (WC.region (WO.step rfl (OR.assign rfl (WO.done (WX.seq (WC.seq (WC.region ?_)))))))
  refine WO.step rfl (OR.move rfl ?_)
  refine WO.step rfl (OR.call hs body152 rfl rfl (solve_ok rows rv b g s _ _ hs.toSub (hs.blk (i := 1) rfl) (hs.nh (i := 1) rfl) hr q1 hg hg2 hs2 q3) ?_)
  clear hs; rintro _ H w hs hle1 ⟨r, rfl, hr2⟩; replace hle := hle.trans hle1; (try replace hlb := hlb.trans hle1)
  obtain ⟨b1, c1, rfl⟩ := hr2.form
  refine WO.step rfl (OR.move rfl (WO.step rfl (OR.extract rfl rfl (WO.step rfl (OR.extract rfl rfl (WO.stepN (OR.storeAll hs T40 rfl rfl rfl rfl rfl ?_)))))))
  clear hs; intro w hs
  refine WO.step rfl (OR.assign rfl (WO.done (WX.seq (WC.seq (WC.region (WO.step rfl (OR.move rfl ?_)))))))
  refine WO.step rfl (OR.assign rfl (WO.done (WX.seq (WC.ret ?_))))
  refine WX.ret1 rfl rfl ?_
  exact ⟨H, _, rfl, hs.drop 1, hr2⟩
set_option maxRecDepth 20000 in
set_option maxHeartbeats 2000000 in
theorem rsolve_ok (rb wb gen : Nat) (x : RelD) (l : Slots) (H0 : Hp) (w0 : World) (hs : HS [] H0 w0 H0 (relMem false x rb wb l) w0) (hx : SlotsOk H0 x l) (hok : RelOk x) (hg : gen < 18446744073709551616) :
    Calls Tryz.prog 116 #[ptr rb, .int .u64 (gen : Int)] w0 (Pure H0 w0 fun v H' => ∃ r, v = .tuple #[r, .int .i64 (x.solE gen)] ∧ BytesL H' r (x.solF gen)) := by
  have hle := Hp.le.refl H0
  have h00 := hs.toSub
  refine Calls.enter (args := [ptr rb, .int .u64 (gen : Int)]) Tryz.func116 rfl Tryz.ntmps116 rfl ?_
  refine WC.seq (WC.region (WO.step rfl (OR.alloc hs T40 ?_)))
  clear hs; intro g1 w hg1 hs
  refine WO.step rfl (OR.assign rfl (WO.done (WX.seq (WC.seq (WC.region (WO.step rfl (OR.move rfl ?_)))))))
  refine WO.step rfl (OR.move rfl (WO.step rfl (OR.makeFunc rfl rfl ?_)))
  have hs9 := HS.mtail (A := [_]) hs
  refine WO.step rfl (OR.callW body70 rfl rfl (rat_ok rb wb 151 gen [] [ptr g1] x l false [] H0 H0 [_] w0 _ (fun e w' => ∃ H' r, e = .returned (.int .i64 (x.solE gen)) ∧ HS [] H0 w0 H' [(g1, .cells #[r] 40, true)] w' ∧ BytesL H' r (x.solF gen)) h00 hs9 hx hok hg body151 (fun e w ⟨_, _, h, _⟩ => ⟨_, h⟩) (fun hno H w hl hs => ⟨H, .slice none 0 0, by rw [RelD.solE, if_neg hno], HS.last1 (A := _ :: _ :: _) hs, by rw [RelD.solF, if_neg hno]; exact ⟨[], Sl.nil _ _, rfl, fun i h => by simp at h⟩⟩) (fun hin H w b rv t' hl _ hs _ _ hr => (rsolve1_ok g1 b x.g x.s _ _ rv _ t' [] H0 H w0 w (HS.pick2 (A := _ :: _ :: _) hs) hok.g1 hok.g2 hok.s2 hr (hok.red _)).mono fun e w' ⟨H', r, h1, h2, h3⟩ => ⟨H', r, by rw [RelD.solE, if_pos hin]; exact h1, h2, by rw [RelD.solF, if_pos hin]; exact h3⟩)) ?_)
  clear hs hs9
  rintro e w ⟨H, r, rfl, hs, hr⟩
  refine ⟨_, rfl, ?_⟩
  obtain ⟨b1, c1, rfl⟩ := hr.form
  refine WO.step rfl (OR.assign rfl (WO.done (WX.seq (WC.seq (WC.region (WO.step rfl (OR.load T40 rfl rfl (hs.cellM (i := 0) rfl rfl) ?_)))))))
  refine WO.step rfl (OR.move rfl (WO.stepN (OR.storeAll hs T40 rfl rfl rfl rfl rfl ?_)))
  clear hs; intro w hs
  refine WO.step rfl (OR.assign rfl (WO.done (WX.seq (WC.ret ?_))))
  refine WX.retCTS T40 rfl rfl rfl rfl (hs.cellM (i := 0) rfl rfl) ?_
  exact .mk (hs.drop 0) ⟨_, rfl, hr⟩
end Go.Bw
namespace Go.Bw
set_option linter.unusedVariables false
set_option linter.unusedSimpArgs false
open Go.Proofs
def RelD.take (x : RelD) (gen : Nat) (r : RowD) : RelD := if inWin x.base x.width gen then x.put gen (insR x.g x.s (x.rows (gen % x.width)) r).2 else x
def RelD.takeI (x : RelD) (gen : Nat) (r : RowD) : Bool := decide (inWin x.base x.width gen) && (insR x.g x.s (x.rows (gen % x.width)) r).1
def RelD.takeE (x : RelD) (gen : Nat) (r : RowD) : Int := if inWin x.base x.width gen then (if r.1.length = x.g ∧ r.2.length = x.s then 0 else 21) else 23
theorem RelOk.take {x : RelD} (h : RelOk x) (gen : Nat) (r : RowD) : RelOk (x.take gen r) := by
  unfold RelD.take
  split
  · exact h.put gen _ (insAny_red (h.red _) r)
  · exact h
theorem slots_put {H : Hp} {x : RelD} {l : Slots} {gen : Nat} {rows : List RowD} {y : Option (Nat × Value)} (h : SlotsOk H x l) (hy : slotOk H rows y) : SlotsOk H (x.put gen rows) (l.set (gen % x.width) y) := by
  refine ⟨by rw [List.length_set]; exact h.1, fun i z hz => ?_⟩
  show slotOk H (if i = gen % x.width then rows else x.rows i) z
  by_cases e : i = gen % x.width
  · rw [if_pos e]
    subst e
    rw [List.getElem?_set] at hz
    split at hz
    · split at hz
      · cases hz; exact hy
      · cases hz
    · rename_i h9; exact absurd rfl h9
  · rw [if_neg e]
    rw [List.getElem?_set_ne (Ne.symm e)] at hz
    exact h.2 i z hz
theorem slots_same {l : Slots} {i : Nat} {y z : Option (Nat × Value)} (h : l[i]? = some y) (e : slotV y = slotV z) : (l.set i z).map slotV = l.map slotV := by
  have hi : i < l.length := (List.getElem?_eq_some_iff.1 h).1
  have hx : l[i] = y := by rw [List.getElem?_eq_getElem hi] at h; exact Option.some.inj h
  rw [List.map_set, ← e, ← hx]
  have hi2 : i < (l.map slotV).length := by simpa using hi
  rw [show slotV l[i] = (l.map slotV)[i]'hi2 by simp, List.set_getElem_self]
/-- What Take leaves behind: the relay, and whether the row was taken. -/
def takeC (rb wb gI : Nat) (x : RelD) (gen : Nat) (r : RowD) (xs : List Nat) (H0 : Hp) (w0 : World) (e : Ending) (w' : World) : Prop :=
  ∃ H' l', e = .returned (.int .i64 (x.takeE gen r)) ∧ SlotsOk H' (x.take gen r) l' ∧ HS xs H0 w0 H' ((rb, relObj x.g x.s wb l', true) :: (wb, winObj x.base x.width, true) :: (slotMem x.g x.s true l' ++ [(gI, .cells #[.bool (x.takeI gen r)] 4, true)])) w'
set_option maxRecDepth 20000 in
set_option maxHeartbeats 2000000 in
theorem rtake1_ok (rb wb gI gR gW b gen : Nat) (rv rc rp : Value) (x : RelD) (l : Slots) (r : RowD) (xs : List Nat) (H0 H1 : Hp) (w0 w1 : World)
    (hs : HS xs H0 w0 H1 ((b, basisObj x.g x.s rv, true) :: (rb, relObj x.g x.s wb l, true) :: (wb, winObj x.base x.width, true) :: (slotMem x.g x.s true (l.set (gen % x.width) none) ++ [(gI, .cells #[.bool false] 4, true)])) w1)
    (hin : inWin x.base x.width gen) (hx : SlotsOk H1 x l) (hok : RelOk x) (hl : l[gen % x.width]? = some (some (b, rv)) ∨ l[gen % x.width]? = some none) (hrv : Rws H1 rv (x.rows (gen % x.width)))
    (hgW : hcell H1 ⟨gW, 0, none⟩ = some rc ∧ hcell H1 ⟨gW, 1, none⟩ = some rp) (hrc : Bytes H1 rc r.1) (hrp : Bytes H1 rp r.2) (hgR : hcell H1 ⟨gR, 0, none⟩ = some (ptr rb)) :
    Calls Tryz.prog 71 #[.int .i64 ((gen % x.width : Nat) : Int), ptr b, ptr gW, ptr gI, ptr gR] w1 (takeC rb wb gI x gen r xs H0 w0) := by
  have hle := Hp.le.refl H1
  have hsl := hok.slot gen
  obtain ⟨q1, q2, q3⟩ := Red.forB (hok.red (gen % x.width)) hok.g2
  have hl16 := hx.1
  have hslot : ∃ y, l[gen % x.width]? = some y := ⟨_, List.getElem?_eq_getElem (by omega)⟩
  have hs0 := HS.mtail (A := _ :: _ :: _ :: slotMem x.g x.s true (l.set (gen % x.width) none)) hs
  clear hs
  have hs := hs0
  clear hs0
  refine Calls.enter (args := [.int .i64 ((gen % x.width : Nat) : Int), ptr b, ptr gW, ptr gI, ptr gR]) Tryz.func71 rfl Tryz.ntmps71 rfl ?_
  refine WC.seq (WC.region (WO.step rfl (OR.assign rfl (WO.done (WX.seq (WC.seq (WC.seq ?_)))))))
  refine WC.region (WO.step rfl (OR.move rfl ?_))
  refine WO.step rfl (OR.loadN (cs := [rc, rp]) T45 rfl rfl rfl (fun j u hj => hs.cell (by rw [add_off, Nat.zero_add]; match j, hj with | 0, hj => (cases hj; exact hgW.1) | 1, hj => (cases hj; exact hgW.2))) ?_)
  replace hs := hs.front (i := 1) rfl
  refine WO.step rfl (OR.callX (Mx := [(b, _, true)]) hs body72 rfl rfl (insert_ok (x.rows (gen % x.width)) r rv rc rp b x.g x.s _ _ hs.toSub (hs.blk (i := 0) rfl) (hs.nh (i := 0) rfl) hrv hrc hrp q2 hok.g1 hok.g2 hok.s2 q3) rfl rfl ?_)
  clear hs; rintro _ H M' w hs hle1 hnew ⟨rv', rfl, hrv', rfl⟩; replace hle := hle.trans hle1; (try replace hlb := hlb.trans hle1)
  obtain ⟨y, hy⟩ := hslot
  have hxt : x.take gen r = x.put gen (insR x.g x.s (x.rows (gen % x.width)) r).2 := by rw [RelD.take, if_pos hin]
  have hE : x.takeE gen r = if r.1.length = x.g ∧ r.2.length = x.s then 0 else 21 := by rw [RelD.takeE, if_pos hin]
  have hI : x.takeI gen r = (insR x.g x.s (x.rows (gen % x.width)) r).1 := by rw [RelD.takeI, decide_eq_true hin, Bool.true_and]
  have hgR2 := hcell.mono hle hgR
  replace hx := hx.mono hle
  refine WO.step rfl (OR.move rfl (WO.step rfl (OR.extract rfl rfl (WO.step rfl (OR.extract rfl rfl ?_)))))
  replace hs := hs.front (i := 1) rfl
  refine WO.stepN (OR.storeAll hs T4 rfl rfl rfl rfl rfl ?_)
  clear hs; intro w hs
  refine WO.step rfl (OR.assign rfl (WO.done (WX.seq (WC.seq (WC.region (WO.step rfl (OR.load T4 rfl rfl (hs.cellM (i := 0) rfl rfl) ?_)))))))
  refine WO.done (WX.seq ?_)
  refine WC.cond rfl (fun hins => ?_) (fun hins => ?_)
  · refine WC.region ?_
    refine WO.step rfl (OR.load T34 rfl rfl (hs.cell hgR2) ?_)
    refine WO.step rfl (OR.move rfl (WO.step rfl (OR.move rfl (WO.step rfl (OR.nilCheck rfl (WO.step rfl (OR.fieldAddr FA131_3 rfl ?_)))))))
    refine WO.step rfl (OR.idxArr (gen % x.width) T129.und T126 rfl rfl rfl (by omega) ?_)
    replace hs := hs.front (i := 2) rfl
    refine WO.stepN (OR.store hs T126 rfl rfl rfl (by simp; omega) rfl ?_)
    clear hs; intro w hs
    refine WO.done (WX.seq (WC.seq (WC.region (WO.step rfl (OR.move rfl (WO.step rfl (OR.assign rfl ?_)))))))
    refine WO.done (WX.seq (WC.ret ?_))
    refine WX.ret1 rfl rfl ?_
    have hset := setL_slots (.int .i64 (x.g : Int)) (.int .i64 (x.s : Int)) (ptr wb) l (gen % x.width) (some (b, rv')) (by omega)
    have hobj : Obj.cells (setL (Value.int .i64 (x.g : Int) :: .int .i64 (x.s : Int) :: ptr wb :: l.map slotV).toArray.toList (0 + 3 + gen % x.width) (ptr b).cells.toList).toArray 131 = relObj x.g x.s wb (l.set (gen % x.width) (some (b, rv'))) := by
      rw [relObj, ← hset, Nat.zero_add]
      rfl
    rw [hobj] at hs
    refine ⟨H, l.set (gen % x.width) (some (b, rv')), by rw [hE], by rw [hxt]; exact slots_put hx hrv', ?_⟩
    rw [hI]
    have hs3 := HS.mtail (A := [_]) (hs.front (i := 1) rfl)
    have hs4 := hs3.front (i := 1) rfl
    exact HS.slotIn (A := [_, _]) hs4 hy
  · refine WC.skip (WX.seq (WC.seq (WC.region (WO.step rfl (OR.move rfl (WO.step rfl (OR.assign rfl ?_)))))))
    refine WO.done (WX.seq (WC.ret ?_))
    refine WX.ret1 rfl rfl ?_
    have hfalse := insAny_false hins
    have hs3 := HS.mtail (A := [_]) hs
    rcases hl with hl | hl
    · have hsame := slots_same (z := some (b, rv')) hl rfl
      refine ⟨H, l.set (gen % x.width) (some (b, rv')), by rw [hE], by rw [hxt]; exact slots_put hx hrv', ?_⟩
      rw [hI]
      have hobj : relObj x.g x.s wb (l.set (gen % x.width) (some (b, rv'))) = relObj x.g x.s wb l := by rw [relObj, hsame]; rfl
      rw [hobj]
      exact HS.slotIn (A := [_, _]) hs3 hl
    · have hrows : x.rows (gen % x.width) = [] := hx.2 _ _ hl
      have hset : l.set (gen % x.width) none = l := by
        have hi : gen % x.width < l.length := (List.getElem?_eq_some_iff.1 hl).1
        have hx2 : l[gen % x.width] = none := by rw [List.getElem?_eq_getElem hi] at hl; exact Option.some.inj hl
        conv => rhs; rw [← List.set_getElem_self hi, hx2]
      have hso := slots_put (gen := gen) (rows := (insR x.g x.s (x.rows (gen % x.width)) r).2) (y := none) hx (by show _ = _; rw [hfalse, hrows])
      rw [hset] at hso hs3
      refine ⟨H, l, by rw [hE], by rw [hxt]; exact hso, ?_⟩
      rw [hI]
      exact hs3.drop 0
set_option maxRecDepth 20000 in
set_option maxHeartbeats 2000000 in
theorem rtake_ok' (rb wb gen : Nat) (rc rp : Value) (x : RelD) (l : Slots) (r : RowD) (H0 : Hp) (w0 : World) (hs : HS (Mem.keys (relMem true x rb wb l)) H0 w0 H0 (relMem true x rb wb l) w0) (hx : SlotsOk H0 x l) (hok : RelOk x) (hg : gen < 18446744073709551616) (hrc : Bytes H0 rc r.1) (hrp : Bytes H0 rp r.2) :
    Calls Tryz.prog 15 #[ptr rb, .int .u64 (gen : Int), .agg #[rc, rp]] w0 (Ret (Mem.keys (relMem true x rb wb l)) H0 w0 fun v H' M' => v = .tuple #[.bool (x.takeI gen r), .int .i64 (x.takeE gen r)] ∧ ∃ l', M' = relMem true (x.take gen r) rb wb l' ∧ SlotsOk H' (x.take gen r) l') := by
  have hle := Hp.le.refl H0
  have h00 := hs.toSub
  obtain ⟨xs, hxs⟩ : ∃ xs, xs = Mem.keys (relMem true x rb wb l) := ⟨_, rfl⟩
  rw [← hxs] at hs ⊢
  clear hxs
  obtain ⟨b1, c1, rfl⟩ := hrc.form
  obtain ⟨b2, c2, rfl⟩ := hrp.form
  refine Calls.enter (args := [ptr rb, .int .u64 (gen : Int), .agg #[.slice b1 r.1.length c1, .slice b2 r.2.length c2]]) Tryz.func15 rfl Tryz.ntmps15 rfl ?_
  refine WC.seq (WC.region (WO.step rfl (OR.box hs rfl ?_)))
  clear hs; intro g1 w hg1 hs
  refine WO.step rfl (OR.box hs rfl ?_)
  clear hs; intro g2 w hg2 hs
  refine WO.step rfl (OR.alloc hs T4 ?_)
  clear hs; intro g3 w hg3 hs
  refine WO.step rfl (OR.assign rfl (WO.done (WX.seq (WC.seq (WC.region (WO.step rfl (OR.load T34 rfl rfl (hs.cellM (i := 2) rfl rfl) ?_)))))))
  refine WO.step rfl (OR.move rfl (WO.step rfl (OR.makeFunc rfl rfl ?_)))
  replace hs := hs.front (i := 2) rfl
  obtain ⟨H, hle1, hp_g1, hs9⟩ := hs.pub1 hg1; clear hs; have hs := hs9; clear hs9; replace hle := hle.trans hle1; (try replace hlb := hlb.trans hle1)
  have hM : hcell H ⟨g1, 0, none⟩ = some (ptr rb) := hcell_of hp_g1 rfl
  replace hs := hs.front (i := 1) rfl
  obtain ⟨H, hle1, hp_g2, hs9⟩ := hs.pub1 hg2; clear hs; have hs := hs9; clear hs9; replace hle := hle.trans hle1; (try replace hlb := hlb.trans hle1)
  replace hM := hcell.mono hle1 hM
  have hW1 : hcell H ⟨g2, 0, none⟩ = some (.slice b1 r.1.length c1) := hcell_of hp_g2 rfl
  have hW2 : hcell H ⟨g2, 1, none⟩ = some (.slice b2 r.2.length c2) := hcell_of hp_g2 rfl
  have hs9 : HS xs H0 w0 H ((rb, relObj x.g x.s wb l, true) :: (wb, winObj x.base x.width, true) :: (slotMem x.g x.s true l ++ [(g3, .cells #[.bool false] 4, true)])) w := HS.mtail (A := [_]) hs
  have hdo : inWin x.base x.width gen → ∀ H2 w b rv t', Hp.le H H2 → (true = true → t' = true) → HS xs H0 w0 H2 ((b, basisObj x.g x.s rv, t') :: (rb, relObj x.g x.s wb l, true) :: (wb, winObj x.base x.width, true) :: (slotMem x.g x.s true (l.set (gen % x.width) none) ++ [(g3, .cells #[.bool false] 4, true)])) w →
      (l[gen % x.width]? = some (some (b, rv)) ∨ l[gen % x.width]? = some none) → (l[gen % x.width]? = some (some (b, rv)) → t' = true) → Rws H2 rv (x.rows (gen % x.width)) → Calls Tryz.prog 71 ([] ++ [Value.int .i64 ((gen % x.width : Nat) : Int), ptr b] ++ [ptr g2, ptr g3, ptr g1]).toArray w (takeC rb wb g3 x gen r xs H0 w0) := by
    intro hin H2 w b rv t' hl2 ht hs hl _ hr
    rw [ht rfl] at hs
    exact rtake1_ok rb wb g3 g1 g2 b gen rv (.slice b1 r.1.length c1) (.slice b2 r.2.length c2) x l r xs H0 H2 w0 w hs hin (hx.mono (hle.trans hl2)) hok hl hr ⟨hcell.mono hl2 hW1, hcell.mono hl2 hW2⟩ (hrc.mono (hle.trans hl2)) (hrp.mono (hle.trans hl2)) (hcell.mono hl2 hM)
  have hout : ¬ inWin x.base x.width gen → ∀ H2 w, Hp.le H H2 → HS xs H0 w0 H2 ((rb, relObj x.g x.s wb l, true) :: (wb, winObj x.base x.width, true) :: (slotMem x.g x.s true l ++ [(g3, .cells #[.bool false] 4, true)])) w → takeC rb wb g3 x gen r xs H0 w0 (.returned (.int .i64 23)) w := by
    intro hno H2 w hl2 hs
    refine ⟨H2, l, by rw [RelD.takeE, if_neg hno], by rw [RelD.take, if_neg hno]; exact hx.mono (hle.trans hl2), ?_⟩
    rw [RelD.takeI, decide_eq_false hno, Bool.false_and]
    exact hs
  refine WO.step rfl (OR.callW body70 rfl rfl (rat_ok rb wb 71 gen [] [ptr g2, ptr g3, ptr g1] x l true _ H0 H [_] w0 _ (takeC rb wb g3 x gen r xs H0 w0) h00 hs9 (hx.mono hle) hok hg body71 (fun e w ⟨_, _, h, _⟩ => ⟨_, h⟩) hout hdo) ?_)
  clear hs hs9
  rintro e w ⟨H, l', rfl, hso, hs⟩
  refine ⟨_, rfl, ?_⟩
  replace hs := HS.mtail (A := _ :: _ :: slotMem x.g x.s true l') (B := [_]) hs
  refine WO.step rfl (OR.assign rfl (WO.done (WX.seq (WC.seq (WC.region (WO.step rfl (OR.load T4 rfl rfl (hs.cellM (i := 0) rfl rfl) ?_)))))))
  refine WO.step rfl (OR.move rfl (WO.stepN (OR.storeAll hs T4 rfl rfl rfl rfl rfl ?_)))
  clear hs; intro w hs
  refine WO.step rfl (OR.assign rfl (WO.done (WX.seq (WC.ret ?_))))
  refine WX.retCTS T4 rfl rfl rfl rfl (hs.cellM (i := 0) rfl rfl) ?_
  have hgs : (x.take gen r).g = x.g ∧ (x.take gen r).s = x.s ∧ (x.take gen r).base = x.base ∧ (x.take gen r).width = x.width := by
    unfold RelD.take
    split <;> exact ⟨rfl, rfl, rfl, rfl⟩
  obtain ⟨e1, e2, e3, e4⟩ := hgs
  refine ⟨_, H, relMem true (x.take gen r) rb wb l', rfl, ?_, List.all_eq_true.1 (relMem_flags _ _ _ _), rfl, l', rfl, hso⟩
  unfold relMem
  rw [e1, e2, e3, e4]
  exact hs.drop 0
end Go.Bw
namespace Go.Bw
set_option linter.unusedVariables false
set_option linter.unusedSimpArgs false
open Go.Proofs
def newR (g s width : Nat) : RelD := ⟨g, s, 0, width, fun _ => []⟩
theorem newR_ok {g s width : Nat} (h : 1 ≤ g ∧ g ≤ 255 ∧ 1 ≤ s ∧ s ≤ 65535) (hw : 1 ≤ width ∧ width ≤ 16) : RelOk (newR g s width) :=
  ⟨h.1, h.2.1, h.2.2.1, h.2.2.2, hw.1, hw.2, Nat.zero_le _, fun _ => Red.nil _ _⟩
set_option maxRecDepth 20000 in
set_option maxHeartbeats 2000000 in
theorem rnew_ok (g s width : Nat) (H0 : Hp) (w0 : World) (h0 : Sub H0 w0) (h : 1 ≤ g ∧ g ≤ 255 ∧ 1 ≤ s ∧ s ≤ 65535) (hw : 1 ≤ width ∧ width ≤ 16) :
    Calls Tryz.prog 12 #[.int .i64 (g : Int), .int .i64 (s : Int), .int .i64 (width : Int)] w0 (Ret [] H0 w0 fun v H' M' => H' = H0 ∧ ∃ rb wb, v = .tuple #[ptr rb, .int .i64 0] ∧ M' = relMem true (newR g s width) rb wb (List.replicate 16 none)) := by
  have hs := HS.init h0
  have hle := Hp.le.refl H0
  refine Calls.enter (args := [.int .i64 (g : Int), .int .i64 (s : Int), .int .i64 (width : Int)]) Tryz.func12 rfl Tryz.ntmps12 rfl ?_
  refine WC.seq (WC.region (WO.step rfl (OR.assign rfl (WO.step rfl (OR.assign rfl (WO.done (WX.seq ?_)))))))
  refine WC.seq (WC.region (WO.step rfl (OR.move rfl ?_)))
  refine WO.step rfl (OR.callX (Mx := []) hs body64 rfl rfl (wnewW_ok (width : Int) _ _ hs.toSub) rfl rfl ?_)
  clear hs; rintro _ H M' w hs hle1 hnew ⟨rfl, hres⟩; replace hle := hle.trans hle1; (try replace hlb := hlb.trans hle1)
  rw [if_pos (by omega)] at hres
  obtain ⟨wb, rfl, rfl⟩ := hres
  refine WO.step rfl (OR.move rfl (WO.step rfl (OR.extract rfl rfl (WO.step rfl (OR.extract rfl rfl (WO.step rfl (OR.assign rfl ?_)))))))
  refine WO.step rfl (OR.assign rfl (WO.done (WX.seq (WC.seq (WC.seq (WC.region (WO.step rfl ?_)))))))
  refine OR.move rfl (WO.step rfl (OR.move rfl ?_))
  refine WO.step rfl (OR.callX (Mx := []) hs body65 rfl rfl (new_ok (g : Int) (s : Int) _ _ hs.toSub) rfl rfl ?_)
  clear hs; rintro _ H M' w hs hle1 hnew ⟨rfl, hres⟩; replace hle := hle.trans hle1; (try replace hlb := hlb.trans hle1)
  rw [if_pos (by omega)] at hres
  obtain ⟨bb, hbb, rfl, rfl⟩ := hres
  refine WO.step rfl (OR.move rfl (WO.step rfl (OR.extract rfl rfl (WO.step rfl (OR.extract rfl rfl (WO.step rfl (OR.assign rfl ?_)))))))
  refine WO.step rfl (OR.assign rfl (WO.done (WX.seq (WC.seq (WC.region (WO.step rfl (OR.move rfl ?_)))))))
  refine WO.step rfl (OR.neq rfl rfl (WO.step rfl (OR.move rfl ?_)))
  replace hs := hs.drop (i := 0)
  refine WO.guardYes rfl rfl rfl rfl (OR.move rfl (WO.guardYes rfl rfl rfl rfl (OR.neq rfl rfl (WO.step rfl (OR.pickF rfl rfl rfl (WO.done (WX.seq ?_)))))))
  refine WC.no rfl rfl ?_
  refine WC.skip (WX.seq (WC.seq (WC.region (WO.step rfl (OR.move rfl (WO.step rfl (OR.move rfl ?_)))))))
  refine WO.step rfl (OR.move rfl ?_)
  refine WO.step rfl (OR.build (cs := (Value.int .i64 (g : Int) :: Value.int .i64 (s : Int) :: ptr wb :: List.replicate 16 (Value.pointer none)).toArray) rfl (by intro w; kernel_rfl) ?_)
  refine WO.step rfl (OR.box hs rfl ?_)
  clear hs; intro g1 w hg1 hs
  refine WO.step rfl (OR.assign rfl (WO.step rfl (OR.assign rfl (WO.done (WX.seq (WC.ret ?_))))))
  refine WX.ret2 rfl rfl rfl ?_
  refine ⟨_, _, [_, _], rfl, hs, by simp, rfl, g1, wb, rfl, ?_⟩
  rfl
end Go.Bw
namespace Go.Bw
set_option linter.unusedVariables false
set_option linter.unusedSimpArgs false
open Go.Proofs
def RelD.sndE (x : RelD) (gen : Nat) : Int := if inWin x.base x.width gen then (if (x.rows (gen % x.width)).length = 0 then 6 else 0) else 23
/-- What is made of rows by a draw. -/
def sndR (g s : Nat) (rows : List RowD) (sent : Nat) (by_ : List UInt8) : RowD := if rows.length = 0 then ([], []) else combR g s rows (coefF rows.length (sent % rows.length) by_)
def RelD.sndF (x : RelD) (gen sent : Nat) (by_ : List UInt8) : RowD := if inWin x.base x.width gen then sndR x.g x.s (x.rows (gen % x.width)) sent by_ else ([], [])
set_option maxRecDepth 20000 in
set_option maxHeartbeats 2000000 in
theorem rsend1_ok (S D gn b g s sent : Nat) (v0 rv vd : Value) (by_ : List UInt8) (rows : List RowD) (t : Bool) (xs : List Nat) (H0 H1 : Hp) (w0 w1 : World) (hs : HS xs H0 w0 H1 [(gn, .cells #[.slice none 0 0, .slice none 0 0] 45, true), (b, basisObj g s rv, t)] w1) (hg : 0 < g) (hg2 : g ≤ 255) (hs2 : s ≤ 65535) (hr : Rws H1 rv rows) (hred : Red g s rows)
    (hS : hcell H1 ⟨S, 0, none⟩ = some (.int .u64 (sent : Int))) (hD : hcell H1 ⟨D, 0, none⟩ = some vd) (hby : Bytes H1 vd by_) (hsent : sent < 18446744073709551616) :
    Calls Tryz.prog 201 #[v0, ptr b, ptr S, ptr D, ptr gn] w1 (fun e w' => ∃ H' r1 r2, e = .returned (.int .i64 (if rows.length = 0 then 6 else 0)) ∧ HS xs H0 w0 H' [(gn, .cells #[r1, r2] 45, true)] w' ∧ Bytes H' r1 (sndR g s rows sent by_).1 ∧ Bytes H' r2 (sndR g s rows sent by_).2) := by
  have hle := Hp.le.refl H1
  obtain ⟨q1, q2, q3⟩ := Red.forB hred hg2
  refine Calls.enter (args := [v0, ptr b, ptr S, ptr D, ptr gn]) Tryz.func201 rfl Tryz.ntmps201 rfl ?_
  refine WC.seq (WC.region (WO.step rfl (OR.assign rfl (WO.done (WX.seq (WC.seq (WC.region ?_)))))))
  refine WO.step rfl (OR.move rfl ?_)
  refine WO.step rfl (OR.call hs body93 rfl rfl (rank_ok b g s rv rows _ _ hs.toSub (hs.blk (i := 1) rfl) (hs.nh (i := 1) rfl) hg hr) ?_)
  clear hs; rintro _ H w hs hle1 rfl; replace hle := hle.trans hle1; (try replace hlb := hlb.trans hle1)
  refine WO.step rfl (OR.assign rfl (WO.done (WX.seq (WC.seq (WC.seq (WC.region (WO.step rfl ?_)))))))
  refine OR.move rfl (WO.step rfl (OR.eql rfl rfl (WO.done (WX.seq ?_))))
  refine WC.condD rfl (fun h0 => ?_) (fun h0 => ?_)
  · refine WC.seq (WC.region (WO.step rfl (OR.assign rfl (WO.done (WX.seq (WC.ret (WX.seq_ret ?_)))))))
    refine WX.ret1 rfl rfl ?_
    have h0' : rows.length = 0 := by omega
    refine ⟨H, _, _, by rw [if_pos h0'], hs.drop 1, ?_, ?_⟩
    · rw [sndR, if_pos h0']; exact Sl.empty _ _ _
    · rw [sndR, if_pos h0']; exact Sl.empty _ _ _
  · have h0' : ¬ rows.length = 0 := by omega
    refine WC.skip (WX.seq (WC.seq (WC.region ?_)))
    refine WO.step rfl (OR.load T22 rfl rfl (hs.cell (hcell.mono hle hS)) ?_)
    refine WO.step rfl (OR.move rfl ?_)
    refine WO.step rfl (OR.call hs body202 rfl rfl (turn_ok sent rows.length _ _ hs.toSub (by omega) hsent) ?_)
    clear hs; rintro _ H w hs hle1 rfl; replace hle := hle.trans hle1; (try replace hlb := hlb.trans hle1)
    refine WO.step rfl (OR.move rfl (WO.step rfl (OR.extract rfl rfl (WO.step rfl (OR.extract rfl rfl (WO.step rfl (OR.assign rfl ?_)))))))
    refine WO.step rfl (OR.assign rfl (WO.done (WX.seq (WC.seq (WC.region ?_)))))
    refine WO.step rfl (OR.load T43 rfl rfl (hs.cell (hcell.mono hle hD)) ?_)
    refine WO.step rfl (OR.move rfl (WO.step rfl (OR.move rfl ?_)))
    refine WO.step rfl (OR.call hs body203 rfl rfl (coefs_ok vd by_ rows.length (sent % rows.length) _ _ hs.toSub (hby.mono hle) (by omega) (Nat.mod_lt _ (by omega))) ?_)
    clear hs; rintro _ H w hs hle1 ⟨rc, rfl, hrc⟩
    replace hle := hle.trans hle1
    refine WO.step rfl (OR.move rfl (WO.step rfl (OR.extract rfl rfl (WO.step rfl (OR.extract rfl rfl (WO.step rfl (OR.assign rfl ?_)))))))
    refine WO.step rfl (OR.assign rfl (WO.done (WX.seq (WC.seq (WC.region (WO.step rfl (OR.move rfl ?_)))))))
    refine WO.step rfl (OR.move rfl ?_)
    refine WO.step rfl (OR.call hs body204 rfl rfl (combineB_ok rows rv rc (coefF rows.length (sent % rows.length) by_) b g s _ _ hs.toSub (hs.blk (i := 1) rfl) (hs.nh (i := 1) rfl) (Rws.mono hr hle) hrc q1 hg hg2 hs2 q3) ?_)
    clear hs; rintro _ H w hs hle1 ⟨rr, rfl, hrr⟩
    rw [if_pos (coefF_len _ _ _)] at hrr
    rw [if_pos (coefF_len _ _ _)]
    obtain ⟨r1, r2, rfl, hb1, hb2⟩ := hrr
    obtain ⟨b1, c1, hf1⟩ := hb1.form
    obtain ⟨b2, c2, hf2⟩ := hb2.form
    subst hf1 hf2
    refine WO.step rfl (OR.move rfl (WO.step rfl (OR.extract rfl rfl (WO.step rfl (OR.extract rfl rfl (WO.stepN (OR.storeAll hs T45 rfl rfl rfl rfl rfl ?_)))))))
    clear hs; intro w hs
    refine WO.step rfl (OR.assign rfl (WO.done (WX.seq (WC.seq (WC.region (WO.step rfl (OR.move rfl ?_)))))))
    refine WO.step rfl (OR.assign rfl (WO.done (WX.seq (WC.ret ?_))))
    refine WX.ret1 rfl rfl ?_
    refine ⟨H, _, _, by rw [if_neg h0'], hs.drop 1, ?_, ?_⟩
    · rw [sndR, if_neg h0']; exact hb1
    · rw [sndR, if_neg h0']; exact hb2
set_option maxRecDepth 20000 in
set_option maxHeartbeats 2000000 in
theorem rsend_ok (rb wb gen sent : Nat) (vd : Value) (by_ : List UInt8) (x : RelD) (l : Slots) (H0 : Hp) (w0 : World) (hs : HS [] H0 w0 H0 (relMem false x rb wb l) w0) (hx : SlotsOk H0 x l) (hok : RelOk x) (hg : gen < 18446744073709551616) (hby : Bytes H0 vd by_) (hsent : sent < 18446744073709551616) :
    Calls Tryz.prog 200 #[ptr rb, .int .u64 (gen : Int), .int .u64 (sent : Int), vd] w0 (Pure H0 w0 fun v H' => ∃ r1 r2, v = .tuple #[.agg #[r1, r2], .int .i64 (x.sndE gen)] ∧ Bytes H' r1 (x.sndF gen sent by_).1 ∧ Bytes H' r2 (x.sndF gen sent by_).2) := by
  have hle := Hp.le.refl H0
  have h00 := hs.toSub
  obtain ⟨bd, cd, hfd⟩ := hby.form
  subst hfd
  refine Calls.enter (args := [ptr rb, .int .u64 (gen : Int), .int .u64 (sent : Int), .slice bd by_.length cd]) Tryz.func200 rfl Tryz.ntmps200 rfl ?_
  refine WC.seq (WC.region (WO.step rfl (OR.box hs rfl ?_)))
  clear hs; intro g1 w hg1 hs
  refine WO.step rfl (OR.box hs rfl ?_)
  clear hs; intro g2 w hg2 hs
  refine WO.step rfl (OR.alloc hs T45 ?_)
  clear hs; intro g3 w hg3 hs
  refine WO.step rfl (OR.assign rfl (WO.done (WX.seq (WC.seq (WC.region (WO.step rfl (OR.move rfl ?_)))))))
  refine WO.step rfl (OR.move rfl (WO.step rfl (OR.makeFunc rfl rfl ?_)))
  replace hs := hs.front (i := 2) rfl
  obtain ⟨H, hle1, hp_g1, hs9⟩ := hs.pub1 hg1; clear hs; have hs := hs9; clear hs9; replace hle := hle.trans hle1; (try replace hlb := hlb.trans hle1)
  have hS : hcell H ⟨g1, 0, none⟩ = some (.int .u64 (sent : Int)) := hcell_of hp_g1 rfl
  replace hs := hs.front (i := 1) rfl
  obtain ⟨H, hle1, hp_g2, hs9⟩ := hs.pub1 hg2; clear hs; have hs := hs9; clear hs9; replace hle := hle.trans hle1; (try replace hlb := hlb.trans hle1)
  replace hS := hcell.mono hle1 hS
  have hD : hcell H ⟨g2, 0, none⟩ = some (.slice bd by_.length cd) := hcell_of hp_g2 rfl
  have hs9 := HS.mtail (A := [_]) hs
  have hby2 := hby.mono hle
  have hdo : inWin x.base x.width gen → ∀ H2 w b rv t', Hp.le H H2 → (false = true → t' = true) → HS [] H0 w0 H2 ((b, basisObj x.g x.s rv, t') :: (rb, relObj x.g x.s wb l, false) :: (wb, winObj x.base x.width, false) :: (slotMem x.g x.s false (l.set (gen % x.width) none) ++ [(g3, .cells #[.slice none 0 0, .slice none 0 0] 45, true)])) w →
      (l[gen % x.width]? = some (some (b, rv)) ∨ l[gen % x.width]? = some none) → (l[gen % x.width]? = some (some (b, rv)) → t' = false) → Rws H2 rv (x.rows (gen % x.width)) → Calls Tryz.prog 201 ([] ++ [Value.int .i64 ((gen % x.width : Nat) : Int), ptr b] ++ [ptr g1, ptr g2, ptr g3]).toArray w
        (fun e w' => ∃ H' r1 r2, e = .returned (.int .i64 (x.sndE gen)) ∧ HS [] H0 w0 H' [(g3, .cells #[r1, r2] 45, true)] w' ∧ Bytes H' r1 (x.sndF gen sent by_).1 ∧ Bytes H' r2 (x.sndF gen sent by_).2) := by
    intro hin H2 w b rv t' hl2 _ hs _ _ hr
    refine (rsend1_ok g1 g2 g3 b x.g x.s sent _ rv _ by_ _ t' [] H0 H2 w0 w (HS.pick2 (A := _ :: _ :: _) hs) hok.g1 hok.g2 hok.s2 hr (hok.red _) (hcell.mono hl2 hS) (hcell.mono hl2 hD) (hby2.mono hl2) hsent).mono ?_
    rintro e w' ⟨H', r1, r2, h1, h2, h3, h4⟩
    exact ⟨H', r1, r2, by rw [RelD.sndE, if_pos hin]; exact h1, h2, by rw [RelD.sndF, if_pos hin]; exact h3, by rw [RelD.sndF, if_pos hin]; exact h4⟩
  have hout : ¬ inWin x.base x.width gen → ∀ H2 w, Hp.le H H2 → HS [] H0 w0 H2 ((rb, relObj x.g x.s wb l, false) :: (wb, winObj x.base x.width, false) :: (slotMem x.g x.s false l ++ [(g3, .cells #[.slice none 0 0, .slice none 0 0] 45, true)])) w →
      (∃ H' r1 r2, (.returned (.int .i64 23) : Ending) = .returned (.int .i64 (x.sndE gen)) ∧ HS [] H0 w0 H' [(g3, .cells #[r1, r2] 45, true)] w ∧ Bytes H' r1 (x.sndF gen sent by_).1 ∧ Bytes H' r2 (x.sndF gen sent by_).2) := by
    intro hno H2 w hl2 hs
    exact ⟨H2, .slice none 0 0, .slice none 0 0, by rw [RelD.sndE, if_neg hno], HS.last1 (A := _ :: _ :: _) hs, by rw [RelD.sndF, if_neg hno]; exact Sl.empty _ _ _, by rw [RelD.sndF, if_neg hno]; exact Sl.empty _ _ _⟩
  refine WO.step rfl (OR.callW body70 rfl rfl (rat_ok rb wb 201 gen [] [ptr g1, ptr g2, ptr g3] x l false [] H0 H [_] w0 _ (fun e w' => ∃ H' r1 r2, e = .returned (.int .i64 (x.sndE gen)) ∧ HS [] H0 w0 H' [(g3, .cells #[r1, r2] 45, true)] w' ∧ Bytes H' r1 (x.sndF gen sent by_).1 ∧ Bytes H' r2 (x.sndF gen sent by_).2) h00 hs9 (hx.mono hle) hok hg body201 (fun e w ⟨_, _, _, h, _⟩ => ⟨_, h⟩) hout hdo) ?_)
  clear hs hs9
  rintro e w ⟨H, r1, r2, rfl, hs, hb1, hb2⟩
  refine ⟨_, rfl, ?_⟩
  obtain ⟨b1, c1, hf1⟩ := hb1.form
  obtain ⟨b2, c2, hf2⟩ := hb2.form
  subst hf1 hf2
  refine WO.step rfl (OR.assign rfl (WO.done (WX.seq (WC.seq (WC.region (WO.step rfl (OR.loadAll T45 rfl rfl (hs.blk (i := 0) rfl) rfl ?_)))))))
  refine WO.step rfl (OR.move rfl (WO.stepN (OR.storeAll hs T45 rfl rfl rfl rfl rfl ?_)))
  clear hs; intro w hs
  refine WO.step rfl (OR.assign rfl (WO.done (WX.seq (WC.ret ?_))))
  refine WX.retCT T45 rfl rfl rfl rfl rfl (hs.blk (i := 0) rfl) ?_
  exact .mk (hs.drop 0) ⟨_, _, rfl, hb1, hb2⟩
end Go.Bw
namespace Go.Bw
set_option linter.unusedVariables false
set_option linter.unusedSimpArgs false
open Go.Proofs
theorem Red.asc_ne {g s : Nat} {A : List RowD} (h : Red g s A) {i k : Nat} (hi : i < A.length) (hk : k < A.length) (hne : i ≠ k) : lead A[i].1 ≠ lead A[k].1 := by
  have h1 := List.pairwise_iff_getElem.1 h.asc
  rcases Nat.lt_or_ge i k with e | e
  · have := h1 i k hi hk e; omega
  · have := h1 k i hk hi (by omega); omega

-- left out, for this seat has no braidworklaw07.BasisForm: theorem form_ok (G S
end Go.Bw
namespace Go.Bw
set_option linter.unusedVariables false
set_option linter.unusedSimpArgs false
open Go.Proofs
theorem RowsOk.takeS {H : Hp} {cs : List (Value × Value)} {rs : List RowD} (h : RowsOk H cs rs) (k : Nat) : RowsOk H (cs.take k) (rs.take k) := by
  refine ⟨by simp [h.1], fun i a b => ?_⟩
  simp only [List.length_take] at a b
  simp only [List.getElem_take]
  exact h.2 i (by omega) (by omega)
theorem RowsOk.dropS {H : Hp} {cs : List (Value × Value)} {rs : List RowD} (h : RowsOk H cs rs) (k : Nat) : RowsOk H (cs.drop k) (rs.drop k) := by
  refine ⟨by simp [h.1], fun i a b => ?_⟩
  simp only [List.length_drop] at a b
  simp only [List.getElem_drop]
  exact h.2 (k + i) (by omega) (by omega)
-- left out, for this seat has no braidwork/braidworklaw07.Mix: abbrev mixObj (G S
-- left out, for this seat has no braidworklaw07.BasisOne: theorem one_ok (G S
end Go.Bw
namespace Go.Bw
set_option linter.unusedVariables false
set_option linter.unusedSimpArgs false
open Go.Proofs
theorem combR_at {g s : Nat} {A : List RowD} (h : Red g s A) (c : List UInt8) (hc : c.length = A.length) (j : Nat) (hj : j < A.length) : ent (combR g s A c) (.inl (ldp A[j])) = c[j]'(by omega) := by
  have key : ∀ k, k ≤ A.length → RowGS g s (combR g s (A.take k) (c.take k)) ∧ ent (combR g s (A.take k) (c.take k)) (.inl (ldp A[j])) = if j < k then c[j]'(by omega) else 0 := by
    intro k
    induction k with
    | zero =>
      intro _
      rw [if_neg (by omega)]
      exact ⟨zero_gs g s, zero_ent g s _⟩
    | succ k ih =>
      intro hk
      obtain ⟨h1, h2⟩ := ih (by omega)
      rw [combR_step g s A c k (by omega) (by omega)]
      refine ⟨plusR_gs h1 (h.gs _ (List.getElem_mem _)) _, ?_⟩
      rw [plus_ent h1 (h.gs _ (List.getElem_mem _)), h2]
      by_cases e : k = j
      · subst e
        rw [if_neg (by omega), if_pos (by omega), h.one _ (List.getElem_mem _), one_mul, zero_xor8]
      · rw [h.zero _ (List.getElem_mem _) _ (List.getElem_mem _) (h.asc_ne (by omega) hj e), zero_mul, xor_zero8]
        by_cases e2 : j < k
        · rw [if_pos e2, if_pos (by omega)]
        · rw [if_neg e2, if_neg (by omega)]
  have := (key A.length (Nat.le_refl _)).2
  rw [List.take_length, ← hc, List.take_length, if_pos (by omega)] at this
  exact this
section
variable {g s : Nat} {ys : List (List UInt8)} {A : List RowD}
theorem snd_eq (sent : Nat) (by_ : List UInt8) (hA : A.length ≠ 0) : sndR g s A sent by_ = combR g s A (coefF A.length (sent % A.length) by_) := by rw [sndR, if_neg hA]
theorem snd_gs (h : Red g s A) (sent : Nat) (by_ : List UInt8) (hA : A.length ≠ 0) : RowGS g s (sndR g s A sent by_) := by rw [snd_eq _ _ hA]; exact combR_gs _ _ _ _ h.gs
theorem snd_in (h : Red g s A) (sent : Nat) (by_ : List UInt8) (hA : A.length ≠ 0) : InS A (fun _ => True) (sndR g s A sent by_) := by rw [snd_eq _ _ hA]; exact InS.combAny h _
end
end Go.Bw
namespace Go.Bw
set_option linter.unusedVariables false
set_option linter.unusedSimpArgs false
open Go.Proofs
set_option maxRecDepth 20000 in
set_option maxHeartbeats 2000000 in
theorem indexL_ok (v : Value) (ll : List (List UInt8)) (f : FuncId) (cap : List Value) (H0 : Hp) (w0 : World) (h0 : Sub H0 w0) (hv : BytesL H0 v ll) (hll : ll.length < 9223372036854775807) (hbf : Body Tryz.prog f)
    (hf : ∀ i (h : i < ll.length) vx H w, Hp.le H0 H → Sub H w → Bytes H vx ll[i] → Calls Tryz.prog f ([vx] ++ cap).toArray w (Pure H w fun v _ => v = .bool false)) :
    Calls Tryz.prog 176 #[v, .func (.func f) #[] cap.toArray] w0 (Pure H0 w0 fun v _ => v = .int .i64 (-1)) := by
  have hs := HS.init h0
  have hv0 := hv
  obtain ⟨base, cp, rfl⟩ := hv0.form
  refine Calls.enter (args := [.slice base ll.length cp, .func (.func f) #[] cap.toArray]) Tryz.func176 rfl Tryz.ntmps176 rfl ?_
  refine WC.seq (WC.region (WO.step rfl (OR.assign rfl (WO.done (WX.seq (WC.seq (WC.seq ?_)))))))
  refine WC.region (WO.step rfl (OR.move rfl (WO.step rfl (OR.lenSlice T40.und rfl (WO.step rfl (OR.move rfl (WO.done ?_)))))))
  refine WX.seq (WC.block ?_)
  refine WC.loop (ι := Nat) (fun k => [(0, .slice base ll.length cp), (1, .func (.func f) #[] cap.toArray), (7, .int .i64 (ll.length : Int)), (8, .int .i64 (k : Int))]) (fun k w => (k ≤ ll.length ∧ ∃ H, Hp.le H0 H ∧ HS [] H0 w0 H [] w)) (fun k => ll.length - k) 0 ⟨rfl, rfl, rfl, rfl,  trivial⟩ ?_ (fun k w hW => ?_)
  · exact ⟨by omega, H0, .refl H0, hs⟩
  obtain ⟨hk, H, hle, hs⟩ := hW
  refine WC.seq (WC.region (WO.step rfl (OR.lss rfl rfl (WO.done (WX.seq (WC.seq ?_))))))
  refine WC.condD rfl (fun hlt => ?_) (fun hlt => ?_)
  · have hlt' : k < ll.length := by omega
    obtain ⟨b, o, rfl, hc⟩ := hv.pos (by omega)
    obtain ⟨e, hce, hbe⟩ := hc k hlt'
    refine WC.skip (WX.seq (WC.seq (WC.block (WC.seq (WC.region (WO.step rfl (OR.move rfl ?_)))))))
    refine WO.step rfl (OR.assign rfl (WO.done (WX.seq (WC.seq (WC.region (WO.step rfl (OR.move rfl ?_)))))))
    refine WO.step rfl (OR.move rfl (WO.step rfl (OR.move rfl ?_)))
    refine WO.step rfl (OR.idx k T40.und T43 rfl rfl rfl hlt' ?_)
    refine WO.step rfl (OR.load T43 rfl rfl (hs.cell (hcell.mono hle hce)) ?_)
    refine WO.step rfl (OR.call hs (hbf) rfl rfl (hf k hlt' e _ _ hle hs.toSub (hbe.mono hle)) ?_)
    clear hs; rintro _ H w hs hle1 rfl; replace hle := hle.trans hle1; (try replace hlb := hlb.trans hle1)
    refine WO.done (WX.seq ?_)
    refine WC.no rfl rfl ?_
    refine WC.skip (WX.block (WX.seq (WC.region (WO.step rfl (OR.addI rfl rfl (by omega) (by omega) (WO.step rfl (OR.move rfl ?_)))))))
    refine WO.done ?_
    refine WX.again (k + 1) ⟨rfl, rfl, rfl, rfl,  trivial⟩ ?_ ?_
    · exact ⟨hlt', H, hle, hs⟩
    · omega
  · refine WC.exit (WX.seq_exit (WX.loop_exit (WX.block_hit (WX.seq (WC.seq (WC.region (WO.step rfl ?_)))))))
    refine OR.assign rfl (WO.done (WX.seq (WC.ret ?_)))
    refine WX.ret1 rfl rfl ?_
    exact .mk hs rfl

set_option maxRecDepth 20000 in
set_option maxHeartbeats 2000000 in
theorem containsL_ok (v : Value) (ll : List (List UInt8)) (f : FuncId) (cap : List Value) (H0 : Hp) (w0 : World) (h0 : Sub H0 w0) (hv : BytesL H0 v ll) (hll : ll.length < 9223372036854775807) (hbf : Body Tryz.prog f)
    (hf : ∀ i (h : i < ll.length) vx H w, Hp.le H0 H → Sub H w → Bytes H vx ll[i] → Calls Tryz.prog f ([vx] ++ cap).toArray w (Pure H w fun v _ => v = .bool false)) :
    Calls Tryz.prog 153 #[v, .func (.func f) #[] cap.toArray] w0 (Pure H0 w0 fun v _ => v = .bool false) := by
  have hs := HS.init h0
  have hle := Hp.le.refl H0
  refine Calls.enter (args := [v, .func (.func f) #[] cap.toArray]) Tryz.func153 rfl Tryz.ntmps153 rfl ?_
  refine WC.seq (WC.region (WO.step rfl (OR.assign rfl (WO.done (WX.seq (WC.seq (WC.region ?_)))))))
  refine WO.step rfl (OR.move rfl (WO.step rfl (OR.move rfl ?_)))
  refine WO.step rfl (OR.call hs body176 rfl rfl (indexL_ok v ll f cap _ _ hs.toSub hv hll hbf hf) ?_)
  clear hs; rintro _ H w hs hle1 rfl; replace hle := hle.trans hle1; (try replace hlb := hlb.trans hle1)
  refine WO.step rfl (OR.geq rfl rfl (WO.step rfl (OR.assign rfl (WO.done (WX.seq (WC.ret ?_))))))
  refine WX.ret1 rfl rfl ?_
  exact .mk hs rfl

end Go.Bw
namespace Go.Bw
set_option linter.unusedVariables false
set_option linter.unusedSimpArgs false
open Go.Proofs
def rdObj (v : Value) : Obj := .cells #[v, .bool true] 246
def beVal (l : List UInt8) : Nat := l.foldl (fun n b => n * 256 + b.toNat) 0
theorem beVal_snoc (l : List UInt8) (b : UInt8) : beVal (l ++ [b]) = beVal l * 256 + b.toNat := by simp [beVal]
theorem beVal_take (l : List UInt8) (k : Nat) (h : k < l.length) : beVal (l.take (k + 1)) = beVal (l.take k) * 256 + l[k].toNat := by
  rw [List.take_succ_eq_append_getElem h, beVal_snoc]
theorem beVal_lt : ∀ (k : Nat) (l : List UInt8), l.length = k → beVal l < 256 ^ k
  | 0, l, h => by
    have : l = [] := List.eq_nil_of_length_eq_zero h
    subst this
    simp [beVal]
  | k + 1, l, h => by
    have hd : l = l.take k ++ [l[k]] := by
      rw [← List.take_succ_eq_append_getElem (by omega)]
      exact (List.take_of_length_le (by omega)).symm
    have h1 := beVal_lt k (l.take k) (by simp; omega)
    have h2 := l[k].toNat_lt
    rw [hd, beVal_snoc, Nat.pow_succ]
    omega

set_option maxRecDepth 20000 in
set_option maxHeartbeats 2000000 in
theorem wnew_ok (v : Value) (l : List UInt8) (H0 : Hp) (w0 : World) (h0 : Sub H0 w0) (hv : Bytes H0 v l) (hl : l.length ≤ 140737488355328) :
    Calls Tryz.prog 155 #[v] w0 (Ret [] H0 w0 fun v H' M' => ∃ b vb, v = ptr b ∧ w0.heap.size ≤ b ∧ M' = [(b, rdObj vb, true)] ∧ Bytes H' vb l) := by
  have hs := HS.init h0
  have hle := Hp.le.refl H0
  obtain ⟨b1, c1, rfl⟩ := hv.form
  refine Calls.enter (args := [.slice b1 l.length c1]) Tryz.func155 rfl Tryz.ntmps155 rfl ?_
  refine WC.seq (WC.region (WO.step rfl (OR.assign rfl (WO.done (WX.seq (WC.seq (WC.region ?_)))))))
  refine WO.step rfl (OR.move rfl ?_)
  refine WO.step rfl (OR.call hs body87 rfl rfl (clone_pure _ _ _ _ hs.toSub hv hl) ?_)
  clear hs; rintro _ H w hs hle1 hr; replace hle := hle.trans hle1; (try replace hlb := hlb.trans hle1)
  obtain ⟨b2, c2, rfl⟩ := hr.form
  refine WO.step rfl (OR.buildAll T246 rfl rfl PL246 rfl rfl (WO.step rfl (OR.box hs rfl ?_)))
  clear hs; intro g1 w hg1 hs
  refine WO.step rfl (OR.assign rfl (WO.done (WX.seq (WC.ret ?_))))
  refine WX.ret1 rfl rfl ?_
  exact ⟨_, H, _, rfl, hs, by simp, g1, _, rfl, hg1, rfl, hr⟩

set_option maxRecDepth 20000 in
set_option maxHeartbeats 2000000 in
theorem rleft_ok (b : Nat) (vb : Value) (l : List UInt8) (H0 : Hp) (w0 : World) (h0 : Sub H0 w0) (hb : w0.heap[b]? = some (rdObj vb)) (hn : H0 b = none) (hv : Bytes H0 vb l) :
    Calls Tryz.prog 159 #[ptr b] w0 (Pure H0 w0 fun v _ => v = .int .i64 (l.length : Int)) := by
  have hs := HS.startR h0 hb hn
  have hle := Hp.le.refl H0
  obtain ⟨b1, c1, rfl⟩ := hv.form
  refine Calls.enter (args := [ptr b]) Tryz.func159 rfl Tryz.ntmps159 rfl ?_
  refine WC.seq (WC.region (WO.step rfl (OR.assign rfl (WO.done (WX.seq (WC.seq (WC.seq ?_)))))))
  refine WC.region (WO.step rfl (OR.move rfl (WO.step rfl (OR.eqlNilP T226.und rfl rfl (WO.done (WX.seq (WC.no rfl rfl ?_)))))))
  refine WC.skip (WX.seq (WC.seq (WC.region (WO.step rfl (OR.move rfl (WO.step rfl (OR.nilCheck rfl ?_)))))))
  refine WO.step rfl (OR.fieldAddr FA246_0 rfl (WO.step rfl (OR.load T43 rfl rfl (hs.cellM (i := 0) rfl rfl) (WO.step rfl (OR.lenSlice T43.und rfl (WO.step rfl (OR.assign rfl ?_)))))))
  refine WO.done (WX.seq (WC.ret ?_))
  refine WX.ret1 rfl rfl ?_
  exact .mk hs rfl

theorem Bytes.dropS {H : Hp} {b : Option Addr} {c : Nat} {l : List UInt8} (h : Bytes H (.slice b l.length c) l) (m : Nat) (hm : m ≤ l.length) : Bytes H (.slice (if c = m then b else b.map (·.add (m * 1))) (l.length - m) (c - m)) (l.drop m) := by
  have := Sl.dropS h m hm
  unfold Bytes
  rw [List.length_drop, List.map_drop]
  rw [Nat.mul_one] at this ⊢
  exact this

set_option maxRecDepth 20000 in
set_option maxHeartbeats 2000000 in
theorem rtake_ok (b : Nat) (vb : Value) (l : List UInt8) (n : Nat) (H0 : Hp) (w0 : World) (h0 : Sub H0 w0) (hb : w0.heap[b]? = some (rdObj vb)) (hn : H0 b = none) (hv : Bytes H0 vb l) (hnl : n ≤ l.length) (hl : l.length ≤ 140737488355328) :
    Calls Tryz.prog 158 #[ptr b, .int .i64 (n : Int)] w0 (Ret [b] H0 w0 fun v H' M' => ∃ r vb', v = .tuple #[r, .int .i64 0] ∧ Bytes H' r (l.take n) ∧ M' = [(b, rdObj vb', true)] ∧ Bytes H' vb' (l.drop n)) := by
  have hs := HS.start1 h0 hb hn
  have hle := Hp.le.refl H0
  obtain ⟨b1, c1, rfl⟩ := hv.form
  have hcap := hv.cap_le
  refine Calls.enter (args := [ptr b, .int .i64 (n : Int)]) Tryz.func158 rfl Tryz.ntmps158 rfl ?_
  refine WC.seq (WC.region (WO.step rfl (OR.assign rfl (WO.step rfl (OR.assign rfl (WO.done (WX.seq ?_)))))))
  refine WC.seq (WC.block (WC.seq (WC.region (WO.step rfl (OR.move rfl (WO.step rfl (OR.eqlNilP T226.und rfl rfl ?_)))))))
  refine WO.step rfl (OR.move rfl (WO.guardYes rfl rfl rfl rfl (OR.move rfl (WO.guardYes rfl rfl rfl rfl (OR.nilCheck rfl (WO.guardYes rfl rfl rfl rfl (OR.fieldAddr FA246_1 rfl ?_)))))))
  refine WO.guardYes rfl rfl rfl rfl (OR.load T4 rfl rfl (hs.cellM (i := 0) rfl rfl) (WO.guardYes rfl rfl rfl rfl (OR.not rfl (WO.step rfl (OR.pickF rfl rfl rfl (WO.step rfl (OR.assign rfl ?_)))))))
  refine WO.done (WX.seq ?_)
  refine WC.no rfl rfl ?_
  refine WC.seq (WC.region (WO.step rfl (OR.move rfl (WO.step rfl (OR.lss rfl rfl (WO.step rfl (OR.assign rfl ?_)))))))
  refine WO.done (WX.seq ?_)
  refine WC.no rfl (decide_eq_false (by omega)) ?_
  refine WC.seq (WC.region (WO.step rfl (OR.move rfl (WO.step rfl (OR.move rfl (WO.step rfl (OR.nilCheck rfl ?_)))))))
  refine WO.step rfl (OR.fieldAddr FA246_0 rfl (WO.step rfl (OR.load T43 rfl rfl (hs.cellM (i := 0) rfl rfl) (WO.step rfl (OR.lenSlice T43.und rfl (WO.step rfl (OR.gtr rfl rfl ?_)))))))
  refine WO.step rfl (OR.assign rfl (WO.done (WX.seq ?_)))
  refine WC.no rfl (decide_eq_false (by omega)) ?_
  refine WC.skip (WX.block (WX.seq (WC.seq (WC.region (WO.step rfl (OR.move rfl (WO.step rfl ?_)))))))
  refine OR.nilCheck rfl (WO.step rfl (OR.fieldAddr FA246_0 rfl (WO.step rfl (OR.load T43 rfl rfl (hs.cellM (i := 0) rfl rfl) (WO.step rfl (OR.move rfl ?_))))))
  refine WO.step rfl (OR.sliceHiG n T43.und T5 rfl rfl rfl (by omega) ?_)
  have htk : Bytes H0 (.slice b1 n c1) (l.take n) := by
    have := Sl.takeS hv n hnl
    unfold Bytes
    rw [Nat.mul_one] at this
    rw [List.length_take, Nat.min_eq_left hnl, List.map_take]
    exact this
  refine WO.step rfl (OR.call hs body87 rfl rfl (clone_pure _ _ _ _ hs.toSub htk (by simp; omega)) ?_)
  clear hs; rintro _ H w hs hle1 hr; replace hle := hle.trans hle1; (try replace hlb := hlb.trans hle1)
  refine WO.step rfl (OR.assign rfl (WO.done (WX.seq (WC.seq (WC.region (WO.step rfl (OR.move rfl ?_)))))))
  refine WO.step rfl (OR.move rfl (WO.step rfl (OR.nilCheck rfl (WO.step rfl (OR.fieldAddr FA246_0 rfl (WO.step rfl (OR.load T43 rfl rfl (hs.cellM (i := 0) rfl rfl) ?_)))))))
  refine WO.step rfl (OR.move rfl ?_)
  refine WO.step rfl (OR.sliceLoG n T43.und T5 rfl rfl rfl hnl ?_)
  obtain ⟨b2, c2, rfl⟩ := hr.form
  refine WO.step rfl (OR.nilCheck rfl (WO.step rfl (OR.fieldAddr FA246_0 rfl (WO.stepN (OR.store hs T43 rfl rfl rfl (Nat.le_of_ble_eq_true rfl) rfl ?_)))))
  clear hs; intro w hs
  refine WO.done (WX.seq (WC.seq (WC.region (WO.step rfl (OR.move rfl (WO.step rfl (OR.assign rfl ?_)))))))
  refine WO.step rfl (OR.assign rfl (WO.done (WX.seq (WC.ret ?_))))
  refine WX.ret2 rfl rfl rfl ?_
  exact ⟨_, H, _, rfl, hs, by simp, _, _, rfl, hr, rfl, (hv.dropS n hnl).mono hle⟩

set_option maxRecDepth 20000 in
set_option maxHeartbeats 2000000 in
theorem keep_ok (b : Value) (v : Value) (g : Nat) (H0 : Hp) (w0 : World) (h0 : Sub H0 w0) (hg : w0.heap[g]? = some (.cells #[.int .i64 0] 28)) (hn : H0 g = none) :
    CallsD Tryz.prog 178 #[b, v, ptr g] .returning w0 fun e u' w' => u' = .returning ∧ Pure H0 w0 (fun _ _ => True) e w' := by
  have hs := HS.startR h0 hg hn
  refine CallsD.enter (args := [b, v, ptr g]) Tryz.func178 rfl Tryz.ntmps178 rfl ?_
  refine WC.seq (WC.region (WO.step rfl (OR.move rfl (WO.step rfl (OR.nilCheck rfl (WO.step rfl (OR.load T28 rfl rfl (hs.cellM (i := 0) rfl rfl) ?_)))))))
  refine WO.step rfl (OR.neq rfl rfl (WO.done (WX.seq ?_)))
  refine WC.no rfl (decide_eq_false (by omega)) ?_
  refine WC.skip ?_
  refine WX.end0 rfl ?_
  exact .mk hs trivial

set_option maxRecDepth 20000 in
set_option maxHeartbeats 2000000 in
theorem rnum_ok (b : Nat) (vb : Value) (l : List UInt8) (k : Nat) (H0 : Hp) (w0 : World) (h0 : Sub H0 w0) (hb : w0.heap[b]? = some (rdObj vb)) (hn : H0 b = none) (hv : Bytes H0 vb l) (hk1 : 1 ≤ k) (hk8 : k ≤ 8) (hnl : k ≤ l.length) (hl : l.length ≤ 140737488355328) :
    Calls Tryz.prog 157 #[ptr b, .int .i64 (k : Int)] w0 (Ret [b] H0 w0 fun v H' M' => ∃ vb', v = .tuple #[.int .u64 (beVal (l.take k) : Int), .int .i64 0] ∧ M' = [(b, rdObj vb', true)] ∧ Bytes H' vb' (l.drop k)) := by
  have hs := HS.start1 h0 hb hn
  have hle := Hp.le.refl H0
  have hv0 := hv
  obtain ⟨b1, c1, rfl⟩ := hv0.form
  refine Calls.enterD (args := [ptr b, .int .i64 (k : Int)]) Tryz.func157 rfl Tryz.ntmps157 rfl ?_
  refine WC.seq (WC.region (WO.step rfl (OR.assign rfl (WO.step rfl (OR.alloc hs T28 ?_)))))
  clear hs; intro g1 w hg1 hs
  refine WO.done (WX.seq (WC.seq (WC.block (WC.seq (WC.region (WO.step rfl (OR.move rfl ?_)))))))
  refine WO.step rfl (OR.eqlNilP T226.und rfl rfl (WO.step rfl (OR.move rfl (WO.guardYes rfl rfl rfl rfl (OR.move rfl (WO.guardYes rfl rfl rfl rfl (OR.nilCheck rfl ?_)))))))
  refine WO.guardYes rfl rfl rfl rfl (OR.fieldAddr FA246_1 rfl (WO.guardYes rfl rfl rfl rfl (OR.load T4 rfl rfl (hs.cellM (i := 1) rfl rfl) (WO.guardYes rfl rfl rfl rfl (OR.not rfl (WO.step rfl (OR.pickF rfl rfl rfl ?_)))))))
  refine WO.step rfl (OR.assign rfl (WO.done (WX.seq ?_)))
  refine WC.no rfl rfl ?_
  refine WC.seq (WC.region (WO.step rfl (OR.move rfl (WO.step rfl (OR.lss rfl rfl (WO.step rfl (OR.move rfl ?_)))))))
  refine WO.guardYes rfl (decide_eq_false (by omega)) rfl rfl (OR.move rfl (WO.guardYes rfl (decide_eq_false (by omega)) rfl rfl (OR.gtr rfl rfl (WO.step rfl (OR.pickF rfl (decide_eq_false (by omega)) rfl (WO.step rfl (OR.assign rfl ?_)))))))
  refine WO.done (WX.seq ?_)
  refine WC.no rfl (decide_eq_false (by omega)) ?_
  refine WC.skip (WX.block (WX.seq (WC.seq (WC.region (WO.step rfl (OR.move rfl (WO.step rfl ?_)))))))
  refine OR.move rfl (WO.step rfl (OR.nilCheck rfl (WO.step rfl (OR.fieldAddr FA246_0 rfl (WO.step rfl (OR.load T43 rfl rfl (hs.cellM (i := 1) rfl rfl) ?_))))))
  refine WO.defer rfl rfl ?_
  refine WO.done (WX.seq (WC.seq (WC.seq (WC.region (WO.step rfl (OR.move rfl (WO.step rfl ?_)))))))
  refine OR.move rfl (WO.done (WX.seq (WC.block ?_)))
  refine WC.loop (ι := Nat) (fun j => [(0, ptr b), (4, .int .u64 (beVal (l.take j) : Int)), (5, ptr g1), (28, .int .i64 (k : Int)), (29, .int .i64 (j : Int))]) (fun j w => (j ≤ k ∧ ∃ H vb', Hp.le H0 H ∧ Bytes H vb' (l.drop j) ∧ HS [b] H0 w0 H [(g1, .cells #[.int .i64 0] 28, true), (b, rdObj vb', true)] w)) (fun j => k - j) 0 ⟨rfl, rfl, rfl, rfl, rfl,  trivial⟩ ?_ (fun j w hW => ?_)
  · exact ⟨by omega, H0, _, hle, by rw [List.drop_zero]; exact hv, hs⟩
  clear hs hle
  obtain ⟨hj, H, vb', hle, hv', hs⟩ := hW
  refine WC.seq (WC.region (WO.step rfl (OR.lss rfl rfl (WO.done (WX.seq (WC.seq ?_))))))
  refine WC.condD rfl (fun hlt => ?_) (fun hlt => ?_)
  · have hlt' : j < k := by omega
    have hj' : j < l.length := by omega
    have hdl : (l.drop j).length = l.length - j := List.length_drop
    obtain ⟨b2, c2, rfl⟩ := hv'.form
    have hcap := hv'.cap_le
    refine WC.skip (WX.seq (WC.seq (WC.block (WC.seq (WC.seq (WC.region (WO.step rfl ?_)))))))
    refine OR.move rfl (WO.step rfl (OR.nilCheck rfl (WO.step rfl (OR.fieldAddr FA246_0 rfl (WO.step rfl (OR.load T43 rfl rfl (hs.cellM (i := 1) rfl rfl) (WO.step rfl ?_)))))))
    refine OR.lenSlice T43.und rfl (WO.step rfl (OR.eql rfl rfl (WO.done (WX.seq ?_))))
    refine WC.no rfl (decide_eq_false (by omega)) ?_
    refine WC.skip (WX.seq (WC.seq (WC.region (WO.step rfl (OR.move rfl ?_)))))
    refine WO.step rfl (OR.shl rfl rfl (by omega) ?_)
    obtain ⟨b3, o3, rfl, hce⟩ := hv'.pos (by omega)
    have hc0 := hce 0 (by omega)
    have he0 : (l.drop j)[0]'(by omega) = l[j] := by rw [List.getElem_drop]; simp
    rw [he0] at hc0
    refine WO.step rfl (OR.move rfl (WO.step rfl (OR.nilCheck rfl (WO.step rfl (OR.fieldAddr FA246_0 rfl (WO.step rfl (OR.load T43 rfl rfl (hs.cellM (i := 1) rfl rfl) ?_)))))))
    refine WO.step rfl (OR.idx 0 T43.und T5 rfl rfl rfl (by omega) ?_)
    refine WO.step rfl (OR.load T5 rfl rfl (hs.cell hc0) ?_)
    refine WO.step rfl (OR.convI T5.und T22.und rfl ?_)
    have hb8 := l[j].toNat_lt
    have hbv := beVal_lt j (l.take j) (by simp; omega)
    have hbv2 : beVal (l.take j) * 256 < 18446744073709551616 := by
      have h1 : 256 ^ (j + 1) ≤ 256 ^ 8 := Nat.pow_le_pow_right (by omega) (by omega)
      have h2 : beVal (l.take j) * 256 < 256 ^ (j + 1) := by rw [Nat.pow_succ]; exact Nat.mul_lt_mul_of_pos_right hbv (by omega)
      exact Nat.lt_of_lt_of_le h2 (Nat.le_trans h1 (by decide))
    have hbv3 : beVal (l.take j) * 256 + l[j].toNat < 18446744073709551616 := by
      have h1 : 256 ^ (j + 1) ≤ 256 ^ 8 := Nat.pow_le_pow_right (by omega) (by omega)
      have h2 := beVal_lt (j + 1) (l.take (j + 1)) (by simp; omega)
      rw [beVal_take l j hj'] at h2
      exact Nat.lt_of_lt_of_le h2 (Nat.le_trans h1 (by decide))
    have e1 : IntKind.u64.wrap ((beVal (l.take j) : Int) * 2 ^ (min (Int.toNat 8) IntKind.u64.bits)) = ((beVal (l.take j) * 256 : Nat) : Int) := by
      have := u64_wrap (beVal (l.take j) * 256) hbv2
      rw [← this, Int.natCast_mul]
      rfl
    rw [e1, u64_wrap l[j].toNat (by omega)]
    refine WO.step rfl (OR.or rfl rfl ?_)
    rw [or_u64 _ _ hb8 hbv3, ← beVal_take l j hj']
    refine WO.step rfl (OR.assign rfl (WO.done (WX.seq (WC.region (WO.step rfl (OR.move rfl (WO.step rfl ?_)))))))
    refine OR.move rfl (WO.step rfl (OR.nilCheck rfl (WO.step rfl (OR.fieldAddr FA246_0 rfl (WO.step rfl (OR.load T43 rfl rfl (hs.cellM (i := 1) rfl rfl) ?_))))))
    refine WO.step rfl (OR.sliceLoG 1 T43.und T5 rfl rfl rfl (by omega) ?_)
    refine WO.step rfl (OR.nilCheck rfl (WO.step rfl (OR.fieldAddr FA246_0 rfl ?_)))
    replace hs := hs.front (i := 1) rfl
    refine WO.stepN (OR.store hs T43 rfl rfl rfl (Nat.le_of_ble_eq_true rfl) rfl ?_)
    clear hs; intro w hs
    refine WO.done (WX.block (WX.seq (WC.region (WO.step rfl (OR.addI rfl rfl (by omega) (by omega) (WO.step rfl (OR.move rfl ?_)))))))
    refine WO.done ?_
    replace hs := hs.front (i := 1) rfl
    refine WX.again (j + 1) ⟨rfl, rfl, rfl, rfl, rfl,  trivial⟩ ?_ ?_
    · refine ⟨hlt', H, _, hle, ?_, hs⟩
      have := hv'.dropS 1 (by omega)
      rw [List.drop_drop] at this
      exact this
    · omega
  · have e : j = k := by omega
    subst e
    refine WC.exit (WX.seq_exit (WX.loop_exit (WX.block_hit (WX.seq (WC.seq (WC.region (WO.step rfl ?_)))))))
    refine OR.move rfl (WO.step rfl (OR.assign rfl (WO.stepN (OR.storeAll hs T28 rfl rfl rfl rfl rfl ?_))))
    clear hs; intro w hs
    refine WO.done (WX.seq (WC.ret ?_))
    refine WX.retD (dargs := [ptr b, .slice b1 l.length c1, ptr g1]) (cap := []) body178 (keep_ok _ _ g1 _ _ hs.toSub (hs.blk (i := 0) rfl) (hs.mem g1 _ true (List.mem_cons_self ..)).2.1) ?_
    intro e w' hp
    obtain ⟨v, H', rfl, hs', hle', _⟩ := hp.step hs
    refine ⟨v, rfl, fun a ha => ⟨_, results_TC T28 rfl rfl (ha 4 _ rfl) (ha 5 _ rfl) (hs'.cellM (i := 0) rfl rfl), _, H', _, rfl, hs'.drop 0, by simp [dropAt], _, rfl, rfl, hv'.mono hle'⟩⟩

end Go.Bw
namespace Go.Bw
set_option linter.unusedVariables false
set_option linter.unusedSimpArgs false
open Go.Proofs
theorem take_flat_succ (ll : List (List UInt8)) (k : Nat) (h : k < ll.length) : (ll.take (k + 1)).flatten = (ll.take k).flatten ++ ll[k] := by
  rw [List.take_succ_eq_append_getElem h, List.flatten_append]
  simp
theorem flat_take_le (ll : List (List UInt8)) (k : Nat) : (ll.take k).flatten.length ≤ ll.flatten.length := by
  have : ll.flatten = (ll.take k).flatten ++ (ll.drop k).flatten := by rw [← List.flatten_append, List.take_append_drop]
  rw [this, List.length_append]
  omega
theorem setL_take (c : List Value) (o : Nat) (news : List Value) (h : o + news.length ≤ c.length) : (setL c o news).take (o + news.length) = c.take o ++ news := by
  rw [setL_at _ _ _ h, List.take_append_of_le_length (by simp; omega), List.take_of_length_le (by simp; omega)]

set_option maxRecDepth 20000 in
set_option maxHeartbeats 2000000 in
theorem join_ok (vl : Value) (ll : List (List UInt8)) (H0 : Hp) (w0 : World) (h0 : Sub H0 w0) (hv : BytesL H0 vl ll) (hl : ll.flatten.length ≤ 1000000000000) (hll : ll.length ≤ 1000000000000) :
    Calls Tryz.prog 156 #[vl, .slice none 0 0] w0 (Pure H0 w0 fun v H' => Bytes H' v ll.flatten) := by
  have hs := HS.init h0
  have hle := Hp.le.refl H0
  have hv0 := hv
  obtain ⟨b1, c1, rfl⟩ := hv0.form
  obtain ⟨cs, hsl, hcl, hcs⟩ := hv
  have hcap1 : ll.length ≤ c1 := by
    obtain ⟨_, b', c', q1, q2, _⟩ := hsl
    cases q1
    exact q2
  refine Calls.enter (args := [.slice b1 ll.length c1, .slice none 0 0]) Tryz.func156 rfl Tryz.ntmps156 rfl ?_
  refine WC.seq (WC.region (WO.step rfl (OR.assign rfl (WO.done (WX.seq (WC.seq (WC.seq ?_)))))))
  refine WC.region (WO.step rfl (OR.move rfl (WO.step rfl (OR.lenSlice T40.und rfl (WO.step rfl (OR.eql rfl rfl (WO.done ?_)))))))
  refine WX.seq ?_
  refine WC.condD rfl (fun hz => ?_) (fun hz => ?_)
  · refine WC.seq (WC.region ?_)
    refine WO.step rfl (OR.buildSlice (vs := []) hs T43.und T5 rfl rfl rfl rfl (by simp) ?_)
    clear hs; intro g1 w hg1 hs
    refine WO.step rfl (OR.assign rfl (WO.done (WX.seq (WC.ret (WX.seq_ret ?_)))))
    refine WX.ret1 rfl rfl ?_
    have : ll = [] := List.eq_nil_of_length_eq_zero (by omega)
    subst this
    exact .mk (hs.drop 0) (Sl.empty _ _ _)
  · obtain ⟨ob, oo, rfl, hco⟩ := hsl.pos (by omega)
    have hget : ∀ k (h : k < ll.length), hcell H0 ⟨ob, oo + k, none⟩ = some (cs[k]'(by omega)) ∧ Bytes H0 (cs[k]'(by omega)) ll[k] := fun k h => ⟨hco k _ (List.getElem?_eq_getElem (by omega)), hcs k h (by omega)⟩
    obtain ⟨hc0, hb0⟩ := hget 0 (by omega)
    obtain ⟨be0, ce0, he0⟩ := hb0.form
    rw [he0] at hb0
    refine WC.skip (WX.seq (WC.seq (WC.seq (WC.region (WO.step rfl (OR.move rfl (WO.step rfl ?_)))))))
    refine OR.lenSlice T40.und rfl (WO.step rfl (OR.eql rfl rfl (WO.done (WX.seq ?_))))
    refine WC.condD rfl (fun h1 => ?_) (fun h1 => ?_)
    · refine WC.seq (WC.region (WO.step rfl (OR.move rfl ?_)))
      refine WO.step rfl (OR.idx 0 T40.und T43 rfl rfl rfl (by omega) ?_)
      refine WO.step rfl (OR.load T43 rfl rfl (hs.cell hc0) ?_)
      rw [he0]
      have hl1 := flat_take_le ll 1
      have hl2 : (ll.take 1).flatten = (ll.take 0).flatten ++ ll[0]'(by omega) := take_flat_succ ll 0 (by omega)
      have hl3 : ll.take 1 = ll := List.take_of_length_le (by omega)
      have hl4 : ll.flatten = ll[0]'(by omega) := by
        have h9 : (ll.take 1).flatten = ll.flatten := by rw [hl3]
        rw [List.take_zero, List.flatten_nil, List.nil_append] at hl2
        exact h9.symm.trans hl2
      have hl5 : (ll[0]'(by omega)).length ≤ 1000000000000 := by rw [← hl4]; exact hl
      refine WO.step rfl (OR.append (n := 0) (m := (ll[0]'(by omega)).length) (cs := []) (news := (ll[0]'(by omega)).map B) (Mo := []) (M := []) hs (Own.nil _ _ _) T43.und T5 rfl (by omega) rfl rfl (by simp) (Sl.src hb0 hs) (Sl.src0 hb0) (bytes_one _) (by omega) (by omega) ?_)
      clear hs; intro v' w Mo hs ho hge
      obtain ⟨H3, hle3, hs, hsl3, _⟩ := HS.pub hs ho
      refine WO.step rfl (OR.assign rfl (WO.done (WX.seq (WC.ret (WX.seq_ret ?_)))))
      refine WX.ret1 rfl rfl ?_
      refine .mk hs ?_
      unfold Bytes
      rw [hl4]
      rw [Nat.zero_add, List.nil_append] at hsl3
      exact hsl3
    · refine WC.skip (WX.seq (WC.seq (WC.region (WO.step rfl (OR.assign rfl (WO.done (WX.seq ?_)))))))
      refine WC.seq (WC.seq (WC.region (WO.step rfl (OR.move rfl (WO.step rfl (OR.lenSlice T43.und rfl (WO.step rfl ?_)))))))
      refine OR.gtr rfl rfl (WO.done (WX.seq ?_))
      refine WC.no rfl (decide_eq_false (by omega)) ?_
      refine WC.skip (WX.seq (WC.seq (WC.seq (WC.region (WO.step rfl (OR.move rfl (WO.step rfl ?_)))))))
      refine OR.lenSlice T40.und rfl (WO.step rfl (OR.move rfl (WO.done (WX.seq (WC.block ?_)))))
      refine WC.loop (ι := Nat) (fun k => [(0, .slice (some ⟨ob, oo, none⟩) ll.length c1), (1, .slice none 0 0), (5, .int .i64 ((ll.take k).flatten.length : Int)), (42, .slice (some ⟨ob, oo, none⟩) ll.length c1), (43, .int .i64 (ll.length : Int)), (44, .int .i64 (k : Int))]) (fun k w => (k ≤ ll.length ∧ HS [] H0 w0 H0 [] w)) (fun k => ll.length - k) 0 ⟨rfl, rfl, rfl, rfl, rfl, rfl,  trivial⟩ ?_ (fun k w hW => ?_)
      · exact ⟨by omega, hs⟩
      clear hs
      obtain ⟨hk, hs⟩ := hW
      refine WC.seq (WC.region (WO.step rfl (OR.lss rfl rfl (WO.done (WX.seq (WC.seq ?_))))))
      refine WC.condD rfl (fun hlt => ?_) (fun hlt => ?_)
      · have hk' : k < ll.length := by omega
        obtain ⟨hck, hbk⟩ := hget k hk'
        obtain ⟨be, ce, he⟩ := hbk.form
        refine WC.skip (WX.seq (WC.seq (WC.block (WC.seq (WC.region ?_)))))
        refine WO.step rfl (OR.idx k T40.und T43 rfl rfl rfl hk' ?_)
        refine WO.step rfl (OR.load T43 rfl rfl (hs.cell hck) ?_)
        rw [he]
        have hf1 := take_flat_succ ll k hk'
        have hf2 := flat_take_le ll (k + 1)
        have hf3 : (ll.take (k + 1)).flatten.length = (ll.take k).flatten.length + ll[k].length := by rw [hf1, List.length_append]
        refine WO.step rfl (OR.assign rfl (WO.done (WX.seq (WC.seq (WC.seq (WC.region (WO.step rfl ?_)))))))
        refine OR.move rfl (WO.step rfl (OR.lenSlice T43.und rfl (WO.step rfl (OR.move rfl (WO.step rfl (OR.subI rfl rfl (by omega) (by omega) (WO.step rfl ?_)))))))
        refine OR.gtr rfl rfl (WO.done (WX.seq ?_))
        refine WC.no rfl (decide_eq_false (by omega)) ?_
        have hf4 : ((ll.take k).flatten.length : Int) + (ll[k].length : Int) = ((ll.take (k + 1)).flatten.length : Int) := by omega
        refine WC.skip (WX.seq (WC.region (WO.step rfl (OR.move rfl (WO.step rfl (OR.move rfl (WO.step rfl ?_)))))))
        refine OR.lenSlice T43.und rfl (WO.step rfl (OR.addI rfl rfl (by omega) (by omega) (WO.step rfl (OR.assign rfl (WO.done (WX.block (WX.seq ?_)))))))
        refine WC.region (WO.step rfl (OR.addI rfl rfl (by omega) (by omega) (WO.step rfl (OR.move rfl (WO.done ?_)))))
        rw [hf4]
        refine WX.again (k + 1) ⟨rfl, rfl, rfl, rfl, rfl, rfl,  trivial⟩ ?_ ?_
        · exact ⟨by omega, hs⟩
        · omega
      · have e : k = ll.length := by omega
        subst e
        rw [List.take_length]
        obtain ⟨T, hT⟩ : ∃ T, ll.flatten.length = T := ⟨_, rfl⟩
        rw [hT] at hl ⊢
        refine WC.exit (WX.seq_exit (WX.loop_exit (WX.block_hit (WX.seq (WC.seq (WC.region (WO.step rfl ?_)))))))
        refine OR.move rfl ?_
        refine WO.step rfl (OR.makeNoZero (ps := #[3]) (t := 43) hs Tryz.func177 (by kernel_rfl) (by kernel_rfl) (by kernel_rfl) (by kernel_rfl) T43.und rfl rfl (by omega) ?_)
        clear hs; intro g c w hg hTc hs
        refine WO.step rfl (OR.move rfl (WO.step rfl (OR.move rfl ?_)))
        refine WO.step rfl (OR.sliceMax T T43.und T5 rfl rfl rfl rfl hTc ?_)
        refine WO.step rfl (OR.assign rfl (WO.done (WX.seq (WC.seq (WC.region (WO.step rfl (OR.move rfl ?_)))))))
        refine WO.step rfl (OR.move rfl ?_)
        refine WO.step rfl (OR.idx 0 T40.und T43 rfl rfl rfl (by omega) ?_)
        refine WO.step rfl (OR.load T43 rfl rfl (hs.cell hc0) ?_)
        rw [he0]
        have hl2 : (ll.take 1).flatten = (ll.take 0).flatten ++ ll[0]'(by omega) := take_flat_succ ll 0 (by omega)
        have hl6 := flat_take_le ll 1
        rw [List.take_zero, List.flatten_nil, List.nil_append] at hl2
        have hl7 : (ll[0]'(by omega)).length ≤ T := by rw [← hl2]; omega
        refine WO.step rfl (OR.copyO hs ((ll[0]'(by omega)).map B) T43.und T5 rfl rfl (by rw [List.length_map, natmin (c := (ll[0]'(by omega)).length) (by omega)]; omega) (Sl.src0 hb0) (Sl.src hb0 hs) (by simp; omega) (bytes_one _) ?_)
        clear hs; intro w hs
        rw [natmin (c := (ll[0]'(by omega)).length) (by omega)]
        refine WO.step rfl (OR.assign rfl (WO.done (WX.seq (WC.seq (WC.seq (WC.region (WO.step rfl ?_)))))))
        refine OR.move rfl ?_
        refine WO.step rfl (OR.sliceLoG 1 T40.und T43 rfl rfl rfl (by omega) ?_)
        rw [if_neg (by omega), Option.map_some, add_off, Nat.mul_one]
        have hci : (setL c.toList 0 ((ll[0]'(by omega)).map B)).take (ll[0]'(by omega)).length = ((ll.take 1).flatten).map B := by
          have := setL_take c.toList 0 ((ll[0]'(by omega)).map B) (by simp; omega)
          rw [List.length_map, Nat.zero_add, List.take_zero, List.nil_append] at this
          rw [this, hl2]
        have hcz : T ≤ (setL c.toList 0 ((ll[0]'(by omega)).map B)).toArray.size := by rw [List.size_toArray, setL_length]; simpa using hTc
        generalize hcg : (setL c.toList 0 ((ll[0]'(by omega)).map B)).toArray = cc at *
        have hcg2 : setL c.toList 0 ((ll[0]'(by omega)).map B) = cc.toList := by rw [← hcg]
        rw [hcg2] at hci
        have hp1 : (ll[0]'(by omega)).length = (ll.take 1).flatten.length := by rw [hl2]
        rw [hp1] at hci ⊢
        refine WO.step rfl (OR.lenSlice T40.und rfl (WO.step rfl (OR.move rfl (WO.done (WX.seq (WC.block ?_))))))
        refine WC.loop (ι := Nat) (fun j => [(1, .slice none 0 0), (8, .slice (some ⟨g, 0, none⟩) T T), (9, .int .i64 ((ll.take (j + 1)).flatten.length : Int)), (70, .slice (some ⟨ob, oo + 1, none⟩) (ll.length - 1) (c1 - 1)), (71, .int .i64 ((ll.length - 1 : Nat) : Int)), (72, .int .i64 (j : Int))]) (fun j w => (j ≤ ll.length - 1 ∧ ∃ c, T ≤ c.size ∧ c.toList.take (ll.take (j + 1)).flatten.length = ((ll.take (j + 1)).flatten).map B ∧ HS [] H0 w0 H0 [(g, .cells c 5, true)] w)) (fun j => ll.length - 1 - j) 0 ⟨rfl, rfl, rfl, rfl, rfl, rfl,  trivial⟩ ?_ (fun j w hW => ?_)
        · exact ⟨by omega, cc, hcz, hci, hs⟩
        clear hs hci hcz hcg hcg2 hTc
        obtain ⟨hj, c, hcz, hci, hs⟩ := hW
        refine WC.seq (WC.region (WO.step rfl (OR.lss rfl rfl (WO.done (WX.seq (WC.seq ?_))))))
        refine WC.condD rfl (fun hlt2 => ?_) (fun hlt2 => ?_)
        · have hj' : 1 + j < ll.length := by omega
          obtain ⟨hck, hbk⟩ := hget (1 + j) hj'
          rw [← Nat.add_assoc] at hck
          obtain ⟨be, ce, he⟩ := hbk.form
          rw [he] at hbk hck
          refine WC.skip (WX.seq (WC.seq (WC.block (WC.seq (WC.region ?_)))))
          refine WO.step rfl (OR.idx j T40.und T43 rfl rfl rfl (by omega) ?_)
          refine WO.step rfl (OR.load T43 rfl rfl (hs.cell hck) ?_)
          have hf1 := take_flat_succ ll (j + 1) (by omega)
          have hf2 := flat_take_le ll (j + 1 + 1)
          have hf3 : (ll.take (j + 1 + 1)).flatten.length = (ll.take (j + 1)).flatten.length + ll[1 + j].length := by
            rw [hf1, List.length_append]
            simp only [Nat.add_comm 1 j]
          have hf5 : (ll.take (j + 1 + 1)).flatten = (ll.take (j + 1)).flatten ++ ll[1 + j] := by rw [hf1]; simp only [Nat.add_comm 1 j]
          generalize hacc : (ll.take (j + 1)).flatten = acc at *
          have hsl2 : (if T = acc.length then some (⟨g, 0, none⟩ : Addr) else (some (⟨g, 0, none⟩ : Addr)).map (·.add (acc.length * 1))) = some ⟨g, if T = acc.length then 0 else acc.length, none⟩ := by
            split
            · rfl
            · rw [Option.map_some, add_off, Nat.mul_one, Nat.zero_add]
          have ho : (if T = acc.length then 0 else acc.length) + ll[1 + j].length ≤ c.size := by split <;> omega
          refine WO.step rfl (OR.assign rfl (WO.done (WX.seq (WC.seq (WC.region (WO.step rfl (OR.move rfl ?_)))))))
          refine WO.step rfl (OR.move rfl (WO.step rfl (OR.move rfl ?_)))
          refine WO.step rfl (OR.sliceLoG acc.length T43.und T5 rfl rfl rfl (by omega) ?_)
          rw [hsl2]
          refine WO.step rfl (OR.move rfl ?_)
          refine WO.step rfl (OR.copyO hs [] T43.und T5 rfl rfl (by rw [natmin (c := 0) (by omega)]; rfl) (fun _ => rfl) (fun q hq => by cases hq) (by simp; omega) rfl ?_)
          clear hs; intro w hs
          rw [natmin (c := 0) (by omega)]
          rw [setL_nil] at hs
          replace hs : HS [] H0 w0 H0 [(g, .cells c 5, true)] w := hs
          refine WO.step rfl (OR.addI rfl rfl (by omega) (by omega) ?_)
          rw [show (acc.length : Int) + ((0 : Nat) : Int) = (acc.length : Int) from by omega]
          refine WO.step rfl (OR.assign rfl (WO.done (WX.seq (WC.region (WO.step rfl (OR.move rfl (WO.step rfl ?_)))))))
          refine OR.move rfl (WO.step rfl (OR.move rfl ?_))
          refine WO.step rfl (OR.sliceLoG acc.length T43.und T5 rfl rfl rfl (by omega) ?_)
          rw [hsl2]
          refine WO.step rfl (OR.move rfl ?_)
          refine WO.step rfl (OR.copyO hs (ll[1 + j].map B) T43.und T5 rfl rfl (by rw [List.length_map, natmin (c := ll[1 + j].length) (by omega)]; omega) (Sl.src0 hbk) (Sl.src hbk hs) (by rw [List.length_map]; exact ho) (bytes_one _) ?_)
          clear hs; intro w hs
          rw [natmin (c := ll[1 + j].length) (by omega)]
          refine WO.step rfl (OR.addI rfl rfl (by omega) (by omega) (WO.step rfl (OR.assign rfl (WO.done (WX.block (WX.seq (WC.region ?_)))))))
          refine WO.step rfl (OR.addI rfl rfl (by omega) (by omega) (WO.step rfl (OR.move rfl (WO.done ?_))))
          rw [show (acc.length : Int) + (ll[1 + j].length : Int) = ((ll.take (j + 1 + 1)).flatten.length : Int) from by omega]
          refine WX.again (j + 1) ⟨rfl, rfl, rfl, rfl, rfl, rfl,  trivial⟩ ?_ ?_
          · refine ⟨by omega, _, ?_, ?_, hs⟩
            · rw [List.size_toArray, setL_length]; simpa using hcz
            · rw [hf5, List.length_append, List.map_append]
              by_cases hTe : T = acc.length
              · have hz0 : ll[1 + j] = [] := List.eq_nil_of_length_eq_zero (by omega)
                rw [hz0, List.map_nil, setL_nil, List.append_nil]
                exact hci
              · rw [if_neg hTe] at ho ⊢
                have := setL_take c.toList acc.length (ll[1 + j].map B) (by rw [List.length_map]; simpa using ho)
                rw [List.length_map] at this
                show (setL c.toList acc.length (ll[1 + j].map B)).take (acc.length + ll[1 + j].length) = _
                rw [this, hci]
          · omega
        · have e : j = ll.length - 1 := by omega
          have e2 : ll.take (j + 1) = ll := List.take_of_length_le (by omega)
          rw [e2, hT] at hci
          refine WC.exit (WX.seq_exit (WX.loop_exit (WX.block_hit (WX.seq (WC.seq (WC.region (WO.step rfl ?_)))))))
          refine OR.move rfl (WO.step rfl (OR.assign rfl (WO.done (WX.seq (WC.ret ?_)))))
          refine WX.ret1 rfl rfl ?_
          have hp := hs.publish hg
          refine .mk hp ?_
          have := Bytes.block (l := ll.flatten) (cap := T) (Hp.put_same H0 g (.cells c 5)) (by rw [hT]; exact hci) (by omega)
          rw [hT] at this
          exact this
end Go.Bw
namespace Go.Bw
set_option linter.unusedVariables false
set_option linter.unusedSimpArgs false
open Go.Proofs
set_option maxRecDepth 20000 in
set_option maxHeartbeats 2000000 in
theorem ptake1_ok (gs : Nat) (s : Nat) (vx : Value) (l : List UInt8) (H0 : Hp) (w0 : World) (h0 : Sub H0 w0) (hc : hcell H0 ⟨gs, 0, none⟩ = some (.int .i64 (s : Int))) (hx : Bytes H0 vx l) :
    Calls Tryz.prog 154 #[vx, ptr gs] w0 (Pure H0 w0 fun v _ => v = .bool (decide (l.length ≠ s))) := by
  have hs := HS.init h0
  obtain ⟨b1, c1, rfl⟩ := hx.form
  refine Calls.enter (args := [.slice b1 l.length c1, ptr gs]) Tryz.func154 rfl Tryz.ntmps154 rfl ?_
  refine WC.seq (WC.region (WO.step rfl (OR.assign rfl (WO.done (WX.seq (WC.seq (WC.region ?_)))))))
  refine WO.step rfl (OR.move rfl (WO.step rfl (OR.lenSlice T43.und rfl ?_)))
  refine WO.step rfl (OR.load T3 rfl rfl (hs.cell hc) ?_)
  refine WO.step rfl (OR.neq rfl rfl (WO.step rfl (OR.assign rfl (WO.done (WX.seq (WC.ret ?_))))))
  refine WX.ret1 rfl rfl ?_
  refine .mk hs ?_
  congr 1
  rw [decide_eq_decide]
  omega
set_option maxRecDepth 20000 in
set_option maxHeartbeats 2000000 in
theorem ptake2_ok (x : UInt8) (H0 : Hp) (w0 : World) (h0 : Sub H0 w0) : Calls Tryz.prog 161 #[B x] w0 (Pure H0 w0 fun v _ => v = .bool (decide (x ≠ 0))) := by
  have hs := HS.init h0
  refine Calls.enter (args := [B x]) Tryz.func161 rfl Tryz.ntmps161 rfl ?_
  refine WC.seq (WC.region (WO.step rfl (OR.assign rfl (WO.done (WX.seq (WC.seq (WC.region ?_)))))))
  refine WO.step rfl (OR.move rfl (WO.step rfl (OR.neq rfl rfl (WO.step rfl (OR.assign rfl (WO.done (WX.seq ?_)))))))
  refine WC.ret ?_
  refine WX.ret1 rfl rfl ?_
  refine .mk hs ?_
  congr 1
  rw [decide_eq_decide]
  constructor
  · intro h e; apply h; rw [e]; rfl
  · intro h e; apply h; exact UInt8.toNat.inj (by simpa using e)

set_option maxRecDepth 20000 in
set_option maxHeartbeats 2000000 in
theorem containsB_ok (v : Value) (l : List UInt8) (p : UInt8 → Bool) (f : FuncId) (cap : List Value) (H0 : Hp) (w0 : World) (h0 : Sub H0 w0) (hv : Bytes H0 v l) (hl : l.length < 9223372036854775807) (hbf : Body Tryz.prog f)
    (hf : ∀ (x : UInt8) H w, Hp.le H0 H → Sub H w → Calls Tryz.prog f ([B x] ++ cap).toArray w (Pure H w fun v _ => v = .bool (p x))) :
    Calls Tryz.prog 160 #[v, .func (.func f) #[] cap.toArray] w0 (Pure H0 w0 fun v _ => v = .bool (decide (idxFrom p l 0 ≥ 0))) := by
  have hs := HS.init h0
  have hle := Hp.le.refl H0
  refine Calls.enter (args := [v, .func (.func f) #[] cap.toArray]) Tryz.func160 rfl Tryz.ntmps160 rfl ?_
  refine WC.seq (WC.region (WO.step rfl (OR.assign rfl (WO.done (WX.seq (WC.seq (WC.region ?_)))))))
  refine WO.step rfl (OR.move rfl (WO.step rfl (OR.move rfl ?_)))
  refine WO.step rfl (OR.call hs body147 rfl rfl (indexFunc_ok v l p f cap _ _ hs.toSub hv hl hbf hf) ?_)
  clear hs; rintro _ H w hs hle1 rfl; replace hle := hle.trans hle1; (try replace hlb := hlb.trans hle1)
  refine WO.step rfl (OR.geq rfl rfl (WO.step rfl (OR.assign rfl (WO.done (WX.seq (WC.ret ?_))))))
  refine WX.ret1 rfl rfl ?_
  exact .mk hs rfl
end Go.Bw
namespace Go.Bw
set_option linter.unusedVariables false
set_option linter.unusedSimpArgs false
open Go.Proofs
theorem flat_len (ll : List (List UInt8)) (s : Nat) (h : ∀ r ∈ ll, r.length = s) : ll.flatten.length = ll.length * s := by
  induction ll with
  | nil => simp
  | cons x ll ih =>
    rw [List.flatten_cons, List.length_append, ih (fun r hr => h r (by simp [hr])), h x (by simp), List.length_cons, Nat.add_mul, Nat.one_mul, Nat.add_comm]
/-- What is taken of symbols: a chunk, or none. -/
def padN (all : List UInt8) : Nat := beVal (all.take 4)
def padOk (room : Nat) (all : List UInt8) : Prop := 1 ≤ padN all ∧ padN all ≤ room ∧ lead ((all.drop 4).drop (padN all)) < 0
instance (room : Nat) (all : List UInt8) : Decidable (padOk room all) := inferInstanceAs (Decidable (_ ∧ _))
def padF (room : Nat) (all : List UInt8) : List UInt8 := if padOk room all then (all.drop 4).take (padN all) else []
def padE (room : Nat) (all : List UInt8) : Int := if padOk room all then 0 else 5
set_option maxRecDepth 20000 in
set_option maxHeartbeats 2000000 in
theorem ptakeG_ok (g s : Nat) (vl : Value) (ll : List (List UInt8)) (H0 : Hp) (w0 : World) (h0 : Sub H0 w0) (hgs : 1 ≤ g ∧ g ≤ 255 ∧ 1 ≤ s ∧ s ≤ 65535 ∧ 4 < g * s) (hv : BytesL H0 vl ll) (hlen : ll.length = g) (hrow : ∀ r ∈ ll, r.length = s) :
    Calls Tryz.prog 117 #[vl, .int .i64 (g : Int), .int .i64 (s : Int)] w0 (Pure H0 w0 fun v H' => TupB H' v (padF (g * s - 4) ll.flatten) (padE (g * s - 4) ll.flatten)) := by
  have hs := HS.init h0
  have hle := Hp.le.refl H0
  obtain ⟨hg1, hg2, hs1, hs2, hgs4⟩ := hgs
  have hmul : g * s ≤ 255 * 65535 := Nat.mul_le_mul hg2 hs2
  have hmc : (g : Int) * (s : Int) = ((g * s : Nat) : Int) := by rw [Int.natCast_mul]
  have hal := flat_len ll s hrow
  rw [hlen] at hal
  have hv0 := hv
  obtain ⟨b1, c1, rfl⟩ := hv0.form
  refine Calls.enter (args := [.slice b1 ll.length c1, .int .i64 (g : Int), .int .i64 (s : Int)]) Tryz.func117 rfl Tryz.ntmps117 rfl ?_
  refine WC.seq (WC.region (WO.step rfl (OR.box hs rfl ?_)))
  clear hs; intro g1 w hg1 hs
  refine WO.step rfl (OR.assign rfl (WO.step rfl (OR.assign rfl (WO.done (WX.seq (WC.seq (WC.region ?_)))))))
  refine WO.step rfl (OR.move rfl (WO.step rfl (OR.load T3 rfl rfl (hs.cellM (i := 0) rfl rfl) ?_)))
  refine WO.step rfl (OR.call hs body62 rfl rfl (room_ok (g : Int) (s : Int) _ _ hs.toSub) ?_)
  clear hs; rintro _ H w hs hle1 rfl; replace hle := hle.trans hle1; (try replace hlb := hlb.trans hle1)
  rw [if_pos (by rw [hmc]; omega)]
  refine WO.step rfl (OR.move rfl (WO.step rfl (OR.extract rfl rfl (WO.step rfl (OR.extract rfl rfl (WO.step rfl (OR.assign rfl ?_)))))))
  refine WO.step rfl (OR.assign rfl (WO.done (WX.seq (WC.seq (WC.block (WC.seq (WC.region ?_)))))))
  refine WO.step rfl (OR.move rfl (WO.step rfl (OR.neq rfl rfl (WO.step rfl (OR.assign rfl (WO.done (WX.seq ?_)))))))
  refine WC.no rfl (decide_eq_false (by omega)) ?_
  refine WC.seq (WC.region (WO.step rfl (OR.move rfl (WO.step rfl (OR.lenSlice T40.und rfl (WO.step rfl (OR.move rfl ?_)))))))
  refine WO.step rfl (OR.neq rfl rfl (WO.step rfl (OR.move rfl ?_)))
  refine WO.guardYes rfl (decide_eq_false (by rw [hlen]; omega)) rfl rfl (OR.move rfl (WO.guardYes rfl (decide_eq_false (by rw [hlen]; omega)) rfl rfl (OR.makeFunc rfl rfl ?_)))
  obtain ⟨H, hle1, hp_g1, hs9⟩ := hs.pub1 hg1; clear hs; have hs := hs9; clear hs9; replace hle := hle.trans hle1; (try replace hlb := hlb.trans hle1)
  have hcs := hcell_of hp_g1 (i := 0) (v := .int .i64 (s : Int)) rfl
  refine WO.guardYes rfl (decide_eq_false (by rw [hlen]; omega)) rfl rfl (OR.call hs body153 rfl rfl (containsL_ok _ ll 154 [ptr g1] _ _ hs.toSub (hv.mono hle) (by omega) body154 (fun i h vx H' w' hl' hH hb => (ptake1_ok g1 s vx _ H' w' hH (hcell.mono hl' hcs) hb).mono fun e w2 hp => by rw [decide_eq_false (by rw [hrow _ (List.getElem_mem h)]; exact fun q => q rfl)] at hp; exact hp)) ?_)
  clear hs; rintro _ H w hs hle1 rfl; replace hle := hle.trans hle1; (try replace hlb := hlb.trans hle1)
  refine WO.step rfl (OR.pickF rfl (decide_eq_false (by rw [hlen]; omega)) rfl (WO.step rfl (OR.assign rfl (WO.done (WX.seq ?_)))))
  refine WC.no rfl rfl ?_
  refine WC.skip (WX.block (WX.seq (WC.seq (WC.region (WO.step rfl (OR.move rfl ?_))))))
  refine WO.step rfl (OR.call hs body156 rfl rfl (join_ok _ ll _ _ hs.toSub (hv.mono hle) (by rw [hal]; omega) (by omega)) ?_)
  clear hs; rintro _ H w hs hle1 hj; replace hle := hle.trans hle1; (try replace hlb := hlb.trans hle1)
  generalize hA : ll.flatten = all at *
  refine WO.step rfl (OR.callX (Mx := []) hs body155 rfl rfl (wnew_ok _ all _ _ hs.toSub hj (by omega)) rfl rfl ?_)
  clear hs; rintro _ H M' w hs hle1 hnew ⟨b, vb, rfl, hbz, rfl, hvb⟩; replace hle := hle.trans hle1; (try replace hlb := hlb.trans hle1)
  refine WO.step rfl (OR.assign rfl (WO.done (WX.seq (WC.seq (WC.region (WO.step rfl (OR.move rfl ?_)))))))
  refine WO.step rfl (OR.callX (Mx := [(b, _, true)]) hs body157 rfl rfl (rnum_ok b vb all 4 _ _ hs.toSub (hs.blk (i := 0) rfl) (hs.mem b _ true (List.mem_cons_self ..)).2.1 hvb (by omega) (by omega) (by omega) (by omega)) rfl rfl ?_)
  clear hs; rintro _ H M' w hs hle1 hnew ⟨vb2, rfl, rfl, hvb2⟩; replace hle := hle.trans hle1; (try replace hlb := hlb.trans hle1)
  have hN : beVal (all.take 4) = padN all := rfl
  have hN4 : padN all < 256 ^ 4 := beVal_lt 4 _ (by simp; omega)
  rw [hN]
  have hr1 : (g : Int) * (s : Int) - 4 = ((g * s - 4 : Nat) : Int) := by rw [hmc]; omega
  by_cases h1 : 1 ≤ padN all
  · skip
    refine WO.step rfl (OR.move rfl (WO.step rfl (OR.extract rfl rfl (WO.step rfl (OR.extract rfl rfl (WO.step rfl (OR.assign rfl ?_)))))))
    refine WO.step rfl (OR.assign rfl (WO.done (WX.seq (WC.seq (WC.seq (WC.region (WO.step rfl ?_)))))))
    refine OR.move rfl (WO.step rfl (OR.lss rfl rfl (WO.step rfl (OR.move rfl ?_))))
    refine WO.guardYes rfl (decide_eq_false (by omega : ¬ (padN all : Int) < 1)) rfl rfl (OR.move rfl (WO.guardYes rfl (decide_eq_false (by omega : ¬ (padN all : Int) < 1)) rfl rfl (OR.move rfl ?_)))
    refine WO.guardYes rfl (decide_eq_false (by omega : ¬ (padN all : Int) < 1)) rfl rfl (OR.convI T3.und T22.und rfl ?_)
    rw [hr1, u64_wrap (g * s - 4) (by omega)]
    by_cases h2 : padN all ≤ g * s - 4
    · skip
      refine WO.guardYes rfl (decide_eq_false (by omega : ¬ (padN all : Int) < 1)) rfl rfl (OR.gtr rfl rfl (WO.step rfl (OR.pickF rfl (decide_eq_false (by omega : ¬ (padN all : Int) < 1)) rfl (WO.done (WX.seq ?_)))))
      refine WC.no rfl (decide_eq_false (by omega)) ?_
      refine WC.skip (WX.seq (WC.seq (WC.region (WO.step rfl (OR.move rfl (WO.step rfl (OR.move rfl ?_)))))))
      refine WO.step rfl (OR.convI T22.und T3.und rfl ?_)
      rw [IntWalk.i64_in (padN all : Int) (by omega)]
      have hl3 : (all.drop 4).length = g * s - 4 := by simp; omega
      refine WO.step rfl (OR.callX (Mx := [(b, _, true)]) hs body158 rfl rfl (rtake_ok b vb2 (all.drop 4) (padN all) _ _ hs.toSub (hs.blk (i := 0) rfl) (hs.mem b _ true (List.mem_cons_self ..)).2.1 hvb2 (by omega) (by omega)) rfl rfl ?_)
      clear hs; rintro _ H M' w hs hle1 hnew ⟨r, vb3, rfl, hr, rfl, hvb3⟩; replace hle := hle.trans hle1; (try replace hlb := hlb.trans hle1)
      have hl4 : ((all.drop 4).drop (padN all)).length = g * s - 4 - padN all := by rw [List.length_drop, hl3]
      refine WO.step rfl (OR.move rfl (WO.step rfl (OR.extract rfl rfl (WO.step rfl (OR.extract rfl rfl (WO.step rfl (OR.assign rfl ?_)))))))
      refine WO.step rfl (OR.assign rfl (WO.done (WX.seq (WC.seq (WC.region (WO.step rfl (OR.move rfl ?_)))))))
      refine WO.step rfl (OR.move rfl ?_)
      refine WO.step rfl (OR.call hs body159 rfl rfl (rleft_ok b vb3 ((all.drop 4).drop (padN all)) _ _ hs.toSub (hs.blk (i := 0) rfl) (hs.mem b _ true (List.mem_cons_self ..)).2.1 hvb3) ?_)
      clear hs; rintro _ H w hs hle1 rfl; replace hle := hle.trans hle1; (try replace hlb := hlb.trans hle1)
      replace hr := hr.mono hle1
      replace hvb3 := hvb3.mono hle1
      refine WO.step rfl (OR.callX (Mx := [(b, _, true)]) hs body158 rfl rfl (rtake_ok b vb3 ((all.drop 4).drop (padN all)) ((all.drop 4).drop (padN all)).length _ _ hs.toSub (hs.blk (i := 0) rfl) (hs.mem b _ true (List.mem_cons_self ..)).2.1 hvb3 (by omega) (by omega)) rfl rfl ?_)
      clear hs; rintro _ H M' w hs hle1 hnew ⟨r2, vb4, rfl, hr2, rfl, hvb4⟩; replace hle := hle.trans hle1; (try replace hlb := hlb.trans hle1)
      rw [List.take_length] at hr2
      replace hr := hr.mono hle1
      refine WO.step rfl (OR.move rfl (WO.step rfl (OR.extract rfl rfl (WO.step rfl (OR.extract rfl rfl (WO.step rfl (OR.assign rfl ?_)))))))
      refine WO.step rfl (OR.assign rfl (WO.done (WX.seq (WC.seq (WC.seq (WC.region (WO.step rfl ?_)))))))
      refine OR.move rfl ?_
      refine WO.step rfl (OR.call hs body160 rfl rfl (containsB_ok _ ((all.drop 4).drop (padN all)) (fun x => decide (x ≠ 0)) 161 [] _ _ hs.toSub hr2 (by omega) body161 (fun x H w _ hH => ptake2_ok x H w hH)) ?_)
      clear hs; rintro _ H w hs hle1 rfl; replace hle := hle.trans hle1; (try replace hlb := hlb.trans hle1)
      replace hr := hr.mono hle1
      obtain ⟨b9, c9, rfl⟩ := hr.form
      rw [show idxFrom (fun x => decide (x ≠ 0)) ((all.drop 4).drop (padN all)) 0 = lead ((all.drop 4).drop (padN all)) from rfl]
      refine WO.done (WX.seq ?_)
      refine WC.condD rfl (fun hz => ?_) (fun hz => ?_)
      · refine WC.seq (WC.region (WO.step rfl (OR.assign rfl (WO.step rfl (OR.assign rfl (WO.done (WX.seq ?_)))))))
        refine WC.ret (WX.seq_ret ?_)
        refine WX.ret2 rfl rfl rfl ?_
        have hno : ¬ padOk (g * s - 4) all := fun h => by have := h.2.2; omega
        refine .mk (hs.drop 0) ⟨.slice none 0 0, ?_, by rw [padF, if_neg hno]; exact Sl.empty _ _ _⟩
        rw [padE, if_neg hno]
      · refine WC.skip (WX.seq (WC.seq (WC.region (WO.step rfl (OR.move rfl (WO.step rfl (OR.assign rfl ?_)))))))
        refine WO.step rfl (OR.assign rfl (WO.done (WX.seq (WC.ret ?_))))
        refine WX.ret2 rfl rfl rfl ?_
        have hyes : padOk (g * s - 4) all := ⟨h1, h2, by omega⟩
        refine .mk (hs.drop 0) ⟨_, ?_, by rw [padF, if_pos hyes]; exact hr⟩
        rw [padE, if_pos hyes]
    · skip
      refine WO.guardYes rfl (decide_eq_false (by omega : ¬ (padN all : Int) < 1)) rfl rfl (OR.gtr rfl rfl (WO.step rfl (OR.pickF rfl (decide_eq_false (by omega : ¬ (padN all : Int) < 1)) rfl (WO.done (WX.seq ?_)))))
      refine WC.yes rfl (decide_eq_true (by omega)) ?_
      refine WC.seq (WC.region (WO.step rfl (OR.assign rfl (WO.step rfl (OR.assign rfl (WO.done (WX.seq ?_)))))))
      refine WC.ret (WX.seq_ret ?_)
      refine WX.ret2 rfl rfl rfl ?_
      have hno : ¬ padOk (g * s - 4) all := fun h => h2 h.2.1
      refine .mk (hs.drop 0) ⟨.slice none 0 0, ?_, by rw [padF, if_neg hno]; exact Sl.empty _ _ _⟩
      rw [padE, if_neg hno]
  · skip
    refine WO.step rfl (OR.move rfl (WO.step rfl (OR.extract rfl rfl (WO.step rfl (OR.extract rfl rfl (WO.step rfl (OR.assign rfl ?_)))))))
    refine WO.step rfl (OR.assign rfl (WO.done (WX.seq (WC.seq (WC.seq (WC.region (WO.step rfl ?_)))))))
    refine OR.move rfl (WO.step rfl (OR.lss rfl rfl (WO.step rfl (OR.move rfl ?_))))
    refine WO.guardNo rfl (decide_eq_true (by omega : (padN all : Int) < 1)) rfl rfl (WO.guardNo rfl (decide_eq_true (by omega : (padN all : Int) < 1)) rfl rfl (WO.guardNo rfl (decide_eq_true (by omega : (padN all : Int) < 1)) rfl rfl (WO.guardNo rfl (decide_eq_true (by omega : (padN all : Int) < 1)) rfl rfl (WO.step rfl (OR.pickT rfl (decide_eq_true (by omega : (padN all : Int) < 1)) rfl (WO.done (WX.seq ?_)))))))
    refine WC.yes rfl rfl (WC.seq (WC.region (WO.step rfl (OR.assign rfl (WO.step rfl (OR.assign rfl (WO.done ?_)))))))
    refine WX.seq (WC.ret (WX.seq_ret ?_))
    refine WX.ret2 rfl rfl rfl ?_
    have hno : ¬ padOk (g * s - 4) all := fun h => h1 h.1
    refine .mk (hs.drop 0) ⟨.slice none 0 0, ?_, by rw [padF, if_neg hno]; exact Sl.empty _ _ _⟩
    rw [padE, if_neg hno]
end Go.Bw
