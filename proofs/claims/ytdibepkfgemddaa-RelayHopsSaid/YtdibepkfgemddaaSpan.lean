/- Bases as lists of rows: plain laws. -/
import Derived.Test.YtdibepkfgemddaaLaid
import Derived.Test.YtdibepkfgemddaaGf
import Derived.Test.YtdibepkfgemddaaOps4
namespace Go.Bw
set_option linter.unusedVariables false
set_option linter.unusedSimpArgs false

theorem addS_getD (c : UInt8) (a b : List UInt8) (h : a.length = b.length) (j : Nat) : (addS c a b).getD j 0 = a.getD j 0 ^^^ mul (b.getD j 0) c := by
  rw [addS, eachR, if_pos h]
  simp only [List.getD_eq_getElem?_getD, List.getElem?_zipWith]
  by_cases hj : j < a.length
  · have hb : j < b.length := by omega
    simp [hj, hb]
  · have hb : ¬ j < b.length := by omega
    simp [hj, hb, zero_mul]

/-- A place in a row: in its coefficients, or in its payload. -/
abbrev Pl := Nat ⊕ Nat
def ent (r : RowD) : Pl → UInt8
  | .inl j => r.1.getD j 0
  | .inr j => r.2.getD j 0
theorem list_ext {a b : List UInt8} (hl : a.length = b.length) (h : ∀ j, a.getD j 0 = b.getD j 0) : a = b := by
  apply List.ext_getElem hl
  intro i h1 h2
  have := h i
  simpa [h1, h2] using this
theorem row_ext {g s : Nat} {r x : RowD} (hr : RowGS g s r) (hx : RowGS g s x) (h : ∀ i, ent r i = ent x i) : r = x :=
  Prod.ext (list_ext (hr.1.trans hx.1.symm) fun j => h (.inl j)) (list_ext (hr.2.trans hx.2.symm) fun j => h (.inr j))
theorem plus_ent {g s : Nat} {r x : RowD} (hr : RowGS g s r) (hx : RowGS g s x) (c : UInt8) (i : Pl) : ent (plusR r x c) i = ent r i ^^^ mul (ent x i) c := by
  cases i with
  | inl j => exact addS_getD c r.1 x.1 (hr.1.trans hx.1.symm) j
  | inr j => exact addS_getD c r.2 x.2 (hr.2.trans hx.2.symm) j

/-- Sums. -/
def S (rows : List RowD) (cf : RowD → UInt8) (i : Pl) : UInt8 :=
  match rows with
  | [] => 0
  | x :: rows => mul (ent x i) (cf x) ^^^ S rows cf i
theorem S_congr : ∀ (rows : List RowD) (f k : RowD → UInt8) (i : Pl), (∀ x ∈ rows, f x = k x) → S rows f i = S rows k i
  | [], _, _, _, _ => rfl
  | x :: rows, f, k, i, h => by rw [S, S, h x (by simp), S_congr rows f k i (fun y hy => h y (by simp [hy]))]
theorem S_xor : ∀ (rows : List RowD) (f k : RowD → UInt8) (i : Pl), S rows (fun x => f x ^^^ k x) i = S rows f i ^^^ S rows k i
  | [], _, _, _ => by simp only [S]; rfl
  | x :: rows, f, k, i => by rw [S, S, S, S_xor rows f k i, mul_xor, xor4]
theorem S_mul : ∀ (rows : List RowD) (f : RowD → UInt8) (c : UInt8) (i : Pl), S rows (fun x => mul (f x) c) i = mul (S rows f i) c
  | [], _, c, _ => by rw [S, S, zero_mul]
  | x :: rows, f, c, i => by rw [S, S, S_mul rows f c i, xor_mul, mul_assoc]
theorem S_zero : ∀ (rows : List RowD) (f : RowD → UInt8) (i : Pl), (∀ x ∈ rows, f x = 0 ∨ ent x i = 0) → S rows f i = 0
  | [], _, _, _ => rfl
  | x :: rows, f, i, h => by
    rw [S, S_zero rows f i (fun y hy => h y (by simp [hy])), xor_zero8, mul_eq_zero]
    rcases h x (by simp) with h1 | h1
    · exact .inr h1
    · exact .inl h1
theorem S_app : ∀ (a b : List RowD) (f : RowD → UInt8) (i : Pl), S (a ++ b) f i = S a f i ^^^ S b f i
  | [], b, f, i => by rw [List.nil_append, S, zero_xor8]
  | x :: a, b, f, i => by rw [List.cons_append, S, S, S_app a b f i, xor_assoc8]
/-- Rows added one behind the other. -/
theorem fold_gs {g s : Nat} : ∀ (rows : List RowD) (cf : RowD → UInt8) (r : RowD), RowGS g s r → (∀ x ∈ rows, RowGS g s x) → RowGS g s (rows.foldl (fun a x => plusR a x (cf x)) r)
  | [], _, r, h, _ => h
  | x :: rows, cf, r, h, hx => fold_gs rows cf _ (plusR_gs h (hx x (by simp)) _) (fun y hy => hx y (by simp [hy]))
theorem fold_ent {g s : Nat} : ∀ (rows : List RowD) (cf : RowD → UInt8) (r : RowD), RowGS g s r → (∀ x ∈ rows, RowGS g s x) → ∀ i, ent (rows.foldl (fun a x => plusR a x (cf x)) r) i = ent r i ^^^ S rows cf i
  | [], _, r, h, _, i => by rw [S, xor_zero8]; rfl
  | x :: rows, cf, r, h, hx, i => by
    rw [List.foldl_cons, fold_ent rows cf _ (plusR_gs h (hx x (by simp)) _) (fun y hy => hx y (by simp [hy])), plus_ent h (hx x (by simp)), S, xor_assoc8]

/-- The place of a row's lead. -/
def ldp (x : RowD) : Nat := (lead x.1).toNat
/-- A basis in reduced form. -/
structure Red (g s : Nat) (rows : List RowD) : Prop where
  gs : ∀ x ∈ rows, RowGS g s x
  ld : ∀ x ∈ rows, 0 ≤ lead x.1
  asc : rows.Pairwise fun x y => lead x.1 < lead y.1
  one : ∀ x ∈ rows, ent x (.inl (ldp x)) = 1
  zero : ∀ x ∈ rows, ∀ y ∈ rows, lead y.1 ≠ lead x.1 → ent y (.inl (ldp x)) = 0

theorem Red.nil (g s : Nat) : Red g s [] := ⟨by simp, by simp, List.Pairwise.nil, by simp, by simp⟩
theorem Red.inj {g s : Nat} {rows : List RowD} (h : Red g s rows) {x y : RowD} (hx : x ∈ rows) (hy : y ∈ rows) (e : lead x.1 = lead y.1) : x = y := by
  have key : ∀ l : List RowD, l.Pairwise (fun x y => lead x.1 < lead y.1) → ∀ x ∈ l, ∀ y ∈ l, lead x.1 = lead y.1 → x = y := by
    intro l hl
    induction hl with
    | nil => intro x hx; cases hx
    | cons hz _ ih =>
      intro x hx y hy e
      rcases List.mem_cons.1 hx with h1 | h1 <;> rcases List.mem_cons.1 hy with h2 | h2
      · rw [h1, h2]
      · have := hz y h2; rw [← h1] at this; omega
      · have := hz x h1; rw [← h2] at this; omega
      · exact ih x h1 y h2 e
  exact key rows h.asc x hx y hy e
theorem Red.ldp_ne {g s : Nat} {rows : List RowD} (h : Red g s rows) {x y : RowD} (hx : x ∈ rows) (hy : y ∈ rows) (e : lead x.1 ≠ lead y.1) : ldp x ≠ ldp y := by
  have h1 := h.ld x hx
  have h2 := h.ld y hy
  unfold ldp
  omega
theorem Red.S_at {g s : Nat} {rows : List RowD} (h : Red g s rows) (cf : RowD → UInt8) {x : RowD} (hx : x ∈ rows) : S rows cf (.inl (ldp x)) = cf x := by
  obtain ⟨a, b, rfl⟩ := List.append_of_mem hx
  have hp := List.pairwise_append.1 h.asc
  have hpc := List.pairwise_cons.1 hp.2.1
  rw [S_app, S, h.one x hx, one_mul, S_zero a, S_zero b, zero_xor8, xor_zero8]
  · intro y hy
    exact .inr (h.zero x hx y (by simp [hy]) (by have := hpc.1 y hy; omega))
  · intro y hy
    exact .inr (h.zero x hx y (by simp [hy]) (by have := hp.2.2 y hy x (by simp); omega))

theorem stepR_eq (r x : RowD) : stepR r x = plusR r x (ent r (.inl (ldp x))) := rfl
theorem redR_fold {g s : Nat} {rows : List RowD} (h : Red g s rows) (r : RowD) (hr : RowGS g s r) : redR rows r = rows.foldl (fun a x => plusR a x (ent r (.inl (ldp x)))) r := by
  have key : ∀ (l : List RowD) (acc : RowD), (∀ x ∈ l, x ∈ rows) → l.Pairwise (fun x y => lead x.1 < lead y.1) → RowGS g s acc → (∀ x ∈ l, ent acc (.inl (ldp x)) = ent r (.inl (ldp x))) →
      l.foldl stepR acc = l.foldl (fun a x => plusR a x (ent r (.inl (ldp x)))) acc := by
    intro l
    induction l with
    | nil => intro acc _ _ _ _; rfl
    | cons x l ih =>
      intro acc hm hp hg he
      have hpc := List.pairwise_cons.1 hp
      have hxg := h.gs x (hm x (by simp))
      rw [List.foldl_cons, List.foldl_cons, stepR_eq, he x (by simp)]
      refine ih _ (fun y hy => hm y (by simp [hy])) hpc.2 (plusR_gs hg hxg _) (fun y hy => ?_)
      rw [plus_ent hg hxg, h.zero y (hm y (by simp [hy])) x (hm x (by simp)) (by have := hpc.1 y hy; omega), zero_mul, xor_zero8]
      exact he y (by simp [hy])
  exact key rows r (fun _ hx => hx) h.asc hr (fun _ _ => rfl)
theorem redR_ent {g s : Nat} {rows : List RowD} (h : Red g s rows) (r : RowD) (hr : RowGS g s r) (i : Pl) : ent (redR rows r) i = ent r i ^^^ S rows (fun x => ent r (.inl (ldp x))) i := by
  rw [redR_fold h r hr]
  exact fold_ent rows (fun x => ent r (.inl (ldp x))) r hr h.gs i
theorem redR_at {g s : Nat} {rows : List RowD} (h : Red g s rows) (r : RowD) (hr : RowGS g s r) {x : RowD} (hx : x ∈ rows) : ent (redR rows r) (.inl (ldp x)) = 0 := by
  rw [redR_ent h r hr, h.S_at _ hx, xor_self8]

theorem lead_of {l : List UInt8} {i : Nat} (h1 : l.getD i 0 ≠ 0) (h2 : ∀ j, j < i → l.getD j 0 = 0) : lead l = (i : Int) := by
  have hi : i < l.length := by
    rcases Nat.lt_or_ge i l.length with h | h
    · exact h
    · exact absurd (by rw [List.getD_eq_getElem?_getD, List.getElem?_eq_none h]; rfl) h1
  have hf : l.findIdx? (fun x => decide (x ≠ 0)) = some i := by
    rw [List.findIdx?_eq_some_iff_getElem]
    refine ⟨hi, by simpa [hi] using h1, fun j hj => ?_⟩
    have := h2 j hj
    have hjl : j < l.length := by omega
    simpa [hjl] using this
  unfold lead idxFrom
  rw [List.drop_zero, hf]
  simp
theorem lead_none {l : List UInt8} : lead l < 0 ↔ ∀ j, l.getD j 0 = 0 := by
  constructor
  · intro h j
    have hf : l.findIdx? (fun x => decide (x ≠ 0)) = none := by
      unfold lead idxFrom at h
      rw [List.drop_zero] at h
      cases hf : l.findIdx? (fun x => decide (x ≠ 0)) with
      | none => rfl
      | some k => rw [hf] at h; simp only at h; omega
    rw [List.findIdx?_eq_none_iff] at hf
    by_cases hj : j < l.length
    · have := hf l[j] (List.getElem_mem _)
      simpa [hj] using this
    · rw [List.getD_eq_getElem?_getD, List.getElem?_eq_none (by omega)]; rfl
  · intro h
    rcases Int.lt_or_le (lead l) 0 with h1 | h1
    · exact h1
    · obtain ⟨i, hi⟩ := Int.eq_ofNat_of_zero_le h1
      obtain ⟨h2, h3, _⟩ := lead_some hi
      have := h i
      simp [h2] at this
      exact absurd this h3
theorem lead_ent {x : RowD} (h : 0 ≤ lead x.1) : ent x (.inl (ldp x)) ≠ 0 ∧ ∀ j, j < ldp x → ent x (.inl j) = 0 := by
  obtain ⟨i, hi⟩ := Int.eq_ofNat_of_zero_le h
  obtain ⟨h2, h3, h4⟩ := lead_some hi
  have e : ldp x = i := by unfold ldp; omega
  rw [e]
  refine ⟨by simpa [ent, h2] using h3, fun j hj => ?_⟩
  have h5 : j < x.1.length := by omega
  simpa [ent, h5] using h4 j hj
theorem lead_lt_of {x : RowD} (h : 0 ≤ lead x.1) : (ldp x : Int) = lead x.1 := by unfold ldp; omega

theorem map_getD (l : List UInt8) (f : UInt8 → UInt8) (h : f 0 = 0) (j : Nat) : (l.map f).getD j 0 = f (l.getD j 0) := by
  simp only [List.getD_eq_getElem?_getD, List.getElem?_map]
  cases l[j]? <;> simp [h]
theorem norm_ent (q : RowD) (i : Pl) : ent (normR q) i = mul (ent q i) (inv (ent q (.inl (ldp q)))) := by
  cases i with
  | inl j => exact map_getD q.1 (fun x => mul x (inv (ent q (.inl (ldp q))))) (zero_mul _) j
  | inr j => exact map_getD q.2 (fun x => mul x (inv (ent q (.inl (ldp q))))) (zero_mul _) j
theorem norm_gs {g s : Nat} {q : RowD} (h : RowGS g s q) : RowGS g s (normR q) := ⟨by simpa [normR] using h.1, by simpa [normR] using h.2⟩
theorem norm_lead {q : RowD} (h : 0 ≤ lead q.1) : lead (normR q).1 = lead q.1 ∧ ent (normR q) (.inl (ldp q)) = 1 := by
  obtain ⟨h1, h2⟩ := lead_ent h
  have e1 : ent (normR q) (.inl (ldp q)) = 1 := by rw [norm_ent, mul_inv _ h1]
  refine ⟨?_, e1⟩
  rw [← lead_lt_of h]
  refine lead_of (l := (normR q).1) ?_ ?_
  · show ent (normR q) (.inl (ldp q)) ≠ 0
    rw [e1]; decide
  · intro j hj
    show ent (normR q) (.inl j) = 0
    rw [norm_ent, h2 j hj, zero_mul]

section
variable {g s : Nat} {rows : List RowD} {q : RowD}
/-- A new row's place is free. -/
theorem free_ent (h : Red g s rows) (hq : RowGS g s q) {x : RowD} (hx : x ∈ rows) (i : Pl) : ent (freeR q x) i = ent x i ^^^ mul (ent (normR q) i) (ent x (.inl (ldp q))) := plus_ent (h.gs x hx) (norm_gs hq) _ i
theorem free_lead (h : Red g s rows) (hq : RowGS g s q) (hld : 0 ≤ lead q.1) (h0 : ∀ x ∈ rows, ent q (.inl (ldp x)) = 0) {x : RowD} (hx : x ∈ rows) : lead (freeR q x).1 = lead x.1 := by
  have hxl := h.ld x hx
  obtain ⟨h1, h2⟩ := lead_ent hxl
  obtain ⟨h3, h4⟩ := lead_ent hld
  rw [← lead_lt_of hxl]
  refine lead_of (l := (freeR q x).1) ?_ ?_
  · show ent (freeR q x) (.inl (ldp x)) ≠ 0
    rw [free_ent h hq hx, norm_ent, h0 x hx, zero_mul, zero_mul, xor_zero8]
    exact h1
  · intro j hj
    show ent (freeR q x) (.inl j) = 0
    rw [free_ent h hq hx, h2 j hj, zero_xor8, mul_eq_zero]
    by_cases hj2 : j < ldp q
    · left; rw [norm_ent, h4 j hj2, zero_mul]
    · right; exact h2 _ (by omega)
theorem lead_ne (h : Red g s rows) (hld : 0 ≤ lead q.1) (h0 : ∀ x ∈ rows, ent q (.inl (ldp x)) = 0) {x : RowD} (hx : x ∈ rows) : lead x.1 ≠ lead q.1 := by
  intro e
  obtain ⟨h3, _⟩ := lead_ent hld
  have := h0 x hx
  unfold ldp at this h3
  rw [e] at this
  exact h3 this
theorem ins_perm {α : Type} (l : List α) (i : Nat) (x : α) : (insAt l i x).Perm (x :: l) := by
  unfold insAt
  have h : (l.take i ++ [x] ++ l.drop i).Perm (x :: (l.take i ++ l.drop i)) := by
    rw [List.append_assoc, List.singleton_append]
    exact List.perm_middle
  rwa [List.take_append_drop] at h
theorem mem_ins {α : Type} {l : List α} {i : Nat} {x y : α} : y ∈ insAt l i x ↔ y = x ∨ y ∈ l := by
  rw [(ins_perm l i x).mem_iff, List.mem_cons]
theorem place_split : ∀ (rows : List RowD) (L : Int), rows.Pairwise (fun x y => lead x.1 < lead y.1) → (∀ x ∈ rows, lead x.1 ≠ L) → (∀ x ∈ rows.take (placeOf rows L), lead x.1 < L) ∧ ∀ x ∈ rows.drop (placeOf rows L), L < lead x.1
  | [], _, _, _ => by simp [placeOf]
  | x :: rows, L, hp, hne => by
    have hpc := List.pairwise_cons.1 hp
    unfold placeOf
    split
    · rename_i hgt
      refine ⟨by simp, fun y hy => ?_⟩
      rw [List.drop_zero] at hy
      rcases List.mem_cons.1 hy with h1 | h1
      · rw [h1]; omega
      · have := hpc.1 y h1; omega
    · rename_i hgt
      obtain ⟨h1, h2⟩ := place_split rows L hpc.2 (fun y hy => hne y (by simp [hy]))
      refine ⟨fun y hy => ?_, fun y hy => h2 y (by simpa using hy)⟩
      rw [List.take_succ_cons] at hy
      rcases List.mem_cons.1 hy with h3 | h3
      · rw [h3]; have := hne x (by simp); omega
      · exact h1 y h3

/-- The basis with a new row is reduced. -/
theorem Red.ins (h : Red g s rows) (hq : RowGS g s q) (hld : 0 ≤ lead q.1) (h0 : ∀ x ∈ rows, ent q (.inl (ldp x)) = 0) :
    Red g s (insAt (rows.map (freeR q)) (placeOf rows (lead q.1)) (normR q)) := by
  have hn := norm_lead hld
  have hldp : ldp (normR q) = ldp q := by unfold ldp; rw [hn.1]
  have hfl : ∀ x ∈ rows, lead (freeR q x).1 = lead x.1 := fun x hx => free_lead h hq hld h0 hx
  have hfp : ∀ x ∈ rows, ldp (freeR q x) = ldp x := fun x hx => by unfold ldp; rw [hfl x hx]
  have hmem : ∀ y, y ∈ insAt (rows.map (freeR q)) (placeOf rows (lead q.1)) (normR q) → y = normR q ∨ ∃ x ∈ rows, y = freeR q x := by
    intro y hy
    rcases mem_ins.1 hy with h1 | h1
    · exact .inl h1
    · obtain ⟨x, hx, e⟩ := List.mem_map.1 h1
      exact .inr ⟨x, hx, e.symm⟩
  have hsp := place_split rows (lead q.1) h.asc (fun x hx => lead_ne h hld h0 hx)
  refine ⟨?_, ?_, ?_, ?_, ?_⟩
  · intro y hy
    rcases hmem y hy with rfl | ⟨x, hx, rfl⟩
    · exact norm_gs hq
    · exact plusR_gs (h.gs x hx) (norm_gs hq) _
  · intro y hy
    rcases hmem y hy with rfl | ⟨x, hx, rfl⟩
    · rw [hn.1]; exact hld
    · rw [hfl x hx]; exact h.ld x hx
  · unfold insAt
    have hm : (rows.map (freeR q)).Pairwise (fun x y => lead x.1 < lead y.1) := by
      rw [List.pairwise_map]
      exact h.asc.imp_of_mem fun ha hb hab => by rw [hfl _ ha, hfl _ hb]; exact hab
    rw [List.append_assoc, List.pairwise_append]
    refine ⟨hm.sublist (List.take_sublist _ _), ?_, ?_⟩
    · rw [List.singleton_append, List.pairwise_cons]
      refine ⟨fun y hy => ?_, hm.sublist (List.drop_sublist _ _)⟩
      rw [← List.map_drop] at hy
      obtain ⟨x, hx, rfl⟩ := List.mem_map.1 hy
      rw [hn.1, hfl x (List.mem_of_mem_drop hx)]
      exact hsp.2 x hx
    · intro y hy z hz
      rw [← List.map_take] at hy
      obtain ⟨x, hx, rfl⟩ := List.mem_map.1 hy
      have hx' := List.mem_of_mem_take hx
      rw [hfl x hx']
      rcases List.mem_append.1 hz with h1 | h1
      · rw [List.mem_singleton.1 h1, hn.1]; exact hsp.1 x hx
      · rw [← List.map_drop] at h1
        obtain ⟨x2, hx2, rfl⟩ := List.mem_map.1 h1
        rw [hfl x2 (List.mem_of_mem_drop hx2)]
        have := hsp.1 x hx
        have := hsp.2 x2 hx2
        omega
  · intro y hy
    rcases hmem y hy with rfl | ⟨x, hx, rfl⟩
    · rw [hldp]; exact hn.2
    · rw [hfp x hx, free_ent h hq hx, norm_ent, h0 x hx, zero_mul, zero_mul, xor_zero8]
      exact h.one x hx
  · intro y hy z hz hne
    rcases hmem y hy with rfl | ⟨x, hx, rfl⟩ <;> rcases hmem z hz with rfl | ⟨x2, hx2, rfl⟩
    · exact absurd rfl hne
    · rw [hldp, free_ent h hq hx2, hn.2, one_mul, xor_self8]
    · rw [hfp x hx, norm_ent, h0 x hx, zero_mul]
    · rw [hfp x hx, free_ent h hq hx2, norm_ent, h0 x hx, zero_mul, zero_mul, xor_zero8]
      exact h.zero x hx x2 hx2 (by rwa [hfl x hx, hfl x2 hx2] at hne)

theorem S_perm {a b : List RowD} (h : a.Perm b) (f : RowD → UInt8) (i : Pl) : S a f i = S b f i := by
  induction h with
  | nil => rfl
  | cons x _ ih => rw [S, S, ih]
  | swap x y l => rw [S, S, S, S, ← xor_assoc8, ← xor_assoc8, xor_comm8 (mul (ent y i) (f y))]
  | trans _ _ h1 h2 => exact h1.trans h2
theorem S_free (h : Red g s rows) (hq : RowGS g s q) (f : RowD → UInt8) (i : Pl) : ∀ l : List RowD, (∀ x ∈ l, x ∈ rows) →
    S (l.map (freeR q)) f i = S l (fun x => f (freeR q x)) i ^^^ mul (ent (normR q) i) (S l (fun x => f (freeR q x)) (.inl (ldp q)))
  | [], _ => by simp only [List.map_nil, S]; rw [mul_zero]; rfl
  | x :: l, hm => by
    rw [List.map_cons, S, S, S, S_free h hq f i l (fun y hy => hm y (by simp [hy])), free_ent h hq (hm x (by simp)), xor_mul, mul_xor, mul_assoc, xor4]
/-- A sum over the basis with a new row. -/
theorem S_ins (h : Red g s rows) (hq : RowGS g s q) (hld : 0 ≤ lead q.1) (h0 : ∀ x ∈ rows, ent q (.inl (ldp x)) = 0) (v : RowD) (hv : RowGS g s v) (i : Pl) :
    S (insAt (rows.map (freeR q)) (placeOf rows (lead q.1)) (normR q)) (fun x => ent v (.inl (ldp x))) i = mul (ent (normR q) i) (ent (redR rows v) (.inl (ldp q))) ^^^ S rows (fun x => ent v (.inl (ldp x))) i := by
  have hldp : ldp (normR q) = ldp q := by unfold ldp; rw [(norm_lead hld).1]
  rw [S_perm (ins_perm _ _ _), S, S_free h hq _ i rows (fun _ hx => hx), hldp]
  have e : ∀ j, S rows (fun x => ent v (.inl (ldp (freeR q x)))) j = S rows (fun x => ent v (.inl (ldp x))) j := fun j => S_congr _ _ _ _ fun x hx => by
    have : ldp (freeR q x) = ldp x := by unfold ldp; rw [free_lead h hq hld h0 hx]
    rw [this]
  rw [e, e, redR_ent h v hv, mul_xor, xor_comm8 (S rows _ i), ← xor_assoc8]
/-- A row is a sum of the basis's, at the places of A. -/
def InS (rows : List RowD) (A : Pl → Prop) (v : RowD) : Prop := ∀ i, A i → ent v i = S rows (fun x => ent v (.inl (ldp x))) i
theorem InS.ins (h : Red g s rows) (hq : RowGS g s q) (hld : 0 ≤ lead q.1) (h0 : ∀ x ∈ rows, ent q (.inl (ldp x)) = 0) {A : Pl → Prop} (hA : ∀ j, A (.inl j)) {v : RowD} (hv : RowGS g s v) (hin : InS rows A v) :
    InS (insAt (rows.map (freeR q)) (placeOf rows (lead q.1)) (normR q)) A v := by
  intro i hi
  rw [S_ins h hq hld h0 v hv, redR_ent h v hv, ← hin _ (hA _), xor_self8, mul_zero, zero_xor8]
  exact hin i hi
theorem InS.new (h : Red g s rows) {r : RowD} (hr : RowGS g s r) (hld : 0 ≤ lead (redR rows r).1) (A : Pl → Prop) :
    InS (insAt (rows.map (freeR (redR rows r))) (placeOf rows (lead (redR rows r).1)) (normR (redR rows r))) A r := by
  intro i _
  have hq := redR_gs rows r hr h.gs
  rw [S_ins h hq hld (fun x hx => redR_at h r hr hx) r hr, norm_ent, mul_assoc, mul_comm (inv _), mul_inv _ (lead_ent hld).1, mul_one, redR_ent h r hr, xor_cancel]
theorem InS.red (h : Red g s rows) {v : RowD} (hv : RowGS g s v) {A : Pl → Prop} : InS rows A v ↔ ∀ i, A i → ent (redR rows v) i = 0 := by
  constructor
  · intro hin i hi
    rw [redR_ent h v hv, ← hin i hi, xor_self8]
  · intro h0 i hi
    have := h0 i hi
    rw [redR_ent h v hv] at this
    have h2 : ent v i ^^^ S rows (fun x => ent v (.inl (ldp x))) i ^^^ S rows (fun x => ent v (.inl (ldp x))) i = 0 ^^^ S rows (fun x => ent v (.inl (ldp x))) i := by rw [this]
    rwa [xor_cancel, zero_xor8] at h2
end

end Go.Bw
