/- Bases as lists of rows: plain laws. -/
import Derived.Test.YtdibepkfgemddaaGreatLaid
import Derived.Test.YtdibepkfgemddaaGreatGf
import Derived.Test.YtdibepkfgemddaaGreatOps4
namespace Go.Bw
set_option linter.unusedVariables false
set_option linter.unusedSimpArgs false

theorem addS_getD (c : UInt8) (a b : List UInt8) (h : a.length = b.length) (j : Nat) : (addS c a b).getD j 0 = a.getD j 0 ^^^ mul (b.getD j 0) c := by
  rw [addS, eachR, if_pos h]
  simp only [List.getD_eq_getElem?_getD, List.getElem?_zipWith]
  by_cases hj : j < a.length
  · have hb : j < b.length := by omega
    simp [hj, hb]
  · have hb : ¬ j < b.length := by omega
    simp [hj, hb, zero_mul]

/-- A place in a row: in its coefficients, or in its payload. -/
abbrev Pl := Nat ⊕ Nat
def ent (r : RowD) : Pl → UInt8
  | .inl j => r.1.getD j 0
  | .inr j => r.2.getD j 0
theorem list_ext {a b : List UInt8} (hl : a.length = b.length) (h : ∀ j, a.getD j 0 = b.getD j 0) : a = b := by
  apply List.ext_getElem hl
  intro i h1 h2
  have := h i
  simpa [h1, h2] using this
theorem row_ext {g s : Nat} {r x : RowD} (hr : RowGS g s r) (hx : RowGS g s x) (h : ∀ i, ent r i = ent x i) : r = x :=
  Prod.ext (list_ext (hr.1.trans hx.1.symm) fun j => h (.inl j)) (list_ext (hr.2.trans hx.2.symm) fun j => h (.inr j))
theorem plus_ent {g s : Nat} {r x : RowD} (hr : RowGS g s r) (hx : RowGS g s x) (c : UInt8) (i : Pl) : ent (plusR r x c) i = ent r i ^^^ mul (ent x i) c := by
  cases i with
  | inl j => exact addS_getD c r.1 x.1 (hr.1.trans hx.1.symm) j
  | inr j => exact addS_getD c r.2 x.2 (hr.2.trans hx.2.symm) j

/-- Sums. -/
def S (rows : List RowD) (cf : RowD → UInt8) (i : Pl) : UInt8 :=
  match rows with
  | [] => 0
  | x :: rows => mul (ent x i) (cf x) ^^^ S rows cf i
theorem S_congr : ∀ (rows : List RowD) (f k : RowD → UInt8) (i : Pl), (∀ x ∈ rows, f x = k x) → S rows f i = S rows k i
  | [], _, _, _, _ => rfl
  | x :: rows, f, k, i, h => by rw [S, S, h x (by simp), S_congr rows f k i (fun y hy => h y (by simp [hy]))]
theorem S_xor : ∀ (rows : List RowD) (f k : RowD → UInt8) (i : Pl), S rows (fun x => f x ^^^ k x) i = S rows f i ^^^ S rows k i
  | [], _, _, _ => by simp only [S]; rfl
  | x :: rows, f, k, i => by rw [S, S, S, S_xor rows f k i, mul_xor, xor4]
theorem S_mul : ∀ (rows : List RowD) (f : RowD → UInt8) (c : UInt8) (i : Pl), S rows (fun x => mul (f x) c) i = mul (S rows f i) c
  | [], _, c, _ => by rw [S, S, zero_mul]
  | x :: rows, f, c, i => by rw [S, S, S_mul rows f c i, xor_mul, mul_assoc]
theorem S_zero : ∀ (rows : List RowD) (f : RowD → UInt8) (i : Pl), (∀ x ∈ rows, f x = 0 ∨ ent x i = 0) → S rows f i = 0
  | [], _, _, _ => rfl
  | x :: rows, f, i, h => by
    rw [S, S_zero rows f i (fun y hy => h y (by simp [hy])), xor_zero8, mul_eq_zero]
    rcases h x (by simp) with h1 | h1
    · exact .inr h1
    · exact .inl h1
theorem S_app : ∀ (a b : List RowD) (f : RowD → UInt8) (i : Pl), S (a ++ b) f i = S a f i ^^^ S b f i
  | [], b, f, i => by rw [List.nil_append, S, zero_xor8]
  | x :: a, b, f, i => by rw [List.cons_append, S, S, S_app a b f i, xor_assoc8]
/-- Rows added one behind the other. -/
theorem fold_gs {g s : Nat} : ∀ (rows : List RowD) (cf : RowD → UInt8) (r : RowD), RowGS g s r → (∀ x ∈ rows, RowGS g s x) → RowGS g s (rows.foldl (fun a x => plusR a x (cf x)) r)
  | [], _, r, h, _ => h
  | x :: rows, cf, r, h, hx => fold_gs rows cf _ (plusR_gs h (hx x (by simp)) _) (fun y hy => hx y (by simp [hy]))
theorem fold_ent {g s : Nat} : ∀ (rows : List RowD) (cf : RowD → UInt8) (r : RowD), RowGS g s r → (∀ x ∈ rows, RowGS g s x) → ∀ i, ent (rows.foldl (fun a x => plusR a x (cf x)) r) i = ent r i ^^^ S rows cf i
  | [], _, r, h, _, i => by rw [S, xor_zero8]; rfl
  | x :: rows, cf, r, h, hx, i => by
    rw [List.foldl_cons, fold_ent rows cf _ (plusR_gs h (hx x (by simp)) _) (fun y hy => hx y (by simp [hy])), plus_ent h (hx x (by simp)), S, xor_assoc8]

/-- The place of a row's lead. -/
def ldp (x : RowD) : Nat := (lead x.1).toNat
/-- A basis in reduced form. -/
structure Red (g s : Nat) (rows : List RowD) : Prop where
  gs : ∀ x ∈ rows, RowGS g s x
  ld : ∀ x ∈ rows, 0 ≤ lead x.1
  asc : rows.Pairwise fun x y => lead x.1 < lead y.1
  one : ∀ x ∈ rows, ent x (.inl (ldp x)) = 1
  zero : ∀ x ∈ rows, ∀ y ∈ rows, lead y.1 ≠ lead x.1 → ent y (.inl (ldp x)) = 0

theorem Red.nil (g s : Nat) : Red g s [] := ⟨by simp, by simp, List.Pairwise.nil, by simp, by simp⟩
theorem Red.inj {g s : Nat} {rows : List RowD} (h : Red g s rows) {x y : RowD} (hx : x ∈ rows) (hy : y ∈ rows) (e : lead x.1 = lead y.1) : x = y := by
  have key : ∀ l : List RowD, l.Pairwise (fun x y => lead x.1 < lead y.1) → ∀ x ∈ l, ∀ y ∈ l, lead x.1 = lead y.1 → x = y := by
    intro l hl
    induction hl with
    | nil => intro x hx; cases hx
    | cons hz _ ih =>
      intro x hx y hy e
      rcases List.mem_cons.1 hx with h1 | h1 <;> rcases List.mem_cons.1 hy with h2 | h2
      · rw [h1, h2]
      · have := hz y h2; rw [← h1] at this; omega
      · have := hz x h1; rw [← h2] at this; omega
      · exact ih x h1 y h2 e
  exact key rows h.asc x hx y hy e
theorem Red.ldp_ne {g s : Nat} {rows : List RowD} (h : Red g s rows) {x y : RowD} (hx : x ∈ rows) (hy : y ∈ rows) (e : lead x.1 ≠ lead y.1) : ldp x ≠ ldp y := by
  have h1 := h.ld x hx
  have h2 := h.ld y hy
  unfold ldp
  omega
theorem Red.S_at {g s : Nat} {rows : List RowD} (h : Red g s rows) (cf : RowD → UInt8) {x : RowD} (hx : x ∈ rows) : S rows cf (.inl (ldp x)) = cf x := by
  obtain ⟨a, b, rfl⟩ := List.append_of_mem hx
  have hp := List.pairwise_append.1 h.asc
  have hpc := List.pairwise_cons.1 hp.2.1
  rw [S_app, S, h.one x hx, one_mul, S_zero a, S_zero b, zero_xor8, xor_zero8]
  · intro y hy
    exact .inr (h.zero x hx y (by simp [hy]) (by have := hpc.1 y hy; omega))
  · intro y hy
    exact .inr (h.zero x hx y (by simp [hy]) (by have := hp.2.2 y hy x (by simp); omega))

theorem stepR_eq (r x : RowD) : stepR r x = plusR r x (ent r (.inl (ldp x))) := rfl
theorem redR_fold {g s : Nat} {rows : List RowD} (h : Red g s rows) (r : RowD) (hr : RowGS g s r) : redR rows r = rows.foldl (fun a x => plusR a x (ent r (.inl (ldp x)))) r := by
  have key : ∀ (l : List RowD) (acc : RowD), (∀ x ∈ l, x ∈ rows) → l.Pairwise (fun x y => lead x.1 < lead y.1) → RowGS g s acc → (∀ x ∈ l, ent acc (.inl (ldp x)) = ent r (.inl (ldp x))) →
      l.foldl stepR acc = l.foldl (fun a x => plusR a x (ent r (.inl (ldp x)))) acc := by
    intro l
    induction l with
    | nil => intro acc _ _ _ _; rfl
    | cons x l ih =>
      intro acc hm hp hg he
      have hpc := List.pairwise_cons.1 hp
      have hxg := h.gs x (hm x (by simp))
      rw [List.foldl_cons, List.foldl_cons, stepR_eq, he x (by simp)]
      refine ih _ (fun y hy => hm y (by simp [hy])) hpc.2 (plusR_gs hg hxg _) (fun y hy => ?_)
      rw [plus_ent hg hxg, h.zero y (hm y (by simp [hy])) x (hm x (by simp)) (by have := hpc.1 y hy; omega), zero_mul, xor_zero8]
      exact he y (by simp [hy])
  exact key rows r (fun _ hx => hx) h.asc hr (fun _ _ => rfl)
theorem redR_ent {g s : Nat} {rows : List RowD} (h : Red g s rows) (r : RowD) (hr : RowGS g s r) (i : Pl) : ent (redR rows r) i = ent r i ^^^ S rows (fun x => ent r (.inl (ldp x))) i := by
  rw [redR_fold h r hr]
  exact fold_ent rows (fun x => ent r (.inl (ldp x))) r hr h.gs i
theorem redR_at {g s : Nat} {rows : List RowD} (h : Red g s rows) (r : RowD) (hr : RowGS g s r) {x : RowD} (hx : x ∈ rows) : ent (redR rows r) (.inl (ldp x)) = 0 := by
  rw [redR_ent h r hr, h.S_at _ hx, xor_self8]

theorem lead_of {l : List UInt8} {i : Nat} (h1 : l.getD i 0 ≠ 0) (h2 : ∀ j, j < i → l.getD j 0 = 0) : lead l = (i : Int) := by
  have hi : i < l.length := by
    rcases Nat.lt_or_ge i l.length with h | h
    · exact h
    · exact absurd (by rw [List.getD_eq_getElem?_getD, List.getElem?_eq_none h]; rfl) h1
  have hf : l.findIdx? (fun x => decide (x ≠ 0)) = some i := by
    rw [List.findIdx?_eq_some_iff_getElem]
    refine ⟨hi, by simpa [hi] using h1, fun j hj => ?_⟩
    have := h2 j hj
    have hjl : j < l.length := by omega
    simpa [hjl] using this
  unfold lead idxFrom
  rw [List.drop_zero, hf]
  simp
theorem lead_none {l : List UInt8} : lead l < 0 ↔ ∀ j, l.getD j 0 = 0 := by
  constructor
  · intro h j
    have hf : l.findIdx? (fun x => decide (x ≠ 0)) = none := by
      unfold lead idxFrom at h
      rw [List.drop_zero] at h
      cases hf : l.findIdx? (fun x => decide (x ≠ 0)) with
      | none => rfl
      | some k => rw [hf] at h; simp only at h; omega
    rw [List.findIdx?_eq_none_iff] at hf
    by_cases hj : j < l.length
    · have := hf l[j] (List.getElem_mem _)
      simpa [hj] using this
    · rw [List.getD_eq_getElem?_getD, List.getElem?_eq_none (by omega)]; rfl
  · intro h
    rcases Int.lt_or_le (lead l) 0 with h1 | h1
    · exact h1
    · obtain ⟨i, hi⟩ := Int.eq_ofNat_of_zero_le h1
      obtain ⟨h2, h3, _⟩ := lead_some hi
      have := h i
      simp [h2] at this
      exact absurd this h3
theorem lead_ent {x : RowD} (h : 0 ≤ lead x.1) : ent x (.inl (ldp x)) ≠ 0 ∧ ∀ j, j < ldp x → ent x (.inl j) = 0 := by
  obtain ⟨i, hi⟩ := Int.eq_ofNat_of_zero_le h
  obtain ⟨h2, h3, h4⟩ := lead_some hi
  have e : ldp x = i := by unfold ldp; omega
  rw [e]
  refine ⟨by simpa [ent, h2] using h3, fun j hj => ?_⟩
  have h5 : j < x.1.length := by omega
  simpa [ent, h5] using h4 j hj
theorem lead_lt_of {x : RowD} (h : 0 ≤ lead x.1) : (ldp x : Int) = lead x.1 := by unfold ldp; omega

theorem map_getD (l : List UInt8) (f : UInt8 → UInt8) (h : f 0 = 0) (j : Nat) : (l.map f).getD j 0 = f (l.getD j 0) := by
  simp only [List.getD_eq_getElem?_getD, List.getElem?_map]
  cases l[j]? <;> simp [h]
theorem norm_ent (q : RowD) (i : Pl) : ent (normR q) i = mul (ent q i) (inv (ent q (.inl (ldp q)))) := by
  cases i with
  | inl j => exact map_getD q.1 (fun x => mul x (inv (ent q (.inl (ldp q))))) (zero_mul _) j
  | inr j => exact map_getD q.2 (fun x => mul x (inv (ent q (.inl (ldp q))))) (zero_mul _) j
theorem norm_gs {g s : Nat} {q : RowD} (h : RowGS g s q) : RowGS g s (normR q) := ⟨by simpa [normR] using h.1, by simpa [normR] using h.2⟩
theorem norm_lead {q : RowD} (h : 0 ≤ lead q.1) : lead (normR q).1 = lead q.1 ∧ ent (normR q) (.inl (ldp q)) = 1 := by
  obtain ⟨h1, h2⟩ := lead_ent h
  have e1 : ent (normR q) (.inl (ldp q)) = 1 := by rw [norm_ent, mul_inv _ h1]
  refine ⟨?_, e1⟩
  rw [← lead_lt_of h]
  refine lead_of (l := (normR q).1) ?_ ?_
  · show ent (normR q) (.inl (ldp q)) ≠ 0
    rw [e1]; decide
  · intro j hj
    show ent (normR q) (.inl j) = 0
    rw [norm_ent, h2 j hj, zero_mul]

section
variable {g s : Nat} {rows : List RowD} {q : RowD}
/-- A new row's place is free. -/
theorem free_ent (h : Red g s rows) (hq : RowGS g s q) {x : RowD} (hx : x ∈ rows) (i : Pl) : ent (freeR q x) i = ent x i ^^^ mul (ent (normR q) i) (ent x (.inl (ldp q))) := plus_ent (h.gs x hx) (norm_gs hq) _ i
theorem free_lead (h : Red g s rows) (hq : RowGS g s q) (hld : 0 ≤ lead q.1) (h0 : ∀ x ∈ rows, ent q (.inl (ldp x)) = 0) {x : RowD} (hx : x ∈ rows) : lead (freeR q x).1 = lead x.1 := by
  have hxl := h.ld x hx
  obtain ⟨h1, h2⟩ := lead_ent hxl
  obtain ⟨h3, h4⟩ := lead_ent hld
  rw [← lead_lt_of hxl]
  refine lead_of (l := (freeR q x).1) ?_ ?_
  · show ent (freeR q x) (.inl (ldp x)) ≠ 0
    rw [free_ent h hq hx, norm_ent, h0 x hx, zero_mul, zero_mul, xor_zero8]
    exact h1
  · intro j hj
    show ent (freeR q x) (.inl j) = 0
    rw [free_ent h hq hx, h2 j hj, zero_xor8, mul_eq_zero]
    by_cases hj2 : j < ldp q
    · left; rw [norm_ent, h4 j hj2, zero_mul]
    · right; exact h2 _ (by omega)
theorem lead_ne (h : Red g s rows) (hld : 0 ≤ lead q.1) (h0 : ∀ x ∈ rows, ent q (.inl (ldp x)) = 0) {x : RowD} (hx : x ∈ rows) : lead x.1 ≠ lead q.1 := by
  intro e
  obtain ⟨h3, _⟩ := lead_ent hld
  have := h0 x hx
  unfold ldp at this h3
  rw [e] at this
  exact h3 this
theorem ins_perm {α : Type} (l : List α) (i : Nat) (x : α) : (insAt l i x).Perm (x :: l) := by
  unfold insAt
  have h : (l.take i ++ [x] ++ l.drop i).Perm (x :: (l.take i ++ l.drop i)) := by
    rw [List.append_assoc, List.singleton_append]
    exact List.perm_middle
  rwa [List.take_append_drop] at h
theorem mem_ins {α : Type} {l : List α} {i : Nat} {x y : α} : y ∈ insAt l i x ↔ y = x ∨ y ∈ l := by
  rw [(ins_perm l i x).mem_iff, List.mem_cons]
theorem place_split : ∀ (rows : List RowD) (L : Int), rows.Pairwise (fun x y => lead x.1 < lead y.1) → (∀ x ∈ rows, lead x.1 ≠ L) → (∀ x ∈ rows.take (placeOf rows L), lead x.1 < L) ∧ ∀ x ∈ rows.drop (placeOf rows L), L < lead x.1
  | [], _, _, _ => by simp [placeOf]
  | x :: rows, L, hp, hne => by
    have hpc := List.pairwise_cons.1 hp
    unfold placeOf
    split
    · rename_i hgt
      refine ⟨by simp, fun y hy => ?_⟩
      rw [List.drop_zero] at hy
      rcases List.mem_cons.1 hy with h1 | h1
      · rw [h1]; omega
      · have := hpc.1 y h1; omega
    · rename_i hgt
      obtain ⟨h1, h2⟩ := place_split rows L hpc.2 (fun y hy => hne y (by simp [hy]))
      refine ⟨fun y hy => ?_, fun y hy => h2 y (by simpa using hy)⟩
      rw [List.take_succ_cons] at hy
      rcases List.mem_cons.1 hy with h3 | h3
      · rw [h3]; have := hne x (by simp); omega
      · exact h1 y h3

/-- The basis with a new row is reduced. -/
theorem Red.ins (h : Red g s rows) (hq : RowGS g s q) (hld : 0 ≤ lead q.1) (h0 : ∀ x ∈ rows, ent q (.inl (ldp x)) = 0) :
    Red g s (insAt (rows.map (freeR q)) (placeOf rows (lead q.1)) (normR q)) := by
  have hn := norm_lead hld
  have hldp : ldp (normR q) = ldp q := by unfold ldp; rw [hn.1]
  have hfl : ∀ x ∈ rows, lead (freeR q x).1 = lead x.1 := fun x hx => free_lead h hq hld h0 hx
  have hfp : ∀ x ∈ rows, ldp (freeR q x) = ldp x := fun x hx => by unfold ldp; rw [hfl x hx]
  have hmem : ∀ y, y ∈ insAt (rows.map (freeR q)) (placeOf rows (lead q.1)) (normR q) → y = normR q ∨ ∃ x ∈ rows, y = freeR q x := by
    intro y hy
    rcases mem_ins.1 hy with h1 | h1
    · exact .inl h1
    · obtain ⟨x, hx, e⟩ := List.mem_map.1 h1
      exact .inr ⟨x, hx, e.symm⟩
  have hsp := place_split rows (lead q.1) h.asc (fun x hx => lead_ne h hld h0 hx)
  refine ⟨?_, ?_, ?_, ?_, ?_⟩
  · intro y hy
    rcases hmem y hy with rfl | ⟨x, hx, rfl⟩
    · exact norm_gs hq
    · exact plusR_gs (h.gs x hx) (norm_gs hq) _
  · intro y hy
    rcases hmem y hy with rfl | ⟨x, hx, rfl⟩
    · rw [hn.1]; exact hld
    · rw [hfl x hx]; exact h.ld x hx
  · unfold insAt
    have hm : (rows.map (freeR q)).Pairwise (fun x y => lead x.1 < lead y.1) := by
      rw [List.pairwise_map]
      exact h.asc.imp_of_mem fun ha hb hab => by rw [hfl _ ha, hfl _ hb]; exact hab
    rw [List.append_assoc, List.pairwise_append]
    refine ⟨hm.sublist (List.take_sublist _ _), ?_, ?_⟩
    · rw [List.singleton_append, List.pairwise_cons]
      refine ⟨fun y hy => ?_, hm.sublist (List.drop_sublist _ _)⟩
      rw [← List.map_drop] at hy
      obtain ⟨x, hx, rfl⟩ := List.mem_map.1 hy
      rw [hn.1, hfl x (List.mem_of_mem_drop hx)]
      exact hsp.2 x hx
    · intro y hy z hz
      rw [← List.map_take] at hy
      obtain ⟨x, hx, rfl⟩ := List.mem_map.1 hy
      have hx' := List.mem_of_mem_take hx
      rw [hfl x hx']
      rcases List.mem_append.1 hz with h1 | h1
      · rw [List.mem_singleton.1 h1, hn.1]; exact hsp.1 x hx
      · rw [← List.map_drop] at h1
        obtain ⟨x2, hx2, rfl⟩ := List.mem_map.1 h1
        rw [hfl x2 (List.mem_of_mem_drop hx2)]
        have := hsp.1 x hx
        have := hsp.2 x2 hx2
        omega
  · intro y hy
    rcases hmem y hy with rfl | ⟨x, hx, rfl⟩
    · rw [hldp]; exact hn.2
    · rw [hfp x hx, free_ent h hq hx, norm_ent, h0 x hx, zero_mul, zero_mul, xor_zero8]
      exact h.one x hx
  · intro y hy z hz hne
    rcases hmem y hy with rfl | ⟨x, hx, rfl⟩ <;> rcases hmem z hz with rfl | ⟨x2, hx2, rfl⟩
    · exact absurd rfl hne
    · rw [hldp, free_ent h hq hx2, hn.2, one_mul, xor_self8]
    · rw [hfp x hx, norm_ent, h0 x hx, zero_mul]
    · rw [hfp x hx, free_ent h hq hx2, norm_ent, h0 x hx, zero_mul, zero_mul, xor_zero8]
      exact h.zero x hx x2 hx2 (by rwa [hfl x hx, hfl x2 hx2] at hne)

theorem S_perm {a b : List RowD} (h : a.Perm b) (f : RowD → UInt8) (i : Pl) : S a f i = S b f i := by
  induction h with
  | nil => rfl
  | cons x _ ih => rw [S, S, ih]
  | swap x y l => rw [S, S, S, S, ← xor_assoc8, ← xor_assoc8, xor_comm8 (mul (ent y i) (f y))]
  | trans _ _ h1 h2 => exact h1.trans h2
theorem S_free (h : Red g s rows) (hq : RowGS g s q) (f : RowD → UInt8) (i : Pl) : ∀ l : List RowD, (∀ x ∈ l, x ∈ rows) →
    S (l.map (freeR q)) f i = S l (fun x => f (freeR q x)) i ^^^ mul (ent (normR q) i) (S l (fun x => f (freeR q x)) (.inl (ldp q)))
  | [], _ => by simp only [List.map_nil, S]; rw [mul_zero]; rfl
  | x :: l, hm => by
    rw [List.map_cons, S, S, S, S_free h hq f i l (fun y hy => hm y (by simp [hy])), free_ent h hq (hm x (by simp)), xor_mul, mul_xor, mul_assoc, xor4]
/-- A sum over the basis with a new row. -/
theorem S_ins (h : Red g s rows) (hq : RowGS g s q) (hld : 0 ≤ lead q.1) (h0 : ∀ x ∈ rows, ent q (.inl (ldp x)) = 0) (v : RowD) (hv : RowGS g s v) (i : Pl) :
    S (insAt (rows.map (freeR q)) (placeOf rows (lead q.1)) (normR q)) (fun x => ent v (.inl (ldp x))) i = mul (ent (normR q) i) (ent (redR rows v) (.inl (ldp q))) ^^^ S rows (fun x => ent v (.inl (ldp x))) i := by
  have hldp : ldp (normR q) = ldp q := by unfold ldp; rw [(norm_lead hld).1]
  rw [S_perm (ins_perm _ _ _), S, S_free h hq _ i rows (fun _ hx => hx), hldp]
  have e : ∀ j, S rows (fun x => ent v (.inl (ldp (freeR q x)))) j = S rows (fun x => ent v (.inl (ldp x))) j := fun j => S_congr _ _ _ _ fun x hx => by
    have : ldp (freeR q x) = ldp x := by unfold ldp; rw [free_lead h hq hld h0 hx]
    rw [this]
  rw [e, e, redR_ent h v hv, mul_xor, xor_comm8 (S rows _ i), ← xor_assoc8]
/-- A row is a sum of the basis's, at the places of A. -/
def InS (rows : List RowD) (A : Pl → Prop) (v : RowD) : Prop := ∀ i, A i → ent v i = S rows (fun x => ent v (.inl (ldp x))) i
theorem InS.ins (h : Red g s rows) (hq : RowGS g s q) (hld : 0 ≤ lead q.1) (h0 : ∀ x ∈ rows, ent q (.inl (ldp x)) = 0) {A : Pl → Prop} (hA : ∀ j, A (.inl j)) {v : RowD} (hv : RowGS g s v) (hin : InS rows A v) :
    InS (insAt (rows.map (freeR q)) (placeOf rows (lead q.1)) (normR q)) A v := by
  intro i hi
  rw [S_ins h hq hld h0 v hv, redR_ent h v hv, ← hin _ (hA _), xor_self8, mul_zero, zero_xor8]
  exact hin i hi
theorem InS.new (h : Red g s rows) {r : RowD} (hr : RowGS g s r) (hld : 0 ≤ lead (redR rows r).1) (A : Pl → Prop) :
    InS (insAt (rows.map (freeR (redR rows r))) (placeOf rows (lead (redR rows r).1)) (normR (redR rows r))) A r := by
  intro i _
  have hq := redR_gs rows r hr h.gs
  rw [S_ins h hq hld (fun x hx => redR_at h r hr hx) r hr, norm_ent, mul_assoc, mul_comm (inv _), mul_inv _ (lead_ent hld).1, mul_one, redR_ent h r hr, xor_cancel]
theorem InS.red (h : Red g s rows) {v : RowD} (hv : RowGS g s v) {A : Pl → Prop} : InS rows A v ↔ ∀ i, A i → ent (redR rows v) i = 0 := by
  constructor
  · intro hin i hi
    rw [redR_ent h v hv, ← hin i hi, xor_self8]
  · intro h0 i hi
    have := h0 i hi
    rw [redR_ent h v hv] at this
    have h2 : ent v i ^^^ S rows (fun x => ent v (.inl (ldp x))) i ^^^ S rows (fun x => ent v (.inl (ldp x))) i = 0 ^^^ S rows (fun x => ent v (.inl (ldp x))) i := by rw [this]
    rwa [xor_cancel, zero_xor8] at h2
end

end Go.Bw
namespace Go.Bw
set_option linter.unusedVariables false
set_option linter.unusedSimpArgs false

/-- One place of coefficients times symbols. -/
def T : List (List UInt8) → List UInt8 → Nat → UInt8
  | y :: ys, c :: cs, j => mul (y.getD j 0) c ^^^ T ys cs j
  | _, _, _ => 0
theorem T_nil (ys : List (List UInt8)) (j : Nat) : T ys [] j = 0 := by cases ys <;> rfl
theorem T_add : ∀ (ys : List (List UInt8)) (a b : List UInt8) (d : UInt8) (j : Nat), a.length = b.length → T ys (addS d a b) j = T ys a j ^^^ mul (T ys b j) d
  | [], a, b, d, j, _ => by simp [T, zero_mul]
  | y :: ys, [], [], d, j, _ => by simp [T, addS, eachR, zero_mul]
  | y :: ys, x :: a, z :: b, d, j, h => by
    have h' : a.length = b.length := by simpa using h
    have e : addS d (x :: a) (z :: b) = (x ^^^ mul z d) :: addS d a b := by simp [addS, eachR, h']
    rw [e, T, T, T, T_add ys a b d j h', mul_xor, xor_mul, mul_assoc, xor4]
  | y :: ys, [], _ :: _, d, j, h => by simp at h
  | y :: ys, _ :: _, [], d, j, h => by simp at h
theorem T_map : ∀ (ys : List (List UInt8)) (a : List UInt8) (d : UInt8) (j : Nat), T ys (a.map (fun x => mul x d)) j = mul (T ys a j) d
  | [], a, d, j => by simp [T, zero_mul]
  | y :: ys, [], d, j => by simp [T, zero_mul]
  | y :: ys, x :: a, d, j => by rw [List.map_cons, T, T, T_map ys a d j, xor_mul, mul_assoc]
theorem T_zero : ∀ (ys : List (List UInt8)) (a : List UInt8) (j : Nat), (∀ k, a.getD k 0 = 0) → T ys a j = 0
  | [], a, j, _ => by simp [T]
  | y :: ys, [], j, _ => T_nil _ _
  | y :: ys, x :: a, j, h => by
    have h0 := h 0
    simp at h0
    rw [T, h0, mul_zero, T_zero ys a j (fun k => by have := h (k + 1); simpa using this), xor_self8]
theorem comb_T {s : Nat} (ys : List (List UInt8)) (c : List UInt8) (hr : ∀ r ∈ ys, r.length = s) (j : Nat) : (comb s ys c).getD j 0 = T ys c j := by
  have key : ∀ (ys : List (List UInt8)) (c : List UInt8) (out : List UInt8), (∀ r ∈ ys, r.length = s) → out.length = s → ((ys.zip c).foldl (fun out p => addS p.2 out p.1) out).getD j 0 = out.getD j 0 ^^^ T ys c j := by
    intro ys
    induction ys with
    | nil => intro c out _ _; simp [T]
    | cons y ys ih =>
      intro c out hr ho
      cases c with
      | nil => simp [T]
      | cons d c =>
        have hy := hr y (by simp)
        rw [List.zip_cons_cons, List.foldl_cons, ih c _ (fun r h => hr r (by simp [h])) (by rw [addS_length _ _ _ (ho.trans hy.symm)]; exact ho), addS_getD _ _ _ (ho.trans hy.symm), T, xor_assoc8]
  unfold comb
  rw [key ys c _ hr (by simp)]
  have : (List.replicate s (0 : UInt8)).getD j 0 = 0 := by
    rw [List.getD_eq_getElem?_getD, List.getElem?_replicate]
    split <;> rfl
  rw [this, zero_xor8]

/-- A row's payload is its coefficients times the symbols. -/
def Tr (ys : List (List UInt8)) (r : RowD) : Prop := ∀ j, r.2.getD j 0 = T ys r.1 j
theorem Tr.plus {ys : List (List UInt8)} {g s : Nat} {r x : RowD} (hr : Tr ys r) (hx : Tr ys x) (gr : RowGS g s r) (gx : RowGS g s x) (c : UInt8) : Tr ys (plusR r x c) := by
  intro j
  show (addS c r.2 x.2).getD j 0 = T ys (addS c r.1 x.1) j
  rw [addS_getD _ _ _ (gr.2.trans gx.2.symm), T_add _ _ _ _ _ (gr.1.trans gx.1.symm), hr j, hx j]
theorem Tr.norm {ys : List (List UInt8)} {q : RowD} (hq : Tr ys q) : Tr ys (normR q) := by
  intro j
  have h := norm_ent q (.inr j)
  simp only [ent] at h
  have h2 := T_map ys q.1 (inv (ent q (.inl (ldp q)))) j
  rw [h, hq j]
  exact h2.symm
theorem Tr.red {ys : List (List UInt8)} {g s : Nat} : ∀ (rows : List RowD) (r : RowD), Tr ys r → RowGS g s r → (∀ x ∈ rows, Tr ys x ∧ RowGS g s x) → Tr ys (redR rows r)
  | [], r, h, _, _ => h
  | x :: rows, r, h, hg, hx => Tr.red rows (stepR r x) (h.plus (hx x (by simp)).1 hg (hx x (by simp)).2 _) (plusR_gs hg (hx x (by simp)).2 _) (fun y hy => hx y (by simp [hy]))
theorem Tr.none {ys : List (List UInt8)} {q : RowD} (hq : Tr ys q) (h : lead q.1 < 0) : ∀ i, ent q i = 0 := by
  intro i
  cases i with
  | inl j => exact lead_none.1 h j
  | inr j => exact (hq j).trans (T_zero ys q.1 j (lead_none.1 h))
theorem laid_true {g s : Nat} (sy : List (List UInt8)) (c : List UInt8) (hr : ∀ r ∈ sy, r.length = s) : Tr sy (laidRow g s sy c) ∧ RowGS g s (laidRow g s sy c) :=
  ⟨fun j => comb_T sy _ hr j, padTo_length _ _, comb_length _ _ _ hr⟩

end Go.Bw
namespace Go.Bw
set_option linter.unusedVariables false
set_option linter.unusedSimpArgs false

/-- A reduced basis of true rows. -/
structure Good (g s : Nat) (ys : List (List UInt8)) (b : List RowD) : Prop where
  red : Red g s b
  tr : ∀ x ∈ b, Tr ys x
theorem Good.nil (g s : Nat) (ys : List (List UInt8)) : Good g s ys [] := ⟨Red.nil g s, by simp⟩

section
variable {g s : Nat} {ys : List (List UInt8)} {b : List RowD} {r : RowD}
theorem insR_out (hr : RowGS g s r) (h : lead (redR b r).1 < 0) : insR g s b r = (false, b) := by rw [insR, if_pos (show r.1.length = g ∧ r.2.length = s from hr), if_pos h]
theorem insR_in (hr : RowGS g s r) (h : ¬ lead (redR b r).1 < 0) : insR g s b r = (true, insAt (b.map (freeR (redR b r))) (placeOf b (lead (redR b r).1)) (normR (redR b r))) := by rw [insR, if_pos (show r.1.length = g ∧ r.2.length = s from hr), if_neg h]
theorem Good.ins (h : Good g s ys b) (hr : RowGS g s r) (ht : Tr ys r) : Good g s ys (insR g s b r).2 := by
  by_cases hl : lead (redR b r).1 < 0
  · rw [insR_out hr hl]; exact h
  · rw [insR_in hr hl]
    have hq := redR_gs b r hr h.red.gs
    have htq : Tr ys (redR b r) := Tr.red b r ht hr (fun x hx => ⟨h.tr x hx, h.red.gs x hx⟩)
    refine ⟨h.red.ins hq (by omega) (fun x hx => redR_at h.red r hr hx), fun y hy => ?_⟩
    rcases mem_ins.1 hy with rfl | hy
    · exact htq.norm
    · obtain ⟨x, hx, rfl⟩ := List.mem_map.1 hy
      exact (h.tr x hx).plus htq.norm (h.red.gs x hx) (norm_gs hq) _
/-- What was in the span stays in it. -/
theorem Good.keep (h : Good g s ys b) (hr : RowGS g s r) {A : Pl → Prop} (hA : ∀ j, A (.inl j)) {v : RowD} (hv : RowGS g s v) (hin : InS b A v) : InS (insR g s b r).2 A v := by
  by_cases hl : lead (redR b r).1 < 0
  · rw [insR_out hr hl]; exact hin
  · rw [insR_in hr hl]
    exact hin.ins h.red (redR_gs b r hr h.red.gs) (by omega) (fun x hx => redR_at h.red r hr hx) hA hv
/-- What was inserted is in the span. -/
theorem Good.has (h : Good g s ys b) (hr : RowGS g s r) (ht : Tr ys r) : InS (insR g s b r).2 (fun _ => True) r := by
  by_cases hl : lead (redR b r).1 < 0
  · rw [insR_out hr hl, InS.red h.red hr]
    exact fun i _ => (Tr.red b r ht hr (fun x hx => ⟨h.tr x hx, h.red.gs x hx⟩)).none hl i
  · rw [insR_in hr hl]
    exact InS.new h.red hr (by omega) _
theorem insR_len (hr : RowGS g s r) : (insR g s b r).2.length = b.length + (if (insR g s b r).1 = true then 1 else 0) := by
  by_cases hl : lead (redR b r).1 < 0
  · rw [insR_out hr hl]; simp
  · rw [insR_in hr hl]
    have := (ins_perm (b.map (freeR (redR b r))) (placeOf b (lead (redR b r).1)) (normR (redR b r))).length_eq
    simp at this ⊢
    exact this
theorem asc_len : ∀ (l : List Int) (lo hi : Int), l.Pairwise (· < ·) → (∀ x ∈ l, lo ≤ x ∧ x < hi) → (l.length : Int) ≤ max 0 (hi - lo)
  | [], lo, hi, _, _ => by simp; omega
  | x :: l, lo, hi, hp, hb => by
    have hpc := List.pairwise_cons.1 hp
    have hx := hb x (by simp)
    have := asc_len l (x + 1) hi hpc.2 (fun y hy => ⟨by have := hpc.1 y hy; omega, (hb y (by simp [hy])).2⟩)
    simp only [List.length_cons]
    omega
theorem Red.len (h : Red g s b) : b.length ≤ g := by
  have := asc_len (b.map (fun x => lead x.1)) 0 g (by rw [List.pairwise_map]; exact h.asc) (by
    intro v hv
    obtain ⟨x, hx, rfl⟩ := List.mem_map.1 hv
    have h1 := h.ld x hx
    have h2 := lead_lt h1
    have h3 := (h.gs x hx).1
    omega)
  simp at this
  omega
end

end Go.Bw
namespace Go.Bw
set_option linter.unusedVariables false
set_option linter.unusedSimpArgs false

section
variable {g s : Nat} {ys : List (List UInt8)} {b A C : List RowD} {r : RowD}

/-- At full rank the leads are all the places. -/
theorem asc_at (l : List Int) (hi : Int) (hp : l.Pairwise (· < ·)) (hb : ∀ x ∈ l, 0 ≤ x ∧ x < hi) (hl : (l.length : Int) = hi) (i : Nat) (h : i < l.length) : l[i] = (i : Int) := by
  have h1 := asc_len (l.take i) 0 l[i] (hp.sublist (List.take_sublist _ _)) (fun x hx => by
    refine ⟨(hb x (List.mem_of_mem_take hx)).1, ?_⟩
    obtain ⟨j, hj, rfl⟩ := List.mem_iff_getElem.1 hx
    simp only [List.length_take] at hj
    rw [List.getElem_take]
    exact List.pairwise_iff_getElem.1 hp j i (by omega) h (by omega))
  have h2 := asc_len (l.drop i) l[i] hi (hp.sublist (List.drop_sublist _ _)) (fun x hx => by
    refine ⟨?_, (hb x (List.mem_of_mem_drop hx)).2⟩
    obtain ⟨j, hj, rfl⟩ := List.mem_iff_getElem.1 hx
    simp only [List.length_drop] at hj
    rw [List.getElem_drop]
    by_cases e : j = 0
    · subst e; simp
    · exact Int.le_of_lt (List.pairwise_iff_getElem.1 hp i (i + j) h (by omega) (by omega)))
  have h3 := hb l[i] (List.getElem_mem _)
  simp only [List.length_take, List.length_drop] at h1 h2
  omega
theorem Red.full (h : Red g s b) (hl : b.length = g) (i : Nat) (hi : i < b.length) : lead b[i].1 = (i : Int) := by
  have := asc_at (b.map (fun x => lead x.1)) g (by rw [List.pairwise_map]; exact h.asc) (by
    intro v hv
    obtain ⟨x, hx, rfl⟩ := List.mem_map.1 hv
    have h1 := h.ld x hx
    have h2 := lead_lt h1
    have h3 := (h.gs x hx).1
    omega) (by simp [hl]) i (by simpa using hi)
  simpa using this
theorem T_unit : ∀ (ys : List (List UInt8)) (c : List UInt8) (i j : Nat), c.getD i 0 = 1 → (∀ k, k ≠ i → c.getD k 0 = 0) → i < ys.length → T ys c j = (ys.getD i []).getD j 0
  | [], _, _, _, _, _, h => by simp at h
  | y :: ys, [], i, j, h, _, _ => by simp at h
  | y :: ys, x :: c, 0, j, h1, h0, _ => by
    simp only [List.getD_cons_zero] at h1
    rw [T, h1, mul_one, T_zero ys c j (fun k => by have := h0 (k + 1) (by omega); simpa using this), xor_zero8]
    simp
  | y :: ys, x :: c, i + 1, j, h1, h0, hi => by
    have hx := h0 0 (by omega)
    simp only [List.getD_cons_zero] at hx
    rw [T, hx, mul_zero, zero_xor8, T_unit ys c i j (by simpa using h1) (fun k hk => by have := h0 (k + 1) (by omega); simpa using this) (by simpa using hi)]
    simp
/-- At full rank the payloads are the symbols. -/
theorem Good.solved (h : Good g s ys b) (hl : b.length = g) (hy : ys.length = g) (hs : ∀ y ∈ ys, y.length = s) : b.map (·.2) = ys := by
  apply List.ext_getElem (by simp [hl, hy])
  intro i h1 h2
  have hi : i < b.length := by simpa using h1
  have hm := List.getElem_mem hi
  rw [List.getElem_map]
  have hld := h.red.full hl i hi
  have hldp : ldp b[i] = i := by unfold ldp; omega
  refine list_ext ((h.red.gs _ hm).2.trans (hs _ (List.getElem_mem _)).symm) fun j => ?_
  rw [h.tr _ hm j, T_unit ys b[i].1 i j ?_ ?_ h2]
  · simp [h2]
  · have := h.red.one _ hm
    rw [hldp] at this
    exact this
  · intro k hk
    by_cases hkg : k < b.length
    · have hldk := h.red.full hl k hkg
      have hk2 : ldp b[k] = k := by unfold ldp; omega
      have := h.red.zero b[k] (List.getElem_mem _) b[i] hm (by omega)
      rw [hk2] at this
      exact this
    · rw [List.getD_eq_getElem?_getD, List.getElem?_eq_none (by have := (h.red.gs _ hm).1; omega)]
      rfl
theorem Good.pay (h : Good g s ys b) (hs : ∀ y ∈ ys, y.length = s) {x : RowD} (hx : x ∈ b) : x.2 = comb s ys x.1 :=
  list_ext ((h.red.gs x hx).2.trans (comb_length _ _ _ hs).symm) fun j => by rw [h.tr x hx j, comb_T ys x.1 hs j]

/-! ### sums -/
theorem InS.plus (hr : RowGS g s r) {x : RowD} (hx : RowGS g s x) {P : Pl → Prop} (h1 : InS A P r) (h2 : InS A P x) (c : UInt8) : InS A P (plusR r x c) := by
  intro i hi
  rw [plus_ent hr hx, h1 i hi, h2 i hi, ← S_mul, ← S_xor]
  exact S_congr _ _ _ _ fun y _ => (plus_ent hr hx c _).symm
theorem InS.norm {P : Pl → Prop} (h1 : InS A P r) : InS A P (normR r) := by
  intro i hi
  rw [norm_ent, h1 i hi, ← S_mul]
  exact S_congr _ _ _ _ fun y _ => (norm_ent r _).symm
theorem InS.zero {P : Pl → Prop} (h0 : ∀ i, ent r i = 0) : InS A P r := by
  intro i _
  rw [h0, S_zero]
  exact fun x _ => .inl (h0 _)
theorem InS.redR {P : Pl → Prop} : ∀ (rows : List RowD) (r : RowD), RowGS g s r → InS A P r → (∀ x ∈ rows, RowGS g s x ∧ InS A P x) → InS A P (redR rows r)
  | [], _, _, h, _ => h
  | x :: rows, r, hg, h, hx => InS.redR rows (stepR r x) (plusR_gs hg (hx x (by simp)).1 _) (InS.plus hg (hx x (by simp)).1 h (hx x (by simp)).2 _) (fun y hy => hx y (by simp [hy]))
/-- What is made of rows of a span is of the span. -/
theorem InS.insR {P : Pl → Prop} (hb : ∀ x ∈ b, RowGS g s x ∧ InS A P x) (hr : RowGS g s r) (hin : InS A P r) : ∀ x ∈ (insR g s b r).2, RowGS g s x ∧ InS A P x := by
  by_cases hl : lead (Bw.redR b r).1 < 0
  · rw [insR_out hr hl]; exact hb
  · rw [insR_in hr hl]
    have hq := redR_gs b r hr (fun x hx => (hb x hx).1)
    have hn : InS A P (normR (Bw.redR b r)) := InS.norm (InS.redR b r hr hin hb)
    intro x hx
    rcases mem_ins.1 hx with rfl | hx
    · exact ⟨norm_gs hq, hn⟩
    · obtain ⟨y, hy, rfl⟩ := List.mem_map.1 hx
      exact ⟨plusR_gs (hb y hy).1 (norm_gs hq) _, InS.plus (hb y hy).1 (norm_gs hq) (hb y hy).2 hn _⟩
/-- A row of a span has its lead there. -/
theorem InS.lead (h : Red g s A) {P : Pl → Prop} (hP : ∀ j, P (.inl j)) {y : RowD} (hy : 0 ≤ lead y.1) (hin : InS A P y) : ∃ z ∈ A, Bw.lead z.1 = Bw.lead y.1 := by
  obtain ⟨h1, h2⟩ := lead_ent hy
  apply Classical.byContradiction
  intro hno
  apply h1
  rw [hin _ (hP _)]
  apply S_zero
  intro z hz
  have hzl := h.ld z hz
  by_cases e : ldp z < ldp y
  · exact .inl (h2 _ e)
  · right
    refine (lead_ent hzl).2 _ ?_
    have : Bw.lead z.1 ≠ Bw.lead y.1 := fun e => hno ⟨z, hz, e⟩
    unfold ldp at *
    omega
theorem asc_mem : ∀ (l k : List Int), l.Pairwise (· < ·) → k.Pairwise (· < ·) → (∀ x, x ∈ l ↔ x ∈ k) → l = k
  | [], [], _, _, _ => rfl
  | [], y :: k, _, _, h => by have := (h y).2 (by simp); simp at this
  | x :: l, [], _, _, h => by have := (h x).1 (by simp); simp at this
  | x :: l, y :: k, hl, hk, h => by
    have h1 := List.pairwise_cons.1 hl
    have h2 := List.pairwise_cons.1 hk
    have e : x = y := by
      rcases List.mem_cons.1 ((h x).1 (by simp)) with e | e
      · exact e
      · rcases List.mem_cons.1 ((h y).2 (by simp)) with e2 | e2
        · exact e2.symm
        · have := h2.1 x e; have := h1.1 y e2; omega
    subst e
    rw [asc_mem l k h1.2 h2.2 (fun z => ?_)]
    constructor
    · intro hz
      rcases List.mem_cons.1 ((h z).1 (by simp [hz])) with e | e
      · have := h1.1 z hz; omega
      · exact e
    · intro hz
      rcases List.mem_cons.1 ((h z).2 (by simp [hz])) with e | e
      · have := h2.1 z hz; omega
      · exact e
/-- Reduced bases of one span are one. -/
theorem Red.unique (hA : Red g s A) (hC : Red g s C) (h1 : ∀ x ∈ A, InS C (fun _ => True) x) (h2 : ∀ x ∈ C, InS A (fun _ => True) x) : A = C := by
  have hle : A.map (fun x => Bw.lead x.1) = C.map (fun x => Bw.lead x.1) := by
    refine asc_mem _ _ (by rw [List.pairwise_map]; exact hA.asc) (by rw [List.pairwise_map]; exact hC.asc) fun v => ?_
    simp only [List.mem_map]
    constructor
    · rintro ⟨x, hx, rfl⟩
      exact InS.lead hC (fun _ => trivial) (hA.ld x hx) (h1 x hx)
    · rintro ⟨x, hx, rfl⟩
      exact InS.lead hA (fun _ => trivial) (hC.ld x hx) (h2 x hx)
  have hlen : A.length = C.length := by have := congrArg List.length hle; simpa using this
  apply List.ext_getElem hlen
  intro k hk1 hk2
  have hat : ∀ i (h1 : i < A.length) (h2 : i < C.length), Bw.lead A[i].1 = Bw.lead C[i].1 := by
    intro i h1 h2
    have : (A.map (fun x => Bw.lead x.1))[i]'(by simpa using h1) = (C.map (fun x => Bw.lead x.1))[i]'(by simpa using h2) := by simp only [hle]
    simpa using this
  have hxA := List.getElem_mem hk1
  have hxC := List.getElem_mem hk2
  refine row_ext (hA.gs _ hxA) (hC.gs _ hxC) fun i => ?_
  rw [h2 _ hxC i trivial]
  obtain ⟨l1, l2, hsp⟩ := List.append_of_mem hxA
  have hp := hA.asc
  rw [hsp] at hp
  have hp1 := List.pairwise_append.1 hp
  have hpc := List.pairwise_cons.1 hp1.2.1
  have key : ∀ z ∈ A, Bw.lead z.1 ≠ Bw.lead A[k].1 → ent C[k] (.inl (ldp z)) = 0 := by
    intro z hz hne
    obtain ⟨j, hj, rfl⟩ := List.mem_iff_getElem.1 hz
    have hj2 : j < C.length := by omega
    have e := hat j hj hj2
    have := hC.zero C[j] (List.getElem_mem _) C[k] hxC (by rw [← hat j hj hj2, ← hat k hk1 hk2]; exact fun e => hne e.symm)
    have el : ldp A[j] = ldp C[j] := by unfold ldp; rw [e]
    rw [el]; exact this
  have hone : ent C[k] (.inl (ldp A[k])) = 1 := by
    have el : ldp A[k] = ldp C[k] := by unfold ldp; rw [hat k hk1 hk2]
    rw [el]; exact hC.one _ hxC
  have e : S A (fun x => ent C[k] (.inl (ldp x))) i = S (l1 ++ A[k] :: l2) (fun x => ent C[k] (.inl (ldp x))) i := by rw [← hsp]
  rw [e, S_app, S, hone, mul_one, S_zero l1, S_zero l2, zero_xor8, xor_zero8]
  · intro y hy
    exact .inl (key y (by rw [hsp]; simp [hy]) (by have := hpc.1 y hy; omega))
  · intro y hy
    exact .inl (key y (by rw [hsp]; simp [hy]) (by have := hp1.2.2 y hy A[k] (by simp); omega))

/-- The basis's rows, each by the coefficient at its lead. -/
theorem combR_fold (A : List RowD) (f : RowD → UInt8) : combR g s A (A.map f) = A.foldl (fun a x => plusR a x (f x)) (List.replicate g 0, List.replicate s 0) := by
  unfold combR
  have key : ∀ (l : List RowD) (z : RowD), (l.zip (l.map f)).foldl (fun r p => plusR r p.1 p.2) z = l.foldl (fun a x => plusR a x (f x)) z := by
    intro l
    induction l with
    | nil => intro z; rfl
    | cons x l ih => intro z; rw [List.map_cons, List.zip_cons_cons, List.foldl_cons, List.foldl_cons, ih]
  exact key A _
theorem zero_gs (g s : Nat) : RowGS g s ((List.replicate g 0, List.replicate s 0) : RowD) := ⟨by simp, by simp⟩
theorem zero_ent (g s : Nat) (i : Pl) : ent ((List.replicate g 0, List.replicate s 0) : RowD) i = 0 := by
  cases i with
  | inl j => simp only [ent]; rw [List.getD_eq_getElem?_getD, List.getElem?_replicate]; split <;> rfl
  | inr j => simp only [ent]; rw [List.getD_eq_getElem?_getD, List.getElem?_replicate]; split <;> rfl
theorem InS.comb (hA : ∀ x ∈ A, RowGS g s x) (hr : RowGS g s r) (hin : InS A (fun _ => True) r) : combR g s A (A.map fun x => ent r (.inl (ldp x))) = r := by
  rw [combR_fold]
  refine row_ext (fold_gs A _ _ (zero_gs g s) hA) hr fun i => ?_
  rw [fold_ent A (fun x => ent r (.inl (ldp x))) _ (zero_gs g s) hA, zero_ent, zero_xor8, ← hin i trivial]
/-- A row of the basis is of its span. -/
theorem InS.own (h : Red g s A) {P : Pl → Prop} {x : RowD} (hx : x ∈ A) : InS A P x := by
  intro i _
  obtain ⟨l1, l2, hsp⟩ := List.append_of_mem hx
  have hp := h.asc
  rw [hsp] at hp
  have hp1 := List.pairwise_append.1 hp
  have hpc := List.pairwise_cons.1 hp1.2.1
  have e : S A (fun z => ent x (.inl (ldp z))) i = S (l1 ++ x :: l2) (fun z => ent x (.inl (ldp z))) i := by rw [← hsp]
  rw [e, S_app, S, h.one x hx, mul_one, S_zero l1, S_zero l2, zero_xor8, xor_zero8]
  · intro y hy
    exact .inl (h.zero y (by rw [hsp]; simp [hy]) x hx (by have := hpc.1 y hy; omega))
  · intro y hy
    exact .inl (h.zero y (by rw [hsp]; simp [hy]) x hx (by have := hp1.2.2 y hy x (by simp); omega))
/-- Any combination of the rows is of their span. -/
theorem InS.combAny (h : Red g s A) (by_ : List UInt8) : InS A (fun _ => True) (combR g s A by_) := by
  unfold combR
  have key : ∀ (l : List (RowD × UInt8)) (z : RowD), RowGS g s z → InS A (fun _ => True) z → (∀ p ∈ l, p.1 ∈ A) → InS A (fun _ => True) (l.foldl (fun r p => plusR r p.1 p.2) z) := by
    intro l
    induction l with
    | nil => intro z _ hz _; exact hz
    | cons p l ih =>
      intro z hg hz hp
      have hpA := hp p (by simp)
      rw [List.foldl_cons]
      exact ih _ (plusR_gs hg (h.gs _ hpA) _) (InS.plus hg (h.gs _ hpA) hz (InS.own h hpA) _) (fun q hq => hp q (by simp [hq]))
  exact key _ _ (zero_gs g s) (InS.zero (zero_ent g s)) (fun p hp => (List.of_mem_zip hp).1)
end

end Go.Bw
