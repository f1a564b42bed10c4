/- Bases of one span, and full bases: plain laws. -/
import Derived.Test.YtdibepkfgemddaaGood
namespace Go.Bw
set_option linter.unusedVariables false
set_option linter.unusedSimpArgs false

section
variable {g s : Nat} {ys : List (List UInt8)} {b A C : List RowD} {r : RowD}

/-- At full rank the leads are all the places. -/
theorem asc_at (l : List Int) (hi : Int) (hp : l.Pairwise (· < ·)) (hb : ∀ x ∈ l, 0 ≤ x ∧ x < hi) (hl : (l.length : Int) = hi) (i : Nat) (h : i < l.length) : l[i] = (i : Int) := by
  have h1 := asc_len (l.take i) 0 l[i] (hp.sublist (List.take_sublist _ _)) (fun x hx => by
    refine ⟨(hb x (List.mem_of_mem_take hx)).1, ?_⟩
    obtain ⟨j, hj, rfl⟩ := List.mem_iff_getElem.1 hx
    simp only [List.length_take] at hj
    rw [List.getElem_take]
    exact List.pairwise_iff_getElem.1 hp j i (by omega) h (by omega))
  have h2 := asc_len (l.drop i) l[i] hi (hp.sublist (List.drop_sublist _ _)) (fun x hx => by
    refine ⟨?_, (hb x (List.mem_of_mem_drop hx)).2⟩
    obtain ⟨j, hj, rfl⟩ := List.mem_iff_getElem.1 hx
    simp only [List.length_drop] at hj
    rw [List.getElem_drop]
    by_cases e : j = 0
    · subst e; simp
    · exact Int.le_of_lt (List.pairwise_iff_getElem.1 hp i (i + j) h (by omega) (by omega)))
  have h3 := hb l[i] (List.getElem_mem _)
  simp only [List.length_take, List.length_drop] at h1 h2
  omega
theorem Red.full (h : Red g s b) (hl : b.length = g) (i : Nat) (hi : i < b.length) : lead b[i].1 = (i : Int) := by
  have := asc_at (b.map (fun x => lead x.1)) g (by rw [List.pairwise_map]; exact h.asc) (by
    intro v hv
    obtain ⟨x, hx, rfl⟩ := List.mem_map.1 hv
    have h1 := h.ld x hx
    have h2 := lead_lt h1
    have h3 := (h.gs x hx).1
    omega) (by simp [hl]) i (by simpa using hi)
  simpa using this
theorem T_unit : ∀ (ys : List (List UInt8)) (c : List UInt8) (i j : Nat), c.getD i 0 = 1 → (∀ k, k ≠ i → c.getD k 0 = 0) → i < ys.length → T ys c j = (ys.getD i []).getD j 0
  | [], _, _, _, _, _, h => by simp at h
  | y :: ys, [], i, j, h, _, _ => by simp at h
  | y :: ys, x :: c, 0, j, h1, h0, _ => by
    simp only [List.getD_cons_zero] at h1
    rw [T, h1, mul_one, T_zero ys c j (fun k => by have := h0 (k + 1) (by omega); simpa using this), xor_zero8]
    simp
  | y :: ys, x :: c, i + 1, j, h1, h0, hi => by
    have hx := h0 0 (by omega)
    simp only [List.getD_cons_zero] at hx
    rw [T, hx, mul_zero, zero_xor8, T_unit ys c i j (by simpa using h1) (fun k hk => by have := h0 (k + 1) (by omega); simpa using this) (by simpa using hi)]
    simp
/-- At full rank the payloads are the symbols. -/
theorem Good.solved (h : Good g s ys b) (hl : b.length = g) (hy : ys.length = g) (hs : ∀ y ∈ ys, y.length = s) : b.map (·.2) = ys := by
  apply List.ext_getElem (by simp [hl, hy])
  intro i h1 h2
  have hi : i < b.length := by simpa using h1
  have hm := List.getElem_mem hi
  rw [List.getElem_map]
  have hld := h.red.full hl i hi
  have hldp : ldp b[i] = i := by unfold ldp; omega
  refine list_ext ((h.red.gs _ hm).2.trans (hs _ (List.getElem_mem _)).symm) fun j => ?_
  rw [h.tr _ hm j, T_unit ys b[i].1 i j ?_ ?_ h2]
  · simp [h2]
  · have := h.red.one _ hm
    rw [hldp] at this
    exact this
  · intro k hk
    by_cases hkg : k < b.length
    · have hldk := h.red.full hl k hkg
      have hk2 : ldp b[k] = k := by unfold ldp; omega
      have := h.red.zero b[k] (List.getElem_mem _) b[i] hm (by omega)
      rw [hk2] at this
      exact this
    · rw [List.getD_eq_getElem?_getD, List.getElem?_eq_none (by have := (h.red.gs _ hm).1; omega)]
      rfl
theorem Good.pay (h : Good g s ys b) (hs : ∀ y ∈ ys, y.length = s) {x : RowD} (hx : x ∈ b) : x.2 = comb s ys x.1 :=
  list_ext ((h.red.gs x hx).2.trans (comb_length _ _ _ hs).symm) fun j => by rw [h.tr x hx j, comb_T ys x.1 hs j]

/-! ### sums -/
theorem InS.plus (hr : RowGS g s r) {x : RowD} (hx : RowGS g s x) {P : Pl → Prop} (h1 : InS A P r) (h2 : InS A P x) (c : UInt8) : InS A P (plusR r x c) := by
  intro i hi
  rw [plus_ent hr hx, h1 i hi, h2 i hi, ← S_mul, ← S_xor]
  exact S_congr _ _ _ _ fun y _ => (plus_ent hr hx c _).symm
theorem InS.norm {P : Pl → Prop} (h1 : InS A P r) : InS A P (normR r) := by
  intro i hi
  rw [norm_ent, h1 i hi, ← S_mul]
  exact S_congr _ _ _ _ fun y _ => (norm_ent r _).symm
theorem InS.zero {P : Pl → Prop} (h0 : ∀ i, ent r i = 0) : InS A P r := by
  intro i _
  rw [h0, S_zero]
  exact fun x _ => .inl (h0 _)
theorem InS.redR {P : Pl → Prop} : ∀ (rows : List RowD) (r : RowD), RowGS g s r → InS A P r → (∀ x ∈ rows, RowGS g s x ∧ InS A P x) → InS A P (redR rows r)
  | [], _, _, h, _ => h
  | x :: rows, r, hg, h, hx => InS.redR rows (stepR r x) (plusR_gs hg (hx x (by simp)).1 _) (InS.plus hg (hx x (by simp)).1 h (hx x (by simp)).2 _) (fun y hy => hx y (by simp [hy]))
/-- What is made of rows of a span is of the span. -/
theorem InS.insR {P : Pl → Prop} (hb : ∀ x ∈ b, RowGS g s x ∧ InS A P x) (hr : RowGS g s r) (hin : InS A P r) : ∀ x ∈ (insR g s b r).2, RowGS g s x ∧ InS A P x := by
  by_cases hl : lead (Bw.redR b r).1 < 0
  · rw [insR_out hr hl]; exact hb
  · rw [insR_in hr hl]
    have hq := redR_gs b r hr (fun x hx => (hb x hx).1)
    have hn : InS A P (normR (Bw.redR b r)) := InS.norm (InS.redR b r hr hin hb)
    intro x hx
    rcases mem_ins.1 hx with rfl | hx
    · exact ⟨norm_gs hq, hn⟩
    · obtain ⟨y, hy, rfl⟩ := List.mem_map.1 hx
      exact ⟨plusR_gs (hb y hy).1 (norm_gs hq) _, InS.plus (hb y hy).1 (norm_gs hq) (hb y hy).2 hn _⟩
/-- A row of a span has its lead there. -/
theorem InS.lead (h : Red g s A) {P : Pl → Prop} (hP : ∀ j, P (.inl j)) {y : RowD} (hy : 0 ≤ lead y.1) (hin : InS A P y) : ∃ z ∈ A, Bw.lead z.1 = Bw.lead y.1 := by
  obtain ⟨h1, h2⟩ := lead_ent hy
  apply Classical.byContradiction
  intro hno
  apply h1
  rw [hin _ (hP _)]
  apply S_zero
  intro z hz
  have hzl := h.ld z hz
  by_cases e : ldp z < ldp y
  · exact .inl (h2 _ e)
  · right
    refine (lead_ent hzl).2 _ ?_
    have : Bw.lead z.1 ≠ Bw.lead y.1 := fun e => hno ⟨z, hz, e⟩
    unfold ldp at *
    omega
theorem asc_mem : ∀ (l k : List Int), l.Pairwise (· < ·) → k.Pairwise (· < ·) → (∀ x, x ∈ l ↔ x ∈ k) → l = k
  | [], [], _, _, _ => rfl
  | [], y :: k, _, _, h => by have := (h y).2 (by simp); simp at this
  | x :: l, [], _, _, h => by have := (h x).1 (by simp); simp at this
  | x :: l, y :: k, hl, hk, h => by
    have h1 := List.pairwise_cons.1 hl
    have h2 := List.pairwise_cons.1 hk
    have e : x = y := by
      rcases List.mem_cons.1 ((h x).1 (by simp)) with e | e
      · exact e
      · rcases List.mem_cons.1 ((h y).2 (by simp)) with e2 | e2
        · exact e2.symm
        · have := h2.1 x e; have := h1.1 y e2; omega
    subst e
    rw [asc_mem l k h1.2 h2.2 (fun z => ?_)]
    constructor
    · intro hz
      rcases List.mem_cons.1 ((h z).1 (by simp [hz])) with e | e
      · have := h1.1 z hz; omega
      · exact e
    · intro hz
      rcases List.mem_cons.1 ((h z).2 (by simp [hz])) with e | e
      · have := h2.1 z hz; omega
      · exact e
/-- Reduced bases of one span are one. -/
theorem Red.unique (hA : Red g s A) (hC : Red g s C) (h1 : ∀ x ∈ A, InS C (fun _ => True) x) (h2 : ∀ x ∈ C, InS A (fun _ => True) x) : A = C := by
  have hle : A.map (fun x => Bw.lead x.1) = C.map (fun x => Bw.lead x.1) := by
    refine asc_mem _ _ (by rw [List.pairwise_map]; exact hA.asc) (by rw [List.pairwise_map]; exact hC.asc) fun v => ?_
    simp only [List.mem_map]
    constructor
    · rintro ⟨x, hx, rfl⟩
      exact InS.lead hC (fun _ => trivial) (hA.ld x hx) (h1 x hx)
    · rintro ⟨x, hx, rfl⟩
      exact InS.lead hA (fun _ => trivial) (hC.ld x hx) (h2 x hx)
  have hlen : A.length = C.length := by have := congrArg List.length hle; simpa using this
  apply List.ext_getElem hlen
  intro k hk1 hk2
  have hat : ∀ i (h1 : i < A.length) (h2 : i < C.length), Bw.lead A[i].1 = Bw.lead C[i].1 := by
    intro i h1 h2
    have : (A.map (fun x => Bw.lead x.1))[i]'(by simpa using h1) = (C.map (fun x => Bw.lead x.1))[i]'(by simpa using h2) := by simp only [hle]
    simpa using this
  have hxA := List.getElem_mem hk1
  have hxC := List.getElem_mem hk2
  refine row_ext (hA.gs _ hxA) (hC.gs _ hxC) fun i => ?_
  rw [h2 _ hxC i trivial]
  obtain ⟨l1, l2, hsp⟩ := List.append_of_mem hxA
  have hp := hA.asc
  rw [hsp] at hp
  have hp1 := List.pairwise_append.1 hp
  have hpc := List.pairwise_cons.1 hp1.2.1
  have key : ∀ z ∈ A, Bw.lead z.1 ≠ Bw.lead A[k].1 → ent C[k] (.inl (ldp z)) = 0 := by
    intro z hz hne
    obtain ⟨j, hj, rfl⟩ := List.mem_iff_getElem.1 hz
    have hj2 : j < C.length := by omega
    have e := hat j hj hj2
    have := hC.zero C[j] (List.getElem_mem _) C[k] hxC (by rw [← hat j hj hj2, ← hat k hk1 hk2]; exact fun e => hne e.symm)
    have el : ldp A[j] = ldp C[j] := by unfold ldp; rw [e]
    rw [el]; exact this
  have hone : ent C[k] (.inl (ldp A[k])) = 1 := by
    have el : ldp A[k] = ldp C[k] := by unfold ldp; rw [hat k hk1 hk2]
    rw [el]; exact hC.one _ hxC
  have e : S A (fun x => ent C[k] (.inl (ldp x))) i = S (l1 ++ A[k] :: l2) (fun x => ent C[k] (.inl (ldp x))) i := by rw [← hsp]
  rw [e, S_app, S, hone, mul_one, S_zero l1, S_zero l2, zero_xor8, xor_zero8]
  · intro y hy
    exact .inl (key y (by rw [hsp]; simp [hy]) (by have := hpc.1 y hy; omega))
  · intro y hy
    exact .inl (key y (by rw [hsp]; simp [hy]) (by have := hp1.2.2 y hy A[k] (by simp); omega))

/-- The basis's rows, each by the coefficient at its lead. -/
theorem combR_fold (A : List RowD) (f : RowD → UInt8) : combR g s A (A.map f) = A.foldl (fun a x => plusR a x (f x)) (List.replicate g 0, List.replicate s 0) := by
  unfold combR
  have key : ∀ (l : List RowD) (z : RowD), (l.zip (l.map f)).foldl (fun r p => plusR r p.1 p.2) z = l.foldl (fun a x => plusR a x (f x)) z := by
    intro l
    induction l with
    | nil => intro z; rfl
    | cons x l ih => intro z; rw [List.map_cons, List.zip_cons_cons, List.foldl_cons, List.foldl_cons, ih]
  exact key A _
theorem zero_gs (g s : Nat) : RowGS g s ((List.replicate g 0, List.replicate s 0) : RowD) := ⟨by simp, by simp⟩
theorem zero_ent (g s : Nat) (i : Pl) : ent ((List.replicate g 0, List.replicate s 0) : RowD) i = 0 := by
  cases i with
  | inl j => simp only [ent]; rw [List.getD_eq_getElem?_getD, List.getElem?_replicate]; split <;> rfl
  | inr j => simp only [ent]; rw [List.getD_eq_getElem?_getD, List.getElem?_replicate]; split <;> rfl
theorem InS.comb (hA : ∀ x ∈ A, RowGS g s x) (hr : RowGS g s r) (hin : InS A (fun _ => True) r) : combR g s A (A.map fun x => ent r (.inl (ldp x))) = r := by
  rw [combR_fold]
  refine row_ext (fold_gs A _ _ (zero_gs g s) hA) hr fun i => ?_
  rw [fold_ent A (fun x => ent r (.inl (ldp x))) _ (zero_gs g s) hA, zero_ent, zero_xor8, ← hin i trivial]
/-- A row of the basis is of its span. -/
theorem InS.own (h : Red g s A) {P : Pl → Prop} {x : RowD} (hx : x ∈ A) : InS A P x := by
  intro i _
  obtain ⟨l1, l2, hsp⟩ := List.append_of_mem hx
  have hp := h.asc
  rw [hsp] at hp
  have hp1 := List.pairwise_append.1 hp
  have hpc := List.pairwise_cons.1 hp1.2.1
  have e : S A (fun z => ent x (.inl (ldp z))) i = S (l1 ++ x :: l2) (fun z => ent x (.inl (ldp z))) i := by rw [← hsp]
  rw [e, S_app, S, h.one x hx, mul_one, S_zero l1, S_zero l2, zero_xor8, xor_zero8]
  · intro y hy
    exact .inl (h.zero y (by rw [hsp]; simp [hy]) x hx (by have := hpc.1 y hy; omega))
  · intro y hy
    exact .inl (h.zero y (by rw [hsp]; simp [hy]) x hx (by have := hp1.2.2 y hy x (by simp); omega))
/-- Any combination of the rows is of their span. -/
theorem InS.combAny (h : Red g s A) (by_ : List UInt8) : InS A (fun _ => True) (combR g s A by_) := by
  unfold combR
  have key : ∀ (l : List (RowD × UInt8)) (z : RowD), RowGS g s z → InS A (fun _ => True) z → (∀ p ∈ l, p.1 ∈ A) → InS A (fun _ => True) (l.foldl (fun r p => plusR r p.1 p.2) z) := by
    intro l
    induction l with
    | nil => intro z _ hz _; exact hz
    | cons p l ih =>
      intro z hg hz hp
      have hpA := hp p (by simp)
      rw [List.foldl_cons]
      exact ih _ (plusR_gs hg (h.gs _ hpA) _) (InS.plus hg (h.gs _ hpA) hz (InS.own h hpA) _) (fun q hq => hp q (by simp [hq]))
  exact key _ _ (zero_gs g s) (InS.zero (zero_ent g s)) (fun p hp => (List.of_mem_zip hp).1)
end

end Go.Bw
