/- BasisOne, walked. -/
import Derived.Test.YtdibepkfgemddaaGreatForm
namespace Go.Bw
set_option linter.unusedVariables false
set_option linter.unusedSimpArgs false
open Go.Proofs

theorem RowsOk.takeS {H : Hp} {cs : List (Value × Value)} {rs : List RowD} (h : RowsOk H cs rs) (k : Nat) : RowsOk H (cs.take k) (rs.take k) := by
  refine ⟨by simp [h.1], fun i a b => ?_⟩
  simp only [List.length_take] at a b
  simp only [List.getElem_take]
  exact h.2 i (by omega) (by omega)
theorem RowsOk.dropS {H : Hp} {cs : List (Value × Value)} {rs : List RowD} (h : RowsOk H cs rs) (k : Nat) : RowsOk H (cs.drop k) (rs.drop k) := by
  refine ⟨by simp [h.1], fun i a b => ?_⟩
  simp only [List.length_drop] at a b
  simp only [List.getElem_drop]
  exact h.2 (k + i) (by omega) (by omega)
theorem RowsOk.app {H : Hp} {cs ds : List (Value × Value)} {rs qs : List RowD} (h : RowsOk H cs rs) (k : RowsOk H ds qs) : RowsOk H (cs ++ ds) (rs ++ qs) := by
  refine ⟨by simp [h.1, k.1], fun i a b => ?_⟩
  have e1 := h.1
  by_cases e : i < rs.length
  · simp only [List.getElem_append_left e, List.getElem_append_left (show i < cs.length by omega)]
    exact h.2 i e (by omega)
  · simp only [List.length_append] at a b
    simp only [List.getElem_append_right (show rs.length ≤ i by omega), List.getElem_append_right (show cs.length ≤ i by omega), e1]
    exact k.2 (i - rs.length) (by omega) (by omega)

/-- What is of the span is not taken. -/
theorem stay {g s : Nat} {A : List RowD} {r : RowD} (h : Red g s A) (hr : RowGS g s r) (hin : InS A (fun _ => True) r) : insR g s A r = (false, A) := by
  apply insR_out hr
  rw [lead_none]
  intro j
  exact (InS.red h hr).1 hin (.inl j) trivial
theorem insAll_sub {g s : Nat} {C : List RowD} : ∀ (l b : List RowD), (∀ x ∈ b, RowGS g s x ∧ InS C (fun _ => True) x) → (∀ r ∈ l, RowGS g s r ∧ InS C (fun _ => True) r) →
    ∀ x ∈ l.foldl (fun b r => (insR g s b r).2) b, RowGS g s x ∧ InS C (fun _ => True) x
  | [], b, hb, _ => hb
  | r :: l, b, hb, hl => insAll_sub l _ (InS.insR hb (hl r (by simp)).1 (hl r (by simp)).2) (fun x hx => hl x (by simp [hx]))
theorem Tr.comb {g s : Nat} {ys : List (List UInt8)} {C : List RowD} (h : Good g s ys C) (by_ : List UInt8) : Tr ys (combR g s C by_) := by
  unfold combR
  have key : ∀ (l : List (RowD × UInt8)) (z : RowD), RowGS g s z → Tr ys z → (∀ p ∈ l, p.1 ∈ C) → Tr ys (l.foldl (fun r p => plusR r p.1 p.2) z) := by
    intro l
    induction l with
    | nil => intro z _ hz _; exact hz
    | cons p l ih =>
      intro z hg hz hp
      have hpA := hp p (by simp)
      rw [List.foldl_cons]
      exact ih _ (plusR_gs hg (h.red.gs _ hpA) _) (hz.plus (h.tr _ hpA) hg (h.red.gs _ hpA) _) (fun q hq => hp q (by simp [hq]))
  refine key _ _ (zero_gs g s) (fun j => ?_) (fun p hp => (List.of_mem_zip hp).1)
  have h1 := zero_ent g s (.inr j)
  simp only [ent] at h1
  rw [h1, T_zero]
  intro k
  exact zero_ent g s (.inl k)
-- left out, for this seat has no braidwork/braidworklaw07.Mix: abbrev mixObj (G S
def MF.nil0 : MF := MF.of (fun v _ => ∃ b, v = .slice b 0 0) fun _ _ _ _ h => h

/-- What is so, round by round: R the rows, A their basis, L what is left, C the other basis. -/
structure Inv (g s : Nat) (ys : List (List UInt8)) (R A L C : List RowD) : Prop where
  good : Good g s ys C
  left : ∀ r ∈ L, r ∈ R
  done : ∀ r ∈ R, r ∈ L ∨ InS C (fun _ => True) r
  sub : ∀ x ∈ C, RowGS g s x ∧ InS A (fun _ => True) x
theorem Inv.step {g s : Nat} {ys : List (List UInt8)} {R A L C : List RowD} (h : Inv g s ys R A L C) (hR : ∀ r ∈ R, Tr ys r ∧ RowGS g s r) (hA : ∀ r ∈ R, InS A (fun _ => True) r) (at_ : Nat) (hat : at_ < L.length) :
    Inv g s ys R A (L.take at_ ++ L.drop (at_ + 1)) (insR g s C L[at_]).2 := by
  have hm := List.getElem_mem hat
  have hr := hR _ (h.left _ hm)
  have hmem : ∀ x, x ∈ L ↔ x = L[at_] ∨ x ∈ L.take at_ ++ L.drop (at_ + 1) := by
    intro x
    conv => lhs; rw [← List.take_append_drop at_ L, List.drop_eq_getElem_cons hat]
    simp only [List.mem_append, List.mem_cons]
    constructor
    · rintro (h | h | h)
      · exact .inr (.inl h)
      · exact .inl h
      · exact .inr (.inr h)
    · rintro (h | h | h)
      · exact .inr (.inl h)
      · exact .inl h
      · exact .inr (.inr h)
  refine ⟨h.good.ins hr.2 hr.1, fun r hx => h.left _ ((hmem r).2 (.inr hx)), fun r hx => ?_, InS.insR h.sub hr.2 (hA _ (h.left _ hm))⟩
  rcases h.done r hx with h1 | h1
  · rcases (hmem r).1 h1 with rfl | h2
    · exact .inr (h.good.has hr.2 hr.1)
    · exact .inl h2
  · exact .inr (h.good.keep hr.2 (fun _ => trivial) (hR r hx).2 h1)

-- left out, for this seat has no braidworklaw07.BasisOne: theorem one_ok (G S
end Go.Bw
