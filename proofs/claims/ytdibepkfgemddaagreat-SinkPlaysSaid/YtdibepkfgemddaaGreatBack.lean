/- BasisBack, walked. -/
import Derived.Test.YtdibepkfgemddaaGreatSpan
namespace Go.Bw
set_option linter.unusedVariables false
set_option linter.unusedSimpArgs false
open Go.Proofs

/-- All inserted, one behind the other. -/
def insAll (g s : Nat) (rs : List RowD) : List RowD := rs.foldl (fun b r => (insR g s b r).2) []
theorem insAll_step (g s : Nat) (rs : List RowD) (k : Nat) (h : k < rs.length) : insAll g s (rs.take (k + 1)) = (insR g s (insAll g s (rs.take k)) rs[k]).2 := by
  unfold insAll
  rw [List.take_succ_eq_append_getElem h, List.foldl_append]
  rfl
theorem insAll_good {g s : Nat} {ys : List (List UInt8)} : ∀ (rs : List RowD), (∀ r ∈ rs, Tr ys r ∧ RowGS g s r) → Good g s ys (insAll g s rs) := by
  intro rs h
  have key : ∀ (l : List RowD) (b : List RowD), (∀ r ∈ l, Tr ys r ∧ RowGS g s r) → Good g s ys b → Good g s ys (l.foldl (fun b r => (insR g s b r).2) b) := by
    intro l
    induction l with
    | nil => intro b _ hb; exact hb
    | cons r l ih => intro b hl hb; exact ih _ (fun x hx => hl x (by simp [hx])) (hb.ins (hl r (by simp)).2 (hl r (by simp)).1)
  exact key rs [] h (Good.nil g s ys)

theorem redR_fst : ∀ (A : List RowD) (r x : RowD), r.1 = x.1 → (redR A r).1 = (redR A x).1
  | [], _, _, h => h
  | y :: A, r, x, h => redR_fst A (stepR r y) (stepR x y) (by show addS _ r.1 y.1 = addS _ x.1 y.1; rw [h])
theorem hasR_eq (s : Nat) (A : List RowD) (r : RowD) : hasR s A r.1 = decide (lead (redR A r).1 < 0) := by
  unfold hasR
  rw [redR_fst A (r.1, List.replicate s 0) r rfl]
theorem insR_fst {g s : Nat} {A : List RowD} {r : RowD} (hr : RowGS g s r) : (insR g s A r).1 = !decide (lead (redR A r).1 < 0) := by
  by_cases h : lead (redR A r).1 < 0
  · rw [insR_out hr h]; simp [h]
  · rw [insR_in hr h]; simp [h]
theorem Good.now {g s : Nat} {ys : List (List UInt8)} {A : List RowD} {r : RowD} (h : Good g s ys A) (hr : RowGS g s r) (hin : InS A (fun i => ∃ j, i = .inl j) r) : hasR s A r.1 = true := by
  rw [hasR_eq, decide_eq_true_iff, lead_none]
  intro j
  exact (InS.red h.red hr).1 hin (.inl j) ⟨j, rfl⟩

theorem ne_not (b : Bool) : ((!b) == b) = false := by cases b <;> rfl
-- left out, for this seat has no braidworklaw07.BasisBack: theorem back_ok (G S
end Go.Bw
