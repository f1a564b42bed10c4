/- BasisForm, walked. -/
import Derived.Test.YtdibepkfgemddaaGreatBack
namespace Go.Bw
set_option linter.unusedVariables false
set_option linter.unusedSimpArgs false
open Go.Proofs

theorem foldl_in {g s : Nat} {ys : List (List UInt8)} : ∀ (l b : List RowD), (∀ r ∈ l, Tr ys r ∧ RowGS g s r) → Good g s ys b →
    (∀ v, RowGS g s v → InS b (fun _ => True) v → InS (l.foldl (fun b r => (insR g s b r).2) b) (fun _ => True) v) ∧ ∀ r ∈ l, InS (l.foldl (fun b r => (insR g s b r).2) b) (fun _ => True) r
  | [], b, _, _ => ⟨fun v _ h => h, by simp⟩
  | r :: l, b, hl, hb => by
    obtain ⟨ht, hg⟩ := hl r (by simp)
    obtain ⟨h1, h2⟩ := foldl_in l _ (fun x hx => hl x (by simp [hx])) (hb.ins hg ht)
    refine ⟨fun v hv hin => h1 v hv (hb.keep hg (fun _ => trivial) hv hin), fun x hx => ?_⟩
    rcases List.mem_cons.1 hx with rfl | hx
    · exact h1 _ hg (hb.has hg ht)
    · exact h2 x hx
theorem insAll_in {g s : Nat} {ys : List (List UInt8)} (rs : List RowD) (h : ∀ r ∈ rs, Tr ys r ∧ RowGS g s r) : ∀ r ∈ rs, InS (insAll g s rs) (fun _ => True) r :=
  (foldl_in rs [] h (Good.nil g s ys)).2
theorem ent_getElem {x : RowD} {j : Nat} (h : j < x.1.length) : x.1[j] = ent x (.inl j) := by simp [ent, h]

theorem Red.asc_ne {g s : Nat} {A : List RowD} (h : Red g s A) {i k : Nat} (hi : i < A.length) (hk : k < A.length) (hne : i ≠ k) : lead A[i].1 ≠ lead A[k].1 := by
  have h1 := List.pairwise_iff_getElem.1 h.asc
  rcases Nat.lt_or_ge i k with e | e
  · have := h1 i k hi hk e; omega
  · have := h1 k i hk hi (by omega); omega

-- left out, for this seat has no braidworklaw07.BasisForm: theorem form_ok (G S
end Go.Bw
