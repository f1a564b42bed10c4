/- What Insert keeps. -/
import Derived.Test.YtdibepkfgemddaaTrue
namespace Go.Bw
set_option linter.unusedVariables false
set_option linter.unusedSimpArgs false

/-- A reduced basis of true rows. -/
structure Good (g s : Nat) (ys : List (List UInt8)) (b : List RowD) : Prop where
  red : Red g s b
  tr : ∀ x ∈ b, Tr ys x
theorem Good.nil (g s : Nat) (ys : List (List UInt8)) : Good g s ys [] := ⟨Red.nil g s, by simp⟩

section
variable {g s : Nat} {ys : List (List UInt8)} {b : List RowD} {r : RowD}
theorem insR_out (hr : RowGS g s r) (h : lead (redR b r).1 < 0) : insR g s b r = (false, b) := by rw [insR, if_pos (show r.1.length = g ∧ r.2.length = s from hr), if_pos h]
theorem insR_in (hr : RowGS g s r) (h : ¬ lead (redR b r).1 < 0) : insR g s b r = (true, insAt (b.map (freeR (redR b r))) (placeOf b (lead (redR b r).1)) (normR (redR b r))) := by rw [insR, if_pos (show r.1.length = g ∧ r.2.length = s from hr), if_neg h]
theorem Good.ins (h : Good g s ys b) (hr : RowGS g s r) (ht : Tr ys r) : Good g s ys (insR g s b r).2 := by
  by_cases hl : lead (redR b r).1 < 0
  · rw [insR_out hr hl]; exact h
  · rw [insR_in hr hl]
    have hq := redR_gs b r hr h.red.gs
    have htq : Tr ys (redR b r) := Tr.red b r ht hr (fun x hx => ⟨h.tr x hx, h.red.gs x hx⟩)
    refine ⟨h.red.ins hq (by omega) (fun x hx => redR_at h.red r hr hx), fun y hy => ?_⟩
    rcases mem_ins.1 hy with rfl | hy
    · exact htq.norm
    · obtain ⟨x, hx, rfl⟩ := List.mem_map.1 hy
      exact (h.tr x hx).plus htq.norm (h.red.gs x hx) (norm_gs hq) _
/-- What was in the span stays in it. -/
theorem Good.keep (h : Good g s ys b) (hr : RowGS g s r) {A : Pl → Prop} (hA : ∀ j, A (.inl j)) {v : RowD} (hv : RowGS g s v) (hin : InS b A v) : InS (insR g s b r).2 A v := by
  by_cases hl : lead (redR b r).1 < 0
  · rw [insR_out hr hl]; exact hin
  · rw [insR_in hr hl]
    exact hin.ins h.red (redR_gs b r hr h.red.gs) (by omega) (fun x hx => redR_at h.red r hr hx) hA hv
/-- What was inserted is in the span. -/
theorem Good.has (h : Good g s ys b) (hr : RowGS g s r) (ht : Tr ys r) : InS (insR g s b r).2 (fun _ => True) r := by
  by_cases hl : lead (redR b r).1 < 0
  · rw [insR_out hr hl, InS.red h.red hr]
    exact fun i _ => (Tr.red b r ht hr (fun x hx => ⟨h.tr x hx, h.red.gs x hx⟩)).none hl i
  · rw [insR_in hr hl]
    exact InS.new h.red hr (by omega) _
theorem insR_len (hr : RowGS g s r) : (insR g s b r).2.length = b.length + (if (insR g s b r).1 = true then 1 else 0) := by
  by_cases hl : lead (redR b r).1 < 0
  · rw [insR_out hr hl]; simp
  · rw [insR_in hr hl]
    have := (ins_perm (b.map (freeR (redR b r))) (placeOf b (lead (redR b r).1)) (normR (redR b r))).length_eq
    simp at this ⊢
    exact this
theorem asc_len : ∀ (l : List Int) (lo hi : Int), l.Pairwise (· < ·) → (∀ x ∈ l, lo ≤ x ∧ x < hi) → (l.length : Int) ≤ max 0 (hi - lo)
  | [], lo, hi, _, _ => by simp; omega
  | x :: l, lo, hi, hp, hb => by
    have hpc := List.pairwise_cons.1 hp
    have hx := hb x (by simp)
    have := asc_len l (x + 1) hi hpc.2 (fun y hy => ⟨by have := hpc.1 y hy; omega, (hb y (by simp [hy])).2⟩)
    simp only [List.length_cons]
    omega
theorem Red.len (h : Red g s b) : b.length ≤ g := by
  have := asc_len (b.map (fun x => lead x.1)) 0 g (by rw [List.pairwise_map]; exact h.asc) (by
    intro v hv
    obtain ⟨x, hx, rfl⟩ := List.mem_map.1 hv
    have h1 := h.ld x hx
    have h2 := lead_lt h1
    have h3 := (h.gs x hx).1
    omega)
  simp at this
  omega
end

end Go.Bw
