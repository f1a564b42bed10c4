/- The document's own basis, told by leads: plain laws. -/
import Derived.Test.YtbgdgmilcojlbaaGood
import Derived.Test.YtbgdgmilcojlbaaInsert
namespace Go.Bw
set_option linter.unusedVariables false
set_option linter.unusedSimpArgs false

/-- The rows that there are, by rising leads. -/
def upto (f : Nat → Option RowD) (n : Nat) : List RowD := (List.range n).filterMap f
theorem upto_some {f : Nat → Option RowD} {n : Nat} {r : RowD} (h : f n = some r) : upto f (n + 1) = upto f n ++ [r] := by
  unfold upto
  rw [List.range_succ, List.filterMap_append]
  simp [h]
theorem upto_none {f : Nat → Option RowD} {n : Nat} (h : f n = none) : upto f (n + 1) = upto f n := by
  unfold upto
  rw [List.range_succ, List.filterMap_append]
  simp [h]
/-- Each row has the lead that it is told by. -/
def Leads (g s : Nat) (f : Nat → Option RowD) : Prop := ∀ i r, f i = some r → i < g ∧ lead r.1 = (i : Int) ∧ RowGS g s r
theorem redR_app (a b : List RowD) (r : RowD) : redR (a ++ b) r = redR b (redR a r) := List.foldl_append ..
theorem mem_upto {f : Nat → Option RowD} {n : Nat} {x : RowD} : x ∈ upto f n ↔ ∃ i, i < n ∧ f i = some x := by
  unfold upto
  simp [List.mem_filterMap]
theorem Leads.step {g s : Nat} {f : Nat → Option RowD} (h : Leads g s f) {i : Nat} {r : RowD} (hf : f i = some r) (q : RowD) : redR (upto f (i + 1)) q = plusR (redR (upto f i) q) r ((redR (upto f i) q).1.getD i 0) := by
  rw [upto_some hf, redR_app]
  show stepR _ r = _
  unfold stepR
  rw [(h i r hf).2.1]
  rfl
theorem filterMap_same {α β : Type} {f g : α → Option β} : ∀ {l : List α}, (∀ x ∈ l, f x = g x) → l.filterMap f = l.filterMap g
  | [], _ => rfl
  | x :: l, h => by
    rw [List.filterMap_cons, List.filterMap_cons, h x (by simp), filterMap_same (fun y hy => h y (by simp [hy]))]
theorem range_split {L g : Nat} (h : L < g) : List.range g = List.range L ++ L :: (List.range (g - L - 1)).map (fun i => L + 1 + i) := by
  apply List.ext_getElem
  · simp; omega
  · intro i h1 h2
    simp only [List.length_range] at h1
    rw [List.getElem_range]
    rcases Nat.lt_trichotomy i L with h3 | h3 | h3
    · rw [List.getElem_append_left (by simpa using h3), List.getElem_range]
    · subst h3
      rw [List.getElem_append_right (by simp)]
      simp
    · rw [List.getElem_append_right (by simp; omega)]
      have e : i - (List.range L).length = (i - L - 1) + 1 := by simp; omega
      simp only [e, List.getElem_cons_succ, List.getElem_map, List.getElem_range]
      omega
/-- The rows behind a lead. -/
def behind (f : Nat → Option RowD) (L g : Nat) : List RowD := ((List.range (g - L - 1)).map (fun i => L + 1 + i)).filterMap f
theorem upto_split {f : Nat → Option RowD} {L g : Nat} (h : L < g) : upto f g = upto f L ++ ((f L).toList ++ behind f L g) := by
  unfold upto behind
  rw [range_split h, List.filterMap_append, List.filterMap_cons]
  congr 1
  cases f L <;> simp
theorem placeOf_app {a b : List RowD} {L : Int} (ha : ∀ x ∈ a, ¬ lead x.1 > L) : placeOf (a ++ b) L = a.length + placeOf b L := by
  induction a with
  | nil => simp
  | cons x a ih =>
    rw [List.cons_append, placeOf, if_neg (ha x (by simp)), ih (fun y hy => ha y (by simp [hy]))]
    simp only [List.length_cons]
    omega
theorem placeOf_none {b : List RowD} {L : Int} (hb : ∀ x ∈ b, lead x.1 > L) : placeOf b L = 0 := by
  cases b with
  | nil => rfl
  | cons x b => rw [placeOf, if_pos (hb x (by simp))]
theorem Leads.place {g s : Nat} {f : Nat → Option RowD} (h : Leads g s f) {L : Nat} (hL : L < g) (hf : f L = none) : placeOf (upto f g) (L : Int) = (upto f L).length := by
  rw [upto_split hL, hf]
  simp only [Option.toList_none, List.nil_append]
  rw [placeOf_app, placeOf_none]
  · rfl
  · intro x hx
    unfold behind at hx
    simp only [List.mem_filterMap, List.mem_map, List.mem_range] at hx
    obtain ⟨i, ⟨j, _, rfl⟩, hi⟩ := hx
    have := (h _ _ hi).2.1
    omega
  · intro x hx
    obtain ⟨i, hi, hfi⟩ := mem_upto.1 hx
    have := (h _ _ hfi).2.1
    omega
/-- What an Insert makes of them. -/
def insF (q : RowD) (L : Nat) (f : Nat → Option RowD) (i : Nat) : Option RowD := if i = L then some (normR q) else (f i).map (freeR q)
theorem Leads.ins {g s : Nat} {f : Nat → Option RowD} (h : Leads g s f) {L : Nat} (hL : L < g) (hf : f L = none) (q : RowD) :
    upto (insF q L f) g = insAt ((upto f g).map (freeR q)) (placeOf (upto f g) (L : Int)) (normR q) := by
  rw [h.place hL hf, upto_split (f := insF q L f) hL, upto_split (f := f) hL, hf]
  have e1 : upto (insF q L f) L = (upto f L).map (freeR q) := by
    unfold upto
    rw [List.map_filterMap]
    apply filterMap_same
    intro i hi
    rw [List.mem_range] at hi
    unfold insF
    rw [if_neg (by omega)]
  have e2 : behind (insF q L f) L g = (behind f L g).map (freeR q) := by
    unfold behind
    rw [List.map_filterMap]
    apply filterMap_same
    intro i hi
    simp only [List.mem_map, List.mem_range] at hi
    obtain ⟨j, _, rfl⟩ := hi
    unfold insF
    rw [if_neg (by omega)]
  have e3 : insF q L f L = some (normR q) := by unfold insF; rw [if_pos rfl]
  rw [e1, e2, e3]
  unfold insAt
  have hl : ((upto f L).map (freeR q)).length = (upto f L).length := List.length_map ..
  simp only [Option.toList_none, Option.toList_some, List.nil_append, List.map_append, List.singleton_append]
  rw [← hl, List.take_left, List.drop_left, List.append_assoc]
  rfl
/-- Where the rest has its lead there is no row yet. -/
theorem Leads.free {g s : Nat} {f : Nat → Option RowD} (h : Leads g s f) (hR : Red g s (upto f g)) {r : RowD} (hr : RowGS g s r) {L : Nat} (hL : lead (redR (upto f g) r).1 = (L : Int)) : f L = none := by
  cases hf : f L with
  | none => rfl
  | some x =>
    exfalso
    obtain ⟨h1, h2, h3⟩ := h L x hf
    have hx : x ∈ upto f g := mem_upto.2 ⟨L, h1, hf⟩
    have h4 := redR_at hR r hr hx
    have h5 : ldp x = L := by unfold ldp; omega
    rw [h5] at h4
    have h6 := (lead_ent (x := redR (upto f g) r) (by omega)).1
    have h7 : ldp (redR (upto f g) r) = L := by unfold ldp; omega
    rw [h7] at h6
    exact h6 h4
theorem upto_insR {g s : Nat} {f : Nat → Option RowD} (h : Leads g s f) (hR : Red g s (upto f g)) {r : RowD} (hr : RowGS g s r) {L : Nat} (hLg : L < g) (hL : lead (redR (upto f g) r).1 = (L : Int)) :
    insR g s (upto f g) r = (true, upto (insF (redR (upto f g) r) L f) g) := by
  rw [insR_in hr (by omega), h.ins hLg (h.free hR hr hL), hL]
/-- The rows after it have their leads. -/
theorem insF_leads {g s : Nat} {f : Nat → Option RowD} (h : Leads g s f) (hR : Red g s (upto f g)) {r : RowD} (hr : RowGS g s r) {L : Nat} (hLg : L < g) (hL : lead (redR (upto f g) r).1 = (L : Int)) : Leads g s (insF (redR (upto f g) r) L f) := by
  have hq := redR_gs (upto f g) r hr (fun x hx => hR.gs x hx)
  have hi := Red.ins hR hq (by omega) (fun x hx => redR_at hR r hr hx)
  have hnl := norm_lead (q := redR (upto f g) r) (by omega)
  intro i x hx
  unfold insF at hx
  by_cases e : i = L
  · rw [if_pos e] at hx
    cases hx
    exact ⟨by omega, by rw [hnl.1, hL, e], norm_gs hq⟩
  · rw [if_neg e] at hx
    cases hf : f i with
    | none => rw [hf] at hx; cases hx
    | some y =>
      rw [hf] at hx
      cases hx
      obtain ⟨h1, h2, h3⟩ := h i y hf
      have hym : y ∈ upto f g := mem_upto.2 ⟨i, h1, hf⟩
      refine ⟨h1, ?_, plusR_gs h3 (norm_gs hq) _⟩
      exact (free_lead hR hq (by omega) (fun x hx => redR_at hR r hr hx) hym).trans h2
end Go.Bw
