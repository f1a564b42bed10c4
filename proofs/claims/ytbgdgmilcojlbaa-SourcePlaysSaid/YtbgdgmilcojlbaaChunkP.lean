/- The document's chunks are the program's: plain. -/
import Derived.Test.YtbgdgmilcojlbaaFlat
namespace Go.Bw
set_option linter.unusedVariables false
set_option linter.unusedSimpArgs false

/-- Pieces, and where the next begins, behind a place. -/
def rR (room : Nat) (st : List UInt8) (cuts : List Int) : Nat → List (List UInt8) × Nat
  | 0 => ([], 0)
  | n + 1 => if n + 1 - (rR room st cuts n).2 = room ∨ (rR room st cuts n).2 < n + 1 ∧ ((n + 1 : Nat) : Int) ∈ cuts then ((rR room st cuts n).1 ++ [(st.drop (rR room st cuts n).2).take (n + 1 - (rR room st cuts n).2)], n + 1) else rR room st cuts n
theorem rR_step {room : Nat} (hr : 1 ≤ room) (st : List UInt8) (cuts : List Int) (n : Nat) : rR room st cuts n = if n - (rR room st cuts (n - 1)).2 = room ∨ (rR room st cuts (n - 1)).2 < n ∧ (n : Int) ∈ cuts then ((rR room st cuts (n - 1)).1 ++ [(st.drop (rR room st cuts (n - 1)).2).take (n - (rR room st cuts (n - 1)).2)], n) else rR room st cuts (n - 1) := by
  cases n with
  | zero =>
    rw [if_neg]
    show ¬ (0 - 0 = room ∨ 0 < 0 ∧ _)
    omega
  | succ n => rw [Nat.add_sub_cancel]; rfl
theorem rR_le (room : Nat) (st : List UInt8) (cuts : List Int) : ∀ n, (rR room st cuts n).2 ≤ n ∧ (rR room st cuts n).1.length ≤ (rR room st cuts n).2
  | 0 => ⟨Nat.le_refl _, Nat.le_refl _⟩
  | n + 1 => by
    have ih := rR_le room st cuts n
    rw [rR]
    split
    · refine ⟨Nat.le_refl _, ?_⟩
      simp only [List.length_append, List.length_singleton]
      omega
    · omega
theorem succ_div1 {d room : Nat} (hr : 1 ≤ room) (h : d % room + 1 = room) : (d + 1) / room = d / room + 1 := by
  have h1 := Nat.div_add_mod d room
  have h2 : d + 1 = room * (d / room + 1) := by rw [Nat.mul_add, Nat.mul_one]; omega
  rw [h2, Nat.mul_div_cancel_left _ (by omega)]
theorem succ_div0 {d room : Nat} (hr : 1 ≤ room) (h : ¬ d % room + 1 = room) : (d + 1) / room = d / room := by
  have h1 := Nat.div_add_mod d room
  have h3 : d % room < room := Nat.mod_lt _ (by omega)
  have h2 : d + 1 = room * (d / room) + (d % room + 1) := by omega
  rw [h2, Nat.mul_add_div (by omega), Nat.div_eq_of_lt (show d % room + 1 < room by omega), Nat.add_zero]
theorem rR_run {room a : Nat} {st : List UInt8} {cuts : List Int} {l : List (List UInt8)} (hr : 1 ≤ room) (ha : rR room st cuts a = (l, a)) : ∀ d, (∀ c ∈ cuts, c ≤ (a : Int) ∨ ((a + d : Nat) : Int) < c) →
    rR room st cuts (a + d) = (l ++ wholeL room st a (d / room), a + d / room * room)
  | 0, _ => by simp [ha, wholeL]
  | d + 1, hc => by
    have ih := rR_run hr ha d (fun c h => (hc c h).imp id fun h2 => by omega)
    have h1 := Nat.div_add_mod d room
    rw [Nat.mul_comm] at h1
    have h3 : d % room < room := Nat.mod_lt _ (by omega)
    rw [← Nat.add_assoc, rR, ih]
    simp only
    by_cases hm : d % room + 1 = room
    · rw [if_pos (.inl (by omega)), succ_div1 hr hm, wholeL_succ, List.append_assoc, Nat.add_mul, Nat.one_mul]
      rw [show a + d + 1 - (a + d / room * room) = room by omega]
      congr 1
      omega
    · rw [if_neg (fun h => by
        rcases h with h | ⟨_, h⟩
        · omega
        · rcases hc _ h with h4 | h4
          · omega
          · exact absurd h4 (by rw [← Nat.add_assoc]; omega)), succ_div0 hr hm]
theorem rR_cut {room a c : Nat} {st : List UInt8} {cuts : List Int} {l : List (List UInt8)} (hr : 1 ≤ room) (ha : rR room st cuts a = (l, a)) (hac : a ≤ c) (hm : (c : Int) ∈ cuts) (hc : ∀ x ∈ cuts, x ≤ (a : Int) ∨ (c : Int) ≤ x) :
    rR room st cuts c = chunkStep room st (l, a) (c : Int) := by
  simp only [chunkStep, Int.toNat_natCast, cutPiece]
  by_cases e : a = c
  · subst e
    rw [ha, Nat.sub_self, Nat.zero_div, Nat.zero_mul, Nat.add_zero, if_neg (by omega)]
    simp [wholeL]
  · obtain ⟨d, rfl⟩ : ∃ d, c = a + d + 1 := ⟨c - a - 1, by omega⟩
    have hrun := rR_run hr ha d (fun x hx => (hc x hx).imp id fun h2 => by omega)
    have h1 := Nat.div_add_mod d room
    rw [Nat.mul_comm] at h1
    have h3 : d % room < room := Nat.mod_lt _ (by omega)
    rw [rR, hrun]
    simp only
    rw [if_pos (.inr ⟨by omega, hm⟩), show a + d + 1 - a = d + 1 by omega]
    by_cases hmm : d % room + 1 = room
    · rw [succ_div1 hr hmm, wholeL_succ, Nat.add_mul, Nat.one_mul, if_neg (by omega), List.append_nil, List.append_assoc, show a + d + 1 - (a + d / room * room) = room by omega]
    · rw [succ_div0 hr hmm, if_pos (by omega)]
theorem cutsOk_ge {n : Nat} : ∀ (l : List Int) (a : Int), cutsOk n a l = true → ∀ c ∈ l, a ≤ c ∧ c ≤ (n : Int)
  | [], _, _, c, h => by cases h
  | x :: l, a, h, c, hc => by
    simp only [cutsOk, Bool.and_eq_true, decide_eq_true_eq] at h
    rcases List.mem_cons.1 hc with e | hc
    · subst e; exact ⟨h.1.1, h.1.2⟩
    · have := cutsOk_ge l x h.2 c hc
      omega
theorem rR_cuts {room n : Nat} {st : List UInt8} {cuts : List Int} (hr : 1 ≤ room) : ∀ (suf : List Int) (a : Nat) (l : List (List UInt8)), rR room st cuts a = (l, a) → (∀ c ∈ cuts, c ≤ (a : Int) ∨ c ∈ suf) → (∀ c ∈ suf, c ∈ cuts) → a ≤ n → cutsOk n (a : Int) suf = true →
    rR room st cuts (suf.foldl (chunkStep room st) (l, a)).2 = suf.foldl (chunkStep room st) (l, a) ∧ (∀ c ∈ cuts, c ≤ ((suf.foldl (chunkStep room st) (l, a)).2 : Int)) ∧ (suf.foldl (chunkStep room st) (l, a)).2 ≤ n
  | [], a, l, ha, h1, _, h2, _ => by
    refine ⟨ha, fun c hc => ?_, h2⟩
    rcases h1 c hc with h | h
    · exact h
    · cases h
  | x :: suf, a, l, ha, h1, h2, h3, hk => by
    simp only [cutsOk, Bool.and_eq_true, decide_eq_true_eq] at hk
    obtain ⟨k, rfl⟩ := Int.eq_ofNat_of_zero_le (show 0 ≤ x by omega)
    have hge := cutsOk_ge suf _ hk.2
    have hcut := rR_cut (c := k) hr ha (by omega) (h2 _ (by simp)) (fun y hy => by
      rcases h1 y hy with h | h
      · exact .inl h
      · rcases List.mem_cons.1 h with e | h
        · subst e; exact .inr (Int.le_refl _)
        · exact .inr (hge y h).1)
    have e2 : chunkStep room st (l, a) ((k : Nat) : Int) = ((chunkStep room st (l, a) ((k : Nat) : Int)).1, k) := rfl
    rw [List.foldl_cons, e2]
    refine rR_cuts hr suf k _ (by rw [hcut]; exact e2) (fun y hy => ?_) (fun y hy => h2 y (by simp [hy])) (by omega) hk.2
    rcases h1 y hy with h | h
    · exact .inl (by omega)
    · rcases List.mem_cons.1 h with e | h
      · subst e; exact .inl (Int.le_refl _)
      · exact .inr h
theorem rR_all {room : Nat} {st : List UInt8} {cuts : List Int} (hr : 1 ≤ room) (h : cutsOk st.length 0 cuts = true) : (rR room st cuts st.length).1 = chunksF room st cuts ∧ st.drop (rR room st cuts st.length).2 = openF room st cuts := by
  have h1 := rR_cuts (n := st.length) (st := st) hr cuts 0 [] rfl (fun c hc => .inr hc) (fun c hc => hc) (Nat.zero_le _) h
  have e : cuts.foldl (chunkStep room st) ([], 0) = chunkP room st cuts := rfl
  rw [e] at h1
  obtain ⟨h2, h3, h4⟩ := h1
  generalize hP : chunkP room st cuts = P at *
  obtain ⟨l, a⟩ := P
  simp only at h2 h3 h4
  have h5 := rR_run hr h2 (st.length - a) (fun c hc => .inl (h3 c hc))
  rw [show a + (st.length - a) = st.length by omega] at h5
  rw [h5, chunksF, openF, hP]
  exact ⟨rfl, rfl⟩
theorem cutsOk_sorted {n : Nat} : ∀ (l : List Int) (a : Int), cutsOk n a l = true → l.Pairwise (· ≤ ·)
  | [], _, _ => .nil
  | x :: l, a, h => by
    simp only [cutsOk, Bool.and_eq_true, decide_eq_true_eq] at h
    exact List.pairwise_cons.2 ⟨fun y hy => (cutsOk_ge l x h.2 y hy).1, cutsOk_sorted l x h.2⟩
/-- Of cuts that do not fall: where the first stands that is not ahead of a place. -/
theorem cuts_at {cuts : List Int} {k n : Nat} (hs : cuts.Pairwise (· ≤ ·)) (hb : ∀ j (h : j < cuts.length), j < k → cuts[j] < (n : Int)) (hk : ∀ h : k < cuts.length, (n : Int) ≤ cuts[k]) : (n : Int) ∈ cuts ↔ ∃ h : k < cuts.length, cuts[k] = (n : Int) := by
  constructor
  · intro hm
    obtain ⟨j, hj, e⟩ := List.mem_iff_getElem.1 hm
    by_cases h1 : j < k
    · have := hb j hj h1
      omega
    · have hkl : k < cuts.length := by omega
      refine ⟨hkl, ?_⟩
      by_cases h2 : j = k
      · subst h2; exact e
      · have h3 := List.pairwise_iff_getElem.1 hs k j hkl hj (by omega)
        have := hk hkl
        omega
  · rintro ⟨h, e⟩
    rw [← e]
    exact List.getElem_mem h
/-- Whether cuts may be, looked at one by one. -/
theorem cutsOk_iff {n : Nat} : ∀ (l : List Int) (a : Int), 0 ≤ a → (cutsOk n a l = true ↔ ∀ i (h : i < l.length), 0 ≤ l[i] ∧ l[i] ≤ (n : Int) ∧ (if i = 0 then a else l[i - 1]'(by omega)) ≤ l[i])
  | [], a, _ => ⟨fun _ i h => by simp at h, fun _ => rfl⟩
  | x :: l, a, ha => by
    simp only [cutsOk, Bool.and_eq_true, decide_eq_true_eq]
    constructor
    · rintro ⟨⟨h1, h2⟩, h3⟩ i hi
      have h4 := (cutsOk_iff l x (by omega)).1 h3
      match i, hi with
      | 0, _ => exact ⟨by show 0 ≤ x; omega, h2, h1⟩
      | i + 1, hi =>
        have h5 := h4 i (by simpa using hi)
        refine ⟨h5.1, h5.2.1, ?_⟩
        have h6 := h5.2.2
        clear h5
        cases i with
        | zero => simpa using h6
        | succ i => simpa using h6
    · intro h
      have h0 := h 0 (by simp)
      refine ⟨⟨h0.2.2, h0.2.1⟩, (cutsOk_iff l x h0.1).2 fun i hi => ?_⟩
      have h5 := h (i + 1) (by simpa using hi)
      refine ⟨h5.1, h5.2.1, ?_⟩
      have h6 := h5.2.2
      clear h5
      cases i with
      | zero => simpa using h6
      | succ i => simpa using h6
end Go.Bw
