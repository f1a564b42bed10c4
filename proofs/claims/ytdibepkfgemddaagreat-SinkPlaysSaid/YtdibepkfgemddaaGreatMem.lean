/- What is known of memory: a part that stays, blocks that may change, and how calls leave them. -/
import Derived.Test.YtdibepkfgemddaaGreatCore
namespace Go.Bw
set_option linter.unusedVariables false
set_option linter.unusedSimpArgs false

/-- A part of memory that stays as it is. -/
abbrev Hp := Nat → Option Obj

def hcell (H : Hp) (a : Addr) : Option Value :=
  match H a.block with
  | some (.cells c _ _) => if a.spot.isSome then none else c[a.off]?
  | _ => none

def Hp.put (H : Hp) (g : Nat) (o : Obj) : Hp := fun b => if b = g then some o else H b

/-- One part lies in another. -/
def Hp.le (H H' : Hp) : Prop := ∀ b o, H b = some o → H' b = some o
theorem Hp.le.refl (H : Hp) : H.le H := fun _ _ h => h
theorem Hp.le.trans {A B C : Hp} (h : A.le B) (k : B.le C) : A.le C := fun b o x => k b o (h b o x)
theorem Hp.le_put {H : Hp} {g : Nat} (h : H g = none) (o : Obj) : H.le (H.put g o) := by
  intro b u hb
  unfold Hp.put
  split
  · rename_i e; subst e; rw [h] at hb; cases hb
  · exact hb
theorem Hp.put_same (H : Hp) (g : Nat) (o : Obj) : H.put g o g = some o := by simp [Hp.put]
theorem hcell.mono {H H' : Hp} (h : H.le H') {a : Addr} {v : Value} (hc : hcell H a = some v) : hcell H' a = some v := by
  unfold hcell at *
  cases hb : H a.block with
  | none => simp [hb] at hc
  | some o => rw [hb] at hc; rw [h _ _ hb]; exact hc
theorem hcell_put {H : Hp} {g i : Nat} {c : Array Value} {e : TypeId} {fr : Nat × Nat} {v : Value} (h : c[i]? = some v) : hcell (H.put g (.cells c e fr)) ⟨g, i, none⟩ = some v := by
  simp [hcell, Hp.put, h]

abbrev Mem := List (Nat × Obj × Bool)
def Mem.keys (M : Mem) : List Nat := M.map (·.1)

/-- From (H0, w0) with the blocks xs writable, one has come to (H, w), knowing the blocks M (true: writable). -/
structure HS (xs : List Nat) (H0 : Hp) (w0 : World) (H : Hp) (M : Mem) (w : World) : Prop where
  le : H0.le H
  sub : ∀ b o, H b = some o → w.heap[b]? = some o
  new : ∀ b o, H b = some o → H0 b = some o ∨ w0.heap.size ≤ b
  keep : ∀ b, b < w0.heap.size → b ∉ xs → w.heap[b]? = w0.heap[b]?
  size : w0.heap.size ≤ w.heap.size
  os : w.os = w0.os
  tape : w.tape = w0.tape
  out : w.output = w0.output
  mem : ∀ g o t, (g, o, t) ∈ M → w.heap[g]? = some o ∧ H g = none ∧ (t = true → g ∈ xs ∨ w0.heap.size ≤ g)
  nd : (Mem.keys M).Nodup

theorem HS.start {H : Hp} {w : World} {M : Mem} (xs : List Nat) (sub : ∀ b o, H b = some o → w.heap[b]? = some o)
    (mem : ∀ g o t, (g, o, t) ∈ M → w.heap[g]? = some o ∧ H g = none ∧ (t = true → g ∈ xs)) (nd : (Mem.keys M).Nodup) : HS xs H w H M w :=
  ⟨.refl H, sub, fun _ _ h => .inl h, fun _ _ _ => rfl, Nat.le_refl _, rfl, rfl, rfl, fun g o t h => ⟨(mem g o t h).1, (mem g o t h).2.1, fun ht => .inl ((mem g o t h).2.2 ht)⟩, nd⟩

theorem lt_of_heap {w : World} {b : Nat} {o : Obj} (h : w.heap[b]? = some o) : b < w.heap.size := (Array.getElem?_eq_some_iff.1 h).1

section
variable {xs : List Nat} {H0 H : Hp} {w0 w : World} {M : Mem}

theorem HS.cell (h : HS xs H0 w0 H M w) {a : Addr} {v : Value} (hc : hcell H a = some v) : w.cell? a = some v := by
  unfold hcell at hc
  unfold World.cell?
  cases hb : H a.block with
  | none => simp [hb] at hc
  | some o => rw [hb] at hc; rw [h.sub _ _ hb]; exact hc

theorem HS.blk (h : HS xs H0 w0 H M w) {i : Nat} {g : Nat} {o : Obj} {t : Bool} (hm : nth M i = some (g, o, t)) : w.heap[g]? = some o :=
  (h.mem g o t (List.mem_of_getElem? (by rw [← nth_eq]; exact hm))).1

theorem HS.lt (h : HS xs H0 w0 H M w) {i : Nat} {g : Nat} {o : Obj} {t : Bool} (hm : nth M i = some (g, o, t)) : g < w.heap.size := lt_of_heap (h.blk hm)

theorem HS.cellM (h : HS xs H0 w0 H M w) {i : Nat} {g off : Nat} {c : Array Value} {e : TypeId} {fr : Nat × Nat} {t : Bool} {v : Value} (hm : nth M i = some (g, .cells c e fr, t))
    (hc : nth c.toList off = some v) : w.cell? ⟨g, off, none⟩ = some v := by
  have hb := h.blk hm
  rw [nth_eq] at hc
  simpa [World.cell?, hb] using hc

/-- Blocks of which nothing more need be known. -/
theorem HS.sublist (h : HS xs H0 w0 H M w) {M' : Mem} (hs : M'.Sublist M) : HS xs H0 w0 H M' w :=
  ⟨h.le, h.sub, h.new, h.keep, h.size, h.os, h.tape, h.out, fun g o t hm => h.mem g o t (hs.subset hm), (hs.map _).nodup h.nd⟩

theorem HS.right {Mx : Mem} (h : HS xs H0 w0 H (Mx ++ M) w) : HS xs H0 w0 H M w := h.sublist (List.sublist_append_right Mx M)

theorem HS.perm (h : HS xs H0 w0 H M w) {M' : Mem} (hs : M'.Perm M) : HS xs H0 w0 H M' w :=
  ⟨h.le, h.sub, h.new, h.keep, h.size, h.os, h.tape, h.out, fun g o t hm => h.mem g o t (hs.subset hm), (hs.map _).nodup_iff.2 h.nd⟩

theorem HS.drop (h : HS xs H0 w0 H M w) (i : Nat) : HS xs H0 w0 H (M.eraseIdx i) w := h.sublist (List.eraseIdx_sublist M i)

theorem front_perm : ∀ (M : Mem) (i : Nat) (hi : i < M.length), (M[i] :: M.eraseIdx i).Perm M
  | [], i, hi => by simp at hi
  | p :: M, 0, _ => by simp
  | p :: M, i + 1, hi => by
    have ih := front_perm M i (by simpa using hi)
    simp only [List.getElem_cons_succ, List.eraseIdx_cons_succ]
    exact (List.Perm.swap _ _ _).trans (ih.cons p)

def dropAt {α : Type} : List α → Nat → List α
  | [], _ => []
  | _ :: l, 0 => l
  | v :: l, i + 1 => v :: dropAt l i
theorem dropAt_eq {α : Type} : ∀ (l : List α) (i : Nat), dropAt l i = l.eraseIdx i
  | [], i => by simp [dropAt]
  | v :: l, 0 => by simp [dropAt]
  | v :: l, i + 1 => by simp [dropAt, dropAt_eq l i]

/-- The i-th block comes first. -/
theorem HS.front (h : HS xs H0 w0 H M w) {i : Nat} {p : Nat × Obj × Bool} (hm : nth M i = some p) : HS xs H0 w0 H (p :: dropAt M i) w := by
  rw [nth_eq] at hm
  rw [dropAt_eq]
  have hi : i < M.length := (List.getElem?_eq_some_iff.1 hm).1
  have : p = M[i] := by rw [List.getElem?_eq_getElem hi] at hm; exact (Option.some.inj hm).symm
  subst this
  exact h.perm (front_perm M i hi)

/-- The first block stays from now on. -/
theorem HS.publish {g : Nat} {o : Obj} {t : Bool} (h : HS xs H0 w0 H ((g, o, t) :: M) w) (hg : w0.heap.size ≤ g) : HS xs H0 w0 (H.put g o) M w := by
  have h0 := h.mem g o t (by simp)
  refine ⟨h.le.trans (Hp.le_put h0.2.1 o), ?_, ?_, h.keep, h.size, h.os, h.tape, h.out, ?_, (List.nodup_cons.1 h.nd).2⟩
  · intro b u hb
    unfold Hp.put at hb
    split at hb
    · rename_i e; subst e; rw [← hb]; exact h0.1
    · exact h.sub b u hb
  · intro b u hb
    unfold Hp.put at hb
    split at hb
    · rename_i e; subst e; exact .inr hg
    · exact h.new b u hb
  · intro g' o' t' hm
    have h1 := h.mem g' o' t' (by simp [hm])
    refine ⟨h1.1, ?_, h1.2.2⟩
    unfold Hp.put
    split
    · rename_i e
      subst e
      exact absurd (List.mem_map.2 ⟨_, hm, rfl⟩ : g' ∈ Mem.keys M) (List.nodup_cons.1 h.nd).1
    · exact h1.2.1

/-- A new block. -/
theorem HS.alloc (h : HS xs H0 w0 H M w) (o : Obj) : HS xs H0 w0 H ((w.heap.size, o, true) :: M) (w.alloc o) := by
  have hold : ∀ (b : Nat) (u : Obj), w.heap[b]? = some u → (w.alloc o).heap[b]? = some u := by
    intro b u hb
    rw [heap_alloc_old w o (lt_of_heap hb)]; exact hb
  have hfr : H w.heap.size = none := by
    cases hh : H w.heap.size with
    | none => rfl
    | some u => exact absurd (lt_of_heap (h.sub _ _ hh)) (Nat.lt_irrefl _)
  refine ⟨h.le, fun b u hb => hold b u (h.sub b u hb), h.new, ?_, Nat.le_trans h.size (by simp), h.os, h.tape, h.out, ?_, ?_⟩
  · intro b hb hx
    rw [← h.keep b hb hx]
    exact heap_alloc_old w o (by have := h.size; omega)
  · intro g u t hm
    rcases List.mem_cons.1 hm with e | hm
    · cases e
      exact ⟨heap_alloc_new w o, hfr, fun _ => .inr h.size⟩
    · have h1 := h.mem g u t hm
      exact ⟨hold g u h1.1, h1.2⟩
  · refine List.nodup_cons.2 ⟨?_, h.nd⟩
    intro hm
    obtain ⟨⟨g, u, t⟩, h1, h2⟩ := List.mem_map.1 hm
    have h3 := h.mem g u t h1
    have := lt_of_heap h3.1
    simp at h2
    omega

theorem HS.drew (h : HS xs H0 w0 H M w) : HS xs H0 w0 H M w.drew :=
  ⟨h.le, h.sub, h.new, h.keep, h.size, h.os, h.tape, h.out, h.mem, h.nd⟩

/-- The block that comes first is written. -/
theorem HS.write {g : Nat} {o : Obj} (h : HS xs H0 w0 H ((g, o, true) :: M) w) (o' : Obj) {w' : World} (hw : w'.heap = w.heap.setIfInBounds g o')
    (h1 : w'.os = w.os) (h2 : w'.tape = w.tape) (h3 : w'.output = w.output) : HS xs H0 w0 H ((g, o', true) :: M) w' := by
  have h0 := h.mem g o true (by simp)
  have hlt := lt_of_heap h0.1
  have other : ∀ b, b ≠ g → w'.heap[b]? = w.heap[b]? := by
    intro b hb
    rw [hw, Array.getElem?_setIfInBounds]
    simp [Ne.symm hb]
  refine ⟨h.le, ?_, h.new, ?_, by rw [hw]; simpa using h.size, h1.trans h.os, h2.trans h.tape, h3.trans h.out, ?_, h.nd⟩
  · intro b u hb
    have : b ≠ g := fun e => by subst e; rw [h0.2.1] at hb; cases hb
    rw [other b this]; exact h.sub b u hb
  · intro b hb hx
    have : b ≠ g := by
      intro e
      subst e
      rcases h0.2.2 rfl with h4 | h4
      · exact hx h4
      · omega
    rw [other b this]; exact h.keep b hb hx
  · intro g' u t hm
    rcases List.mem_cons.1 hm with e | hm
    · cases e
      exact ⟨by rw [hw, Array.getElem?_setIfInBounds]; simp [hlt], h0.2.1, h0.2.2⟩
    · have hne : g' ≠ g := by
        intro e
        rw [e] at hm
        exact (List.nodup_cons.1 h.nd).1 (List.mem_map.2 ⟨_, hm, rfl⟩)
      have h5 := h.mem g' u t (by simp [hm])
      exact ⟨by rw [other g' hne]; exact h5.1, h5.2⟩

/-- A call from (H, w) in which xs' may change has come to (H', w') with M'. -/
theorem HS.after (h : HS xs H0 w0 H M w) {xs' : List Nat} {H' : Hp} {M' : Mem} {w' : World} (k : HS xs' H w H' M' w')
    {Mx Mr : Mem} (hM : M = Mx ++ Mr) (hx : Mem.keys Mx = xs') (ht : ∀ p ∈ Mx, p.2.2 = true) (ht' : ∀ p ∈ M', p.2.2 = true) : HS xs H0 w0 H' (M' ++ Mr) w' := by
  subst hM
  have hxs : ∀ b, b ∈ xs' → b < w.heap.size ∧ (b ∈ xs ∨ w0.heap.size ≤ b) ∧ H b = none := by
    intro b hb
    rw [← hx] at hb
    obtain ⟨⟨g, u, t⟩, h1, h2⟩ := List.mem_map.1 hb
    simp at h2
    subst h2
    have h3 := h.mem g u t (by simp [h1])
    exact ⟨lt_of_heap h3.1, h3.2.2 (by simpa using ht _ h1), h3.2.1⟩
  have hdis : ∀ g u t, (g, u, t) ∈ Mr → g ∉ xs' := by
    intro g u t hm hb
    rw [← hx] at hb
    have := h.nd
    simp only [Mem.keys, List.map_append, List.nodup_append] at this
    exact this.2.2 g hb g (List.mem_map.2 ⟨_, hm, rfl⟩) rfl
  refine ⟨h.le.trans k.le, k.sub, ?_, ?_, Nat.le_trans h.size k.size, k.os.trans h.os, k.tape.trans h.tape, k.out.trans h.out, ?_, ?_⟩
  · intro b o hb
    rcases k.new b o hb with h1 | h1
    · exact h.new b o h1
    · exact .inr (Nat.le_trans h.size h1)
  · intro b hb hbx
    rw [← h.keep b hb hbx]
    refine k.keep b (Nat.lt_of_lt_of_le hb h.size) ?_
    intro hb'
    rcases (hxs b hb').2.1 with h1 | h1
    · exact hbx h1
    · omega
  · intro g o t hm
    rcases List.mem_append.1 hm with hm | hm
    · have h1 := k.mem g o t hm
      refine ⟨h1.1, h1.2.1, fun e => ?_⟩
      rcases h1.2.2 e with h2 | h2
      · exact (hxs g h2).2.1
      · exact .inr (Nat.le_trans h.size h2)
    · have h1 := h.mem g o t (by simp [hm])
      have hlt := lt_of_heap h1.1
      refine ⟨?_, ?_, h1.2.2⟩
      · rw [k.keep g hlt (hdis g o t hm)]; exact h1.1
      · cases hh : H' g with
        | none => rfl
        | some u =>
          rcases k.new g u hh with h2 | h2
          · rw [h1.2.1] at h2; cases h2
          · omega
  · simp only [Mem.keys, List.map_append, List.nodup_append]
    refine ⟨k.nd, ?_, ?_⟩
    · have := h.nd
      simp only [Mem.keys, List.map_append, List.nodup_append] at this
      exact this.2.1
    · intro a ha b hb e
      subst e
      obtain ⟨⟨g, u, t⟩, h1, h2⟩ := List.mem_map.1 ha
      obtain ⟨⟨g', u', t'⟩, h1', h2'⟩ := List.mem_map.1 hb
      simp at h2 h2'
      have h3 := k.mem g u t h1
      have h4 := h.mem g' u' t' (by simp [h1'])
      rw [h2] at h3
      rw [h2'] at h4
      rcases h3.2.2 (by simpa using ht' _ h1) with h5 | h5
      · exact hdis g' u' t' h1' (by rw [h2']; exact h5)
      · have := lt_of_heap h4.1; omega
end

/-- How a call ends: it returns; memory as HS says. -/
def Ret (xs : List Nat) (H : Hp) (w : World) (R : Value → Hp → Mem → Prop) : Ending → World → Prop :=
  fun e w' => ∃ v H' M', e = .returned v ∧ HS xs H w H' M' w' ∧ (∀ p ∈ M', p.2.2 = true) ∧ R v H' M'

/-- A call that makes new memory and changes nothing. -/
def Pure (H : Hp) (w : World) (R : Value → Hp → Prop) : Ending → World → Prop :=
  Ret [] H w fun v H' M' => M' = [] ∧ R v H'

end Go.Bw
