/- Blocks that a caller changes as it likes: they stand behind the known ones; nothing else is lost. -/
import Derived.Test.YtbgdgmilcojlbaaFresh
import Derived.Test.YtbgdgmilcojlbaaMatrix2
import Derived.Test.YtbgdgmilcojlbaaGood
namespace Go.Bw
set_option linter.unusedVariables false
set_option linter.unusedSimpArgs false
open Go.Proofs

theorem HS.shrink {xs : List Nat} {H0 H K : Hp} {w0 w : World} {M : Mem} (hs : HS xs H0 w0 H M w) (h0 : Hp.le H0 K) (hK : Hp.le K H) : HS xs H0 w0 K M w :=
  ⟨h0, fun b o h => hs.sub b o (hK b o h), fun b o h => hs.new b o (hK b o h), hs.keep, hs.size, hs.os, hs.tape, hs.out, (fun g o t hm => by
    have h1 := hs.mem g o t hm
    refine ⟨h1.1, ?_, h1.2.2⟩
    cases hk : K g with
    | none => rfl
    | some u =>
      have h2 := hK g u hk
      rw [h1.2.1] at h2
      cases h2), hs.nd⟩
/-- A block known anew. -/
theorem HS.learn {xs : List Nat} {H0 K : Hp} {w0 w : World} {M Ml : Mem} {g : Nat} {o : Obj} (hs : HS xs H0 w0 K (M ++ Ml) w) (hg : w.heap[g]? = some o) (hK : K g = none) (hM : g ∉ Mem.keys (M ++ Ml)) (hn : w0.heap.size ≤ g) : HS xs H0 w0 K (M ++ ((g, o, true) :: Ml)) w := by
  have h1 : HS xs H0 w0 K ((g, o, true) :: (M ++ Ml)) w := by
    refine ⟨hs.le, hs.sub, hs.new, hs.keep, hs.size, hs.os, hs.tape, hs.out, fun q u t hm => ?_, List.nodup_cons.2 ⟨hM, hs.nd⟩⟩
    rcases List.mem_cons.1 hm with e | hm
    · cases e
      exact ⟨hg, hK, fun _ => .inr hn⟩
    · exact hs.mem q u t hm
  exact h1.perm List.perm_middle
/-- A slice of n bytes somewhere in these blocks. -/
def LooseIn (Ml : Mem) (v : Value) (n : Nat) : Prop :=
  (∃ b, v = .slice b 0 0 ∧ n = 0) ∨ ∃ g c cap, v = .slice (some ⟨g, 0, none⟩) n cap ∧ (g, .cells c 5, true) ∈ Ml ∧ ∀ i, i < n → ∃ x : UInt8, c.toList[i]? = some (B x)
theorem LooseIn.mono {Ml Ml' : Mem} {v : Value} {n : Nat} (h : LooseIn Ml v n) (hs : ∀ p ∈ Ml, p ∈ Ml') : LooseIn Ml' v n := by
  rcases h with h | ⟨g, c, cap, h1, h2, h3⟩
  · exact .inl h
  · exact .inr ⟨g, c, cap, h1, hs _ h2, h3⟩
/-- What a call made is let go: the caller may change it. -/
theorem HS.loosen {xs : List Nat} {H0 H K Hx : Hp} {w0 w : World} {M : Mem} {N : Nat} (hs : HS xs H0 w0 H M w) (h0 : Hp.le H0 K) (hK : Hp.le K H) (hx : Hp.le Hx H) (hN : w0.heap.size ≤ N) (hno : ∀ g o, Hx g = some o → N ≤ g → K g = none) :
    ∀ (ps : List (Value × List UInt8)), (∀ p ∈ ps, BytesO Hx N p.1 p.2) → ∃ Ml, HS xs H0 w0 K (M ++ Ml) w ∧ (∀ q ∈ Ml, Hx q.1 = some q.2.1 ∧ N ≤ q.1 ∧ q.2.2 = true ∧ ∃ c, q.2.1 = .cells c 5) ∧ ∀ p ∈ ps, LooseIn Ml p.1 p.2.length
  | [], _ => ⟨[], by rw [List.append_nil]; exact hs.shrink h0 hK, (fun q hq => by cases hq), (fun p hp => by cases hp)⟩
  | p :: ps, hps => by
    obtain ⟨Ml, h1, h2, h3⟩ := HS.loosen hs h0 hK hx hN hno ps (fun q hq => hps q (by simp [hq]))
    obtain ⟨Mo, ⟨hl, ⟨rfl, ⟨b9, hv⟩, hn⟩ | ⟨g, c, cap, rfl, hv, hn, hc, hxs, hg⟩⟩, h4⟩ := hps p (by simp)
    · refine ⟨Ml, h1, h2, fun q hq => ?_⟩
      rcases List.mem_cons.1 hq with e | hq
      · subst e
        exact .inl ⟨b9, hv, hn⟩
      · exact h3 q hq
    · have hgx : Hx g = some (.cells c 5) := h4 (g, .cells c 5, true) (by simp)
      have hbytes : ∀ i, i < p.2.length → ∃ x : UInt8, c.toList[i]? = some (B x) := by
        intro i hi
        have h5 : (c.toList.take (p.2.length * 1))[i]? = (p.2.map B)[i]? := by rw [hxs]
        rw [List.getElem?_take, if_pos (by omega), List.getElem?_map, List.getElem?_eq_getElem hi] at h5
        exact ⟨_, h5⟩
      by_cases hmem : g ∈ Mem.keys Ml
      · obtain ⟨⟨q, o, t⟩, hq, e⟩ := List.mem_map.1 hmem
        simp only at e
        subst e
        have h6 := (h2 _ hq).1
        simp only at h6
        rw [hgx] at h6
        have ho : o = .cells c 5 := (Option.some.inj h6).symm
        subst ho
        have ht : t = true := (h2 _ hq).2.2.1
        subst ht
        refine ⟨Ml, h1, h2, fun r hr => ?_⟩
        rcases List.mem_cons.1 hr with e | hr
        · subst e
          exact .inr ⟨q, c, cap, hv, hq, hbytes⟩
        · exact h3 r hr
      · have hKg := hno g _ hgx hg
        have hM : g ∉ Mem.keys (M ++ Ml) := by
          intro hm
          simp only [Mem.keys, List.map_append, List.mem_append] at hm
          rcases hm with hm | hm
          · obtain ⟨⟨q, o, t⟩, hq, e⟩ := List.mem_map.1 hm
            simp only at e
            subst e
            have h6 := (hs.mem q o t hq).2.1
            rw [hx _ _ hgx] at h6
            cases h6
          · exact hmem hm
        refine ⟨(g, .cells c 5, true) :: Ml, h1.learn (hs.sub _ _ (hx _ _ hgx)) hKg hM (Nat.le_trans hN hg), fun q hq => ?_, fun r hr => ?_⟩
        · rcases List.mem_cons.1 hq with e | hq
          · subst e
            exact ⟨hgx, hg, rfl, c, rfl⟩
          · exact h2 q hq
        · rcases List.mem_cons.1 hr with e | hr
          · subst e
            exact .inr ⟨g, c, cap, hv, by simp, hbytes⟩
          · exact (h3 r hr).mono (fun q hq => by simp [hq])

section
variable {P : Program} {n : Nat} {ds : List Deferred} {env : Env} {w w0 : World} {dst : Option Nat} {ty : TypeId} {pos : String} {aft : Array Edge} {gd : Option (Nat × Bool)} {R : Value → World → Prop}
variable {xs : List Nat} {H0 K : Hp} {F Ml : Mem} {x y : Operand} {t e : TypeId} {d : TypeDesc} {sz by_ : Nat} {z v : Value}
/-- A store into one of the loose blocks. -/
theorem OR.storeIn {g o : Nat} {c : Array Value} (hs : HS xs H0 w0 K (F ++ Ml) w) (hm : (g, .cells c e, true) ∈ Ml) (ht : TI P t d sz by_ z)
    (hx : look env x = some (.pointer (some ⟨g, o, none⟩))) (hy : look env y = some v) (hz : v.cells.size = sz) (ho : o + sz ≤ c.size) (h1 : v.cells.toList.all (·.oneCell') = true)
    (hR : ∀ w' Ml1 Ml2, Ml = Ml1 ++ (g, .cells c e, true) :: Ml2 → HS xs H0 w0 K (F ++ (Ml1 ++ (g, .cells (setL c.toList o v.cells.toList).toArray e, true) :: Ml2)) w' → R undef w') :
    OR P n ds ⟨dst, .store t x y, ty, pos, aft, gd⟩ env w R := by
  obtain ⟨Ml1, Ml2, rfl⟩ := List.append_of_mem hm
  have hs2 : HS xs H0 w0 K ((g, .cells c e, true) :: (F ++ (Ml1 ++ Ml2))) w := by
    refine hs.perm ?_
    rw [← List.append_assoc, ← List.append_assoc]
    exact List.perm_middle.symm
  refine OR.store hs2 ht hx hy hz ho h1 (fun w' hs' => hR w' Ml1 Ml2 rfl ?_)
  refine hs'.perm ?_
  rw [← List.append_assoc, ← List.append_assoc]
  exact List.perm_middle
end
/-- A byte changed leaves all others bytes. -/
theorem LooseIn.upd {Ml1 Ml2 : Mem} {g k : Nat} {c : Array Value} {y : UInt8} {v : Value} {n : Nat} (hnd : (Mem.keys (Ml1 ++ (g, .cells c 5, true) :: Ml2)).Nodup) (h : LooseIn (Ml1 ++ (g, .cells c 5, true) :: Ml2) v n) :
    LooseIn (Ml1 ++ (g, .cells (setL c.toList k [B y]).toArray 5, true) :: Ml2) v n := by
  rcases h with h | ⟨g', c', cap, h1, h2, h3⟩
  · exact .inl h
  · by_cases e : g' = g
    · subst e
      have hc : c' = c := by
        have hk : ∀ q ∈ Ml1 ++ Ml2, q.1 ≠ g' := by
          intro q hq e
          simp only [Mem.keys, List.map_append, List.map_cons] at hnd
          have hp := List.perm_middle.nodup_iff.1 hnd
          rw [← List.map_append] at hp
          exact (List.nodup_cons.1 hp).1 (List.mem_map.2 ⟨q, hq, e⟩)
        rcases List.mem_append.1 h2 with h4 | h4
        · exact absurd rfl (hk _ (List.mem_append_left _ h4))
        · rcases List.mem_cons.1 h4 with h5 | h5
          · cases h5; rfl
          · exact absurd rfl (hk _ (List.mem_append_right _ h5))
      subst hc
      refine .inr ⟨g', _, cap, h1, List.mem_append_right _ (List.mem_cons_self ..), fun i hi => ?_⟩
      rw [List.toList_toArray, setL_one]
      obtain ⟨x, hx⟩ := h3 i hi
      by_cases e2 : i = k
      · subst e2
        exact ⟨y, by rw [List.getElem?_set_self (List.getElem?_eq_some_iff.1 hx).1]⟩
      · exact ⟨x, by rw [List.getElem?_set_ne (Ne.symm e2)]; exact hx⟩
    · refine .inr ⟨g', c', cap, h1, ?_, h3⟩
      rcases List.mem_append.1 h2 with h4 | h4
      · exact List.mem_append_left _ h4
      · rcases List.mem_cons.1 h4 with h5 | h5
        · cases h5; exact absurd rfl e
        · exact List.mem_append_right _ (List.mem_cons_of_mem _ h5)
theorem mem_upd {Ml1 Ml2 : Mem} {p p' q : Nat × Obj × Bool} (h : q ∈ Ml1 ++ p :: Ml2) (hne : q.1 ≠ p.1) : q ∈ Ml1 ++ p' :: Ml2 := by
  rcases List.mem_append.1 h with h4 | h4
  · exact List.mem_append_left _ h4
  · rcases List.mem_cons.1 h4 with h5 | h5
    · subst h5; exact absurd rfl hne
    · exact List.mem_append_right _ (List.mem_cons_of_mem _ h5)
theorem HS.nd_right {xs : List Nat} {H0 H : Hp} {w0 w : World} {F Ml : Mem} (h : HS xs H0 w0 H (F ++ Ml) w) : (Mem.keys Ml).Nodup := h.right.nd
theorem HS.cellIn {xs : List Nat} {H0 H : Hp} {w0 w : World} {F Ml : Mem} {g k : Nat} {c : Array Value} {e : TypeId} {t : Bool} {u : Value} (h : HS xs H0 w0 H (F ++ Ml) w) (hm : (g, .cells c e, t) ∈ Ml) (hc : c.toList[k]? = some u) : w.cell? ⟨g, k, none⟩ = some u := by
  have hb := (h.mem g _ t (List.mem_append_right _ hm)).1
  simpa [World.cell?, hb] using hc
/-- Two parts of memory. -/
def Hp.join (K N : Hp) : Hp := fun b => match K b with | some o => some o | none => N b
theorem Hp.join_l (K N : Hp) : Hp.le K (K.join N) := by
  intro b o h
  unfold Hp.join
  rw [h]
theorem Hp.join_r {K N H : Hp} (hK : Hp.le K H) (hN : Hp.le N H) : Hp.le N (K.join N) := by
  intro b o h
  unfold Hp.join
  cases hk : K b with
  | none => exact h
  | some u =>
    have h1 := hK b u hk
    have h2 := hN b o h
    rw [h1] at h2
    exact h2
theorem Hp.join_le {K N H : Hp} (hK : Hp.le K H) (hN : Hp.le N H) : Hp.le (K.join N) H := by
  intro b o h
  unfold Hp.join at h
  cases hk : K b with
  | none => rw [hk] at h; exact hN b o h
  | some u => rw [hk] at h; cases h; exact hK b _ hk

/-- The part of memory from a block on. -/
def Hp.frm (N : Nat) (H : Hp) : Hp := fun b => if N ≤ b then H b else none
theorem Hp.frm_le (N : Nat) (H : Hp) : Hp.le (H.frm N) H := by
  intro b o h
  unfold Hp.frm at h
  split at h
  · exact h
  · cases h
theorem insR_false {g s : Nat} {rows : List RowD} {r : RowD} (h : (insR g s rows r).1 = false) : (insR g s rows r).2 = rows := by
  unfold insR at h ⊢
  split
  · rename_i h1
    rw [if_pos h1] at h
    split
    · rfl
    · rename_i h2
      rw [if_neg h2] at h
      cases h
  · rfl
theorem Red.insAny {g s : Nat} {A : List RowD} (h : Red g s A) (r : RowD) : Red g s (insR g s A r).2 := by
  by_cases hd : r.1.length = g ∧ r.2.length = s
  · by_cases hl : lead (redR A r).1 < 0
    · rw [insR_out hd hl]; exact h
    · rw [insR_in hd hl]
      exact Red.ins h (redR_gs A r hd (fun x hx => h.gs x hx)) (by omega) (fun x hx => redR_at h r hd hx)
  · rw [show insR g s A r = (false, A) by rw [insR, if_neg hd]]
    exact h
theorem Mem.inj : ∀ {Ml : Mem}, (Mem.keys Ml).Nodup → ∀ {g : Nat} {o o' : Obj} {t t' : Bool}, (g, o, t) ∈ Ml → (g, o', t') ∈ Ml → o = o'
  | [], _, _, _, _, _, _, h, _ => by cases h
  | p :: Ml, hnd, g, o, o', t, t', h1, h2 => by
    have h3 := List.nodup_cons.1 hnd
    rcases List.mem_cons.1 h1 with e1 | h1
    · rcases List.mem_cons.1 h2 with e2 | h2
      · rw [← e1] at e2
        cases e2
        rfl
      · exfalso
        apply h3.1
        rw [← e1]
        exact List.mem_map.2 ⟨_, h2, rfl⟩
    · rcases List.mem_cons.1 h2 with e2 | h2
      · exfalso
        apply h3.1
        rw [← e2]
        exact List.mem_map.2 ⟨_, h1, rfl⟩
      · exact Mem.inj h3.2 h1 h2
end Go.Bw
