/- Parts of slices and of arrays. -/
import Derived.Test.YtdibepkfgemddaaGreatOps4
namespace Go.Bw
set_option linter.unusedVariables false
set_option linter.unusedSimpArgs false
section
variable {P : Program} {n : Nat} {ds : List Deferred} {env : Env} {w : World}
variable {dst : Option Nat} {ty : TypeId} {pos : String} {aft : Array Edge} {gd : Option (Nat × Bool)} {R : Value → World → Prop}
variable {xs : List Nat} {H0 H : Hp} {w0 : World} {M : Mem}
variable {x y u z' : Operand} {t e : TypeId} {d : TypeDesc} {sz by_ : Nat} {z : Value}

theorem OR.slice2G (m k : Nat) {k1 k2 : IntKind} {i j : Int} {a : Option Addr} {len cap : Nat} (ht : P.underlying t = some (.slice e)) (he : TI P e d sz by_ z) (hx : look env x = some (.slice a len cap))
    (hy : look env y = some (.int k1 i)) (hi : i = (m : Int)) (hu : look env u = some (.int k2 j)) (hj : j = (k : Int)) (h1 : m ≤ k) (h2 : k ≤ cap)
    (hR : R (.slice (if cap = m then a else a.map (·.add (m * sz))) (k - m) (cap - m)) w) :
    OR P n ds ⟨dst, .slice t x (some y) (some u) none, ty, pos, aft, gd⟩ env w R := by
  subst hi hj
  refine .run (fun aa ha => ?_) hR
  simp [execOp, ha.look hx, ha.look hy, ha.look hu, Instr.sliceAt, run_underlying ht, Instr.slice, Instr.sliceBounds, he.run_size, Instr.sliceBound, asIntOf, h1, h2]
theorem OR.slice3G (m k l : Nat) {k1 k2 k3 : IntKind} {i j q : Int} {a : Option Addr} {len cap : Nat} (ht : P.underlying t = some (.slice e)) (he : TI P e d sz by_ z) (hx : look env x = some (.slice a len cap))
    (hy : look env y = some (.int k1 i)) (hi : i = (m : Int)) (hu : look env u = some (.int k2 j)) (hj : j = (k : Int)) (hz : look env z' = some (.int k3 q)) (hq : q = (l : Int)) (h1 : m ≤ k) (h2 : k ≤ l) (h3 : l ≤ cap)
    (hR : R (.slice (if l = m then a else a.map (·.add (m * sz))) (k - m) (l - m)) w) :
    OR P n ds ⟨dst, .slice t x (some y) (some u) (some z'), ty, pos, aft, gd⟩ env w R := by
  subst hi hj hq
  refine .run (fun aa ha => ?_) hR
  simp [execOp, ha.look hx, ha.look hy, ha.look hu, ha.look hz, Instr.sliceAt, run_underlying ht, Instr.slice, Instr.sliceBounds, he.run_size, Instr.sliceBound, asIntOf, h1, h2, h3]
theorem OR.sliceArrHi (m : Nat) {k1 : IntKind} {i : Int} {b len : Nat} (ht : P.underlying t = some (.array len e)) (he : TI P e d sz by_ z) (hx : look env x = some (.pointer (some ⟨b, 0, none⟩)))
    (hy : look env y = some (.int k1 i)) (hi : i = (m : Int)) (h1 : m ≤ len)
    (hR : R (.slice (some ⟨b, 0, none⟩) m len) w) :
    OR P n ds ⟨dst, .slice t x none (some y) none, ty, pos, aft, gd⟩ env w R := by
  subst hi
  have h9 : (if len = 0 then (⟨b, 0, none⟩ : Addr) else (⟨b, 0, none⟩ : Addr).add (0 * sz)) = ⟨b, 0, none⟩ := by
    rw [Nat.zero_mul]; split <;> rfl
  simp only [Nat.zero_mul] at h9
  refine .run (v := .slice (some ⟨b, 0, none⟩) m len) (w' := w) (fun aa ha => ?_) hR
  simp [execOp, ha.look hx, ha.look hy, Instr.sliceAt, run_underlying ht, Instr.sureAddr, Instr.sliceBounds, he.run_size, Instr.sliceBound, asIntOf, h1, asAddr]
  intro h0; rwa [if_neg h0] at h9
theorem OR.sliceArrLo (m : Nat) {k1 : IntKind} {i : Int} {b len : Nat} (ht : P.underlying t = some (.array len e)) (he : TI P e d sz by_ z) (hx : look env x = some (.pointer (some ⟨b, 0, none⟩)))
    (hy : look env y = some (.int k1 i)) (hi : i = (m : Int)) (h1 : m < len)
    (hR : R (.slice (some ⟨b, m * sz, none⟩) (len - m) (len - m)) w) :
    OR P n ds ⟨dst, .slice t x (some y) none none, ty, pos, aft, gd⟩ env w R := by
  subst hi
  have h2 : ¬ len = m := by omega
  refine .run (v := .slice (some ⟨b, m * sz, none⟩) (len - m) (len - m)) (w' := w) (fun aa ha => ?_) hR
  simp [execOp, ha.look hx, ha.look hy, Instr.sliceAt, run_underlying ht, Instr.sureAddr, Instr.sliceBounds, he.run_size, Instr.sliceBound, asIntOf, Nat.le_of_lt h1, asAddr, h2, add_off]
end

theorem HS.beginR {xs : List Nat} {H0 H : Hp} {w0 w : World} {Mo Mr : Mem} (hs : HS xs H0 w0 H (Mr ++ Mo) w) (bs : List Bool) : HS (wKeys (setFlags Mr bs) ++ Mem.keys Mo) H w H (setFlags Mr bs ++ Mo) w := by
  refine HS.start _ hs.sub (fun g o t h => ?_) ?_
  · rcases List.mem_append.1 h with h | h
    · obtain ⟨t', h'⟩ := setFlags_mem Mr bs g o t h
      have h1 := hs.mem g o t' (List.mem_append_left _ h')
      exact ⟨h1.1, h1.2.1, fun ht => List.mem_append_left _ (mem_wKeys _ g o (by rw [← ht]; exact h))⟩
    · have h1 := hs.mem g o t (List.mem_append_right _ h)
      exact ⟨h1.1, h1.2.1, fun _ => List.mem_append_right _ (List.mem_map.2 ⟨_, h, rfl⟩)⟩
  · have := hs.nd
    simp only [Mem.keys, List.map_append] at this ⊢
    have e : (setFlags Mr bs).map (·.1) = Mr.map (·.1) := setFlags_keys Mr bs
    rw [e]
    exact this

theorem Sl.part {H : Hp} {sz n c : Nat} {b : Option Addr} {xs : List Value} (h : Sl H sz (.slice b n c) n xs) (m k : Nat) (h1 : m ≤ k) (h2 : k ≤ n) :
    Sl H sz (.slice (if c = m then b else b.map (·.add (m * sz))) (k - m) (c - m)) (k - m) ((xs.take (k * sz)).drop (m * sz)) := (h.takeS k h2).dropS m h1
/-- A smaller capacity. -/
theorem Sl.cap {H : Hp} {sz n c : Nat} {b : Option Addr} {xs : List Value} (h : Sl H sz (.slice b n c) n xs) (c' : Nat) (h1 : n ≤ c') (h2 : c' ≤ c) : Sl H sz (.slice b n c') n xs := by
  obtain ⟨h3, b', q, h4, h5, h6, h7⟩ := h
  cases h4
  exact ⟨h3, b, c', rfl, h1, fun hb => ⟨(h6 hb).1, by have := (h6 hb).2; omega⟩, h7⟩
theorem Bytes.part {H : Hp} {c : Nat} {b : Option Addr} {l : List UInt8} (h : Bytes H (.slice b l.length c) l) (m k : Nat) (h1 : m ≤ k) (h2 : k ≤ l.length) :
    Bytes H (.slice (if c = m then b else b.map (·.add (m * 1))) (k - m) (c - m)) ((l.drop m).take (k - m)) := by
  have := Sl.part h m k h1 h2
  unfold Bytes
  have e : ((l.drop m).take (k - m)).length = k - m := by simp; omega
  rw [e]
  rw [Nat.mul_one, Nat.mul_one] at this
  rw [Nat.mul_one, ← List.drop_take, List.map_drop, List.map_take]
  exact this
theorem Bytes.cap_le {H : Hp} {c : Nat} {b : Option Addr} {l : List UInt8} (h : Bytes H (.slice b l.length c) l) : l.length ≤ c := by
  obtain ⟨_, b', c', q, h2, _⟩ := h
  cases q
  exact h2

end Go.Bw
namespace Go.Bw
set_option linter.unusedVariables false
set_option linter.unusedSimpArgs false
section
variable {P : Program} {n' : Nat} {ds : List Deferred} {env : Env} {w : World}
variable {dst : Option Nat} {ty : TypeId} {pos : String} {aft : Array Edge} {gd : Option (Nat × Bool)} {R : Value → World → Prop}
variable {xs : List Nat} {H0 H : Hp} {w0 : World} {M : Mem}
variable {x y : Operand} {t e : TypeId} {d : TypeDesc} {by_ : Nat} {z : Value}

theorem zeroCells_one (k : Nat) (h : z.oneCell' = true) : Builtin.zeroCells z.cells k = (List.replicate k z).toArray := by
  rw [one_cells h]
  apply Array.ext
  · simp [size_zeroCells]
  · intro i h1 h2
    simp [Builtin.zeroCells, Nat.mod_one]

/-- append of noughts to a slice that is owned, an element being one cell. -/
theorem OR.appendZ {N n m : Nat} (hN : N ≤ w0.heap.size) {v : Value} {cs : List Value} {Mo : Mem} {tn : TypeId} (hs : HS xs H0 w0 H (Mo ++ M) w) (ho : Own N e 1 v n cs Mo)
    (ht : P.underlying t = some (.slice e)) (he : TI P e d 1 by_ z) (hz : z.oneCell' = true) (htn : P.underlying tn = some (.int .i64))
    (hx : look env x = some v) {i : Int} (hy : look env y = some (.int .i64 i)) (hi : i = (m : Int)) (hbytes : (n + m) * by_ ≤ 140737488355328) (h63 : n + m ≤ 9223372036854775807)
    (hR : ∀ v' w' Mo', HS xs H0 w0 H (Mo' ++ M) w' → Own N e 1 v' (n + m) (cs ++ List.replicate m z) Mo' → R v' w') :
    OR P n' ds ⟨dst, .call { callee := .builtin .append, args := #[x, y], argTypes := #[t, tn] }, ty, pos, aft, gd⟩ env w R := by
  subst hi
  obtain ⟨inf, hi1, hi2, hi3, hi4⟩ := he.inf
  have hw : IntKind.i64.wrap (m : Int) = m := wrap_i64 (by omega) (by omega)
  have hneg : ¬ ((m : Int) < 0) := by omega
  have hmb : m * by_ ≤ (n + m) * by_ := Nat.mul_le_mul_right _ (by omega)
  have h48i : ¬ (281474976710656 < (m : Int) * (by_ : Int)) := by
    rw [← Int.natCast_mul]; omega
  have hzo : (List.replicate m z).all (·.oneCell') = true := by
    rw [List.all_eq_true]; intro u hu; rw [(List.mem_replicate.1 hu).2]; exact hz
  have happ : ∀ ww : World, (if m * 1 = 0 then (pure #[] : Sem (Array Value)) else do pure (Builtin.zeroCells (← zeroValue e).cells m)).run P ww = .ok (List.replicate m z).toArray ww := by
    intro ww
    by_cases h : m = 0
    · subst h; simp
    · rw [if_neg (by omega)]
      simp [he.run_zero, zeroCells_one m hz]
  have hrun : ∀ (b : Option Addr) (cap : Nat), (Builtin.append_ #[t, tn] ty #[.slice b n cap, .int .i64 (m : Int)]).run P w = (if n + m ≤ cap then
      ((match b with | some a => storeCells (a.add (n * 1)) (List.replicate m z) | none => pure ()).run P w).andThen fun _ w' => .ok (.slice b (n + m) cap) w'
      else (Builtin.append_ #[t, tn] ty #[.slice b n cap, .int .i64 (m : Int)]).run P w) := by
    intro b cap
    split
    · rename_i hr
      by_cases hm : m = 0
      · subst hm
        have hw0 : IntKind.i64.wrap 0 = 0 := wrap_i64 (by omega) (by omega)
        have hr' : n ≤ cap := hr
        cases b <;> simp [Builtin.append_, run_underlying ht, run_underlying htn, sizeOf, typeInfo, hi1, hi2, hi3, asInt, asIntOf, hw0, hr']
      · cases b <;> simp [Builtin.append_, run_underlying ht, run_underlying htn, sizeOf, typeInfo, zeroValue, hi1, hi2, hi3, hi4, asInt, asIntOf, hw, hneg, h48i, hr, hm, zeroCells_one m hz]
    · rfl
  have hgrow : ∀ (b : Option Addr) (cap : Nat), cap < n + m → n ≤ cap → cs.length = n * 1 → (∀ a, b = some a → ∀ j u, cs[j]? = some u → w.cell? (a.add j) = some u) → (b = none → n = 0) →
      (Builtin.append_ #[t, tn] ty #[.slice b n cap, .int .i64 (m : Int)]).run P w = .ok (.slice (some ⟨w.heap.size, 0, none⟩) (n + m) (grownCap w (n + m) cap e))
        (w.drew.alloc (.cells (cs.toArray ++ (List.replicate m z).toArray ++ Builtin.zeroCells z.cells (grownCap w (n + m) cap e - (n + m))) e)) := by
    intro b cap hc hnc hl hcs hb0
    have h63' : ¬ (9223372036854775807 < (n : Int) + (m : Int)) := by omega
    have h48' : ¬ (281474976710656 < Builtin.nextslicecap (n + m) cap * by_) := by
      have := growslice_fits (need := n + m) (old := cap) (by omega) hbytes
      omega
    have hroom : ¬ (n + m ≤ cap) := by omega
    have hm0 : ¬ m = 0 := by omega
    have hfc : (Builtin.firstCells 1 n (.slice b n cap)).run P w.drew = .ok cs.toArray w.drew := by
      cases b with
      | none =>
        have : cs = [] := List.eq_nil_of_length_eq_zero (by rw [hl, hb0 rfl])
        subst this
        simp [Builtin.firstCells]
      | some a => exact run_firstCells_some w.drew 1 n a n cap cs hl (hcs a rfl)
    simp [Builtin.append_, run_underlying ht, run_underlying htn, sizeOf, typeInfo, zeroValue, hi1, hi2, hi3, hi4, asInt, asIntOf, hw, hneg, hm0, h48i, hroom, h63', h48', Question.forced, hfc, newRow, grownCap, zeroCells_one m hz]
  have hown : ∀ cap, cs.length = n → Own N e 1 (.slice (some ⟨w.heap.size, 0, none⟩) (n + m) (grownCap w (n + m) cap e)) (n + m) (cs ++ List.replicate m z)
      [(w.heap.size, .cells (cs.toArray ++ (List.replicate m z).toArray ++ Builtin.zeroCells z.cells (grownCap w (n + m) cap e - (n + m))) e, true)] := by
    intro cap hl
    have hge := grownCap_ge w (n + m) cap e
    refine Own.block hge ?_ ?_ (Nat.le_trans hN hs.size)
    · simp only [Array.size_append, List.size_toArray, size_zeroCells, one_cells hz, hl, List.length_replicate]
      simp
      omega
    · simp only [Array.toList_append, List.append_assoc]
      rw [← List.append_assoc]
      have : (n + m) * 1 = (cs ++ List.replicate m z).length := by simp [hl]
      rw [this]
      exact List.take_left
  obtain ⟨hcl, ⟨rfl, ⟨b9, rfl⟩, rfl⟩ | ⟨g, cc, cap, rfl, rfl, hnc, hc, hxs, hg⟩⟩ := ho
  · have hcs : cs = [] := List.eq_nil_of_length_eq_zero (by simpa using hcl)
    subst hcs
    by_cases hm : m = 0
    · subst hm
      have h1 := hrun b9 0
      rw [if_pos (by omega)] at h1
      refine .run (v := .slice b9 0 0) (w' := w) (fun aa ha => execOp_append rfl ?_) (hR _ w [] hs (by simpa using Own.empty N e 1 b9))
      rw [ha.look hx, ha.look hy, h1]
      cases b9 <;> simp [storeCells]
    · have h1 := hgrow b9 0 (by omega) (by omega) rfl (fun a _ j u hj => by simp at hj) (fun _ => rfl)
      exact .run (fun aa ha => execOp_append rfl (by rw [ha.look hx, ha.look hy]; exact h1)) (hR _ _ [_] (hs.drew.alloc _) (hown 0 rfl))
  · have hgb := (hs.mem g (.cells cc e) true (by simp)).1
    have hcl' : cs.length = n := by simpa using hcl
    by_cases hroom : n + m ≤ cap
    · have h1 := hrun (some ⟨g, 0, none⟩) cap
      rw [if_pos hroom] at h1
      have hfit : n + (List.replicate m z).length ≤ cc.size := by rw [List.length_replicate, hc]; omega
      obtain ⟨w', q1, q2, q3, q4, q5⟩ := run_storeCells_in (P := P) g e (List.replicate m z) cc n 0 w hgb (by simpa using hfit) (List.all_eq_true.1 hzo)
      have hs2 := HS.write (g := g) (o := .cells cc e) hs (.cells (setFrom cc n (List.replicate m z)) e) (by simpa using q2) q3 q4 q5
      refine .run (v := .slice (some ⟨g, 0, none⟩) (n + m) cap) (w' := w') (fun aa ha => execOp_append rfl ?_) (hR _ w' [(g, _, true)] hs2 (Own.block hroom (by rw [setFrom_size, hc]) ?_ hg))
      · rw [ha.look hx, ha.look hy, h1]
        simp only [add_off, Nat.mul_one] at q1 ⊢
        simp only [Nat.zero_add, Nat.add_zero] at q1 ⊢
        rw [q1]
        rfl
      · rw [setFrom_list, setL_at _ _ _ (by simpa using hfit), List.take_append, List.take_append]
        have e1 : cc.toList.take n = cs := by rw [← hxs, Nat.mul_one]
        rw [e1]
        simp [hcl']
        exact List.take_of_length_le (by omega)
    · have h1 := hgrow (some ⟨g, 0, none⟩) cap (by omega) hnc hcl (fun a ha j u hj => by
        cases ha
        rw [add_off, ← hxs, List.getElem?_take] at *
        split at hj
        · simpa [World.cell?, hgb] using hj
        · cases hj) (fun h => by cases h)
      have hs2 : HS xs H0 w0 H M w := hs.sublist (List.sublist_append_right _ _)
      exact .run (fun aa ha => execOp_append rfl (by rw [ha.look hx, ha.look hy]; exact h1)) (hR _ _ [_] (hs2.drew.alloc _) (hown cap hcl'))
end
end Go.Bw
namespace Go.Bw
set_option linter.unusedVariables false
set_option linter.unusedSimpArgs false
/-! ### a block lent to a call that only reads -/
def Hp.del (H : Hp) (g : Nat) : Hp := fun b => if b = g then none else H b
theorem HS.lent {xs : List Nat} {H0 H H' : Hp} {w0 w w' : World} {M : Mem} {g : Nat} {o : Obj} {t : Bool} (hs : HS xs H0 w0 H ((g, o, t) :: M) w) (k : HS [] (H.put g o) w H' [] w') :
    HS xs H0 w0 (H'.del g) ((g, o, t) :: M) w' ∧ H.le (H'.del g) := by
  have hgm := hs.mem g o t (by simp)
  have hle1 : H.le (H'.del g) := by
    intro b u hb
    have hne : b ≠ g := fun e => by rw [e, hgm.2.1] at hb; cases hb
    unfold Hp.del
    rw [if_neg hne]
    exact k.le b u (by unfold Hp.put; rw [if_neg hne]; exact hb)
  refine ⟨⟨hs.le.trans hle1, ?_, ?_, ?_, Nat.le_trans hs.size k.size, k.os.trans hs.os, k.tape.trans hs.tape, k.out.trans hs.out, ?_, hs.nd⟩, hle1⟩
  · intro b u hb
    unfold Hp.del at hb
    split at hb
    · cases hb
    · exact k.sub b u hb
  · intro b u hb
    unfold Hp.del at hb
    split at hb
    · cases hb
    · rename_i hne
      rcases k.new b u hb with h | h
      · unfold Hp.put at h
        rw [if_neg hne] at h
        exact hs.new b u h
      · exact .inr (Nat.le_trans hs.size h)
  · intro b hb hx
    rw [← hs.keep b hb hx]
    exact k.keep b (Nat.lt_of_lt_of_le hb hs.size) (by simp)
  · intro g' u t' hm
    have h1 := hs.mem g' u t' hm
    refine ⟨?_, ?_, h1.2.2⟩
    · rw [k.keep g' (lt_of_heap h1.1) (by simp)]; exact h1.1
    · unfold Hp.del
      split
      · rfl
      · rename_i hne
        cases hh : H' g' with
        | none => rfl
        | some q =>
          rcases k.new g' q hh with h | h
          · unfold Hp.put at h
            rw [if_neg hne, h1.2.1] at h
            cases h
          · have := lt_of_heap h1.1
            omega
theorem Sub.put {H : Hp} {w : World} {g : Nat} {o : Obj} (h : Sub H w) (hg : w.heap[g]? = some o) : Sub (H.put g o) w := by
  intro b u hb
  unfold Hp.put at hb
  split at hb
  · rename_i e; subst e; rw [← hb]; exact hg
  · exact h b u hb
theorem OR.callL {P : Program} {n : Nat} {ds : List Deferred} {env : Env} {w w0 : World} {dst : Option Nat} {ty : TypeId} {pos : String} {aft : Array Edge} {gd : Option (Nat × Bool)} {R : Value → World → Prop} {xs : List Nat} {H0 H : Hp} {M : Mem} {g : Nat} {o : Obj} {t : Bool}
    {f : FuncId} {args : List Operand} {vs : List Value} {tys : Array TypeId} {x : Operand} {cap first : List Value} {C : Value → Prop}
    (hs : HS xs H0 w0 H ((g, o, t) :: M) w) (hb : Body P f) (hx : look env x = some (.func (.func f) first.toArray cap.toArray)) (ha : lookAll env args = some vs)
    (hc : Calls P f (first ++ vs ++ cap).toArray w (Pure (H.put g o) w fun v _ => C v))
    (hR : ∀ v H' w', HS xs H0 w0 H' ((g, o, t) :: M) w' → H.le H' → C v → R v w') :
    OR P n ds ⟨dst, .call { callee := .value x, args := args.toArray, argTypes := tys }, ty, pos, aft, gd⟩ env w R :=
  .callW hb hx ha hc (by
    rintro e w' ⟨v, H', M', rfl, hk, _, rfl, hC⟩
    obtain ⟨h1, h2⟩ := hs.lent hk
    exact ⟨v, rfl, hR v _ w' h1 h2 hC⟩)
end Go.Bw
