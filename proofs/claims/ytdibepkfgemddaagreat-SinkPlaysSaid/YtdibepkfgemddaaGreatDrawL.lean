/- Drawn regions: one move or extraction that may come late, even behind the operations that stand behind it. -/
import Derived.Test.YtdibepkfgemddaaGreatDraw
namespace Go.Bw
set_option linter.unusedVariables false
set_option linter.unusedSimpArgs false

theorem extract_any {P : Program} (u : Value) (ix : Nat) : (∃ v, ∀ w : World, (Instr.extract u ix).run P w = .ok v w) ∨ ∃ why, Instr.extract u ix = stuck why := by
  cases u with
  | tuple vs =>
    simp only [Instr.extract]
    cases h : vs[ix]? with
    | none => exact .inr ⟨_, rfl⟩
    | some v => exact .inl ⟨v, fun w => rfl⟩
  | _ => exact .inr ⟨_, rfl⟩

def strayOp : Op → Bool
  | .move _ => true
  | .extract _ _ => true
  | _ => false

/-- A move or an extraction that yields something yields it in every world. -/
theorem stray_yields {P : Program} {o : Oper} {a : Act} {w : World} {K : Act → World → Prop} (hop : strayOp o.op = true) (h : o.wp P a w K (fun _ _ _ => False)) :
    ∃ v, (∀ w', (execOp a.eval o).run P w' = .ok (.value v) w') ∧ K (a.put o.dst v) w := by
  obtain ⟨dst, op, ty, pos, aft, gd⟩ := o
  cases op with
  | move x =>
    have hrun : ∀ w', (execOp a.eval (⟨dst, .move x, ty, pos, aft, gd⟩ : Oper)).run P w' = .ok (.value (a.eval x)) w' := fun w' => by simp [execOp]
    refine ⟨_, hrun, ?_⟩
    unfold Oper.wp at h
    rw [hrun] at h
    exact h
  | extract x ix =>
    rcases extract_any (P := P) (a.eval x) ix with ⟨v, hv⟩ | ⟨why, hv⟩
    · have hrun : ∀ w', (execOp a.eval (⟨dst, .extract x ix, ty, pos, aft, gd⟩ : Oper)).run P w' = .ok (.value v) w' := fun w' => by simp [execOp, hv]
      refine ⟨v, hrun, ?_⟩
      unfold Oper.wp at h
      rw [hrun] at h
      exact h
    · exfalso
      have hrun : (execOp a.eval (⟨dst, .extract x ix, ty, pos, aft, gd⟩ : Oper)).run P w = .halt (.stuck why) w := by simp [execOp, hv, stuck]
      unfold Oper.wp at h
      rw [hrun] at h
      exact h
  | _ => cases hop

/-- The late one's shape. -/
def lateOk (ops : List Oper) (m j : Nat) : Bool :=
  Nat.blt j m && (match nth ops j with
    | some o => strayOp o.op && (match o.guard with | none => true | some _ => false)
    | none => false) && Region.noSelect ops.toArray && Region.free .any ops.toArray (((List.range ops.length).map fun i => Nat.blt i m && !Nat.beq i j).toArray) j

section
variable {P : Program} {n : Nat} {ds : List Deferred} {ops : List Oper} {env : Env}
variable {xs : List Nat} {H0 H : Hp} {w0 : World} {M : Mem} {Fs : List MF}

theorem wpAny_firstL {k : Kont} {j : Nat} (hk : k.flat = true) (hlate : lateOk ops Fs.length j = true) (hsh : Shape ops Fs.length n env [j]) (howed : ∀ (i : Nat) (o : Oper) (F : MF), nth ops i = some o → nth Fs i = some F →
    ∀ Mx H' w', Hp.le H H' → HS xs H0 w0 H' (Mx ++ M) w' → forVals ops Fs H' (uniq (leans o)) env fun env' =>
      ORg P n ds ops o env' w' fun v w'' => ∃ H'' My, Hp.le H' H'' ∧ HS xs H0 w0 H'' (My ++ (Mx ++ M)) w'' ∧ F.F v My H'')
    (hfin : ∀ H' w', Hp.le H H' → forAllVals ops H' 0 Fs env M fun env' M' => HS xs H0 w0 H' M' w' → ∀ a, St n ds env' a → wpList P ops.toArray (k.Q P) (ops.drop Fs.length) a w') :
    ∀ (fuel : Nat) (L : Array Bool) (l : List Nat) (a : Act) (w : World) (H' : Hp) (Mx : Mem) (my : Nat → Mem), DInv n ds xs H0 w0 H M ops Fs env L a w H' Mx my →
      (∀ i, i < Fs.length → L.getD i true = false → i ∈ l) → l.length + (ops.length - Fs.length) ≤ fuel → wpAny P .any ops.toArray (k.Q P) fuel L a w := by
  unfold lateOk at hlate
  simp only [Bool.and_eq_true] at hlate
  obtain ⟨⟨⟨hjm, hjop⟩, hsel⟩, hfree⟩ := hlate
  have hjm : j < Fs.length := by simpa [Nat.blt_eq] using hjm
  have hm := hsh.le
  have hsome : ∃ o, nth ops j = some o ∧ strayOp o.op = true ∧ o.guard = none := by
    cases ho : nth ops j with
    | none => rw [ho] at hjop; cases hjop
    | some o =>
      rw [ho] at hjop
      simp only [Bool.and_eq_true] at hjop
      refine ⟨o, rfl, hjop.1, ?_⟩
      have h2 := hjop.2
      cases hg : o.guard with
      | none => rfl
      | some g => rw [hg] at h2; cases h2
  obtain ⟨oj, hoj, hstray, hguard⟩ := hsome
  -- once the late one is done
  have done : ∀ (fuel : Nat) (L : Array Bool) (l : List Nat) (a : Act) (w : World) (H' : Hp) (Mx : Mem) (my : Nat → Mem), L.getD j false = true → DInv n ds xs H0 w0 H M ops Fs env L a w H' Mx my →
      (∀ i, i < Fs.length → L.getD i true = false → i ∈ l) → l.length + (ops.length - Fs.length) ≤ fuel → wpAny P .any ops.toArray (k.Q P) fuel L a w := by
    intro fuel L l a w H' Mx my hj D hl hf
    exact wpAny_firstM (H := H) hsh howed hfin fuel L l a w H' Mx my (fun q hq => by rw [List.mem_singleton.1 hq]; exact hj) D hl hf
  intro fuel
  induction fuel with
  | zero =>
    intro L l a w H' Mx my D hl hlen
    refine done 0 L l a w H' Mx my ?_ D hl hlen
    have hl0 : l = [] := List.eq_nil_of_length_eq_zero (by omega)
    have hsz := D.sz
    rw [getD_of_lt (by omega) false true]
    cases h : L.getD j true with
    | true => rfl
    | false => have := hl j hjm h; rw [hl0] at this; cases this
  | succ fuel ih =>
    intro L l a w H' Mx my D hl hlen
    have D0 := D
    obtain ⟨hcl, hperm, hsz, hrest, hle, hs, ha, hf⟩ := D
    cases hLj : L.getD j true with
    | true =>
      refine done _ L l a w H' Mx my ?_ D0 hl hlen
      rw [getD_of_lt (by omega) false true]
      exact hLj
    | false =>
    have hFj : nth Fs j = some Fs[j] := by rw [nth_eq, List.getElem?_eq_getElem hjm]
    obtain ⟨dj, hdj, hdjn, hdjenv, hdjd⟩ := hsh.dst j oj hoj hjm
    by_cases hall : ∀ i, i < Fs.length → i ≠ j → L.getD i true = true
    · -- all others done: the late one is taken first
      have hL : L = ((List.range ops.length).map fun i => Nat.blt i Fs.length && !Nat.beq i j).toArray := by
        apply Array.ext
        · simp [hsz]
        · intro i h1 h2
          have e1 : L[i] = L.getD i true := by simp [Array.getD_eq_getD_getElem?, h1]
          rw [e1]
          simp only [List.getElem_toArray, List.getElem_map, List.getElem_range]
          by_cases e : i = j
          · subst e
            rw [hLj]
            simp
          · have hb : Nat.beq i j = false := by
              cases hb : Nat.beq i j with
              | false => rfl
              | true => exact absurd (Nat.eq_of_beq_eq_true hb) e
            rw [hb]
            rcases Nat.lt_or_ge i Fs.length with h4 | h4
            · rw [hall i h4 e]
              simp [h4]
            · rw [hrest i (by omega) h4]
              have hb2 : Nat.blt i Fs.length = false := by
                rw [Bool.eq_false_iff]
                intro h
                rw [Nat.blt_eq] at h
                omega
              rw [hb2]
              rfl
      have hready : j ∈ Region.ready .any ops.toArray L := by
        refine ready_iff.2 ⟨oj, hoj, hLj, ?_⟩
        intro e he hb
        have h3 := hsh.back j oj hoj e he hb
        rw [getD_of_lt (by omega) false true]
        exact hall e.on (by omega) (by omega)
      obtain ⟨o', ho', hr2, hr3⟩ := ready_iff.1 hready
      rw [hoj] at ho'
      cases ho'
      obtain ⟨env', hst, horg⟩ := forVals_elim (n := n) (ds := ds) (a := a) _ _ (howed j oj Fs[j] hoj hFj Mx H' w hle hs) ha (by
        intro i hi o' F' d' ho' hF' hd'
        obtain ⟨e, he, hb, hon⟩ := hsh.lean j oj hoj hjm i hi
        have h5 := hr3 e he hb
        have h6 := hsh.back j oj hoj e he hb
        rw [hon] at h5 h6
        rw [getD_of_lt (by omega) false true] at h5
        exact ⟨my i, hf i F' d' hF' (by simp [dstOf, ho', hd']) h5⟩)
      have hw : Region.wanted oj (yielded ops.toArray a.tmps) = true := by simp [Region.wanted, hguard]
      have hq := horg a hst (fun a' w' => ∃ v H'' My, a' = a.put oj.dst v ∧ Hp.le H' H'' ∧ HS xs H0 w0 H'' (My ++ (Mx ++ M)) w' ∧ Fs[j].F v My H'') (fun _ _ _ => False)
        (fun v w' ⟨H'', My, q1, q2, q3⟩ => ⟨v, H'', My, rfl, q1, q2, q3⟩)
      rw [if_pos hw] at hq
      obtain ⟨v, hrun, v2, H'', My, e, q1, q2, q3⟩ := stray_yields hstray hq
      have hv : v2 = v := by
        rw [hdj] at e
        have e1 : (a.put (some dj) v).tmps.getD dj undef = (a.put (some dj) v2).tmps.getD dj undef := by rw [e]
        have := e1.symm
        simpa [Act.put, Array.getD_eq_getD_getElem?, ha.sz, hdjn] using this
      subst hv
      have hD := D0.step hsh hoj hjm hFj hr2 hr3 q1 q2 q3
      have hy : Yields P ops.toArray oj v2 a := .inl ⟨hw, hrun⟩
      have ho2 := hoj
      rw [nth_eq] at ho2
      have hjl := hl j hjm hLj
      have hpos := List.length_pos_of_mem hjl
      refine wpAny_take (Q := k.Q P) (by simpa using ho2) hsel (by rw [hL]; exact hfree) (by simpa using hready) (fun c a w => Kont.panic_put k hk) hy ?_
      refine done fuel _ (l.erase j) _ w _ _ _ ?_ hD ?_ ?_
      · simp [Array.getD_eq_getD_getElem?, hsz, show j < ops.length by omega]
      · intro i hi hi2
        by_cases e : i = j
        · subst e
          simp [hsz, show i < ops.length by omega] at hi2
        · simp only [Array.getD_eq_getD_getElem?, Array.getElem?_setIfInBounds, show ¬ j = i from fun h => e h.symm, if_false] at hi2
          exact (List.mem_erase_of_ne e).2 (hl i hi (by rw [Array.getD_eq_getD_getElem?]; exact hi2))
      · rw [List.length_erase_of_mem hjl]
        omega
    · have hexj : ∃ i, i < Fs.length ∧ i ≠ j ∧ L.getD i true = false := by
        refine Classical.byContradiction fun hno => hall fun i hi hne => ?_
        cases h : L.getD i true with
        | true => rfl
        | false => exact absurd ⟨i, hi, hne, h⟩ hno
      have hex : ∃ i, i < Fs.length ∧ L.getD i true = false ∧ ∀ j, j < i → L.getD j true = true := by
        clear ih hf ha hs D0 done
        obtain ⟨i, hi0, hine, hi1⟩ := hexj
        have hi : i < Fs.length ∧ L.getD i true = false := ⟨hi0, hi1⟩
        clear hi0 hi1 hine
        induction i using Nat.strongRecOn with
        | _ i ihi =>
          by_cases hj : ∀ j, j < i → L.getD j true = true
          · exact ⟨i, hi.1, hi.2, hj⟩
          · have : ∃ j, j < i ∧ L.getD j true = false := by
              refine Classical.byContradiction fun hno => hj fun j hji => ?_
              cases h : L.getD j true with
              | true => rfl
              | false => exact absurd ⟨j, hji, h⟩ hno
            obtain ⟨j, hji, hj2⟩ := this
            exact ihi j hji ⟨by omega, hj2⟩
      refine ⟨?_, ?_⟩
      · intro hr
        exfalso
        obtain ⟨i, hi, h1, h2⟩ := hex
        have hio : i < ops.length := by omega
        have : i ∈ Region.ready .any ops.toArray L := by
          refine ready_iff.2 ⟨ops[i], by rw [nth_eq, List.getElem?_eq_getElem hio], h1, ?_⟩
          intro e he hb
          have h3 := hsh.back i ops[i] (by rw [nth_eq, List.getElem?_eq_getElem hio]) e he hb
          rw [getD_of_lt (by omega) false true]
          exact h2 e.on h3
        rw [hr] at this
        cases this
      · intro i hi
        obtain ⟨o, h1, h2, h3⟩ := ready_iff.1 hi
        have hlt : i < ops.length := by rw [nth_eq] at h1; exact (List.getElem?_eq_some_iff.1 h1).1
        have him : i < Fs.length := by
          rcases Nat.lt_or_ge i Fs.length with h4 | h4
          · exact h4
          · exfalso
            obtain ⟨q, hq, hqj, hq1⟩ := hexj
            have h5 : L.getD q false = true := by
              rcases hsh.last i o h1 h4 q (by omega) with h6 | h6
              · exact absurd (List.mem_singleton.1 h6) hqj
              · exact hcl.reach h6 (fun o' ho' e he hb => by rw [h1] at ho'; cases ho'; exact h3 e he hb)
            rw [getD_of_lt (by omega) false true, hq1] at h5
            cases h5
        obtain ⟨d, hd, hdn, hdenv, hdd⟩ := hsh.dst i o h1 him
        have hFi : nth Fs i = some Fs[i] := by rw [nth_eq, List.getElem?_eq_getElem him]
        have hdi : dstOf ops i = some d := by simp [dstOf, h1, hd]
        obtain ⟨env', hst, horg⟩ := forVals_elim (n := n) (ds := ds) (a := a) _ _ (howed i o Fs[i] h1 hFi Mx H' w hle hs) ha (by
          intro j hj o' F' d' ho' hF' hd'
          obtain ⟨e, he, hb, hon⟩ := hsh.lean i o h1 him j hj
          have h5 := h3 e he hb
          have h6 := hsh.back i o h1 e he hb
          rw [hon] at h5 h6
          rw [getD_of_lt (by omega) false true] at h5
          exact ⟨my j, hf j F' d' hF' (by simp [dstOf, ho', hd']) h5⟩)
        unfold wpOp
        have h1' := h1
        rw [nth_eq] at h1'
        simp only [List.getElem?_toArray, h1']
        have key := horg a hst (wpAny P .any ops.toArray (k.Q P) fuel (L.setIfInBounds i true)) (k.Q P) (by
          rintro v w'' ⟨H'', My, hle', hs', hF⟩
          refine ih _ (l.erase i) _ w'' H'' (My ++ Mx) _ (D0.step hsh h1 him hFi h2 h3 hle' hs' hF) ?_ ?_
          · intro k hk hk2
            by_cases e : k = i
            · subst e
              simp [hsz, hlt] at hk2
            · simp only [Array.getD_eq_getD_getElem?, Array.getElem?_setIfInBounds, show ¬ i = k from fun h => e h.symm, if_false] at hk2
              exact (List.mem_erase_of_ne e).2 (hl k hk (by rw [Array.getD_eq_getD_getElem?]; exact hk2))
          · have hmem := hl i him h2
            rw [List.length_erase_of_mem hmem]
            have := List.length_pos_of_mem hmem
            omega)
        split
        · rename_i hw; rw [if_pos hw] at key; exact .inl key
        · rename_i hw; rw [if_neg hw] at key; exact key

variable {w : World} {k : Kont}
theorem WC.drawL {id : Nat} (m j : Nat) (hm : P.follows .mixedOrders = true) (hs : HS xs H0 w0 H M w) (hok : (drawOk ops m n env [j] && lateOk ops m j && k.flat) = true)
    (howed : Owed P n ds xs H0 w0 M ops env H (fun Fs => ∀ H' w', Hp.le H H' → forAllVals ops H' 0 Fs env M fun env' M' => HS xs H0 w0 H' M' w' → WO P n ds ops.toArray (ops.drop m) k env' w') ops m []) :
    WC P n ds (.region id ops.toArray true) k env w := by
  simp only [Bool.and_eq_true] at hok
  obtain ⟨⟨h1, h2⟩, h3⟩ := hok
  intro a ha
  have hsh := Shape.of h1
  obtain ⟨Fs, h6, hfin, h7⟩ := OwedF.elim hsh.back m [] (Owed.toF _ _ [] howed)
  simp only [List.nil_append, List.length_nil, Nat.zero_add] at h6 hfin h7
  subst h6
  refine wp_region_any hm ?_
  have hrep : ∀ i, i < ops.length → (Array.replicate ops.length false).getD i true = false := by
    intro i hi
    simp [Array.getD_eq_getD_getElem?, hi]
  have hD : DInv n ds xs H0 w0 H M ops Fs env (Array.replicate ops.length false) a w.drew H [] (fun _ => []) := by
    refine ⟨?_, ?_, by simp, fun i hi _ => hrep i hi, Hp.le.refl H, hs.drew, ha, ?_⟩
    · intro i o ho hi
      have hlt : i < ops.length := by rw [nth_eq] at ho; exact (List.getElem?_eq_some_iff.1 ho).1
      rw [getD_of_lt (by simpa using hlt) false true, hrep i hlt] at hi
      cases hi
    · rw [List.flatMap_eq_nil_iff.2 (by intro j _; simp [madeBy])]
    · intro i F d hF hd hL
      have hi : i < Fs.length := by rw [nth_eq] at hF; exact (List.getElem?_eq_some_iff.1 hF).1
      rw [hrep i (Nat.lt_of_lt_of_le hi hsh.le)] at hL
      cases hL
  have hle := hsh.le
  simp only [List.size_toArray]
  exact wpAny_firstL (H := H) h3 h2 hsh (fun i o F => h7 i o F (Nat.zero_le i)) (fun H' w' h1 => hfin H' w' h1) ops.length _ (List.range Fs.length) a _ H [] (fun _ => []) hD (fun i hi _ => List.mem_range.2 hi) (by simp; omega)
end
end Go.Bw
