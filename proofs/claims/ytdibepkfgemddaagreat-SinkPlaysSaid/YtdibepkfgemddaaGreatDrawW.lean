/- Drawn regions in which one call writes: all others read what it leaves alone. -/
import Derived.Test.YtdibepkfgemddaaGreatDrawP
namespace Go.Bw
set_option linter.unusedVariables false
set_option linter.unusedSimpArgs false

section
variable {P : Program} {n : Nat} {ds : List Deferred} {ops : List Oper} {env : Env} {Q : Exit → Act → World → Prop} {H : Hp}

theorem ORg.mono {o : Oper} {w : World} {R R' : Value → World → Prop} (h : ORg P n ds ops o env w R) (hR : ∀ v w', R v w' → R' v w') : ORg P n ds ops o env w R' :=
  fun a ha K Q hK => h a ha K Q (fun v w' h' => hK v w' (hR v w' h'))
/-- What is owed for the first k operations; c is the one that writes. -/
def OwedW (P : Program) (n : Nat) (ds : List Deferred) (ops : List Oper) (env : Env) (H : Hp) (Cm J0 : World → Prop) (J1 : Value → World → Prop) (c : Nat) (fin : List MF → Prop) : List Oper → Nat → List MF → Prop
  | _, 0, Rs => fin Rs.reverse
  | [], _ + 1, _ => False
  | o :: os, k + 1, Rs => ∃ F : MF, (if Rs.length = c then ∀ w', J0 w' → forVals ops Rs.reverse H (uniq (leans o)) env fun env' => ORg P n ds ops o env' w' fun v w'' => J1 v w'' ∧ F.F v [] H
      else ∀ J : World → Prop, (∀ w', J w' → Cm w') → ∀ w', J w' → forVals ops Rs.reverse H (uniq (leans o)) env fun env' => ORg P n ds ops o env' w' fun v w'' => J w'' ∧ F.F v [] H) ∧
      OwedW P n ds ops env H Cm J0 J1 c fin os k (F :: Rs)

theorem OwedW.other {Cm J0 : World → Prop} {J1 : Value → World → Prop} {c k : Nat} {fin : List MF → Prop} {o : Oper} {os : List Oper} {Rs : List MF} {F : MF} (hne : Nat.beq Rs.length c = false)
    (h1 : ∀ J : World → Prop, (∀ w', J w' → Cm w') → ∀ w', J w' → forVals ops Rs.reverse H (uniq (leans o)) env fun env' => ORg P n ds ops o env' w' fun v w'' => J w'' ∧ F.F v [] H)
    (h2 : OwedW P n ds ops env H Cm J0 J1 c fin os k (F :: Rs)) : OwedW P n ds ops env H Cm J0 J1 c fin (o :: os) (k + 1) Rs :=
  ⟨F, by rw [if_neg (Nat.ne_of_beq_eq_false hne)]; exact h1, h2⟩
theorem OwedW.writer {Cm J0 : World → Prop} {J1 : Value → World → Prop} {c k : Nat} {fin : List MF → Prop} {o : Oper} {os : List Oper} {Rs : List MF} {F : MF} (he : Nat.beq Rs.length c = true)
    (h1 : ∀ w', J0 w' → forVals ops Rs.reverse H (uniq (leans o)) env fun env' => ORg P n ds ops o env' w' fun v w'' => J1 v w'' ∧ F.F v [] H)
    (h2 : OwedW P n ds ops env H Cm J0 J1 c fin os k (F :: Rs)) : OwedW P n ds ops env H Cm J0 J1 c fin (o :: os) (k + 1) Rs :=
  ⟨F, by rw [if_pos (Nat.eq_of_beq_eq_true he)]; exact h1, h2⟩

theorem OwedW.elim {Cm J0 : World → Prop} {J1 : Value → World → Prop} {c : Nat} {fin : List MF → Prop} (hb : ∀ i o, nth ops i = some o → ∀ e ∈ o.after.toList, Region.binds .any e = true → e.on < i) : ∀ (k : Nat) (Rs : List MF), OwedW P n ds ops env H Cm J0 J1 c fin (ops.drop Rs.length) k Rs →
    ∃ Gs, Gs.length = k ∧ fin (Rs.reverse ++ Gs) ∧ ∀ i o F, Rs.length ≤ i → nth ops i = some o → nth (Rs.reverse ++ Gs) i = some F →
      if i = c then ∀ w', J0 w' → forVals ops (Rs.reverse ++ Gs) H (uniq (leans o)) env fun env' => ORg P n ds ops o env' w' fun v w'' => J1 v w'' ∧ F.F v [] H
      else ∀ J : World → Prop, (∀ w', J w' → Cm w') → ∀ w', J w' → forVals ops (Rs.reverse ++ Gs) H (uniq (leans o)) env fun env' => ORg P n ds ops o env' w' fun v w'' => J w'' ∧ F.F v [] H
  | 0, Rs, h => by
    have h' : fin Rs.reverse := by revert h; cases ops.drop Rs.length <;> exact id
    refine ⟨[], rfl, by simpa using h', ?_⟩
    intro i o F hi ho hF
    rw [List.append_nil, nth_eq] at hF
    exact absurd (List.getElem?_eq_some_iff.1 hF).1 (by simp; omega)
  | k + 1, Rs, h => by
    cases hd : ops.drop Rs.length with
    | nil => rw [hd] at h; exact absurd h id
    | cons o os =>
      rw [hd] at h
      obtain ⟨F, hF1, hF2⟩ := h
      have hlt : Rs.length < ops.length := by
        have := congrArg List.length hd
        simp at this
        omega
      have hos : ops.drop (F :: Rs).length = os := by
        have h2 := List.drop_eq_getElem_cons hlt
        rw [hd] at h2
        rw [List.length_cons]
        exact (List.cons.inj h2).2.symm
      have ho : nth ops Rs.length = some o := by
        have h2 := List.drop_eq_getElem_cons hlt
        rw [hd] at h2
        rw [nth_eq, List.getElem?_eq_getElem hlt, (List.cons.inj h2).1]
      obtain ⟨Gs, g1, g2, g3⟩ := OwedW.elim hb k (F :: Rs) (by rw [hos]; exact hF2)
      have hcat : (F :: Rs).reverse ++ Gs = Rs.reverse ++ (F :: Gs) := by simp
      rw [hcat] at g2 g3
      refine ⟨F :: Gs, by simp [g1], g2, ?_⟩
      intro i o' F' hi ho' hF'
      by_cases e : i = Rs.length
      · subst e
        rw [ho] at ho'
        cases ho'
        have hFF : F' = F := by
          rw [nth_eq, List.getElem?_append_right (by simp)] at hF'
          simpa using hF'.symm
        subst hFF
        have hcg : ∀ {K : Env → Prop}, forVals ops Rs.reverse H (uniq (leans o)) env K → forVals ops (Rs.reverse ++ F' :: Gs) H (uniq (leans o)) env K := fun h => forVals_congr _ _ h (fun j hj => by
          have hj2 := leans_lt (hb _ o ho) j hj
          rw [nth_append_left (by simpa using hj2)])
        by_cases e2 : Rs.length = c
        · rw [if_pos e2] at hF1 ⊢
          exact fun w' hJ => hcg (hF1 w' hJ)
        · rw [if_neg e2] at hF1 ⊢
          exact fun J hC w' hJ => hcg (hF1 J hC w' hJ)
      · exact g3 i o' F' (by simp only [List.length_cons]; omega) ho' hF'

/-- What holds while the first m are under way. -/
structure WInv (n : Nat) (ds : List Deferred) (H : Hp) (J0 : World → Prop) (J1 : Value → World → Prop) (c dc : Nat) (ops : List Oper) (Fs : List MF) (env : Env) (L : Array Bool) (a : Act) (w : World) : Prop where
  cl : Closed ops L
  sz : L.size = ops.length
  rest : ∀ i, i < ops.length → Fs.length ≤ i → L.getD i true = false
  st : St n ds env a
  ok : ∀ i F d, nth Fs i = some F → dstOf ops i = some d → L.getD i true = true → F.F (a.tmps.getD d undef) [] H
  ph0 : L.getD c true = false → J0 w
  ph1 : L.getD c true = true → J1 (a.tmps.getD dc undef) w

theorem WInv.step {Fs : List MF} {J0 : World → Prop} {J1 : Value → World → Prop} {c dc : Nat} (hsh : Shape ops Fs.length n env []) (hcm : c < Fs.length) (hdc : dstOf ops c = some dc) {L : Array Bool} {a : Act} {w w'' : World} (D : WInv n ds H J0 J1 c dc ops Fs env L a w)
    {i : Nat} {o : Oper} {F : MF} {v : Value} (h1 : nth ops i = some o) (him : i < Fs.length) (hFi : nth Fs i = some F) (h2 : L.getD i true = false) (h3 : ∀ e ∈ o.after.toList, Region.binds .any e = true → L.getD e.on false = true)
    (hJ : if i = c then J1 v w'' else (L.getD c true = false → J0 w'') ∧ (L.getD c true = true → J1 (a.tmps.getD dc undef) w'')) (hF : F.F v [] H) :
    WInv n ds H J0 J1 c dc ops Fs env (L.setIfInBounds i true) (a.put o.dst v) w'' := by
  obtain ⟨hcl, hsz, hrest, ha, hf, hp0, hp1⟩ := D
  have hlt : i < ops.length := by rw [nth_eq] at h1; exact (List.getElem?_eq_some_iff.1 h1).1
  obtain ⟨d, hd, hdn, hdenv, hdd⟩ := hsh.dst i o h1 him
  have hdi : dstOf ops i = some d := by simp [dstOf, h1, hd]
  have hput : (a.put o.dst v).tmps.getD d undef = v := by
    rw [hd]
    simp [Act.put, Array.getD_eq_getD_getElem?, ha.sz, hdn]
  have hother : ∀ t, t ≠ d → (a.put o.dst v).tmps.getD t undef = a.tmps.getD t undef := by
    intro t ht
    rw [hd]
    simp [Act.put, Array.getD_eq_getD_getElem?, Array.getElem?_setIfInBounds, Ne.symm ht]
  refine ⟨hcl.set h1 h3, by simp [hsz], ?_, ?_, ?_, ?_, ?_⟩
  · intro k hk hmk
    have := hrest k hk hmk
    simp only [Array.getD_eq_getD_getElem?, Array.getElem?_setIfInBounds, show ¬ i = k by omega, if_false] at this ⊢
    exact this
  · rw [hd]; exact ha.putNew v hdenv
  · intro k F' d' hF' hd' hk
    by_cases e : k = i
    · subst e
      rw [hFi] at hF'
      rw [hdi] at hd'
      cases hF'
      cases hd'
      rw [hput]
      exact hF
    · have hkm : k < Fs.length := by rw [nth_eq] at hF'; exact (List.getElem?_eq_some_iff.1 hF').1
      have hne : d' ≠ d := fun h => hdd k hkm (Ne.symm e) d' hd' h.symm
      rw [hother d' hne]
      simp only [Array.getD_eq_getD_getElem?, Array.getElem?_setIfInBounds, show ¬ i = k from fun h => e h.symm, if_false] at hk
      exact hf k F' d' hF' hd' (by rw [Array.getD_eq_getD_getElem?]; exact hk)
  · intro hk
    by_cases e : i = c
    · subst e
      simp [hsz, hlt] at hk
    · rw [if_neg e] at hJ
      simp only [Array.getD_eq_getD_getElem?, Array.getElem?_setIfInBounds, e, if_false] at hk hJ
      exact hJ.1 hk
  · intro hk
    by_cases e : i = c
    · subst e
      rw [if_pos rfl] at hJ
      rw [hdi] at hdc
      cases hdc
      rw [hput]
      exact hJ
    · rw [if_neg e] at hJ
      have hne : dc ≠ d := fun h => hdd c hcm e dc hdc h.symm
      rw [hother dc hne]
      simp only [Array.getD_eq_getD_getElem?, Array.getElem?_setIfInBounds, e, if_false] at hk
      exact hJ.2 (by rw [Array.getD_eq_getD_getElem?]; exact hk)

theorem wpAny_firstW {Fs : List MF} {Cm J0 : World → Prop} {J1 : Value → World → Prop} {c dc : Nat} (hsh : Shape ops Fs.length n env []) (hcm : c < Fs.length) (hdc : dstOf ops c = some dc) (hC0 : ∀ w, J0 w → Cm w) (hC1 : ∀ v w, J1 v w → Cm w)
    (howed : ∀ (i : Nat) (o : Oper) (F : MF), nth ops i = some o → nth Fs i = some F →
      if i = c then ∀ w', J0 w' → forVals ops Fs H (uniq (leans o)) env fun env' => ORg P n ds ops o env' w' fun v w'' => J1 v w'' ∧ F.F v [] H
      else ∀ J : World → Prop, (∀ w', J w' → Cm w') → ∀ w', J w' → forVals ops Fs H (uniq (leans o)) env fun env' => ORg P n ds ops o env' w' fun v w'' => J w'' ∧ F.F v [] H)
    (hfin : forAllVals ops H 0 Fs env [] fun env' _ => ∃ v, env'.get dc = some v ∧ ∀ w', J1 v w' → ∀ a, St n ds env' a → wpList P ops.toArray Q (ops.drop Fs.length) a w') :
    ∀ (fuel : Nat) (L : Array Bool) (l : List Nat) (a : Act) (w : World), WInv n ds H J0 J1 c dc ops Fs env L a w →
      (∀ i, i < Fs.length → L.getD i true = false → i ∈ l) → l.length + (ops.length - Fs.length) ≤ fuel → wpAny P .any ops.toArray Q fuel L a w := by
  have hfull : ∀ (L : Array Bool) (a : Act) (w : World), (∀ i, i < Fs.length → L.getD i true = true) → WInv n ds H J0 J1 c dc ops Fs env L a w → wpList P ops.toArray Q (ops.drop Fs.length) a w := by
    intro L a w hall D
    obtain ⟨env', h1, v, hv, h2⟩ := forAllVals_elim (n := n) (ds := ds) (a := a) (fun _ => []) Fs 0 env [] hfin D.st (by
      intro j F hF
      have hj : j < Fs.length := by rw [nth_eq] at hF; exact (List.getElem?_eq_some_iff.1 hF).1
      have hjo : j < ops.length := Nat.lt_of_lt_of_le hj hsh.le
      obtain ⟨d, hd, _⟩ := hsh.dst j ops[j] (by rw [nth_eq, List.getElem?_eq_getElem hjo]) hj
      have hd' : dstOf ops j = some d := by simp [dstOf, nth_eq, hjo, hd]
      rw [Nat.zero_add]
      exact ⟨d, hd', D.ok j F d hF hd' (hall j hj)⟩)
    have hv2 := h1.get dc v hv
    have hJ := D.ph1 (hall c hcm)
    rw [hv2] at hJ
    exact h2 w hJ a h1
  intro fuel
  induction fuel with
  | zero =>
    intro L l a w D hl hlen
    have hl0 : l = [] := List.eq_nil_of_length_eq_zero (by omega)
    have hm := hsh.le
    have hall : ∀ i, i < Fs.length → L.getD i true = true := by
      intro i hi
      cases h : L.getD i true with
      | true => rfl
      | false => have := hl i hi h; rw [hl0] at this; cases this
    refine wpAny_rest hsh 0 Fs.length L a w (fun q hq => by cases hq) D.sz ?_ (Nat.le_refl _) hm (by omega) D.cl (hfull L a w hall D)
    intro i hi
    exact ⟨fun _ => by omega, fun h => hall i h⟩
  | succ fuel ih =>
    intro L l a w D hl hlen
    have D0 := D
    obtain ⟨hcl, hsz, hrest, ha, hf, hp0, hp1⟩ := D
    have hm := hsh.le
    by_cases hall : ∀ i, i < Fs.length → L.getD i true = true
    · refine wpAny_rest hsh (fuel + 1) Fs.length L a w (fun q hq => by cases hq) hsz ?_ (Nat.le_refl _) hm (by omega) hcl (hfull L a w hall D0)
      intro i hi
      refine ⟨fun h => ?_, fun h => hall i h⟩
      rcases Nat.lt_or_ge i Fs.length with h4 | h4
      · exact h4
      · rw [hrest i hi h4] at h; cases h
    · have hex : ∃ i, i < Fs.length ∧ L.getD i true = false ∧ ∀ j, j < i → L.getD j true = true := by
        clear ih hf ha D0 hp0 hp1
        have h0 : ∃ i, i < Fs.length ∧ L.getD i true = false := by
          refine Classical.byContradiction fun hno => hall fun i hi => ?_
          cases h : L.getD i true with
          | true => rfl
          | false => exact absurd ⟨i, hi, h⟩ hno
        obtain ⟨i, hi⟩ := h0
        induction i using Nat.strongRecOn with
        | _ i ihi =>
          by_cases hj : ∀ j, j < i → L.getD j true = true
          · exact ⟨i, hi.1, hi.2, hj⟩
          · have : ∃ j, j < i ∧ L.getD j true = false := by
              refine Classical.byContradiction fun hno => hj fun j hji => ?_
              cases h : L.getD j true with
              | true => rfl
              | false => exact absurd ⟨j, hji, h⟩ hno
            obtain ⟨j, hji, hj2⟩ := this
            exact ihi j hji ⟨by omega, hj2⟩
      refine ⟨?_, ?_⟩
      · intro hr
        exfalso
        obtain ⟨i, hi, h1, h2⟩ := hex
        have hio : i < ops.length := by omega
        have : i ∈ Region.ready .any ops.toArray L := by
          refine ready_iff.2 ⟨ops[i], by rw [nth_eq, List.getElem?_eq_getElem hio], h1, ?_⟩
          intro e he hb
          have h3 := hsh.back i ops[i] (by rw [nth_eq, List.getElem?_eq_getElem hio]) e he hb
          rw [getD_of_lt (by omega) false true]
          exact h2 e.on h3
        rw [hr] at this
        cases this
      · intro i hi
        obtain ⟨o, h1, h2, h3⟩ := ready_iff.1 hi
        have hlt : i < ops.length := by rw [nth_eq] at h1; exact (List.getElem?_eq_some_iff.1 h1).1
        have him : i < Fs.length := by
          rcases Nat.lt_or_ge i Fs.length with h4 | h4
          · exact h4
          · exfalso
            obtain ⟨j, hj, hj1, _⟩ := hex
            have h5 : L.getD j false = true := by
              rcases hsh.last i o h1 h4 j (by omega) with h6 | h6
              · cases h6
              · exact hcl.reach h6 (fun o' ho' e he hb => by rw [h1] at ho'; cases ho'; exact h3 e he hb)
            rw [getD_of_lt (by omega) false true, hj1] at h5
            cases h5
        have hFi : nth Fs i = some Fs[i] := by rw [nth_eq, List.getElem?_eq_getElem him]
        have hlean : ∀ j ∈ uniq (leans o), ∀ o' F' d', nth ops j = some o' → nth Fs j = some F' → o'.dst = some d' → ∃ My, F'.F (a.tmps.getD d' undef) My H := by
          intro j hj o' F' d' ho' hF' hd'
          obtain ⟨e, he, hb, hon⟩ := hsh.lean i o h1 him j hj
          have h5 := h3 e he hb
          have h6 := hsh.back i o h1 e he hb
          rw [hon] at h5 h6
          rw [getD_of_lt (by omega) false true] at h5
          exact ⟨[], hf j F' d' hF' (by simp [dstOf, ho', hd']) h5⟩
        have next : ∀ v w'', (if i = c then J1 v w'' else (L.getD c true = false → J0 w'') ∧ (L.getD c true = true → J1 (a.tmps.getD dc undef) w'')) → Fs[i].F v [] H → wpAny P .any ops.toArray Q fuel (L.setIfInBounds i true) (a.put o.dst v) w'' := by
          intro v w'' hJ hF
          refine ih _ (l.erase i) _ w'' (D0.step hsh hcm hdc h1 him hFi h2 h3 hJ hF) ?_ ?_
          · intro k hk hk2
            by_cases e : k = i
            · subst e
              simp [hsz, hlt] at hk2
            · simp only [Array.getD_eq_getD_getElem?, Array.getElem?_setIfInBounds, show ¬ i = k from fun h => e h.symm, if_false] at hk2
              exact (List.mem_erase_of_ne e).2 (hl k hk (by rw [Array.getD_eq_getD_getElem?]; exact hk2))
          · have hmem := hl i him h2
            rw [List.length_erase_of_mem hmem]
            have := List.length_pos_of_mem hmem
            omega
        have hex2 : ∃ env', St n ds env' a ∧ ORg P n ds ops o env' w fun v w'' => (if i = c then J1 v w'' else (L.getD c true = false → J0 w'') ∧ (L.getD c true = true → J1 (a.tmps.getD dc undef) w'')) ∧ Fs[i].F v [] H := by
          have hw := howed i o Fs[i] h1 hFi
          by_cases e : i = c
          · simp only [if_pos e] at hw ⊢
            have h7 := h2
            rw [e] at h7
            exact forVals_elim (n := n) (ds := ds) (a := a) _ _ (hw w (hp0 h7)) ha hlean
          · simp only [if_neg e] at hw ⊢
            cases hb : L.getD c true with
            | false =>
              obtain ⟨env', g1, g2⟩ := forVals_elim (n := n) (ds := ds) (a := a) _ _ (hw J0 hC0 w (hp0 hb)) ha hlean
              exact ⟨env', g1, ORg.mono g2 fun v w'' h => ⟨⟨fun _ => h.1, fun h9 => by cases h9⟩, h.2⟩⟩
            | true =>
              obtain ⟨env', g1, g2⟩ := forVals_elim (n := n) (ds := ds) (a := a) _ _ (hw (J1 (a.tmps.getD dc undef)) (hC1 _) w (hp1 hb)) ha hlean
              exact ⟨env', g1, ORg.mono g2 fun v w'' h => ⟨⟨(fun h9 => by cases h9), fun _ => h.1⟩, h.2⟩⟩
        obtain ⟨env', hst, horg⟩ := hex2
        unfold wpOp
        have h1' := h1
        rw [nth_eq] at h1'
        simp only [List.getElem?_toArray, h1']
        have key := horg a hst (wpAny P .any ops.toArray Q fuel (L.setIfInBounds i true)) Q (fun v w'' h => next v w'' h.1 h.2)
        split
        · rename_i hw; rw [if_pos hw] at key; exact .inl key
        · rename_i hw; rw [if_neg hw] at key; exact key

/-- A drawn region with one writer. -/
theorem WC.drawW {k : Kont} {w : World} {id : Nat} (m c dc : Nat) (Cm J0 : World → Prop) (J1 : Value → World → Prop) (hm : P.follows .mixedOrders = true) (hok : (drawOk ops m n env [] && Nat.blt c m && Nat.ble m ops.length) = true) (hdc : dstOf ops c = some dc) (h0 : J0 w.drew) (hC0 : ∀ w, J0 w → Cm w) (hC1 : ∀ v w, J1 v w → Cm w)
    (howed : OwedW P n ds ops env H Cm J0 J1 c (fun Fs => forAllVals ops H 0 Fs env [] fun env' _ => ∃ v, env'.get dc = some v ∧ ∀ w', J1 v w' → WO P n ds ops.toArray (ops.drop m) k env' w') ops m []) :
    WC P n ds (.region id ops.toArray true) k env w := by
  simp only [Bool.and_eq_true] at hok
  obtain ⟨⟨h1, h2⟩, h8⟩ := hok
  have h8 := Nat.le_of_ble_eq_true h8
  have h2 : c < m := by simpa [Nat.blt_eq] using h2
  intro a ha
  have hsh := Shape.of h1
  obtain ⟨Fs, h6, hfin, h7⟩ := OwedW.elim hsh.back m [] howed
  simp only [List.reverse_nil, List.nil_append, List.length_nil] at hfin h7
  subst h6
  refine wp_region_any hm ?_
  have hrep : ∀ i, i < ops.length → (Array.replicate ops.length false).getD i true = false := by
    intro i hi
    simp [Array.getD_eq_getD_getElem?, hi]
  have hW : WInv n ds H J0 J1 c dc ops Fs env (Array.replicate ops.length false) a w.drew := by
    refine ⟨?_, by simp, fun i hi _ => hrep i hi, ha, ?_, fun _ => h0, ?_⟩
    · intro i o ho hi
      have hlt : i < ops.length := by rw [nth_eq] at ho; exact (List.getElem?_eq_some_iff.1 ho).1
      rw [getD_of_lt (by simpa using hlt) false true, hrep i hlt] at hi
      cases hi
    · intro i F d hF hd hL
      have hi : i < Fs.length := by rw [nth_eq] at hF; exact (List.getElem?_eq_some_iff.1 hF).1
      rw [hrep i (Nat.lt_of_lt_of_le hi hsh.le)] at hL
      cases hL
    · intro hL
      rw [hrep c (Nat.lt_of_lt_of_le h2 hsh.le)] at hL
      cases hL
  have hle := hsh.le
  simp only [List.size_toArray]
  exact wpAny_firstW hsh h2 hdc hC0 hC1 (fun i o F ho hF => h7 i o F (Nat.zero_le _) ho hF) hfin ops.length _ (List.range Fs.length) a _ hW (fun i hi _ => List.mem_range.2 hi) (by simp; omega)
end
end Go.Bw
