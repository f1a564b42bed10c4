/- A region that draws its order, in which one operation takes what another one made. -/
import Derived.Test.YtdibepkfgemddaaGreatDraw
namespace Go.Bw
set_option linter.unusedVariables false
set_option linter.unusedSimpArgs false

/-- Of what was taken nothing is known. -/
def MF.gone : MF := ⟨fun _ M _ => M = [], fun _ _ _ _ _ h => h⟩
theorem forAllVals_gone {ops : List Oper} {H : Hp} {i : Nat} {Fs : List MF} {env : Env} {M : Mem} {K : Env → Mem → Prop} {d : Nat} (hd : dstOf ops i = some d)
    (h : ∀ v, forAllVals ops H (i + 1) Fs ((d, v) :: env) M K) : forAllVals ops H i (MF.gone :: Fs) env M K :=
  forAllVals_cons hd (by rintro v My rfl; exact h v)

section
variable {P : Program} {n : Nat} {ds : List Deferred} {ops : List Oper} {env : Env} {Q : Exit → Act → World → Prop}
variable {xs : List Nat} {H0 H : Hp} {w0 : World} {M : Mem} {Fs : List MF}

/-- What is owed for the operation that takes. -/
def Tob (P : Program) (n : Nat) (ds : List Deferred) (xs : List Nat) (H0 : Hp) (w0 : World) (M : Mem) (ops : List Oper) (env : Env) (H : Hp) (Fs : List MF) (tj : Nat) (o : Oper) (F : MF) : Prop :=
  ∃ Fj, nth Fs tj = some Fj ∧ ∀ vj Mj Mx H' w', Hp.le H H' → HS xs H0 w0 H' (Mj ++ (Mx ++ M)) w' → Fj.F vj Mj H' → forVals ops (Fs.set tj (MF.eq vj)) H' (uniq (leans o)) env fun env' =>
    ORg P n ds ops o env' w' fun v w'' => ∃ H'' My, Hp.le H' H'' ∧ HS xs H0 w0 H'' (My ++ (Mx ++ M)) w'' ∧ F.F v My H''

structure TInv (n : Nat) (ds : List Deferred) (xs : List Nat) (H0 : Hp) (w0 : World) (H : Hp) (M : Mem) (ops : List Oper) (Fs : List MF) (env : Env) (ti tj : Nat) (L : Array Bool) (a : Act) (w : World) (H' : Hp) (Mx : Mem) (my : Nat → Mem) : Prop where
  cl : Closed ops L
  perm : Mx.Perm ((List.range' 0 Fs.length).flatMap (madeBy L my))
  sz : L.size = ops.length
  rest : ∀ i, i < ops.length → Fs.length ≤ i → L.getD i true = false
  le : Hp.le H H'
  hs : HS xs H0 w0 H' (Mx ++ M) w
  st : St n ds env a
  ok : ∀ i F d, nth Fs i = some F → dstOf ops i = some d → L.getD i true = true → (i = tj → L.getD ti true = false) → F.F (a.tmps.getD d undef) (my i) H'
  gone : L.getD ti true = true → my tj = []

theorem tperm {L : Array Bool} {my : Nat → Mem} {i m : Nat} {My Mx : Mem} (hperm : Mx.Perm ((List.range' 0 m).flatMap (madeBy L my))) (him : i < m) (hsz : i < L.size) (h2 : L.getD i true = false) :
    (My ++ Mx).Perm ((List.range' 0 m).flatMap (madeBy (L.setIfInBounds i true) (fun k => if k = i then My else my k))) := by
  refine (hperm.append_left My).trans (flatMap_one (i := i) _ ?_ List.nodup_range' ?_ ?_ ?_)
  · simp; omega
  · intro j hj
    unfold madeBy
    simp only [Array.getD_eq_getD_getElem?, Array.getElem?_setIfInBounds, show ¬ i = j from fun h => hj h.symm, if_false, hj]
  · simp [madeBy, h2]
  · simp [madeBy, hsz]

theorem put_other {a : Act} {d t : Nat} {v : Value} (ht : t ≠ d) : (a.put (some d) v).tmps.getD t undef = a.tmps.getD t undef := by
  simp [Act.put, Array.getD_eq_getD_getElem?, Array.getElem?_setIfInBounds, Ne.symm ht]
theorem set_other {L : Array Bool} {i k : Nat} (e : k ≠ i) (b : Bool) : (L.setIfInBounds i true).getD k b = L.getD k b := by
  simp only [Array.getD_eq_getD_getElem?, Array.getElem?_setIfInBounds, show ¬ i = k from fun h => e h.symm, if_false]
theorem set_this {L : Array Bool} {i : Nat} (h : i < L.size) (b : Bool) : (L.setIfInBounds i true).getD i b = true := by
  simp [Array.getD_eq_getD_getElem?, h]

/-- One that takes nothing. -/
theorem TInv.step (hsh : Shape ops Fs.length n env []) {ti tj : Nat} (hdep : Reach ops ti tj) {L : Array Bool} {a : Act} {w w'' : World} {H' H'' : Hp} {Mx My : Mem} {my : Nat → Mem} (D : TInv n ds xs H0 w0 H M ops Fs env ti tj L a w H' Mx my)
    {i : Nat} {o : Oper} {F : MF} {v : Value} (hti : ti < ops.length) (hit : i ≠ ti) (h1 : nth ops i = some o) (him : i < Fs.length) (hFi : nth Fs i = some F) (h2 : L.getD i true = false) (h3 : ∀ e ∈ o.after.toList, Region.binds .any e = true → L.getD e.on false = true)
    (hle' : Hp.le H' H'') (hs' : HS xs H0 w0 H'' (My ++ (Mx ++ M)) w'') (hF : F.F v My H'') :
    TInv n ds xs H0 w0 H M ops Fs env ti tj (L.setIfInBounds i true) (a.put o.dst v) w'' H'' (My ++ Mx) (fun k => if k = i then My else my k) := by
  obtain ⟨hcl, hperm, hsz, hrest, hle, hs, ha, hf, hg⟩ := D
  have hlt : i < ops.length := by rw [nth_eq] at h1; exact (List.getElem?_eq_some_iff.1 h1).1
  obtain ⟨d, hd, hdn, hdenv, hdd⟩ := hsh.dst i o h1 him
  have hdi : dstOf ops i = some d := by simp [dstOf, h1, hd]
  have hput : (a.put o.dst v).tmps.getD d undef = v := by
    rw [hd]; simp [Act.put, Array.getD_eq_getD_getElem?, ha.sz, hdn]
  have hLi : L.getD i false = false := by rw [getD_of_lt (by omega) false true]; exact h2
  refine ⟨hcl.set h1 h3, tperm hperm him (by omega) h2, by simp [hsz], ?_, hle.trans hle', by rw [List.append_assoc]; exact hs', ?_, ?_, ?_⟩
  · intro k hk hmk
    rw [set_other (by omega)]
    exact hrest k hk hmk
  · rw [hd]; exact ha.putNew v hdenv
  · intro k F' d' hF' hd' hk hkt
    by_cases e : k = i
    · subst e
      rw [hFi] at hF'
      rw [hdi] at hd'
      cases hF'
      cases hd'
      rw [hput, if_pos rfl]
      exact hF
    · have hkm : k < Fs.length := by rw [nth_eq] at hF'; exact (List.getElem?_eq_some_iff.1 hF').1
      have hne : d' ≠ d := fun h => hdd k hkm (Ne.symm e) d' hd' h.symm
      rw [hd, put_other hne, if_neg e]
      rw [set_other e] at hk
      exact F'.mono _ _ _ _ hle' (hf k F' d' hF' hd' hk fun h => by have := hkt h; rwa [set_other (Ne.symm hit)] at this)
  · intro ht
    rw [set_other (Ne.symm hit)] at ht
    by_cases e : tj = i
    · exfalso
      have hc := hcl
      have : L.getD tj false = true := by
        cases hn : nth ops ti with
        | none => rw [nth_eq, List.getElem?_eq_getElem hti] at hn; cases hn
        | some ot => exact hcl.reach hdep (fun o' ho' e he hb => hcl ti o' ho' (by rw [getD_of_lt (by omega) false true]; exact ht) e he hb)
      rw [e, hLi] at this
      cases this
    · rw [if_neg e]
      exact hg ht

/-- The one that takes. -/
theorem TInv.take (hsh : Shape ops Fs.length n env []) {ti tj : Nat} (htjm : tj < Fs.length) (hne : ti ≠ tj) {L : Array Bool} {a : Act} {w w'' : World} {H' H'' : Hp} {Mx My R : Mem} {my : Nat → Mem} (D : TInv n ds xs H0 w0 H M ops Fs env ti tj L a w H' Mx my)
    {o : Oper} {F : MF} {v : Value} (h1 : nth ops ti = some o) (him : ti < Fs.length) (hFi : nth Fs ti = some F) (h2 : L.getD ti true = false) (h3 : ∀ e ∈ o.after.toList, Region.binds .any e = true → L.getD e.on false = true)
    (hR : R = (List.range' 0 Fs.length).flatMap (madeBy L (fun k => if k = tj then [] else my k)))
    (hle' : Hp.le H' H'') (hs' : HS xs H0 w0 H'' (My ++ (R ++ M)) w'') (hF : F.F v My H'') :
    TInv n ds xs H0 w0 H M ops Fs env ti tj (L.setIfInBounds ti true) (a.put o.dst v) w'' H'' (My ++ R) (fun k => if k = ti then My else if k = tj then [] else my k) := by
  obtain ⟨hcl, hperm, hsz, hrest, hle, hs, ha, hf, hg⟩ := D
  have hlt : ti < ops.length := by rw [nth_eq] at h1; exact (List.getElem?_eq_some_iff.1 h1).1
  obtain ⟨d, hd, hdn, hdenv, hdd⟩ := hsh.dst ti o h1 him
  have hdi : dstOf ops ti = some d := by simp [dstOf, h1, hd]
  have hput : (a.put o.dst v).tmps.getD d undef = v := by
    rw [hd]; simp [Act.put, Array.getD_eq_getD_getElem?, ha.sz, hdn]
  refine ⟨hcl.set h1 h3, tperm (my := fun k => if k = tj then [] else my k) (by rw [hR]) him (by omega) h2, by simp [hsz], ?_, hle.trans hle', by rw [List.append_assoc]; exact hs', ?_, ?_, ?_⟩
  · intro k hk hmk
    rw [set_other (by omega)]
    exact hrest k hk hmk
  · rw [hd]; exact ha.putNew v hdenv
  · intro k F' d' hF' hd' hk hkt
    by_cases e : k = ti
    · subst e
      rw [hFi] at hF'
      rw [hdi] at hd'
      cases hF'
      cases hd'
      rw [hput, if_pos rfl]
      exact hF
    · have hkm : k < Fs.length := by rw [nth_eq] at hF'; exact (List.getElem?_eq_some_iff.1 hF').1
      have hne : d' ≠ d := fun h => hdd k hkm (Ne.symm e) d' hd' h.symm
      rw [hd, put_other hne, if_neg e]
      rw [set_other e] at hk
      by_cases e2 : k = tj
      · have := hkt e2
        rw [set_this (by omega)] at this
        cases this
      · rw [if_neg e2]
        exact F'.mono _ _ _ _ hle' (hf k F' d' hF' hd' hk fun h => absurd h e2)
  · intro _
    rw [if_neg (Ne.symm hne), if_pos rfl]

/-- The first m, in any order; one of them takes what another one made. -/
theorem wpAny_firstT (hsh : Shape ops Fs.length n env []) {ti tj : Nat} {ot : Oper} {Ft : MF} (hti : nth ops ti = some ot) (hFt : nth Fs ti = some Ft) (htj : tj < ti) (hlj : tj ∈ uniq (leans ot))
    (hln : ∀ (i : Nat) (o : Oper), nth ops i = some o → i < Fs.length → i ≠ ti → tj ∉ uniq (leans o)) (hT : Tob P n ds xs H0 w0 M ops env H Fs tj ot Ft)
    (howed : ∀ (i : Nat) (o : Oper) (F : MF), nth ops i = some o → nth Fs i = some F → i ≠ ti →
    ∀ Mx H' w', Hp.le H H' → HS xs H0 w0 H' (Mx ++ M) w' → forVals ops Fs H' (uniq (leans o)) env fun env' =>
      ORg P n ds ops o env' w' fun v w'' => ∃ H'' My, Hp.le H' H'' ∧ HS xs H0 w0 H'' (My ++ (Mx ++ M)) w'' ∧ F.F v My H'')
    (hfin : ∀ H' w', Hp.le H H' → forAllVals ops H' 0 (Fs.set tj MF.gone) env M fun env' M' => HS xs H0 w0 H' M' w' → ∀ a, St n ds env' a → wpList P ops.toArray Q (ops.drop Fs.length) a w') :
    ∀ (fuel : Nat) (L : Array Bool) (l : List Nat) (a : Act) (w : World) (H' : Hp) (Mx : Mem) (my : Nat → Mem), TInv n ds xs H0 w0 H M ops Fs env ti tj L a w H' Mx my →
      (∀ i, i < Fs.length → L.getD i true = false → i ∈ l) → l.length + (ops.length - Fs.length) ≤ fuel → wpAny P .any ops.toArray Q fuel L a w := by
  have htim : ti < Fs.length := by rw [nth_eq] at hFt; exact (List.getElem?_eq_some_iff.1 hFt).1
  have htil : ti < ops.length := by rw [nth_eq] at hti; exact (List.getElem?_eq_some_iff.1 hti).1
  have hdep : Reach ops ti tj := by
    obtain ⟨e, he, hb, hon⟩ := hsh.lean ti ot hti htim tj hlj
    rw [← hon]
    exact .edge hti he hb
  have hfull : ∀ (L : Array Bool) (a : Act) (w : World) (H' : Hp) (Mx : Mem) (my : Nat → Mem), TInv n ds xs H0 w0 H M ops Fs env ti tj L a w H' Mx my → (∀ i, i < Fs.length → L.getD i true = true) → wpList P ops.toArray Q (ops.drop Fs.length) a w := by
    intro L a w H' Mx my D hall
    obtain ⟨hcl, hperm, hsz, hrest, hle, hs, ha, hf, hg⟩ := D
    have hgone := hg (hall ti htim)
    obtain ⟨env', h1, h2⟩ := forAllVals_elim (n := n) (ds := ds) (a := a) my (Fs.set tj MF.gone) 0 env M (hfin H' w hle) ha (by
      intro j F hF
      have hj : j < Fs.length := by rw [nth_eq] at hF; simpa using (List.getElem?_eq_some_iff.1 hF).1
      have hjo : j < ops.length := Nat.lt_of_lt_of_le hj hsh.le
      obtain ⟨d, hd, _⟩ := hsh.dst j ops[j] (by rw [nth_eq, List.getElem?_eq_getElem hjo]) hj
      have hd' : dstOf ops j = some d := by simp [dstOf, nth_eq, hjo, hd]
      rw [Nat.zero_add]
      refine ⟨d, hd', ?_⟩
      by_cases e : j = tj
      · subst e
        rw [nth_eq, List.getElem?_set_self (by omega)] at hF
        cases hF
        exact hgone
      · rw [nth_eq, List.getElem?_set_ne (Ne.symm e), ← nth_eq] at hF
        exact hf j F d hF hd' (hall j hj) fun h => absurd h e)
    refine h2 (hs.perm ?_) a h1
    refine (catM_perm my (Fs.set tj MF.gone) 0 M).trans (List.Perm.append_right M ?_)
    rw [List.length_set]
    have : (List.range' 0 Fs.length).flatMap (madeBy L my) = (List.range' 0 Fs.length).flatMap my := by
      rw [List.flatMap_def, List.flatMap_def]
      congr 1
      refine List.map_congr_left fun j hj => ?_
      simp only [List.mem_range'_1] at hj
      simp [madeBy, hall j (by omega)]
    rw [← this]
    exact hperm.symm
  intro fuel
  induction fuel with
  | zero =>
    intro L l a w H' Mx my D hl hlen
    have hl0 : l = [] := List.eq_nil_of_length_eq_zero (by omega)
    have hm := hsh.le
    have hall : ∀ i, i < Fs.length → L.getD i true = true := by
      intro i hi
      cases h : L.getD i true with
      | true => rfl
      | false => have := hl i hi h; rw [hl0] at this; cases this
    refine wpAny_rest hsh 0 Fs.length L a w (fun q hq => by cases hq) D.sz ?_ (Nat.le_refl _) hm (by omega) D.cl (hfull L a w H' Mx my D hall)
    intro i hi
    exact ⟨fun _ => by omega, fun h => hall i h⟩
  | succ fuel ih =>
    intro L l a w H' Mx my D hl hlen
    have D0 := D
    obtain ⟨hcl, hperm, hsz, hrest, hle, hs, ha, hf, hg⟩ := D
    have hm := hsh.le
    by_cases hall : ∀ i, i < Fs.length → L.getD i true = true
    · refine wpAny_rest hsh (fuel + 1) Fs.length L a w (fun q hq => by cases hq) hsz ?_ (Nat.le_refl _) hm (by omega) hcl (hfull L a w H' Mx my D0 hall)
      intro i hi
      refine ⟨fun h => ?_, fun h => hall i h⟩
      rcases Nat.lt_or_ge i Fs.length with h4 | h4
      · exact h4
      · rw [hrest i hi h4] at h; cases h
    · have hex : ∃ i, i < Fs.length ∧ L.getD i true = false ∧ ∀ j, j < i → L.getD j true = true := by
        clear ih hf ha hs D0
        have h0 : ∃ i, i < Fs.length ∧ L.getD i true = false := by
          refine Classical.byContradiction fun hno => hall fun i hi => ?_
          cases h : L.getD i true with
          | true => rfl
          | false => exact absurd ⟨i, hi, h⟩ hno
        obtain ⟨i, hi⟩ := h0
        induction i using Nat.strongRecOn with
        | _ i ihi =>
          by_cases hj : ∀ j, j < i → L.getD j true = true
          · exact ⟨i, hi.1, hi.2, hj⟩
          · have : ∃ j, j < i ∧ L.getD j true = false := by
              refine Classical.byContradiction fun hno => hj fun j hji => ?_
              cases h : L.getD j true with
              | true => rfl
              | false => exact absurd ⟨j, hji, h⟩ hno
            obtain ⟨j, hji, hj2⟩ := this
            exact ihi j hji ⟨by omega, hj2⟩
      refine ⟨?_, ?_⟩
      · intro hr
        exfalso
        obtain ⟨i, hi, h1, h2⟩ := hex
        have hio : i < ops.length := by omega
        have : i ∈ Region.ready .any ops.toArray L := by
          refine ready_iff.2 ⟨ops[i], by rw [nth_eq, List.getElem?_eq_getElem hio], h1, ?_⟩
          intro e he hb
          have h3 := hsh.back i ops[i] (by rw [nth_eq, List.getElem?_eq_getElem hio]) e he hb
          rw [getD_of_lt (by omega) false true]
          exact h2 e.on h3
        rw [hr] at this
        cases this
      · intro i hi
        obtain ⟨o, h1, h2, h3⟩ := ready_iff.1 hi
        have hlt : i < ops.length := by rw [nth_eq] at h1; exact (List.getElem?_eq_some_iff.1 h1).1
        have him : i < Fs.length := by
          rcases Nat.lt_or_ge i Fs.length with h4 | h4
          · exact h4
          · exfalso
            obtain ⟨j, hj, hj1, _⟩ := hex
            have h5 : L.getD j false = true := by
              rcases hsh.last i o h1 h4 j (by omega) with h6 | h6
              · cases h6
              · exact hcl.reach h6 (fun o' ho' e he hb => by rw [h1] at ho'; cases ho'; exact h3 e he hb)
            rw [getD_of_lt (by omega) false true, hj1] at h5
            cases h5
        obtain ⟨d, hd, hdn, hdenv, hdd⟩ := hsh.dst i o h1 him
        have hFi : nth Fs i = some Fs[i] := by rw [nth_eq, List.getElem?_eq_getElem him]
        have hpre : ∀ j ∈ uniq (leans o), L.getD j true = true ∧ j < i := by
          intro j hj
          obtain ⟨e, he, hb, hon⟩ := hsh.lean i o h1 him j hj
          have h5 := h3 e he hb
          have h6 := hsh.back i o h1 e he hb
          rw [hon] at h5 h6
          rw [getD_of_lt (by omega) false true] at h5
          exact ⟨h5, h6⟩
        have hmem := hl i him h2
        have hl2 : ∀ k, k < Fs.length → (L.setIfInBounds i true).getD k true = false → k ∈ l.erase i := by
          intro k hk hk2
          by_cases e : k = i
          · subst e
            rw [set_this (by omega)] at hk2
            cases hk2
          · rw [set_other e] at hk2
            exact (List.mem_erase_of_ne e).2 (hl k hk hk2)
        have hlen2 : (l.erase i).length + (ops.length - Fs.length) ≤ fuel := by
          rw [List.length_erase_of_mem hmem]
          have := List.length_pos_of_mem hmem
          omega
        unfold wpOp
        have h1' := h1
        rw [nth_eq] at h1'
        simp only [List.getElem?_toArray, h1']
        by_cases hit : i = ti
        · subst hit
          rw [hti] at h1
          cases h1
          rw [hFt] at hFi
          obtain ⟨Fj, hFj, hob⟩ := hT
          have hLj := (hpre tj hlj).1
          have htjm : tj < Fs.length := by omega
          obtain ⟨dj, hdj, _⟩ := hsh.dst tj ops[tj] (by rw [nth_eq, List.getElem?_eq_getElem (by omega)]) htjm
          have hdj' : dstOf ops tj = some dj := by simp [dstOf, nth_eq, show tj < ops.length by omega, hdj]
          have hfj := hf tj Fj dj hFj hdj' hLj (fun _ => h2)
          obtain ⟨R, hR⟩ : ∃ R, R = (List.range' 0 Fs.length).flatMap (madeBy L (fun k => if k = tj then [] else my k)) := ⟨_, rfl⟩
          have hp2 : (my tj ++ R).Perm Mx := by
            rw [hR]
            refine (flatMap_one (i := tj) (f := madeBy L (fun k => if k = tj then [] else my k)) (g := madeBy L my) _ ?_ List.nodup_range' ?_ ?_ ?_).trans hperm.symm
            · simp; omega
            · intro j hj; simp only [madeBy, hj, if_false]
            · simp [madeBy]
            · simp [madeBy, hLj]
          have hs2 : HS xs H0 w0 H' (my tj ++ (R ++ M)) w := by
            rw [← List.append_assoc]
            exact hs.perm (hp2.append_right M)
          obtain ⟨env', hst, horg⟩ := forVals_elim (n := n) (ds := ds) (a := a) _ _ (hob _ _ R H' w hle hs2 hfj) ha (by
            intro j hj o' F' d' ho' hF' hd'
            by_cases e : j = tj
            · subst e
              rw [nth_eq, List.getElem?_set_self (by omega)] at hF'
              cases hF'
              have : d' = dj := by
                have h9 : dstOf ops j = some d' := by simp [dstOf, ho', hd']
                rw [hdj'] at h9
                exact (Option.some.inj h9).symm
              subst this
              exact ⟨[], rfl, rfl⟩
            · rw [nth_eq, List.getElem?_set_ne (Ne.symm e), ← nth_eq] at hF'
              exact ⟨my j, hf j F' d' hF' (by simp [dstOf, ho', hd']) (hpre j hj).1 fun h => absurd h e⟩)
          have key := horg a hst (wpAny P .any ops.toArray Q fuel (L.setIfInBounds i true)) Q (by
            rintro v w'' ⟨H'', My, hle', hs', hF⟩
            exact ih _ (l.erase i) _ w'' H'' (My ++ R) _ (D0.take hsh htjm (by omega) hti him hFt h2 h3 hR hle' hs' hF) hl2 hlen2)
          split
          · rename_i hw; rw [if_pos hw] at key; exact .inl key
          · rename_i hw; rw [if_neg hw] at key; exact key
        · obtain ⟨env', hst, horg⟩ := forVals_elim (n := n) (ds := ds) (a := a) _ _ (howed i o Fs[i] h1 hFi hit Mx H' w hle hs) ha (by
            intro j hj o' F' d' ho' hF' hd'
            exact ⟨my j, hf j F' d' hF' (by simp [dstOf, ho', hd']) (hpre j hj).1 fun h => absurd (h ▸ hj) (hln i o h1 him hit)⟩)
          have key := horg a hst (wpAny P .any ops.toArray Q fuel (L.setIfInBounds i true)) Q (by
            rintro v w'' ⟨H'', My, hle', hs', hF⟩
            exact ih _ (l.erase i) _ w'' H'' (My ++ Mx) _ (D0.step hsh hdep htil hit h1 him hFi h2 h3 hle' hs' hF) hl2 hlen2)
          split
          · rename_i hw; rw [if_pos hw] at key; exact .inl key
          · rename_i hw; rw [if_neg hw] at key; exact key

/-- One operation alone leans on what is taken. -/
def takeOk (ops : List Oper) (m ti tj : Nat) : Bool :=
  Nat.blt tj ti && Nat.blt ti m && (List.range m).all (fun i => match nth ops i with
    | some o => if Nat.beq i ti then (uniq (leans o)).any (Nat.beq tj) else !(uniq (leans o)).any (Nat.beq tj)
    | none => false)

variable {w : World} {k : Kont}
theorem WC.drawT {id : Nat} (m ti tj : Nat) (hm : P.follows .mixedOrders = true) (hs : HS xs H0 w0 H M w) (hok : (drawOk ops m n env [] && takeOk ops m ti tj && Nat.ble m ops.length) = true)
    (howed : Owed P n ds xs H0 w0 M ops env H (fun Fs => ∃ F o, nth ops ti = some o ∧ Tob P n ds xs H0 w0 M ops env H Fs tj o F ∧
      Owed P n ds xs H0 w0 M ops env H (fun Fs => ∀ H' w', Hp.le H H' → forAllVals ops H' 0 (Fs.set tj MF.gone) env M fun env' M' => HS xs H0 w0 H' M' w' → WO P n ds ops.toArray (ops.drop m) k env' w') (ops.drop (ti + 1)) (m - (ti + 1)) (F :: Fs.reverse)) ops ti []) :
    WC P n ds (.region id ops.toArray true) k env w := by
  simp only [Bool.and_eq_true] at hok
  obtain ⟨⟨h1, h2⟩, h8⟩ := hok
  have h8 := Nat.le_of_ble_eq_true h8
  intro a ha
  have hsh := Shape.of h1
  unfold takeOk at h2
  simp only [Bool.and_eq_true] at h2
  obtain ⟨⟨htj, htim⟩, hl⟩ := h2
  have htj : tj < ti := by simpa [Nat.blt_eq] using htj
  have htim : ti < m := by simpa [Nat.blt_eq] using htim
  obtain ⟨Gs, g1, ⟨Ft, ot, hot, hT, hrest⟩, g3⟩ := OwedF.elim hsh.back ti [] (Owed.toF _ _ [] howed)
  simp only [List.nil_append, List.length_nil, Nat.zero_add] at g1 hT hrest g3
  have hrest2 := Owed.toF _ _ _ hrest
  simp only [List.reverse_cons, List.reverse_reverse] at hrest2
  have hl1 : (Gs ++ [Ft]).length = ti + 1 := by simp [g1]
  rw [← hl1] at hrest2
  obtain ⟨Ks, k1, hfin, k3⟩ := OwedF.elim hsh.back (m - (Gs ++ [Ft]).length) (Gs ++ [Ft]) hrest2
  obtain ⟨Fs, hFs⟩ : ∃ Fs, Fs = Gs ++ [Ft] ++ Ks := ⟨_, rfl⟩
  rw [← hFs] at k1 hfin k3
  have hFl : Fs.length = m := by rw [k1, hl1]; omega
  have hFt : nth Fs ti = some Ft := by rw [hFs, nth_eq, List.getElem?_append_left (by simp [g1]), List.getElem?_append_right (by omega)]; simp [g1]
  have hGs : ∀ j, j < ti → nth Fs j = nth Gs j := by
    intro j hj
    rw [hFs, nth_append_left (by simp [g1]; omega), nth_append_left (by omega)]
  have hle : Fs.length ≤ ops.length := by omega
  rw [← hFl] at hsh
  have hlj : tj ∈ uniq (leans ot) := by
    have := List.all_eq_true.1 hl ti (List.mem_range.2 htim)
    rw [hot] at this
    simp only [Nat.beq_refl, if_true, List.any_eq_true] at this
    obtain ⟨x, hx, hb⟩ := this
    rw [Nat.eq_of_beq_eq_true hb]
    exact hx
  have hln : ∀ (i : Nat) (o : Oper), nth ops i = some o → i < Fs.length → i ≠ ti → tj ∉ uniq (leans o) := by
    intro i o ho hi hne hmem
    have := List.all_eq_true.1 hl i (List.mem_range.2 (by omega))
    rw [ho] at this
    have hb : Nat.beq i ti = false := by
      cases h : Nat.beq i ti with
      | false => rfl
      | true => exact absurd (Nat.eq_of_beq_eq_true h) hne
    simp only [hb, Bool.false_eq_true, if_false, Bool.not_eq_true', List.any_eq_false] at this
    exact this tj hmem (Nat.beq_refl tj)
  refine wp_region_any hm ?_
  have hrep : ∀ i, i < ops.length → (Array.replicate ops.length false).getD i true = false := by
    intro i hi
    simp [Array.getD_eq_getD_getElem?, hi]
  have hD : TInv n ds xs H0 w0 H M ops Fs env ti tj (Array.replicate ops.length false) a w.drew H [] (fun _ => []) := by
    refine ⟨?_, ?_, by simp, fun i hi _ => hrep i hi, Hp.le.refl H, hs.drew, ha, ?_, fun _ => rfl⟩
    · intro i o ho hi
      have hlt : i < ops.length := by rw [nth_eq] at ho; exact (List.getElem?_eq_some_iff.1 ho).1
      rw [getD_of_lt (by simpa using hlt) false true, hrep i hlt] at hi
      cases hi
    · rw [List.flatMap_eq_nil_iff.2 (by intro j _; simp [madeBy])]
    · intro i F d hF hd hL
      have hi : i < Fs.length := by rw [nth_eq] at hF; exact (List.getElem?_eq_some_iff.1 hF).1
      rw [hrep i (Nat.lt_of_lt_of_le hi hle)] at hL
      cases hL
  have hT2 : Tob P n ds xs H0 w0 M ops env H Fs tj ot Ft := by
    obtain ⟨Fj, hFj, hob⟩ := hT
    refine ⟨Fj, by rw [hGs tj htj]; exact hFj, fun vj Mj Mx H' w' q1 q2 q3 => ?_⟩
    refine forVals_congr _ _ (hob vj Mj Mx H' w' q1 q2 q3) fun j hj => ?_
    have hj' := leans_lt (hsh.back _ _ hot) j hj
    by_cases e : j = tj
    · subst e
      rw [nth_eq, nth_eq, List.getElem?_set_self (by omega), List.getElem?_set_self (by omega)]
    · rw [nth_eq, nth_eq, List.getElem?_set_ne (Ne.symm e), List.getElem?_set_ne (Ne.symm e), ← nth_eq, ← nth_eq, hGs j hj']
  simp only [List.size_toArray]
  refine wpAny_firstT hsh hot hFt htj hlj hln hT2 (fun i o F ho hF hne Mx H' w' q1 q2 => ?_) (fun H' w' q1 => ?_) ops.length _ (List.range Fs.length) a _ H [] (fun _ => []) hD (fun i hi _ => List.mem_range.2 hi) (by rw [List.length_range]; omega)
  · rcases Nat.lt_or_ge i ti with h | h
    · rw [hGs i h] at hF
      refine forVals_congr _ _ (g3 i o F (Nat.zero_le i) ho hF Mx H' w' q1 q2) fun j hj => ?_
      have hj' := leans_lt (hsh.back _ _ ho) j hj
      rw [hGs j (by omega)]
    · exact k3 i o F (by rw [hl1]; omega) ho hF Mx H' w' q1 q2
  · have := hfin H' w' q1
    rw [hFl]
    exact this
end
end Go.Bw
