/- Drawn regions: pure operations that may come late, even behind the operations that stand behind them. -/
import Derived.Test.YtdibepkfgemddaaGreatDrawL
namespace Go.Bw
set_option linter.unusedVariables false
set_option linter.unusedSimpArgs false

/-- An operation whose value no world changes. -/
def PureAt (P : Program) (n : Nat) (ds : List Deferred) (o : Oper) (env : Env) : Prop := ∀ a, St n ds env a → ∃ v, ∀ w : World, (execOp a.eval o).run P w = .ok (.value v) w

/-- The late ones' shape. -/
def lateOkP (ops : List Oper) (m : Nat) (late : List Nat) : Bool :=
  late.all (fun j => Nat.blt j m && (match nth ops j with
    | some o => (match o.guard with | none => true | some _ => false)
    | none => false) && Region.free .any ops.toArray (((List.range ops.length).map fun i => Nat.blt i m && (!late.any (Nat.beq i) || Nat.blt i j)).toArray) j) && Region.noSelect ops.toArray

theorem free_mono {ops : List Oper} {L L' : Array Bool} {j : Nat} (h : Region.free .any ops.toArray L j = true) (hm : ∀ i, i < ops.length → L.getD i true = true → L'.getD i true = true) : Region.free .any ops.toArray L' j = true := by
  unfold Region.free at h ⊢
  cases ho : ops.toArray[j]? with
  | none => rw [ho] at h; exact h
  | some o =>
    rw [ho] at h
    simp only [List.all_eq_true, List.mem_range] at h ⊢
    intro i hi
    have h1 := h i hi
    simp only [Bool.or_eq_true] at h1 ⊢
    rcases h1 with (h1 | h1) | h1
    · exact .inl (.inl h1)
    · exact .inl (.inr (hm i (by simpa using hi) h1))
    · exact .inr h1

section
variable {P : Program} {n : Nat} {ds : List Deferred} {ops : List Oper} {env : Env}
variable {xs : List Nat} {H0 H : Hp} {w0 : World} {M : Mem} {Fs : List MF}

/-- What is owed for the late ones. -/
def LateOwed (P : Program) (n : Nat) (ds : List Deferred) (ops : List Oper) (env : Env) (Fs : List MF) : List Nat → Prop
  | [] => True
  | j :: js => (∀ H' : Hp, match nth ops j with
      | some o => forVals ops Fs H' (uniq (leans o)) env (PureAt P n ds o)
      | none => False) ∧ LateOwed P n ds ops env Fs js
theorem LateOwed.get : ∀ {late : List Nat}, LateOwed P n ds ops env Fs late → ∀ j ∈ late, ∀ o, nth ops j = some o → ∀ H' : Hp, forVals ops Fs H' (uniq (leans o)) env (PureAt P n ds o)
  | [], _, j, hj => by cases hj
  | i :: is, h, j, hj => by
    intro o ho H'
    rcases List.mem_cons.1 hj with e | hj
    · subst e
      have := h.1 H'
      rw [ho] at this
      exact this
    · exact LateOwed.get h.2 j hj o ho H'

theorem wpAny_firstP {k : Kont} {late : List Nat} (hk : k.flat = true) (hlate : lateOkP ops Fs.length late = true) (hsh : Shape ops Fs.length n env late) (hpure : LateOwed P n ds ops env Fs late) (howed : ∀ (i : Nat) (o : Oper) (F : MF), nth ops i = some o → nth Fs i = some F →
    ∀ Mx H' w', Hp.le H H' → HS xs H0 w0 H' (Mx ++ M) w' → forVals ops Fs H' (uniq (leans o)) env fun env' =>
      ORg P n ds ops o env' w' fun v w'' => ∃ H'' My, Hp.le H' H'' ∧ HS xs H0 w0 H'' (My ++ (Mx ++ M)) w'' ∧ F.F v My H'')
    (hfin : ∀ H' w', Hp.le H H' → forAllVals ops H' 0 Fs env M fun env' M' => HS xs H0 w0 H' M' w' → ∀ a, St n ds env' a → wpList P ops.toArray (k.Q P) (ops.drop Fs.length) a w') :
    ∀ (fuel : Nat) (L : Array Bool) (l : List Nat) (a : Act) (w : World) (H' : Hp) (Mx : Mem) (my : Nat → Mem), DInv n ds xs H0 w0 H M ops Fs env L a w H' Mx my →
      (∀ i, i < Fs.length → L.getD i true = false → i ∈ l) → l.length + (ops.length - Fs.length) ≤ fuel → wpAny P .any ops.toArray (k.Q P) fuel L a w := by
  unfold lateOkP at hlate
  rw [Bool.and_eq_true] at hlate
  obtain ⟨hlate, hsel⟩ := hlate
  have hm := hsh.le
  have hlt : ∀ j ∈ late, j < Fs.length ∧ ∃ o, nth ops j = some o ∧ o.guard = none ∧ Region.free .any ops.toArray (((List.range ops.length).map fun i => Nat.blt i Fs.length && (!late.any (Nat.beq i) || Nat.blt i j)).toArray) j = true := by
    intro j hj
    have h1 := List.all_eq_true.1 hlate j hj
    simp only [Bool.and_eq_true] at h1
    obtain ⟨⟨h2, h3⟩, h4⟩ := h1
    refine ⟨by simpa [Nat.blt_eq] using h2, ?_⟩
    cases ho : nth ops j with
    | none => rw [ho] at h3; cases h3
    | some o =>
      rw [ho] at h3
      refine ⟨o, rfl, ?_, h4⟩
      have h5 : (match o.guard with | none => true | some _ => false) = true := h3
      cases hg : o.guard with
      | none => rfl
      | some g => rw [hg] at h5; cases h5
  -- once the late ones are done
  have done : ∀ (fuel : Nat) (L : Array Bool) (l : List Nat) (a : Act) (w : World) (H' : Hp) (Mx : Mem) (my : Nat → Mem), (∀ j ∈ late, L.getD j false = true) → DInv n ds xs H0 w0 H M ops Fs env L a w H' Mx my →
      (∀ i, i < Fs.length → L.getD i true = false → i ∈ l) → l.length + (ops.length - Fs.length) ≤ fuel → wpAny P .any ops.toArray (k.Q P) fuel L a w := by
    intro fuel L l a w H' Mx my hj D hl hf
    exact wpAny_firstM (H := H) hsh howed hfin fuel L l a w H' Mx my hj D hl hf
  intro fuel
  induction fuel with
  | zero =>
    intro L l a w H' Mx my D hl hlen
    refine done 0 L l a w H' Mx my ?_ D hl hlen
    have hl0 : l = [] := List.eq_nil_of_length_eq_zero (by omega)
    have hsz := D.sz
    intro j hj
    have hjm := (hlt j hj).1
    rw [getD_of_lt (by omega) false true]
    cases h : L.getD j true with
    | true => rfl
    | false => have := hl j hjm h; rw [hl0] at this; cases this
  | succ fuel ih =>
    intro L l a w H' Mx my D hl hlen
    have D0 := D
    obtain ⟨hcl, hperm, hsz, hrest, hle, hs, ha, hf⟩ := D
    by_cases hLj : ∀ j ∈ late, L.getD j true = true
    · refine done _ L l a w H' Mx my (fun j hj => ?_) D0 hl hlen
      have hjm := (hlt j hj).1
      rw [getD_of_lt (by omega) false true]
      exact hLj j hj
    by_cases hall : ∀ i, i < Fs.length → i ∉ late → L.getD i true = true
    · -- all others done: the first late one is taken first
      have hex : ∃ j, j ∈ late ∧ L.getD j true = false ∧ ∀ i, i < j → L.getD i true = true := by
        have h0 : ∃ j, j ∈ late ∧ L.getD j true = false := by
          refine Classical.byContradiction fun hno => hLj fun i hi => ?_
          cases h : L.getD i true with
          | true => rfl
          | false => exact absurd ⟨i, hi, h⟩ hno
        clear ih hf ha hs D0 done
        obtain ⟨j, hj⟩ := h0
        induction j using Nat.strongRecOn with
        | _ j ihj =>
          by_cases hb : ∀ i, i < j → L.getD i true = true
          · exact ⟨j, hj.1, hj.2, hb⟩
          · have : ∃ i, i < j ∧ L.getD i true = false := by
              refine Classical.byContradiction fun hno => hb fun i hij => ?_
              cases h : L.getD i true with
              | true => rfl
              | false => exact absurd ⟨i, hij, h⟩ hno
            obtain ⟨i, hij, hi2⟩ := this
            have hjm := (hlt j hj.1).1
            refine ihj i hij ⟨?_, hi2⟩
            refine Classical.byContradiction fun hnl => ?_
            rw [hall i (by omega) hnl] at hi2
            cases hi2
      obtain ⟨j, hjl, hLj, hlow⟩ := hex
      obtain ⟨hjm, oj, hoj, hguard, hfree⟩ := hlt j hjl
      have hFj : nth Fs j = some Fs[j] := by rw [nth_eq, List.getElem?_eq_getElem hjm]
      obtain ⟨dj, hdj, hdjn, hdjenv, hdjd⟩ := hsh.dst j oj hoj hjm
      have hready : j ∈ Region.ready .any ops.toArray L := by
        refine ready_iff.2 ⟨oj, hoj, hLj, ?_⟩
        intro e he hb
        have h3 := hsh.back j oj hoj e he hb
        rw [getD_of_lt (by omega) false true]
        exact hlow e.on h3
      obtain ⟨o', ho', hr2, hr3⟩ := ready_iff.1 hready
      rw [hoj] at ho'
      cases ho'
      have hfacts : ∀ i ∈ uniq (leans oj), ∀ (o' : Oper) (F' : MF) (d' : Nat), nth ops i = some o' → nth Fs i = some F' → o'.dst = some d' → ∃ M, F'.F (a.tmps.getD d' undef) M H' := by
        intro i hi o' F' d' ho' hF' hd'
        obtain ⟨e, he, hb, hon⟩ := hsh.lean j oj hoj hjm i hi
        have h5 := hr3 e he hb
        have h6 := hsh.back j oj hoj e he hb
        rw [hon] at h5 h6
        rw [getD_of_lt (by omega) false true] at h5
        exact ⟨my i, hf i F' d' hF' (by simp [dstOf, ho', hd']) h5⟩
      obtain ⟨env', hst, horg⟩ := forVals_elim (n := n) (ds := ds) (a := a) _ _ (howed j oj Fs[j] hoj hFj Mx H' w hle hs) ha hfacts
      obtain ⟨env2, hst2, hpr⟩ := forVals_elim (n := n) (ds := ds) (a := a) _ _ (hpure.get j hjl oj hoj H') ha hfacts
      obtain ⟨v, hrun⟩ := hpr a hst2
      have hw : Region.wanted oj (yielded ops.toArray a.tmps) = true := by simp [Region.wanted, hguard]
      have hq := horg a hst (fun a' w' => ∃ v H'' My, a' = a.put oj.dst v ∧ Hp.le H' H'' ∧ HS xs H0 w0 H'' (My ++ (Mx ++ M)) w' ∧ Fs[j].F v My H'') (fun _ _ _ => False)
        (fun v w' ⟨H'', My, q1, q2, q3⟩ => ⟨v, H'', My, rfl, q1, q2, q3⟩)
      rw [if_pos hw] at hq
      have hq2 : ∃ v2 H'' My, a.put oj.dst v = a.put oj.dst v2 ∧ Hp.le H' H'' ∧ HS xs H0 w0 H'' (My ++ (Mx ++ M)) w ∧ Fs[j].F v2 My H'' := by
        unfold Oper.wp at hq
        rw [hrun] at hq
        exact hq
      obtain ⟨v2, H'', My, e, q1, q2, q3⟩ := hq2
      have hv : v2 = v := by
        rw [hdj] at e
        have e1 : (a.put (some dj) v).tmps.getD dj undef = (a.put (some dj) v2).tmps.getD dj undef := by rw [e]
        have := e1.symm
        simpa [Act.put, Array.getD_eq_getD_getElem?, ha.sz, hdjn] using this
      subst hv
      have hD := D0.step hsh hoj hjm hFj hr2 hr3 q1 q2 q3
      have hy : Yields P ops.toArray oj v2 a := .inl ⟨hw, hrun⟩
      have ho2 := hoj
      rw [nth_eq] at ho2
      have hjl2 := hl j hjm hLj
      have hpos := List.length_pos_of_mem hjl2
      have hfree2 : Region.free .any ops.toArray L j = true := free_mono hfree (fun i hi h => by
        have h1 : (Nat.blt i Fs.length && (!late.any (Nat.beq i) || Nat.blt i j)) = true := by
          simpa [Array.getD_eq_getD_getElem?, hi] using h
        rw [Bool.and_eq_true, Bool.or_eq_true] at h1
        obtain ⟨h1, h1'⟩ := h1
        rcases h1' with h1' | h1'
        case inr => exact hlow i (by simpa [Nat.blt_eq] using h1')
        refine hall i (by simpa [Nat.blt_eq] using h1) (fun hmem => ?_)
        have h2 := h1'
        have h3 : late.any (Nat.beq i) = true := List.any_eq_true.2 ⟨i, hmem, Nat.beq_refl i⟩
        rw [h3] at h2
        cases h2)
      refine wpAny_take (Q := k.Q P) (by simpa using ho2) hsel hfree2 (by simpa using hready) (fun c a w => Kont.panic_put k hk) hy ?_
      refine ih _ (l.erase j) _ w _ _ _ hD ?_ ?_
      · intro i hi hi2
        by_cases e : i = j
        · subst e
          simp [hsz, show i < ops.length by omega] at hi2
        · simp only [Array.getD_eq_getD_getElem?, Array.getElem?_setIfInBounds, show ¬ j = i from fun h => e h.symm, if_false] at hi2
          exact (List.mem_erase_of_ne e).2 (hl i hi (by rw [Array.getD_eq_getD_getElem?]; exact hi2))
      · rw [List.length_erase_of_mem hjl2]
        omega
    · have hexj : ∃ i, i < Fs.length ∧ i ∉ late ∧ L.getD i true = false := by
        refine Classical.byContradiction fun hno => hall fun i hi hne => ?_
        cases h : L.getD i true with
        | true => rfl
        | false => exact absurd ⟨i, hi, hne, h⟩ hno
      have hex : ∃ i, i < Fs.length ∧ L.getD i true = false ∧ ∀ j, j < i → L.getD j true = true := by
        clear ih hf ha hs D0 done
        obtain ⟨i, hi0, hine, hi1⟩ := hexj
        have hi : i < Fs.length ∧ L.getD i true = false := ⟨hi0, hi1⟩
        clear hi0 hi1 hine
        induction i using Nat.strongRecOn with
        | _ i ihi =>
          by_cases hj : ∀ j, j < i → L.getD j true = true
          · exact ⟨i, hi.1, hi.2, hj⟩
          · have : ∃ j, j < i ∧ L.getD j true = false := by
              refine Classical.byContradiction fun hno => hj fun j hji => ?_
              cases h : L.getD j true with
              | true => rfl
              | false => exact absurd ⟨j, hji, h⟩ hno
            obtain ⟨j, hji, hj2⟩ := this
            exact ihi j hji ⟨by omega, hj2⟩
      refine ⟨?_, ?_⟩
      · intro hr
        exfalso
        obtain ⟨i, hi, h1, h2⟩ := hex
        have hio : i < ops.length := by omega
        have : i ∈ Region.ready .any ops.toArray L := by
          refine ready_iff.2 ⟨ops[i], by rw [nth_eq, List.getElem?_eq_getElem hio], h1, ?_⟩
          intro e he hb
          have h3 := hsh.back i ops[i] (by rw [nth_eq, List.getElem?_eq_getElem hio]) e he hb
          rw [getD_of_lt (by omega) false true]
          exact h2 e.on h3
        rw [hr] at this
        cases this
      · intro i hi
        obtain ⟨o, h1, h2, h3⟩ := ready_iff.1 hi
        have hlt : i < ops.length := by rw [nth_eq] at h1; exact (List.getElem?_eq_some_iff.1 h1).1
        have him : i < Fs.length := by
          rcases Nat.lt_or_ge i Fs.length with h4 | h4
          · exact h4
          · exfalso
            obtain ⟨q, hq, hqj, hq1⟩ := hexj
            have h5 : L.getD q false = true := by
              rcases hsh.last i o h1 h4 q (by omega) with h6 | h6
              · exact absurd h6 hqj
              · exact hcl.reach h6 (fun o' ho' e he hb => by rw [h1] at ho'; cases ho'; exact h3 e he hb)
            rw [getD_of_lt (by omega) false true, hq1] at h5
            cases h5
        obtain ⟨d, hd, hdn, hdenv, hdd⟩ := hsh.dst i o h1 him
        have hFi : nth Fs i = some Fs[i] := by rw [nth_eq, List.getElem?_eq_getElem him]
        have hdi : dstOf ops i = some d := by simp [dstOf, h1, hd]
        obtain ⟨env', hst, horg⟩ := forVals_elim (n := n) (ds := ds) (a := a) _ _ (howed i o Fs[i] h1 hFi Mx H' w hle hs) ha (by
          intro j hj o' F' d' ho' hF' hd'
          obtain ⟨e, he, hb, hon⟩ := hsh.lean i o h1 him j hj
          have h5 := h3 e he hb
          have h6 := hsh.back i o h1 e he hb
          rw [hon] at h5 h6
          rw [getD_of_lt (by omega) false true] at h5
          exact ⟨my j, hf j F' d' hF' (by simp [dstOf, ho', hd']) h5⟩)
        unfold wpOp
        have h1' := h1
        rw [nth_eq] at h1'
        simp only [List.getElem?_toArray, h1']
        have key := horg a hst (wpAny P .any ops.toArray (k.Q P) fuel (L.setIfInBounds i true)) (k.Q P) (by
          rintro v w'' ⟨H'', My, hle', hs', hF⟩
          refine ih _ (l.erase i) _ w'' H'' (My ++ Mx) _ (D0.step hsh h1 him hFi h2 h3 hle' hs' hF) ?_ ?_
          · intro k hk hk2
            by_cases e : k = i
            · subst e
              simp [hsz, hlt] at hk2
            · simp only [Array.getD_eq_getD_getElem?, Array.getElem?_setIfInBounds, show ¬ i = k from fun h => e h.symm, if_false] at hk2
              exact (List.mem_erase_of_ne e).2 (hl k hk (by rw [Array.getD_eq_getD_getElem?]; exact hk2))
          · have hmem := hl i him h2
            rw [List.length_erase_of_mem hmem]
            have := List.length_pos_of_mem hmem
            omega)
        split
        · rename_i hw; rw [if_pos hw] at key; exact .inl key
        · rename_i hw; rw [if_neg hw] at key; exact key

variable {w : World} {k : Kont}
theorem WC.drawP {id : Nat} (m : Nat) (late : List Nat) (hm : P.follows .mixedOrders = true) (hs : HS xs H0 w0 H M w) (hok : (drawOk ops m n env late && lateOkP ops m late && k.flat) = true)
    (howed : Owed P n ds xs H0 w0 M ops env H (fun Fs => LateOwed P n ds ops env Fs late ∧ ∀ H' w', Hp.le H H' → forAllVals ops H' 0 Fs env M fun env' M' => HS xs H0 w0 H' M' w' → WO P n ds ops.toArray (ops.drop m) k env' w') ops m []) :
    WC P n ds (.region id ops.toArray true) k env w := by
  simp only [Bool.and_eq_true] at hok
  obtain ⟨⟨h1, h2⟩, h3⟩ := hok
  intro a ha
  have hsh := Shape.of h1
  obtain ⟨Fs, h6, ⟨hpure, hfin⟩, h7⟩ := OwedF.elim hsh.back m [] (Owed.toF _ _ [] howed)
  simp only [List.nil_append, List.length_nil, Nat.zero_add] at h6 hfin h7 hpure
  subst h6
  refine wp_region_any hm ?_
  have hrep : ∀ i, i < ops.length → (Array.replicate ops.length false).getD i true = false := by
    intro i hi
    simp [Array.getD_eq_getD_getElem?, hi]
  have hD : DInv n ds xs H0 w0 H M ops Fs env (Array.replicate ops.length false) a w.drew H [] (fun _ => []) := by
    refine ⟨?_, ?_, by simp, fun i hi _ => hrep i hi, Hp.le.refl H, hs.drew, ha, ?_⟩
    · intro i o ho hi
      have hlt : i < ops.length := by rw [nth_eq] at ho; exact (List.getElem?_eq_some_iff.1 ho).1
      rw [getD_of_lt (by simpa using hlt) false true, hrep i hlt] at hi
      cases hi
    · rw [List.flatMap_eq_nil_iff.2 (by intro j _; simp [madeBy])]
    · intro i F d hF hd hL
      have hi : i < Fs.length := by rw [nth_eq] at hF; exact (List.getElem?_eq_some_iff.1 hF).1
      rw [hrep i (Nat.lt_of_lt_of_le hi hsh.le)] at hL
      cases hL
  have hle := hsh.le
  simp only [List.size_toArray]
  exact wpAny_firstP (H := H) h3 h2 hsh hpure (fun i o F => h7 i o F (Nat.zero_le i)) (fun H' w' h1 => hfin H' w' h1) ops.length _ (List.range Fs.length) a _ H [] (fun _ => []) hD (fun i hi _ => List.mem_range.2 hi) (by simp; omega)
end

section
variable {P : Program} {n : Nat} {ds : List Deferred} {env : Env} {dst : Option Nat} {ty : TypeId} {pos : String} {aft : Array Edge} {gd : Option (Nat × Bool)} {x y : Operand} {t e : TypeId} {d : TypeDesc} {sz by_ : Nat} {z v : Value}
theorem PureAt.move (hx : look env x = some v) : PureAt P n ds ⟨dst, .move x, ty, pos, aft, gd⟩ env := fun a ha => ⟨v, fun w => by simp [execOp, ha.look hx]⟩
theorem PureAt.lenSlice {base : Option Addr} {m c : Nat} (ht : P.underlying t = some (.slice e)) (hx : look env x = some (.slice base m c)) :
    PureAt P n ds ⟨dst, .call { callee := .builtin .len, args := #[x], argTypes := #[t] }, ty, pos, aft, gd⟩ env :=
  fun a ha => ⟨.int .i64 m, fun w => by simp [execOp, resolve, invoke, builtin, Builtin.len_, ha.look hx, run_underlying ht, goInt]⟩
theorem PureAt.minI {t1 t2 : TypeId} {k k' : IntKind} {i j : Int} (hx : look env x = some (.int k i)) (hy : look env y = some (.int k' j)) :
    PureAt P n ds ⟨dst, .call { callee := .builtin .min, args := #[x, y], argTypes := #[t1, t2] }, ty, pos, aft, gd⟩ env :=
  fun a ha => ⟨.int k (if j < i then j else i), fun w => by simp [execOp, resolve, invoke, builtin, Builtin.min_, Builtin.min2, ha.look hx, ha.look hy]⟩
theorem PureAt.sliceHiG (m : Nat) {k : IntKind} {i : Int} {a : Option Addr} {len cap : Nat} (ht : P.underlying t = some (.slice e)) (he : TI P e d sz by_ z) (hx : look env x = some (.slice a len cap))
    (hy : look env y = some (.int k i)) (hi : i = (m : Int)) (h1 : m ≤ cap) : PureAt P n ds ⟨dst, .slice t x none (some y) none, ty, pos, aft, gd⟩ env := by
  subst hi
  have h9 : (if cap = 0 then a else a.map (·.add 0)) = a := by
    split
    · rfl
    · cases a with
      | none => rfl
      | some b => rfl
  refine fun aa ha => ⟨.slice a m cap, fun w => ?_⟩
  simp [execOp, ha.look hx, ha.look hy, Instr.sliceAt, run_underlying ht, Instr.slice, Instr.sliceBounds, he.run_size, Instr.sliceBound, asIntOf, h1]
  intro h0
  rwa [if_neg h0] at h9
end
end Go.Bw
