/- A range over a function: its rounds, and the walk within one. -/
import Derived.Test.YtdibepkfgemddaaGreatOps6
import Derived.RangeFuncLeaves
import Derived.RangeFuncKeeps
namespace Go.Bw
set_option linter.unusedVariables false
set_option linter.unusedSimpArgs false

/-- The fence that lets all in, within a round or not. -/
def fen (ro : Option Nat) : Fence := { Fence.wide with round := ro }
section
variable {P : Program} {n : Nat} {ds : List Deferred} {env : Env} {w : World} {k : Kont} {ro : Option Nat}

theorem fen_fenced (P : Program) (ro : Option Nat) (m : Machine) : m.fenced P (fen ro) := fenced_wide P m
theorem callsIn_fen {m : Nat} {f : FuncId} {args : Array Value} {R : Ending → World → Prop} : CallsIn (fen ro) m P f args w R ↔ Calls P f args w R := callsIn_wide (n := m)
theorem stepsIn_fen {m m' : Machine} (h : Steps P m m') : StepsIn (Machine.fenced P (fen ro)) P m m' := (StepsIn.of_steps h).mono fun m _ => fen_fenced P ro m

def notDefer : Op → Bool
  | .defer _ => false
  | _ => true
theorem semAt_fen {o : Oper} (h : notDefer o.op = true) (ρ : Operand → Value) : Oper.semAt (fen ro).round ρ o = execOp ρ o := by
  refine Oper.semAt_eq _ ρ o fun c hc => ?_
  rw [hc] at h
  cases h

theorem upon_fen {o : Oper} {a : Act} {K : Act → World → Prop} {Q : Exit → Act → World → Prop} {r : Result Next} (h : o.upon P a K Q r) : o.uponIn (fen ro) 0 P a K Q r := by
  have hd : (fen ro).depth.isSome = true → 1 ≤ 0 := fun h => by cases h
  cases r with
  | ok nx w' =>
    cases nx with
    | value v => exact h
    | skip => exact h
    | defer d => exact h
    | enter f args =>
      refine ⟨hd, callsIn_fen.2 (Calls.mono h ?_)⟩
      intro e w'' he
      cases e <;> exact he
    | row row args =>
      refine ⟨hd, fun c cs _ => ?_⟩
      obtain ⟨v, w'', h1, h2⟩ := h c cs
      exact ⟨v, w'', h1, stepsIn_fen h2⟩
    | _ => exact False.elim h
  | halt s w' =>
    cases s with
    | panic v => exact h
    | _ => exact False.elim h

/-- What is to be done behind a piece of code, within a round. -/
def Kont.QR (ro : Option Nat) (P : Program) : Kont → Exit → Act → World → Prop
  | .fn _ _ => fun _ _ _ => False
  | .seq y k => Exit.then (fun a w => y.wpIn (fen ro) 0 P (k.QR ro P) a w) (k.QR ro P)
  | .block id k => Exit.inBlock id (k.QR ro P)
  | .loop I k => Exit.then I (k.QR ro P)
  | .scope k => Exit.noGoto (k.QR ro P)
  | .jump l J k => Exit.jump l J (k.QR ro P)
  | .cut X => X

def RC (ro : Option Nat) (P : Program) (n : Nat) (ds : List Deferred) (c : Code) (k : Kont) (env : Env) (w : World) : Prop :=
  ∀ a, St n ds env a → c.wpIn (fen ro) 0 P (k.QR ro P) a w
def RO (ro : Option Nat) (P : Program) (n : Nat) (ds : List Deferred) (ops : Array Oper) (l : List Oper) (k : Kont) (env : Env) (w : World) : Prop :=
  ∀ a, St n ds env a → wpListIn (fen ro) 0 P ops (k.QR ro P) l a w
def RX (ro : Option Nat) (P : Program) (n : Nat) (ds : List Deferred) (e : Exit) (k : Kont) (env : Env) (w : World) : Prop :=
  ∀ a, St n ds env a → k.QR ro P e a w

theorem RC.sub (env' : Env) {c : Code} (hs : env'.subB env) (h : RC ro P n ds c k env' w) : RC ro P n ds c k env w := fun a ha => h a (ha.sub hs.get)
theorem RX.sub (env' : Env) {e : Exit} (hs : env'.subB env) (h : RX ro P n ds e k env' w) : RX ro P n ds e k env w := fun a ha => h a (ha.sub hs.get)
theorem RC.seq {x y : Code} (h : RC ro P n ds x (.seq y k) env w) : RC ro P n ds (.seq x y) k env w := fun a ha => wpIn_seq (h a ha)
theorem RC.skip (h : RX ro P n ds .normal k env w) : RC ro P n ds .skip k env w := fun a ha => wpIn_skip (h a ha)
theorem RC.label {l : Nat} (h : RX ro P n ds .normal k env w) : RC ro P n ds (.label l) k env w := fun a ha => wpIn_label (h a ha)
theorem RC.exit {id : Nat} (h : RX ro P n ds (.exit id) k env w) : RC ro P n ds (.exit id) k env w := fun a ha => wpIn_exit (h a ha)
theorem RC.goto {l : Nat} (h : RX ro P n ds (.goto l) k env w) : RC ro P n ds (.goto l) k env w := fun a ha => wpIn_goto (h a ha)
theorem RC.ret (h : RX ro P n ds .ret k env w) : RC ro P n ds .ret k env w := fun a ha => wpIn_ret (h a ha)
theorem RC.block {id : Nat} {c : Code} (h : RC ro P n ds c (.block id k) env w) : RC ro P n ds (.block id c) k env w := fun a ha => wpIn_block (h a ha)
theorem RC.region {id : Nat} {l : List Oper} (h : RO ro P n ds l.toArray l k env w) : RC ro P n ds (.region id l.toArray false) k env w := fun a ha => wpIn_region_lit (h a ha)
theorem RC.cond {c : Operand} {x y : Code} {t : Bool} (hc : look env c = some (.bool t)) (h1 : t = true → RC ro P n ds x k env w) (h2 : t = false → RC ro P n ds y k env w) : RC ro P n ds (.cond c x y) k env w :=
  fun a ha => wpIn_cond_split (ha.look hc) (fun ht => h1 ht a ha) (fun ht => h2 ht a ha)
theorem RC.condD {c : Operand} {x y : Code} {p : Prop} [Decidable p] (hc : look env c = some (.bool (decide p))) (h1 : p → RC ro P n ds x k env w) (h2 : ¬p → RC ro P n ds y k env w) : RC ro P n ds (.cond c x y) k env w :=
  RC.cond hc (fun h => h1 (of_decide_eq_true h)) (fun h => h2 (of_decide_eq_false h))
theorem RC.yes {c : Operand} {x y : Code} {t : Bool} (hc : look env c = some (.bool t)) (ht : t = true) (h : RC ro P n ds x k env w) : RC ro P n ds (.cond c x y) k env w :=
  fun a ha => wpIn_cond (ha.look hc) (by rw [ht]; exact h a ha)
theorem RC.no {c : Operand} {x y : Code} {t : Bool} (hc : look env c = some (.bool t)) (ht : t = false) (h : RC ro P n ds y k env w) : RC ro P n ds (.cond c x y) k env w :=
  fun a ha => wpIn_cond (ha.look hc) (by rw [ht]; exact h a ha)
theorem RO.done {ops : Array Oper} (h : RX ro P n ds .normal k env w) : RO ro P n ds ops [] k env w := h
theorem RX.seq {y : Code} (h : RC ro P n ds y k env w) : RX ro P n ds .normal (.seq y k) env w := h
theorem RX.seq_exit {y : Code} {id : Nat} (h : RX ro P n ds (.exit id) k env w) : RX ro P n ds (.exit id) (.seq y k) env w := h
theorem RX.seq_goto {y : Code} {l : Nat} (h : RX ro P n ds (.goto l) k env w) : RX ro P n ds (.goto l) (.seq y k) env w := h
theorem RX.seq_ret {y : Code} (h : RX ro P n ds .ret k env w) : RX ro P n ds .ret (.seq y k) env w := h
theorem RX.block {id : Nat} (h : RX ro P n ds .normal k env w) : RX ro P n ds .normal (.block id k) env w := h
theorem RX.block_hit {id : Nat} (h : RX ro P n ds .normal k env w) : RX ro P n ds (.exit id) (.block id k) env w :=
  fun a ha => by show Exit.inBlock id (k.QR ro P) (.exit id) a w; simp only [Exit.inBlock, if_true]; exact h a ha
theorem RX.block_miss {id id' : Nat} (hne : Nat.beq id' id = false) (h : RX ro P n ds (.exit id') k env w) : RX ro P n ds (.exit id') (.block id k) env w :=
  fun a ha => by
    show Exit.inBlock id (k.QR ro P) (.exit id') a w
    have : id' ≠ id := fun e => by rw [e, Nat.beq_refl] at hne; exact Bool.noConfusion hne
    simp only [Exit.inBlock, this, if_false]
    exact h a ha
theorem RX.block_goto {id l : Nat} (h : RX ro P n ds (.goto l) k env w) : RX ro P n ds (.goto l) (.block id k) env w := h
theorem RX.block_ret {id : Nat} (h : RX ro P n ds .ret k env w) : RX ro P n ds .ret (.block id k) env w := h

section
variable {op : Op} {ty : TypeId} {pos : String} {aft : Array Edge}
theorem RO.step {ops : Array Oper} {l : List Oper} {d : Nat} (hd : Nat.blt d n = true) (hnd : notDefer op = true)
    (h : OR P n ds ⟨some d, op, ty, pos, aft, none⟩ env w fun v w' => RO ro P n ds ops l k ((d, v) :: env) w') : RO ro P n ds ops (⟨some d, op, ty, pos, aft, none⟩ :: l) k env w := by
  intro a ha
  refine wpListIn_plain rfl fun K hK => ⟨fun _ _ => trivial, ?_⟩
  rw [semAt_fen (ro := ro) (o := ⟨some d, op, ty, pos, aft, none⟩) hnd]
  exact upon_fen (h a ha K _ fun v w' hR => hK _ _ (hR _ (ha.put hd v)))
theorem RO.stepN {ops : Array Oper} {l : List Oper} (hnd : notDefer op = true)
    (h : OR P n ds ⟨none, op, ty, pos, aft, none⟩ env w fun _ w' => RO ro P n ds ops l k env w') : RO ro P n ds ops (⟨none, op, ty, pos, aft, none⟩ :: l) k env w := by
  intro a ha
  refine wpListIn_plain rfl fun K hK => ⟨fun _ _ => trivial, ?_⟩
  rw [semAt_fen (ro := ro) (o := ⟨none, op, ty, pos, aft, none⟩) hnd]
  exact upon_fen (h a ha K _ fun v w' hR => hK _ _ (hR _ ha))
theorem RO.guardYes {ops : List Oper} {l : List Oper} {d j : Nat} {b c : Bool} (hb : guardOf ops env j = some c) (hc : c = b) (hj : guardDst ops n j = true)
    (hd : Nat.blt d n = true) (hnd : notDefer op = true) (h : OR P n ds ⟨some d, op, ty, pos, aft, some (j, b)⟩ env w fun v w' => RO ro P n ds ops.toArray l k ((d, v) :: env) w') :
    RO ro P n ds ops.toArray (⟨some d, op, ty, pos, aft, some (j, b)⟩ :: l) k env w := by
  subst hc
  intro a ha
  have hy := yielded_of ha hb (by intro o' d h1 h2; simpa [guardDst, h1, h2, dstOk] using hj)
  refine wpListIn_step fun K hK => ?_
  simp only [Region.wanted, hy, beq_self_eq_true, if_true]
  refine ⟨fun _ _ => trivial, ?_⟩
  rw [semAt_fen (ro := ro) (o := ⟨some d, op, ty, pos, aft, some (j, c)⟩) hnd]
  exact upon_fen (h a ha K _ fun v w' hR => hK _ _ (hR _ (ha.put hd v)))
theorem RO.guardNo {ops : List Oper} {l : List Oper} {d j : Nat} {b c : Bool} (hb : guardOf ops env j = some c) (hc : c = !b) (hj : guardDst ops n j = true)
    (hd : Nat.blt d n = true) (h : RO ro P n ds ops.toArray l k ((d, undef) :: env) w) : RO ro P n ds ops.toArray (⟨some d, op, ty, pos, aft, some (j, b)⟩ :: l) k env w := by
  subst hc
  intro a ha
  have hy := yielded_of ha hb (by intro o' d h1 h2; simpa [guardDst, h1, h2, dstOk] using hj)
  refine wpListIn_step fun K hK => ?_
  have : (some (!b) == some b) = false := by cases b <;> rfl
  simp only [Region.wanted, hy, this, if_false, Bool.false_eq_true]
  exact ⟨fun _ _ => trivial, hK _ _ (h _ (ha.put hd undef))⟩
theorem RO.guardSplit {ops : List Oper} {l : List Oper} {j : Nat} {p : Prop} [Decidable p] (_hb : guardOf ops env j = some (decide p))
    (h1 : p → RO ro P n ds ops.toArray l k env w) (h2 : ¬p → RO ro P n ds ops.toArray l k env w) : RO ro P n ds ops.toArray l k env w := by
  by_cases h : p
  · exact h1 h
  · exact h2 h
end
/-- A region of the walk outside of rounds, by this one. -/
theorem WC.regionR {id : Nat} {l : List Oper} (h : RO none P n ds l.toArray l (.cut (k.Q P)) env w) : WC P n ds (.region id l.toArray false) k env w :=
  fun a ha => wpIn_wide.1 (wpIn_region_lit (h a ha))
theorem RO.doneW {ops : Array Oper} (h : WX P n ds .normal k env w) : RO none P n ds ops [] (.cut (k.Q P)) env w := h

theorem St.param1 {tmps : Array Value} (h : St n [] env { tmps := tmps, defers := [] }) {p : Nat} (hp : Nat.blt p n = true) (v : Value) :
    St n [] ((p, v) :: env) { tmps := ((#[p] : Array Nat).zip #[v]).foldl (fun t (p, v) => t.setIfInBounds p v) tmps, defers := [] } := by
  have := h.put hp v
  simpa [Act.put] using this
theorem St.param2 {tmps : Array Value} (h : St n [] env { tmps := tmps, defers := [] }) {p q : Nat} (hp : Nat.blt p n = true) (hq : Nat.blt q n = true) (v u : Value) :
    St n [] ((q, u) :: (p, v) :: env) { tmps := ((#[p, q] : Array Nat).zip #[v, u]).foldl (fun t (p, v) => t.setIfInBounds p v) tmps, defers := [] } := by
  have := (h.put hp v).put hq u
  simpa [Act.put] using this
theorem HS.mtail {xs : List Nat} {H0 H : Hp} {w0 w : World} {A B : Mem} (h : HS xs H0 w0 H (A ++ B) w) : HS xs H0 w0 H (B ++ A) w := h.perm List.perm_append_comm
/-- What a range over a function keeps of itself. -/
def loopObj (st : LoopState) (pend : Option Code) (fn : FuncId) (tmps : Array Value) (ps : Array Tmp) (assign body : Code) (D : Nat) : Obj :=
  .loop { state := st, pending := pend, fn, tmps, params := ps, assign, body, defers := D }

section
variable {op : Op} {ty : TypeId} {pos : String} {aft : Array Edge} {x : Operand} {args : List Operand} {vs : List Value} {tys : Array TypeId} {lp : Nat} {C : Ending → World → Prop}
/-- A call of yield. -/
theorem RO.yield {ops : Array Oper} {l : List Oper} {d : Nat} (hd : Nat.blt d n = true) (hx : look env x = some (.func (.yield lp) #[] #[])) (ha : lookAll env args = some vs)
    (hy : YieldAt (fen none) 0 P lp vs.toArray w C) (hR : ∀ e w', C e w' → ∃ v, e = .returned v ∧ RO none P n ds ops l k ((d, v) :: env) w') :
    RO none P n ds ops (⟨some d, .call { callee := .value x, args := args.toArray, argTypes := tys }, ty, pos, aft, none⟩ :: l) k env w := by
  intro a hs
  obtain ⟨fn, tmps, assign, body, hrun, hround⟩ := hy
  refine wpListIn_plain rfl fun K hK => ⟨fun _ _ => trivial, ?_⟩
  rw [semAt_fen (ro := none) (o := ⟨some d, .call { callee := .value x, args := args.toArray, argTypes := tys }, ty, pos, aft, none⟩) rfl]
  have he : (execOp a.eval ⟨some d, .call { callee := .value x, args := args.toArray, argTypes := tys }, ty, pos, aft, none⟩).run P w = .ok (.round lp fn tmps assign body) w := by
    simp [execOp, resolve, hs.look hx, Deferred.ofValue, invoke, List.map_toArray, hs.lookAll _ _ ha, hrun]
  rw [he]
  refine ⟨(fun h => by cases h), hround.mono ?_⟩
  intro e w' hC
  obtain ⟨v, rfl, h⟩ := hR e w' hC
  exact hK _ _ (h _ (hs.put hd v))
theorem RO.yieldG {ops : List Oper} {l : List Oper} {d j : Nat} {b c : Bool} (hb : guardOf ops env j = some c) (hc : c = b) (hj : guardDst ops n j = true) (hd : Nat.blt d n = true) (hx : look env x = some (.func (.yield lp) #[] #[])) (ha : lookAll env args = some vs)
    (hy : YieldAt (fen none) 0 P lp vs.toArray w C) (hR : ∀ e w', C e w' → ∃ v, e = .returned v ∧ RO none P n ds ops.toArray l k ((d, v) :: env) w') :
    RO none P n ds ops.toArray (⟨some d, .call { callee := .value x, args := args.toArray, argTypes := tys }, ty, pos, aft, some (j, b)⟩ :: l) k env w := by
  subst hc
  intro a hs
  have hyy := yielded_of hs hb (by intro o' d h1 h2; simpa [guardDst, h1, h2, dstOk] using hj)
  obtain ⟨fn, tmps, assign, body, hrun, hround⟩ := hy
  refine wpListIn_step fun K hK => ?_
  simp only [Region.wanted, hyy, beq_self_eq_true, if_true]
  refine ⟨fun _ _ => trivial, ?_⟩
  rw [semAt_fen (ro := none) (o := ⟨some d, .call { callee := .value x, args := args.toArray, argTypes := tys }, ty, pos, aft, some (j, c)⟩) rfl]
  have he : (execOp a.eval ⟨some d, .call { callee := .value x, args := args.toArray, argTypes := tys }, ty, pos, aft, some (j, c)⟩).run P w = .ok (.round lp fn tmps assign body) w := by
    simp [execOp, resolve, hs.look hx, Deferred.ofValue, invoke, List.map_toArray, hs.lookAll _ _ ha, hrun]
  rw [he]
  refine ⟨(fun h => by cases h), hround.mono ?_⟩
  intro e w' hC
  obtain ⟨v, rfl, h⟩ := hR e w' hC
  exact hK _ _ (h _ (hs.put hd v))
end

section
variable {xs : List Nat} {H0 H : Hp} {w0 : World} {M : Mem} {lp D : Nat} {fn : FuncId} {tmps : Array Value} {ps : Array Tmp} {assign body : Code}
/-- How a round's body may be left. -/
def roundX (xs : List Nat) (H0 : Hp) (w0 : World) (lp : Nat) (fn : FuncId) (tmps : Array Value) (ps : Array Tmp) (assign body : Code) (D : Nat) (R : Ending → World → Prop) : Exit → Act → World → Prop := fun e _ w3 =>
  ∃ H3 M3 pend, (match e with | .normal => pend = none | .ret => pend = some .ret | .exit id => pend = some (.exit id) | .goto t => pend = some (.goto t) | _ => False) ∧
    HS xs H0 w0 H3 ((lp, loopObj .busy none fn tmps ps assign body D, true) :: M3) w3 ∧
    ∀ w4, HS xs H0 w0 H3 ((lp, loopObj (if pend.isNone then .ready else .done) pend fn tmps ps assign body D, true) :: M3) w4 → R (.returned (.bool pend.isNone)) w4
theorem yieldAt {args : List Value} {env' : Env} {R : Ending → World → Prop} (hs : HS xs H0 w0 H ((lp, loopObj .ready none fn tmps ps assign body D, true) :: M) w) (hsz : args.length = ps.size)
    (hst : St n [] env' { tmps := (ps.zip args.toArray).foldl (fun t (p, v) => t.setIfInBounds p v) tmps, defers := [] })
    (hwalk : RC (some lp) P n [] assign (.cut fun e a1 w1 => e = .normal ∧ ∃ env1 H1 M1, St n [] env1 a1 ∧ HS xs H0 w0 H1 ((lp, loopObj .ready none fn tmps ps assign body D, true) :: M1) w1 ∧
      ∀ w2, HS xs H0 w0 H1 ((lp, loopObj .busy none fn tmps ps assign body D, true) :: M1) w2 → RC (some lp) P n [] body (.cut (roundX xs H0 w0 lp fn tmps ps assign body D R)) env1 w2) env' w) :
    YieldAt (fen none) 0 P lp args.toArray w R := by
  have hb := (hs.mem lp (loopObj .ready none fn tmps ps assign body D) true (by simp)).1
  refine ⟨fn, _, assign, body, run_yield hb (by simpa using hsz), roundIn_of_wpIn (F := fen none) trivial ?_⟩
  refine wpIn_mono (hwalk _ hst) ?_
  rintro e a1 w1 ⟨rfl, env1, H1, M1, hst1, hs1, hwk⟩
  have hb1 := (hs1.mem lp (loopObj .ready none fn tmps ps assign body D) true (by simp)).1
  refine ⟨_, run_beginRound hb1 rfl, ?_⟩
  have hs2 : HS xs H0 w0 H1 ((lp, loopObj .busy none fn tmps ps assign body D, true) :: M1) (w1.putObj lp (loopObj .busy none fn tmps ps assign body D)) := hs1.write _ rfl rfl rfl rfl
  refine wpIn_mono (hwk _ hs2 a1 hst1) ?_
  rintro e a3 w3 ⟨H3, M3, pend, hp, hs3, hR⟩
  have hb3 := (hs3.mem lp (loopObj .busy none fn tmps ps assign body D) true (by simp)).1
  have fin : ∀ pe : Option Code, pe = pend → ∃ v w', (Instr.endRound lp pe).run P w3 = .ok v w' ∧ R (.returned v) w' := by
    rintro pe rfl
    exact ⟨_, _, run_endRound pe hb3, hR _ (hs3.write _ rfl rfl rfl rfl)⟩
  cases e with
  | normal => exact fin _ hp.symm
  | ret => exact fin _ hp.symm
  | exit id => exact fin _ hp.symm
  | goto t => exact fin _ hp.symm
  | panic ch => exact False.elim hp
  | outgrown => exact False.elim hp
theorem RC.assigned {R : Ending → World → Prop} (hs : HS xs H0 w0 H ((lp, loopObj .ready none fn tmps ps assign body D, true) :: M) w)
    (h : ∀ w2, HS xs H0 w0 H ((lp, loopObj .busy none fn tmps ps assign body D, true) :: M) w2 → RC (some lp) P n [] body (.cut (roundX xs H0 w0 lp fn tmps ps assign body D R)) env w2) :
    RX (some lp) P n [] .normal (.cut fun e a1 w1 => e = .normal ∧ ∃ env1 H1 M1, St n [] env1 a1 ∧ HS xs H0 w0 H1 ((lp, loopObj .ready none fn tmps ps assign body D, true) :: M1) w1 ∧
      ∀ w2, HS xs H0 w0 H1 ((lp, loopObj .busy none fn tmps ps assign body D, true) :: M1) w2 → RC (some lp) P n [] body (.cut (roundX xs H0 w0 lp fn tmps ps assign body D R)) env1 w2) env w :=
  fun a ha => ⟨rfl, env, H, M, ha, hs, h⟩
/-- The end of a round that goes on; that returns. -/
theorem RX.on {R : Ending → World → Prop} (hs : HS xs H0 w0 H ((lp, loopObj .busy none fn tmps ps assign body D, true) :: M) w)
    (h : ∀ w4, HS xs H0 w0 H ((lp, loopObj .ready none fn tmps ps assign body D, true) :: M) w4 → R (.returned (.bool true)) w4) :
    RX ro P n [] .normal (.cut (roundX xs H0 w0 lp fn tmps ps assign body D R)) env w :=
  fun a ha => ⟨H, M, none, rfl, hs, h⟩
theorem RX.out {R : Ending → World → Prop} (hs : HS xs H0 w0 H ((lp, loopObj .busy none fn tmps ps assign body D, true) :: M) w)
    (h : ∀ w4, HS xs H0 w0 H ((lp, loopObj .done (some .ret) fn tmps ps assign body D, true) :: M) w4 → R (.returned (.bool false)) w4) :
    RX ro P n [] .ret (.cut (roundX xs H0 w0 lp fn tmps ps assign body D R)) env w :=
  fun a ha => ⟨H, M, some .ret, rfl, hs, h⟩

/-- A range over a function. -/
theorem WC.rangeFunc {g : Operand} {gf : Nat} {fl lb : List Value} (hs : HS xs H0 w0 H M w) (hg : look env g = some (.func (.func gf) fl.toArray lb.toArray)) (hb : Body P gf)
    (hcall : ∀ fn tmps D lp w1, w0.heap.size ≤ D → w0.heap.size ≤ lp → St n [] env { tmps := tmps, defers := [] } →
      HS xs H0 w0 H ((lp, loopObj .ready none fn tmps ps assign body D, true) :: (D, .deferred (some []), true) :: M) w1 →
      Calls P gf (fl ++ .func (.yield lp) #[] #[] :: lb).toArray w1 (fun e w3 => (∃ v, e = .returned v) ∧ ∃ H3 M3 st pend, st ≠ .busy ∧ HS xs H0 w0 H3 ((lp, loopObj st pend fn tmps ps assign body D, true) :: M3) w3 ∧
        ∀ w4, HS xs H0 w0 H3 ((lp, loopObj .exhausted pend fn tmps ps assign body D, true) :: M3) w4 →
          (pend = none → WX P n (⟨.collected D, #[]⟩ :: ds) .normal k env w4) ∧ ∀ c, pend = some c → WC P n (⟨.collected D, #[]⟩ :: ds) c k env w4)) :
    WC P n ds (.rangeFunc g ps assign body) k env w := by
  intro a ha
  refine (wpIn_wide (n := 0)).1 (wpIn_rangeFunc ?_)
  intro fn _
  have hsA := (hs.alloc (.deferred (some []))).alloc (loopObj .ready none fn a.tmps ps assign body w.heap.size)
  rw [show (w.alloc (.deferred (some []))).heap.size = w.heap.size + 1 by simp] at hsA
  obtain ⟨W1, hW1⟩ : ∃ W1, (w.alloc (.deferred (some []))).alloc (loopObj .ready none fn a.tmps ps assign body w.heap.size) = W1 := ⟨_, rfl⟩
  rw [hW1] at hsA
  have hst : St n [] env { tmps := a.tmps, defers := [] } := ⟨rfl, ha.sz, ha.get⟩
  have hc := hcall fn a.tmps w.heap.size (w.heap.size + 1) W1 hs.size (Nat.le_succ_of_le hs.size) hst hsA
  refine ⟨w.heap.size + 1, [{ target := .collected w.heap.size, args := #[] }], W1, { target := .fn (.func gf) lb.toArray, args := fl.toArray ++ #[.func (.yield (w.heap.size + 1)) #[] #[]] }, W1, gf,
    (fl ++ .func (.yield (w.heap.size + 1)) #[] #[] :: lb).toArray, W1, (by rw [← hW1]; exact run_enterLoop_outer _ _ _ _ _), ?_, fun _ _ => trivial, ?_, (fun h => by cases h), callsIn_wide.2 (hc.mono ?_)⟩
  · simp only [resolve, rangeCall, ha.look hg]
    simp [go_sem]
  · have e : (fl.toArray ++ #[.func (.yield (w.heap.size + 1)) #[] #[]] ++ lb.toArray : Array Value) = (fl ++ .func (.yield (w.heap.size + 1)) #[] #[] :: lb).toArray := by simp
    simp [invoke, go_sem, e, hb _ _]
  · rintro e w3 ⟨⟨v, rfl⟩, H3, M3, st, pend, hst3, hs3, h⟩
    have hb3 := (hs3.mem (w.heap.size + 1) (loopObj st pend fn a.tmps ps assign body w.heap.size) true (by simp)).1
    obtain ⟨h1, h2⟩ := h (w3.putObj (w.heap.size + 1) (loopObj .exhausted pend fn a.tmps ps assign body w.heap.size)) (hs3.write (loopObj .exhausted pend fn a.tmps ps assign body w.heap.size) rfl rfl rfl rfl)
    have hst4 : St n (⟨.collected w.heap.size, #[]⟩ :: ds) env { a with defers := [{ target := .collected w.heap.size, args := #[] }] ++ a.defers } := ⟨by simp [ha.dfr], ha.sz, ha.get⟩
    refine ⟨pend, _, run_endLoop hb3 hst3, ?_⟩
    cases pend with
    | none => exact h1 rfl _ hst4
    | some c => exact wpIn_wide.2 (h2 c rfl _ hst4)

/-- A function that holds such a range. -/
theorem Calls.enterM {f : FuncId} {fn : Func} {c : Code} {args : List Value} {R : Ending → World → Prop} {m : Nat}
    (hf : P.funcs[f]? = some fn) (hb : fn.body = some c) (hm : fn.ntmps = m) (ha : Nat.ble args.length m = true)
    (h : WC P m [] c (.cut (bodyPostM Fence.wide 0 P fn R)) (argsEnv 0 args) w) : Calls P f args.toArray w R := by
  subst hm
  exact (callsIn_wide (n := 0)).1 (callsIn_of_wp_marks hf hb trivial (wpIn_wide.2 (h _ (args_st ha))))
/-- Its end, ahead of the range, and behind it. -/
theorem WX.retM0 {f : Func} {R : Ending → World → Prop} (hr : ∀ a : Act, (∀ t v, env.get t = some v → a.tmps.getD t undef = v) → ∃ u, (results f a.tmps).run P w = .ok u w ∧ R (.returned u) w) :
    WX P n [] .ret (.cut (bodyPostM Fence.wide 0 P f R)) env w := by
  intro a ha
  show LeavesInM Fence.wide 0 P f a.tmps R a.defers .returning w
  rw [ha.dfr]
  exact hr a ha.get
theorem WX.retM {f : Func} {R : Ending → World → Prop} (hs : HS xs H0 w0 H ((D, .deferred (some []), true) :: M) w)
    (hr : ∀ w', HS xs H0 w0 H ((D, .deferred none, true) :: M) w' → ∀ a : Act, (∀ t v, env.get t = some v → a.tmps.getD t undef = v) → ∃ u, (results f a.tmps).run P w' = .ok u w' ∧ R (.returned u) w') :
    WX P n [⟨.collected D, #[]⟩] .ret (.cut (bodyPostM Fence.wide 0 P f R)) env w := by
  intro a ha
  show LeavesInM Fence.wide 0 P f a.tmps R a.defers .returning w
  rw [ha.dfr]
  have hb := (hs.mem D (.deferred (some [])) true (by simp)).1
  have h9 := hr (w.putObj D (.deferred none)) (hs.write (.deferred none) rfl rfl rfl rfl) a ha.get
  exact ⟨by simp, .inl ⟨D, w.putObj D (.deferred none), rfl, run_takeDeferred hb, h9⟩⟩
end
end
end Go.Bw
