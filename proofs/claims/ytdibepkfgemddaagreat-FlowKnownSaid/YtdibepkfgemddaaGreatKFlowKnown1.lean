/- What law_FlowKnown needs: laid out of own texts. No condition. -/
import Derived.WalkKit
import Derived.ScopeJumps
import Derived.Laws.MakeOwn
import Derived.Orders
import Derived.Lib.Overlaps
import Derived.Laws.Externs
import Derived.Test.YtdibepkfgemddaaGreatProg
import Derived.KernelRfl
import Derived.Defers
import Derived.Lib.MakeNoZero
import Derived.RangeFuncLeaves
import Derived.RangeFuncKeeps
import Derived.Laws.StructEq
import Derived.Deep.Slices
import Derived.ProofKit
import Derived.OpenShut
import Derived.ShutString
import Derived.ChangeOld
import Derived.Below
import Derived.SizedLaws
namespace Go.Bw
set_option linter.unusedVariables false
set_option linter.unusedSimpArgs false
/-- What is known of a frame: slots with their values, the latest first. -/
abbrev Env := List (Nat × Value)

def Env.get : Env → Nat → Option Value
  | [], _ => none
  | (k, v) :: e, t => cond (Nat.beq k t) (some v) (Env.get e t)

def look (env : Env) : Operand → Option Value
  | .tmp t => env.get t
  | .const v => some v
  | .global g => some (.pointer (some ⟨g, 0, none⟩))
  | .func f => some (.func (.func f) #[] #[])

def lookAll (env : Env) : List Operand → Option (List Value)
  | [] => some []
  | x :: xs => match look env x with
    | none => none
    | some v => match lookAll env xs with
      | none => none
      | some vs => some (v :: vs)

structure St (n : Nat) (ds : List Deferred) (env : Env) (a : Act) : Prop where
  dfr : a.defers = ds
  sz : a.tmps.size = n
  get : ∀ t v, env.get t = some v → a.tmps.getD t undef = v

variable {P : Program} {n : Nat} {ds : List Deferred} {env : Env} {w : World} {a : Act}
theorem St.look (h : St n ds env a) {x : Operand} {v : Value} (hx : look env x = some v) : a.eval x = v := by
  cases x with
  | tmp t => exact h.get t v hx
  | const c => simpa [Bw.look, Act.eval] using hx
  | global g => simpa [Bw.look, Act.eval] using hx
  | func f => simpa [Bw.look, Act.eval] using hx

theorem St.lookAll (h : St n ds env a) : ∀ (xs : List Operand) (vs : List Value), lookAll env xs = some vs → xs.map a.eval = vs
  | [], vs, hx => by simp [Bw.lookAll] at hx; simp [hx]
  | x :: xs, vs, hx => by
    simp only [Bw.lookAll] at hx
    cases h1 : Bw.look env x with
    | none => simp [h1] at hx
    | some v =>
      cases h2 : Bw.lookAll env xs with
      | none => simp [h1, h2] at hx
      | some us =>
        simp [h1, h2] at hx
        subst hx
        simp [h.look h1, St.lookAll h xs us h2]

theorem St.put (h : St n ds env a) {d : Nat} (hd : Nat.blt d n = true) (v : Value) : St n ds ((d, v) :: env) (a.put (some d) v) := by
  have hd' : d < n := by simpa [Nat.blt_eq] using hd
  refine ⟨h.dfr, by simp [Act.put, h.sz], ?_⟩
  intro t u hu
  simp only [Env.get] at hu
  by_cases e : d = t
  · subst e
    simp at hu
    subst hu
    simp [Act.put, Array.getD_eq_getD_getElem?, h.sz, hd']
  · have : Nat.beq d t = false := by
      cases hb : Nat.beq d t with
      | false => rfl
      | true => exact absurd (Nat.eq_of_beq_eq_true hb) e
    rw [this] at hu
    have := h.get t u hu
    simpa [Act.put, Array.getD_eq_getD_getElem?, Array.getElem?_setIfInBounds, e] using this

/-- Known slots forgotten, or told otherwise. -/
theorem St.sub (h : St n ds env a) {env' : Env} (hs : ∀ t v, env'.get t = some v → env.get t = some v) : St n ds env' a :=
  ⟨h.dfr, h.sz, fun t v ht => h.get t v (hs t v ht)⟩

def Env.subB (sub : Env) (env : Env) : Prop :=
  match sub with
  | [] => True
  | (k, v) :: e => env.get k = some v ∧ Env.subB e env

theorem Env.subB.get {sub env : Env} (h : sub.subB env) : ∀ t v, sub.get t = some v → env.get t = some v := by
  induction sub with
  | nil => intro t v ht; simp [Env.get] at ht
  | cons p e ih =>
    obtain ⟨k, u⟩ := p
    intro t v ht
    simp only [Env.get] at ht
    cases hb : Nat.beq k t with
    | true =>
      rw [hb] at ht
      have := Nat.eq_of_beq_eq_true hb
      subst this
      simp at ht
      subst ht
      exact h.1
    | false => rw [hb] at ht; exact ih h.2 t v ht

/-- What is to be done behind a piece of code. -/
inductive Kont where
  | fn (f : Func) (R : Ending → World → Prop)
  | seq (y : Code) (k : Kont)
  | block (id : Nat) (k : Kont)
  | loop (I : Act → World → Prop) (k : Kont)
  | scope (k : Kont)
  | jump (l : Nat) (J : Act → World → Prop) (k : Kont)
  | cut (X : Exit → Act → World → Prop)

def Kont.Q (P : Program) : Kont → Exit → Act → World → Prop
  | .fn f R => bodyPost P f R
  | .seq y k => Exit.then (fun a w => y.wp P (k.Q P) a w) (k.Q P)
  | .block id k => Exit.inBlock id (k.Q P)
  | .loop I k => Exit.then I (k.Q P)
  | .scope k => Exit.noGoto (k.Q P)
  | .jump l J k => Exit.jump l J (k.Q P)
  | .cut X => X

/-- A piece of code, from what is known of the frame. -/
def WC (P : Program) (n : Nat) (ds : List Deferred) (c : Code) (k : Kont) (env : Env) (w : World) : Prop :=
  ∀ a, St n ds env a → c.wp P (k.Q P) a w
/-- The operations that are left of a region. -/
def WO (P : Program) (n : Nat) (ds : List Deferred) (ops : Array Oper) (l : List Oper) (k : Kont) (env : Env) (w : World) : Prop :=
  ∀ a, St n ds env a → wpList P ops (k.Q P) l a w
/-- A piece of code is left. -/
def WX (P : Program) (n : Nat) (ds : List Deferred) (e : Exit) (k : Kont) (env : Env) (w : World) : Prop :=
  ∀ a, St n ds env a → k.Q P e a w

variable {k : Kont}
theorem WC.sub (env' : Env) {c : Code} (hs : env'.subB env) (h : WC P n ds c k env' w) : WC P n ds c k env w :=
  fun a ha => h a (ha.sub hs.get)
theorem WX.sub (env' : Env) {e : Exit} (hs : env'.subB env) (h : WX P n ds e k env' w) : WX P n ds e k env w :=
  fun a ha => h a (ha.sub hs.get)
theorem WO.sub (env' : Env) {ops : Array Oper} {l : List Oper} (hs : env'.subB env) (h : WO P n ds ops l k env' w) : WO P n ds ops l k env w :=
  fun a ha => h a (ha.sub hs.get)

theorem WC.seq {x y : Code} (h : WC P n ds x (.seq y k) env w) : WC P n ds (.seq x y) k env w :=
  fun a ha => wp_seq (h a ha)
theorem WC.skip (h : WX P n ds .normal k env w) : WC P n ds .skip k env w := fun a ha => wp_skip (h a ha)
theorem WC.label {l : Nat} (h : WX P n ds .normal k env w) : WC P n ds (.label l) k env w := fun a ha => wp_label (h a ha)
theorem WC.exit {id : Nat} (h : WX P n ds (.exit id) k env w) : WC P n ds (.exit id) k env w := fun a ha => wp_exit (h a ha)
theorem WC.goto {l : Nat} (h : WX P n ds (.goto l) k env w) : WC P n ds (.goto l) k env w := fun a ha => wp_goto (h a ha)
theorem WC.ret (h : WX P n ds .ret k env w) : WC P n ds .ret k env w := fun a ha => wp_ret (h a ha)
theorem WC.block {id : Nat} {c : Code} (h : WC P n ds c (.block id k) env w) : WC P n ds (.block id c) k env w :=
  fun a ha => wp_block (h a ha)
theorem WC.scope {c : Code} (h : WC P n ds c (.scope k) env w) : WC P n ds (.scope c) k env w :=
  fun a ha => wp_scope_straight (h a ha)
theorem WC.region {id : Nat} {l : List Oper} (h : WO P n ds l.toArray l k env w) : WC P n ds (.region id l.toArray false) k env w :=
  fun a ha => wp_region_lit (h a ha)
theorem WC.cond {c : Operand} {x y : Code} {t : Bool} (hc : look env c = some (.bool t))
    (h1 : t = true → WC P n ds x k env w) (h2 : t = false → WC P n ds y k env w) : WC P n ds (.cond c x y) k env w :=
  fun a ha => wp_cond_split (ha.look hc) (fun ht => h1 ht a ha) (fun ht => h2 ht a ha)
theorem WC.condD {c : Operand} {x y : Code} {p : Prop} [Decidable p] (hc : look env c = some (.bool (decide p)))
    (h1 : p → WC P n ds x k env w) (h2 : ¬p → WC P n ds y k env w) : WC P n ds (.cond c x y) k env w :=
  WC.cond hc (fun h => h1 (of_decide_eq_true h)) (fun h => h2 (of_decide_eq_false h))
theorem WC.yes {c : Operand} {x y : Code} {t : Bool} (hc : look env c = some (.bool t)) (ht : t = true)
    (h : WC P n ds x k env w) : WC P n ds (.cond c x y) k env w :=
  fun a ha => wp_cond (ha.look hc) (by rw [ht]; exact h a ha)
theorem WC.no {c : Operand} {x y : Code} {t : Bool} (hc : look env c = some (.bool t)) (ht : t = false)
    (h : WC P n ds y k env w) : WC P n ds (.cond c x y) k env w :=
  fun a ha => wp_cond (ha.look hc) (by rw [ht]; exact h a ha)

theorem WO.done {ops : Array Oper} (h : WX P n ds .normal k env w) : WO P n ds ops [] k env w := h

theorem WX.seq {y : Code} (h : WC P n ds y k env w) : WX P n ds .normal (.seq y k) env w := h
theorem WX.seq_exit {y : Code} {id : Nat} (h : WX P n ds (.exit id) k env w) : WX P n ds (.exit id) (.seq y k) env w := h
theorem WX.seq_goto {y : Code} {l : Nat} (h : WX P n ds (.goto l) k env w) : WX P n ds (.goto l) (.seq y k) env w := h
theorem WX.seq_ret {y : Code} (h : WX P n ds .ret k env w) : WX P n ds .ret (.seq y k) env w := h
theorem WX.block {id : Nat} (h : WX P n ds .normal k env w) : WX P n ds .normal (.block id k) env w := h
theorem WX.block_hit {id : Nat} (h : WX P n ds .normal k env w) : WX P n ds (.exit id) (.block id k) env w :=
  fun a ha => by show Exit.inBlock id (k.Q P) (.exit id) a w; simp only [Exit.inBlock, if_true]; exact h a ha
theorem WX.block_miss {id id' : Nat} (hne : Nat.beq id' id = false) (h : WX P n ds (.exit id') k env w) : WX P n ds (.exit id') (.block id k) env w :=
  fun a ha => by
    show Exit.inBlock id (k.Q P) (.exit id') a w
    have : id' ≠ id := fun e => by rw [e, Nat.beq_refl] at hne; exact Bool.noConfusion hne
    simp only [Exit.inBlock, this, if_false]
    exact h a ha
theorem WX.block_ret {id : Nat} (h : WX P n ds .ret k env w) : WX P n ds .ret (.block id k) env w := h
theorem WX.scope (h : WX P n ds .normal k env w) : WX P n ds .normal (.scope k) env w := h
theorem WX.scope_ret (h : WX P n ds .ret k env w) : WX P n ds .ret (.scope k) env w := h
theorem WX.jump {l : Nat} {J : Act → World → Prop} (h : WX P n ds .normal k env w) : WX P n ds .normal (.jump l J k) env w := h
theorem WX.jump_ret {l : Nat} {J : Act → World → Prop} (h : WX P n ds .ret k env w) : WX P n ds .ret (.jump l J k) env w := h
theorem WX.loop_exit {id : Nat} {I : Act → World → Prop} (h : WX P n ds (.exit id) k env w) : WX P n ds (.exit id) (.loop I k) env w := h
theorem WX.loop_ret {I : Act → World → Prop} (h : WX P n ds .ret k env w) : WX P n ds .ret (.loop I k) env w := h

/-- Behind the function's last statement. -/
theorem WX.end_ret {f : Func} {R : Ending → World → Prop} {e : Exit} (he : (match e with | .normal => true | .ret => true | _ => false) = true)
    {vs : Array Value → Prop} (hr : ∀ a, St n [] env a → ∃ v, (results f a.tmps).run P w = .ok v w ∧ R (.returned v) w) : WX P n [] e (.fn f R) env w := by
  intro a ha
  obtain ⟨v, h1, h2⟩ := hr a ha
  cases e with
  | normal => exact ⟨ha.dfr, v, h1, h2⟩
  | ret => exact ⟨ha.dfr, v, h1, h2⟩
  | _ => simp at he

/-- The result slots of a function whose results are slots. -/
def slots : List ResultVar → Option (List Nat)
  | [] => some []
  | .tmp t :: l => match slots l with | some ts => some (t :: ts) | none => none
  | .cell _ _ :: _ => none

theorem WX.ret0 {f : Func} {R : Ending → World → Prop} (hf : f.results = #[]) (h : R (.returned (.tuple #[])) w) : WX P n [] .ret (.fn f R) env w :=
  fun a ha => ⟨ha.dfr, _, results_none hf a.tmps P w, h⟩
theorem WX.end0 {f : Func} {R : Ending → World → Prop} (hf : f.results = #[]) (h : R (.returned (.tuple #[])) w) : WX P n [] .normal (.fn f R) env w :=
  fun a ha => ⟨ha.dfr, _, results_none hf a.tmps P w, h⟩
theorem WX.ret1 {f : Func} {R : Ending → World → Prop} {t : Nat} {v : Value} (hf : f.results = #[.tmp t]) (hv : env.get t = some v) (h : R (.returned v) w) :
    WX P n [] .ret (.fn f R) env w :=
  fun a ha => ⟨ha.dfr, _, results_tmp hf a.tmps P w, by rw [ha.get t v hv]; exact h⟩
theorem WX.ret2 {f : Func} {R : Ending → World → Prop} {t u : Nat} {v x : Value} (hf : f.results = #[.tmp t, .tmp u]) (hv : env.get t = some v) (hx : env.get u = some x)
    (h : R (.returned (.tuple #[v, x])) w) : WX P n [] .ret (.fn f R) env w :=
  fun a ha => ⟨ha.dfr, _, results_tmp2 hf a.tmps P w, by rw [ha.get t v hv, ha.get u x hx]; exact h⟩

/-- A function's body, from its arguments. -/
def argsEnv : Nat → List Value → Env
  | _, [] => []
  | i, v :: vs => (i, v) :: argsEnv (i + 1) vs

theorem argsEnv_get : ∀ (i : Nat) (vs : List Value) (t : Nat) (v : Value), (argsEnv i vs).get t = some v → i ≤ t ∧ vs[t - i]? = some v
  | i, [], t, v, h => by simp [argsEnv, Env.get] at h
  | i, u :: us, t, v, h => by
    simp only [argsEnv, Env.get] at h
    cases hb : Nat.beq i t with
    | true =>
      have := Nat.eq_of_beq_eq_true hb
      subst this
      rw [hb] at h
      simp at h
      simp [h]
    | false =>
      rw [hb] at h
      obtain ⟨h1, h2⟩ := argsEnv_get (i + 1) us t v h
      refine ⟨by omega, ?_⟩
      rw [show t - i = (t - (i + 1)) + 1 from by omega]
      simpa using h2

theorem Calls.enter {f : FuncId} {fn : Func} {c : Code} {args : List Value} {R : Ending → World → Prop} {m : Nat}
    (hf : P.funcs[f]? = some fn) (hb : fn.body = some c) (hm : fn.ntmps = m) (ha : Nat.ble args.length m = true)
    (h : WC P m [] c (.fn fn R) (argsEnv 0 args) w) : Calls P f args.toArray w R := by
  refine calls_of_wp hf hb (h _ ⟨rfl, ?_, ?_⟩)
  · have : args.length ≤ m := Nat.le_of_ble_eq_true ha
    simp [hm]; omega
  · intro t v hv
    have := (argsEnv_get 0 args t v hv).2
    simp at this
    rw [Array.getD_eq_getD_getElem?, Array.getElem?_append]
    have hlt : t < args.length := by
      rcases Nat.lt_or_ge t args.length with h | h
      · exact h
      · rw [List.getElem?_eq_none h] at this; cases this
    have h2 : args[t] = v := by rw [List.getElem?_eq_getElem hlt] at this; exact Option.some.inj this
    simp [hlt, h2]

/-- A loop: what is known of the frame and of the world at each round's head, told by an index; a measure on the index. -/
theorem WC.loop {ι : Type} {c : Code} (E : ι → Env) (W : ι → World → Prop) (m : ι → Nat) (i₀ : ι) (hE : (E i₀).subB env) (h₀ : W i₀ w)
    (round : ∀ i w, W i w → WC P n ds c (.loop (fun a' w' => ∃ j, St n ds (E j) a' ∧ W j w' ∧ m j < m i) k) (E i) w) : WC P n ds (.loop c) k env w := by
  intro a ha b kk cs
  have key : ∀ N i a w, m i = N → St n ds (E i) a → W i w →
      ∃ e a' w', k.Q P e a' w' ∧ Arrives P (lone (b.at a (.code c :: .inLoop c :: kk)) cs w) b kk cs e a' w' := by
    intro N
    induction N using Nat.strongRecOn with
    | _ N ih =>
      intro i a w hN hs hw
      obtain ⟨e, a₁, w₁, hq, harr⟩ := round i w hw a hs b (.inLoop c :: kk) cs
      cases e with
      | normal =>
        obtain ⟨j, hs', hw', hlt⟩ := hq
        obtain ⟨e₂, a₂, w₂, hq₂, harr₂⟩ := ih (m j) (hN ▸ hlt) j a₁ w₁ rfl hs' hw'
        exact ⟨e₂, a₂, w₂, hq₂, .of_steps (Steps.trans harr (.one step_inLoop)) harr₂⟩
      | exit id => exact ⟨_, a₁, w₁, hq, .pass (x := .inLoop c) rfl (fun _ _ => .inl (by simp)) harr⟩
      | goto l => exact ⟨_, a₁, w₁, hq, .pass (x := .inLoop c) rfl (fun _ _ => .inl (by simp)) harr⟩
      | ret => exact ⟨_, a₁, w₁, hq, .pass (x := .inLoop c) rfl (fun _ _ => .inl (by simp)) harr⟩
      | panic ch => exact ⟨_, a₁, w₁, hq, .pass (x := .inLoop c) rfl (fun _ _ => .inl (by simp)) harr⟩
      | outgrown => exact ⟨_, a₁, w₁, hq, .pass (x := .inLoop c) rfl (fun _ _ => .inl (by simp)) harr⟩
  obtain ⟨e, a', w', hq, harr⟩ := key _ i₀ a w rfl (ha.sub hE.get) h₀
  exact ⟨e, a', w', hq, .of_steps (.one step_loop) harr⟩

theorem WX.again {ι : Type} {E : ι → Env} {W : ι → World → Prop} {m : ι → Nat} {N : Nat} (j : ι) (hE : (E j).subB env) (hw : W j w) (hm : m j < N) :
    WX P n ds .normal (.loop (fun a' w' => ∃ j, St n ds (E j) a' ∧ W j w' ∧ m j < N) k) env w :=
  fun _ ha => ⟨j, ha.sub hE.get, hw, hm⟩

/-- A scope that is gone round by a goto to its label. -/
theorem WC.scopeLoop {ι : Type} {c rest : Code} (l : Nat) (E : ι → Env) (W : ι → World → Prop) (m : ι → Nat) (hl : findLabel c l = some rest)
    (first : WC P n ds c (.jump l (fun a' w' => ∃ j, St n ds (E j) a' ∧ W j w') k) env w)
    (round : ∀ i w, W i w → WC P n ds rest (.jump l (fun a' w' => ∃ j, St n ds (E j) a' ∧ W j w' ∧ m j < m i) k) (E i) w) : WC P n ds (.scope c) k env w := by
  intro a ha b kk cs
  have hg : gotoIn l (.inScope c :: kk) = some (.code rest :: .inScope c :: kk) := by simp [gotoIn, hl]
  have key : ∀ N i a w, m i = N → St n ds (E i) a → W i w →
      ∃ e a' w', k.Q P e a' w' ∧ Arrives P (lone (b.at a (.code rest :: .inScope c :: kk)) cs w) b kk cs e a' w' := by
    intro N
    induction N using Nat.strongRecOn with
    | _ N ih =>
      intro i a w hN hs hw
      obtain ⟨e, a₁, w₁, hq, harr⟩ := round i w hw a hs b (.inScope c :: kk) cs
      cases e with
      | normal => exact ⟨.normal, a₁, w₁, hq, Steps.trans harr (.one step_inScope)⟩
      | exit id => exact ⟨.exit id, a₁, w₁, hq, fun k' hk => harr k' (by simp [exitTo, hk])⟩
      | goto l' =>
        obtain ⟨rfl, j, hs', hw', hlt⟩ := hq
        obtain ⟨e₂, a₂, w₂, hq₂, harr₂⟩ := ih (m j) (hN ▸ hlt) j a₁ w₁ rfl hs' hw'
        exact ⟨e₂, a₂, w₂, hq₂, .of_steps (harr _ hg) harr₂⟩
      | ret => exact ⟨_, a₁, w₁, hq, harr⟩
      | panic ch => exact ⟨_, a₁, w₁, hq, harr⟩
      | outgrown => exact ⟨_, a₁, w₁, hq, harr⟩
  obtain ⟨e, a₁, w₁, hq, harr⟩ := first a ha b (.inScope c :: kk) cs
  cases e with
  | normal => exact ⟨.normal, a₁, w₁, hq, .head step_scope (Steps.trans harr (.one step_inScope))⟩
  | exit id => exact ⟨.exit id, a₁, w₁, hq, fun k' hk => .head step_scope (harr k' (by simp [exitTo, hk]))⟩
  | goto l' =>
    obtain ⟨rfl, j, hs', hw'⟩ := hq
    obtain ⟨e₂, a₂, w₂, hq₂, harr₂⟩ := key _ j a₁ w₁ rfl hs' hw'
    exact ⟨e₂, a₂, w₂, hq₂, .of_steps (.head step_scope (harr _ hg)) harr₂⟩
  | ret => exact ⟨_, a₁, w₁, hq, .of_steps (.one step_scope) harr⟩
  | panic ch => exact ⟨_, a₁, w₁, hq, .of_steps (.one step_scope) harr⟩
  | outgrown => exact ⟨_, a₁, w₁, hq, .of_steps (.one step_scope) harr⟩

/-- The same where a first piece stands ahead of the label. -/
theorem WC.scopeLoopAt {ι : Type} {pre y : Code} (l : Nat) (E : ι → Env) (W : ι → World → Prop) (m : ι → Nat) (hl : findLabel pre l = none)
    (first : WC P n ds pre (.cut fun e a' w' => e = .normal ∧ ∃ j, St n ds (E j) a' ∧ W j w') env w)
    (round : ∀ i w, W i w → WC P n ds y (.jump l (fun a' w' => ∃ j, St n ds (E j) a' ∧ W j w' ∧ m j < m i) k) (E i) w) : WC P n ds (.scope (.seq pre (.seq (.label l) y))) k env w := by
  have hl' : findLabel (.seq pre (.seq (.label l) y)) l = some (.seq .skip y) := by simp [findLabel, hl]
  refine WC.scopeLoop l E W m hl' ?_ ?_
  · intro a ha
    refine wp_seq ?_
    refine wp_mono (first a ha) ?_
    rintro e a' w' ⟨rfl, j, hs, hW⟩
    show (Code.seq (.label l) y).wp P _ a' w'
    refine wp_seq (wp_label ?_)
    show y.wp P _ a' w'
    refine wp_mono (round j w' hW a' hs) ?_
    intro e a'' w'' hq
    cases e with
    | goto l' => exact ⟨hq.1, by obtain ⟨_, i, h1, h2, _⟩ := hq; exact ⟨i, h1, h2⟩⟩
    | _ => exact hq
  · intro i w hW
    exact WC.seq (WC.skip (WX.seq (round i w hW)))

theorem WX.arrive {ι : Type} {E : ι → Env} {W : ι → World → Prop} (j : ι) (hE : (E j).subB env) (hw : W j w) :
    WX P n ds .normal (.cut fun e a' w' => e = .normal ∧ ∃ j, St n ds (E j) a' ∧ W j w') env w :=
  fun _ ha => ⟨rfl, j, ha.sub hE.get, hw⟩

/-- Two roads that meet. -/
theorem WC.joinK {ι : Type} {x y : Code} (E : ι → Env) (W : ι → World → Prop)
    (h1 : WC P n ds x (.cut fun e a' w' => e = .normal ∧ ∃ j, St n ds (E j) a' ∧ W j w') env w)
    (h2 : ∀ i w, W i w → WC P n ds y k (E i) w) : WC P n ds x (.seq y k) env w := by
  intro a ha
  refine wp_mono (h1 a ha) ?_
  rintro e a' w' ⟨rfl, j, hs, hW⟩
  exact h2 j w' hW a' hs

theorem WX.jumpAgain {ι : Type} {E : ι → Env} {W : ι → World → Prop} {m : ι → Nat} {N : Nat} {l : Nat} (j : ι) (hE : (E j).subB env) (hw : W j w) (hm : m j < N) :
    WX P n ds (.goto l) (.jump l (fun a' w' => ∃ j, St n ds (E j) a' ∧ W j w' ∧ m j < N) k) env w :=
  fun _ ha => ⟨rfl, j, ha.sub hE.get, hw, hm⟩

/-- An operation, run from what is known of the frame, comes to a value and a world with R. -/
def OR (P : Program) (n : Nat) (ds : List Deferred) (o : Oper) (env : Env) (w : World) (R : Value → World → Prop) : Prop :=
  ∀ a, St n ds env a → ∀ (K : Act → World → Prop) (Q : Exit → Act → World → Prop), (∀ v w', R v w' → K (a.put o.dst v) w') →
    o.upon P a K Q ((execOp a.eval o).run P w)

theorem OR.mono {o : Oper} {R R' : Value → World → Prop} (h : OR P n ds o env w R) (hr : ∀ v w', R v w' → R' v w') : OR P n ds o env w R' :=
  fun a ha K Q hK => h a ha K Q fun v w' hR => hK v w' (hr v w' hR)

def dstOk (n : Nat) : Option Nat → Bool
  | some d => Nat.blt d n
  | none => true

section
variable {op : Op} {ty : TypeId} {pos : String} {aft : Array Edge}
theorem WO.step {ops : Array Oper} {l : List Oper} {d : Nat} (hd : Nat.blt d n = true)
    (h : OR P n ds ⟨some d, op, ty, pos, aft, none⟩ env w fun v w' => WO P n ds ops l k ((d, v) :: env) w') : WO P n ds ops (⟨some d, op, ty, pos, aft, none⟩ :: l) k env w := by
  intro a ha
  refine wpList_plain rfl fun K hK => ?_
  exact h a ha K (k.Q P) fun v w' hR => hK _ _ (hR _ (ha.put hd v))
theorem WO.stepN {ops : Array Oper} {l : List Oper}
    (h : OR P n ds ⟨none, op, ty, pos, aft, none⟩ env w fun _ w' => WO P n ds ops l k env w') : WO P n ds ops (⟨none, op, ty, pos, aft, none⟩ :: l) k env w := by
  intro a ha
  refine wpList_plain rfl fun K hK => ?_
  exact h a ha K (k.Q P) fun v w' hR => hK _ _ (hR _ ha)
end
/-- The guard of an operation, told by what is known of the frame. -/
def guardOf (ops : List Oper) (env : Env) (j : Nat) : Option Bool :=
  match ops[j]? with
  | some o => match o.dst with
    | some d => match env.get d with
      | some (.bool b) => some b
      | _ => none
    | none => none
  | none => none

theorem yielded_of {ops : List Oper} (ha : St n ds env a) {j : Nat} {b : Bool} (h : guardOf ops env j = some b)
    (hn : ∀ o d, ops[j]? = some o → o.dst = some d → Nat.blt d n = true) : yielded ops.toArray a.tmps j = some b := by
  unfold guardOf at h
  cases ho : ops[j]? with
  | none => simp [ho] at h
  | some o =>
    cases hd : o.dst with
    | none => simp [ho, hd] at h
    | some d =>
      have hlt : d < n := by simpa [Nat.blt_eq] using hn o d ho hd
      simp only [ho, hd] at h
      split at h
      · rename_i b' hb'
        simp at h
        subst h
        have hget := ha.get d _ hb'
        have hsz : d < a.tmps.size := by rw [ha.sz]; exact hlt
        rw [Array.getD_eq_getD_getElem?, Array.getElem?_eq_getElem hsz] at hget
        simp at hget
        simp [yielded, ho, hd, Array.getElem?_eq_getElem hsz, hget]
      · simp at h

def guardDst (ops : List Oper) (n j : Nat) : Bool :=
  match ops[j]? with
  | some o => dstOk n o.dst
  | none => true

section
variable {op : Op} {ty : TypeId} {pos : String} {aft : Array Edge}
theorem WO.guardYes {ops : List Oper} {l : List Oper} {d j : Nat} {b c : Bool} (hb : guardOf ops env j = some c) (hc : c = b) (hj : guardDst ops n j = true)
    (hd : Nat.blt d n = true) (h : OR P n ds ⟨some d, op, ty, pos, aft, some (j, b)⟩ env w fun v w' => WO P n ds ops.toArray l k ((d, v) :: env) w') :
    WO P n ds ops.toArray (⟨some d, op, ty, pos, aft, some (j, b)⟩ :: l) k env w := by
  subst hc
  intro a ha
  have hy := yielded_of ha hb (by intro o' d h1 h2; simpa [guardDst, h1, h2, dstOk] using hj)
  refine wpList_step fun K hK => ?_
  simp only [Region.wanted, hy, beq_self_eq_true, if_true]
  exact h a ha K (k.Q P) fun v w' hR => hK _ _ (hR _ (ha.put hd v))

theorem WO.guardNo {ops : List Oper} {l : List Oper} {d j : Nat} {b c : Bool} (hb : guardOf ops env j = some c) (hc : c = !b) (hj : guardDst ops n j = true)
    (hd : Nat.blt d n = true) (h : WO P n ds ops.toArray l k ((d, undef) :: env) w) : WO P n ds ops.toArray (⟨some d, op, ty, pos, aft, some (j, b)⟩ :: l) k env w := by
  subst hc
  intro a ha
  have hy := yielded_of ha hb (by intro o' d h1 h2; simpa [guardDst, h1, h2, dstOk] using hj)
  refine wpList_step fun K hK => ?_
  have : (some (!b) == some b) = false := by cases b <;> rfl
  simp only [Region.wanted, hy, this, if_false, Bool.false_eq_true]
  exact hK _ _ (h _ (ha.put hd undef))
end
/-- Both ways of a guard. -/
theorem WO.guardSplit {ops : List Oper} {l : List Oper} {j : Nat} {p : Prop} [Decidable p] (_hb : guardOf ops env j = some (decide p))
    (h1 : p → WO P n ds ops.toArray l k env w) (h2 : ¬p → WO P n ds ops.toArray l k env w) : WO P n ds ops.toArray l k env w := by
  by_cases h : p
  · exact h1 h
  · exact h2 h

/-- The i-th of a list. -/
def nth {α : Type} : List α → Nat → Option α
  | [], _ => none
  | v :: _, 0 => some v
  | _ :: l, i + 1 => nth l i

theorem nth_eq {α : Type} : ∀ (l : List α) (i : Nat), nth l i = l[i]?
  | [], i => by simp [nth]
  | v :: l, 0 => by simp [nth]
  | v :: l, i + 1 => by simp [nth, nth_eq l i]

end Go.Bw
namespace Go.Bw
set_option linter.unusedVariables false
set_option linter.unusedSimpArgs false
/-- A part of memory that stays as it is. -/
abbrev Hp := Nat → Option Obj

def hcell (H : Hp) (a : Addr) : Option Value :=
  match H a.block with
  | some (.cells c _ _) => if a.spot.isSome then none else c[a.off]?
  | _ => none

def Hp.put (H : Hp) (g : Nat) (o : Obj) : Hp := fun b => if b = g then some o else H b

/-- One part lies in another. -/
def Hp.le (H H' : Hp) : Prop := ∀ b o, H b = some o → H' b = some o
theorem Hp.le.refl (H : Hp) : H.le H := fun _ _ h => h
theorem Hp.le.trans {A B C : Hp} (h : A.le B) (k : B.le C) : A.le C := fun b o x => k b o (h b o x)
theorem Hp.le_put {H : Hp} {g : Nat} (h : H g = none) (o : Obj) : H.le (H.put g o) := by
  intro b u hb
  unfold Hp.put
  split
  · rename_i e; subst e; rw [h] at hb; cases hb
  · exact hb
theorem Hp.put_same (H : Hp) (g : Nat) (o : Obj) : H.put g o g = some o := by simp [Hp.put]
theorem hcell.mono {H H' : Hp} (h : H.le H') {a : Addr} {v : Value} (hc : hcell H a = some v) : hcell H' a = some v := by
  unfold hcell at *
  cases hb : H a.block with
  | none => simp [hb] at hc
  | some o => rw [hb] at hc; rw [h _ _ hb]; exact hc
theorem hcell_put {H : Hp} {g i : Nat} {c : Array Value} {e : TypeId} {fr : Nat × Nat} {v : Value} (h : c[i]? = some v) : hcell (H.put g (.cells c e fr)) ⟨g, i, none⟩ = some v := by
  simp [hcell, Hp.put, h]

abbrev Mem := List (Nat × Obj × Bool)
def Mem.keys (M : Mem) : List Nat := M.map (·.1)

/-- From (H0, w0) with the blocks xs writable, one has come to (H, w), knowing the blocks M (true: writable). -/
structure HS (xs : List Nat) (H0 : Hp) (w0 : World) (H : Hp) (M : Mem) (w : World) : Prop where
  le : H0.le H
  sub : ∀ b o, H b = some o → w.heap[b]? = some o
  new : ∀ b o, H b = some o → H0 b = some o ∨ w0.heap.size ≤ b
  keep : ∀ b, b < w0.heap.size → b ∉ xs → w.heap[b]? = w0.heap[b]?
  size : w0.heap.size ≤ w.heap.size
  os : w.os = w0.os
  tape : w.tape = w0.tape
  out : w.output = w0.output
  mem : ∀ g o t, (g, o, t) ∈ M → w.heap[g]? = some o ∧ H g = none ∧ (t = true → g ∈ xs ∨ w0.heap.size ≤ g)
  nd : (Mem.keys M).Nodup

theorem HS.start {H : Hp} {w : World} {M : Mem} (xs : List Nat) (sub : ∀ b o, H b = some o → w.heap[b]? = some o)
    (mem : ∀ g o t, (g, o, t) ∈ M → w.heap[g]? = some o ∧ H g = none ∧ (t = true → g ∈ xs)) (nd : (Mem.keys M).Nodup) : HS xs H w H M w :=
  ⟨.refl H, sub, fun _ _ h => .inl h, fun _ _ _ => rfl, Nat.le_refl _, rfl, rfl, rfl, fun g o t h => ⟨(mem g o t h).1, (mem g o t h).2.1, fun ht => .inl ((mem g o t h).2.2 ht)⟩, nd⟩

theorem lt_of_heap {w : World} {b : Nat} {o : Obj} (h : w.heap[b]? = some o) : b < w.heap.size := (Array.getElem?_eq_some_iff.1 h).1

section
variable {xs : List Nat} {H0 H : Hp} {w0 w : World} {M : Mem}
theorem HS.cell (h : HS xs H0 w0 H M w) {a : Addr} {v : Value} (hc : hcell H a = some v) : w.cell? a = some v := by
  unfold hcell at hc
  unfold World.cell?
  cases hb : H a.block with
  | none => simp [hb] at hc
  | some o => rw [hb] at hc; rw [h.sub _ _ hb]; exact hc

theorem HS.blk (h : HS xs H0 w0 H M w) {i : Nat} {g : Nat} {o : Obj} {t : Bool} (hm : nth M i = some (g, o, t)) : w.heap[g]? = some o :=
  (h.mem g o t (List.mem_of_getElem? (by rw [← nth_eq]; exact hm))).1

theorem HS.cellM (h : HS xs H0 w0 H M w) {i : Nat} {g off : Nat} {c : Array Value} {e : TypeId} {fr : Nat × Nat} {t : Bool} {v : Value} (hm : nth M i = some (g, .cells c e fr, t))
    (hc : nth c.toList off = some v) : w.cell? ⟨g, off, none⟩ = some v := by
  have hb := h.blk hm
  rw [nth_eq] at hc
  simpa [World.cell?, hb] using hc

/-- Blocks of which nothing more need be known. -/
theorem HS.sublist (h : HS xs H0 w0 H M w) {M' : Mem} (hs : M'.Sublist M) : HS xs H0 w0 H M' w :=
  ⟨h.le, h.sub, h.new, h.keep, h.size, h.os, h.tape, h.out, fun g o t hm => h.mem g o t (hs.subset hm), (hs.map _).nodup h.nd⟩

theorem HS.right {Mx : Mem} (h : HS xs H0 w0 H (Mx ++ M) w) : HS xs H0 w0 H M w := h.sublist (List.sublist_append_right Mx M)

theorem HS.perm (h : HS xs H0 w0 H M w) {M' : Mem} (hs : M'.Perm M) : HS xs H0 w0 H M' w :=
  ⟨h.le, h.sub, h.new, h.keep, h.size, h.os, h.tape, h.out, fun g o t hm => h.mem g o t (hs.subset hm), (hs.map _).nodup_iff.2 h.nd⟩

theorem HS.drop (h : HS xs H0 w0 H M w) (i : Nat) : HS xs H0 w0 H (M.eraseIdx i) w := h.sublist (List.eraseIdx_sublist M i)

theorem front_perm : ∀ (M : Mem) (i : Nat) (hi : i < M.length), (M[i] :: M.eraseIdx i).Perm M
  | [], i, hi => by simp at hi
  | p :: M, 0, _ => by simp
  | p :: M, i + 1, hi => by
    have ih := front_perm M i (by simpa using hi)
    simp only [List.getElem_cons_succ, List.eraseIdx_cons_succ]
    exact (List.Perm.swap _ _ _).trans (ih.cons p)

def dropAt {α : Type} : List α → Nat → List α
  | [], _ => []
  | _ :: l, 0 => l
  | v :: l, i + 1 => v :: dropAt l i
theorem dropAt_eq {α : Type} : ∀ (l : List α) (i : Nat), dropAt l i = l.eraseIdx i
  | [], i => by simp [dropAt]
  | v :: l, 0 => by simp [dropAt]
  | v :: l, i + 1 => by simp [dropAt, dropAt_eq l i]

/-- The i-th block comes first. -/
theorem HS.front (h : HS xs H0 w0 H M w) {i : Nat} {p : Nat × Obj × Bool} (hm : nth M i = some p) : HS xs H0 w0 H (p :: dropAt M i) w := by
  rw [nth_eq] at hm
  rw [dropAt_eq]
  have hi : i < M.length := (List.getElem?_eq_some_iff.1 hm).1
  have : p = M[i] := by rw [List.getElem?_eq_getElem hi] at hm; exact (Option.some.inj hm).symm
  subst this
  exact h.perm (front_perm M i hi)

/-- The first block stays from now on. -/
theorem HS.publish {g : Nat} {o : Obj} {t : Bool} (h : HS xs H0 w0 H ((g, o, t) :: M) w) (hg : w0.heap.size ≤ g) : HS xs H0 w0 (H.put g o) M w := by
  have h0 := h.mem g o t (by simp)
  refine ⟨h.le.trans (Hp.le_put h0.2.1 o), ?_, ?_, h.keep, h.size, h.os, h.tape, h.out, ?_, (List.nodup_cons.1 h.nd).2⟩
  · intro b u hb
    unfold Hp.put at hb
    split at hb
    · rename_i e; subst e; rw [← hb]; exact h0.1
    · exact h.sub b u hb
  · intro b u hb
    unfold Hp.put at hb
    split at hb
    · rename_i e; subst e; exact .inr hg
    · exact h.new b u hb
  · intro g' o' t' hm
    have h1 := h.mem g' o' t' (by simp [hm])
    refine ⟨h1.1, ?_, h1.2.2⟩
    unfold Hp.put
    split
    · rename_i e
      subst e
      exact absurd (List.mem_map.2 ⟨_, hm, rfl⟩ : g' ∈ Mem.keys M) (List.nodup_cons.1 h.nd).1
    · exact h1.2.1

/-- A new block. -/
theorem HS.alloc (h : HS xs H0 w0 H M w) (o : Obj) : HS xs H0 w0 H ((w.heap.size, o, true) :: M) (w.alloc o) := by
  have hold : ∀ (b : Nat) (u : Obj), w.heap[b]? = some u → (w.alloc o).heap[b]? = some u := by
    intro b u hb
    rw [heap_alloc_old w o (lt_of_heap hb)]; exact hb
  have hfr : H w.heap.size = none := by
    cases hh : H w.heap.size with
    | none => rfl
    | some u => exact absurd (lt_of_heap (h.sub _ _ hh)) (Nat.lt_irrefl _)
  refine ⟨h.le, fun b u hb => hold b u (h.sub b u hb), h.new, ?_, Nat.le_trans h.size (by simp), h.os, h.tape, h.out, ?_, ?_⟩
  · intro b hb hx
    rw [← h.keep b hb hx]
    exact heap_alloc_old w o (by have := h.size; omega)
  · intro g u t hm
    rcases List.mem_cons.1 hm with e | hm
    · cases e
      exact ⟨heap_alloc_new w o, hfr, fun _ => .inr h.size⟩
    · have h1 := h.mem g u t hm
      exact ⟨hold g u h1.1, h1.2⟩
  · refine List.nodup_cons.2 ⟨?_, h.nd⟩
    intro hm
    obtain ⟨⟨g, u, t⟩, h1, h2⟩ := List.mem_map.1 hm
    have h3 := h.mem g u t h1
    have := lt_of_heap h3.1
    simp at h2
    omega

theorem HS.drew (h : HS xs H0 w0 H M w) : HS xs H0 w0 H M w.drew :=
  ⟨h.le, h.sub, h.new, h.keep, h.size, h.os, h.tape, h.out, h.mem, h.nd⟩

/-- The block that comes first is written. -/
theorem HS.write {g : Nat} {o : Obj} (h : HS xs H0 w0 H ((g, o, true) :: M) w) (o' : Obj) {w' : World} (hw : w'.heap = w.heap.setIfInBounds g o')
    (h1 : w'.os = w.os) (h2 : w'.tape = w.tape) (h3 : w'.output = w.output) : HS xs H0 w0 H ((g, o', true) :: M) w' := by
  have h0 := h.mem g o true (by simp)
  have hlt := lt_of_heap h0.1
  have other : ∀ b, b ≠ g → w'.heap[b]? = w.heap[b]? := by
    intro b hb
    rw [hw, Array.getElem?_setIfInBounds]
    simp [Ne.symm hb]
  refine ⟨h.le, ?_, h.new, ?_, by rw [hw]; simpa using h.size, h1.trans h.os, h2.trans h.tape, h3.trans h.out, ?_, h.nd⟩
  · intro b u hb
    have : b ≠ g := fun e => by subst e; rw [h0.2.1] at hb; cases hb
    rw [other b this]; exact h.sub b u hb
  · intro b hb hx
    have : b ≠ g := by
      intro e
      subst e
      rcases h0.2.2 rfl with h4 | h4
      · exact hx h4
      · omega
    rw [other b this]; exact h.keep b hb hx
  · intro g' u t hm
    rcases List.mem_cons.1 hm with e | hm
    · cases e
      exact ⟨by rw [hw, Array.getElem?_setIfInBounds]; simp [hlt], h0.2.1, h0.2.2⟩
    · have hne : g' ≠ g := by
        intro e
        rw [e] at hm
        exact (List.nodup_cons.1 h.nd).1 (List.mem_map.2 ⟨_, hm, rfl⟩)
      have h5 := h.mem g' u t (by simp [hm])
      exact ⟨by rw [other g' hne]; exact h5.1, h5.2⟩

/-- A call from (H, w) in which xs' may change has come to (H', w') with M'. -/
theorem HS.after (h : HS xs H0 w0 H M w) {xs' : List Nat} {H' : Hp} {M' : Mem} {w' : World} (k : HS xs' H w H' M' w')
    {Mx Mr : Mem} (hM : M = Mx ++ Mr) (hx : Mem.keys Mx = xs') (ht : ∀ p ∈ Mx, p.2.2 = true) (ht' : ∀ p ∈ M', p.2.2 = true) : HS xs H0 w0 H' (M' ++ Mr) w' := by
  subst hM
  have hxs : ∀ b, b ∈ xs' → b < w.heap.size ∧ (b ∈ xs ∨ w0.heap.size ≤ b) ∧ H b = none := by
    intro b hb
    rw [← hx] at hb
    obtain ⟨⟨g, u, t⟩, h1, h2⟩ := List.mem_map.1 hb
    simp at h2
    subst h2
    have h3 := h.mem g u t (by simp [h1])
    exact ⟨lt_of_heap h3.1, h3.2.2 (by simpa using ht _ h1), h3.2.1⟩
  have hdis : ∀ g u t, (g, u, t) ∈ Mr → g ∉ xs' := by
    intro g u t hm hb
    rw [← hx] at hb
    have := h.nd
    simp only [Mem.keys, List.map_append, List.nodup_append] at this
    exact this.2.2 g hb g (List.mem_map.2 ⟨_, hm, rfl⟩) rfl
  refine ⟨h.le.trans k.le, k.sub, ?_, ?_, Nat.le_trans h.size k.size, k.os.trans h.os, k.tape.trans h.tape, k.out.trans h.out, ?_, ?_⟩
  · intro b o hb
    rcases k.new b o hb with h1 | h1
    · exact h.new b o h1
    · exact .inr (Nat.le_trans h.size h1)
  · intro b hb hbx
    rw [← h.keep b hb hbx]
    refine k.keep b (Nat.lt_of_lt_of_le hb h.size) ?_
    intro hb'
    rcases (hxs b hb').2.1 with h1 | h1
    · exact hbx h1
    · omega
  · intro g o t hm
    rcases List.mem_append.1 hm with hm | hm
    · have h1 := k.mem g o t hm
      refine ⟨h1.1, h1.2.1, fun e => ?_⟩
      rcases h1.2.2 e with h2 | h2
      · exact (hxs g h2).2.1
      · exact .inr (Nat.le_trans h.size h2)
    · have h1 := h.mem g o t (by simp [hm])
      have hlt := lt_of_heap h1.1
      refine ⟨?_, ?_, h1.2.2⟩
      · rw [k.keep g hlt (hdis g o t hm)]; exact h1.1
      · cases hh : H' g with
        | none => rfl
        | some u =>
          rcases k.new g u hh with h2 | h2
          · rw [h1.2.1] at h2; cases h2
          · omega
  · simp only [Mem.keys, List.map_append, List.nodup_append]
    refine ⟨k.nd, ?_, ?_⟩
    · have := h.nd
      simp only [Mem.keys, List.map_append, List.nodup_append] at this
      exact this.2.1
    · intro a ha b hb e
      subst e
      obtain ⟨⟨g, u, t⟩, h1, h2⟩ := List.mem_map.1 ha
      obtain ⟨⟨g', u', t'⟩, h1', h2'⟩ := List.mem_map.1 hb
      simp at h2 h2'
      have h3 := k.mem g u t h1
      have h4 := h.mem g' u' t' (by simp [h1'])
      rw [h2] at h3
      rw [h2'] at h4
      rcases h3.2.2 (by simpa using ht' _ h1) with h5 | h5
      · exact hdis g' u' t' h1' (by rw [h2']; exact h5)
      · have := lt_of_heap h4.1; omega
end
/-- How a call ends: it returns; memory as HS says. -/
def Ret (xs : List Nat) (H : Hp) (w : World) (R : Value → Hp → Mem → Prop) : Ending → World → Prop :=
  fun e w' => ∃ v H' M', e = .returned v ∧ HS xs H w H' M' w' ∧ (∀ p ∈ M', p.2.2 = true) ∧ R v H' M'

/-- A call that makes new memory and changes nothing. -/
def Pure (H : Hp) (w : World) (R : Value → Hp → Prop) : Ending → World → Prop :=
  Ret [] H w fun v H' M' => M' = [] ∧ R v H'

end Go.Bw
namespace Go.Bw
set_option linter.unusedVariables false
set_option linter.unusedSimpArgs false
variable {P : Program} {n : Nat} {ds : List Deferred} {env : Env} {w : World}
variable {dst : Option Nat} {ty : TypeId} {pos : String} {aft : Array Edge} {gd : Option (Nat × Bool)} {R : Value → World → Prop}
theorem OR.run {o : Oper} {v : Value} {w' : World} (h : ∀ a, St n ds env a → (execOp a.eval o).run P w = .ok (.value v) w') (hR : R v w') : OR P n ds o env w R :=
  fun a ha K Q hK => by rw [h a ha]; exact hK v w' hR
theorem OR.runU {o : Oper} {w' : World} (h : ∀ a, St n ds env a → (execOp a.eval o).run P w = .ok .skip w') (hR : R undef w') : OR P n ds o env w R :=
  fun a ha K Q hK => by rw [h a ha]; exact hK undef w' hR
theorem OR.enter {o : Oper} {f : FuncId} {args : Array Value} {w' : World} {C : Ending → World → Prop} (h : ∀ a, St n ds env a → (execOp a.eval o).run P w = .ok (.enter f args) w')
    (hc : Calls P f args w' C) (hR : ∀ e w'', C e w'' → ∃ v, e = .returned v ∧ R v w'') : OR P n ds o env w R := by
  intro a ha K Q hK
  rw [h a ha]
  refine hc.mono ?_
  intro e w'' hC
  obtain ⟨v, rfl, hv⟩ := hR e w'' hC
  exact hK v w'' hv

section
variable {x y z : Operand} {v u : Value}
theorem OR.move (hx : look env x = some v) (hR : R v w) : OR P n ds ⟨dst, .move x, ty, pos, aft, gd⟩ env w R :=
  .run (fun a ha => by simp [execOp, ha.look hx]) hR
theorem OR.assign (hx : look env x = some v) (hR : R v w) : OR P n ds ⟨dst, .assign x, ty, pos, aft, gd⟩ env w R :=
  .run (fun a ha => by simp [execOp, ha.look hx]) hR

variable {k : IntKind} {i j : Int} {tx tyy : TypeId}
theorem run_guard_int (op : BinOp) (t : TypeId) (x y : Operand) (k k' : IntKind) (a b : Int) (w : World) : (eqGuard op t x y (.int k a) (.int k' b)).run P w = .ok () w := by
  unfold eqGuard
  split <;> simp

theorem OR.add (hx : look env x = some (.int k i)) (hy : look env y = some (.int k j)) (hR : R (.int k (k.wrap (i + j))) w) :
    OR P n ds ⟨dst, .binOp .add tx x y tyy, ty, pos, aft, gd⟩ env w R :=
  .run (fun a ha => by simp [execOp, ha.look hx, ha.look hy, run_guard_int, binOp, Op.intArith]) hR
theorem OR.sub (hx : look env x = some (.int k i)) (hy : look env y = some (.int k j)) (hR : R (.int k (k.wrap (i - j))) w) :
    OR P n ds ⟨dst, .binOp .sub tx x y tyy, ty, pos, aft, gd⟩ env w R :=
  .run (fun a ha => by simp [execOp, ha.look hx, ha.look hy, run_guard_int, binOp, Op.intArith]) hR
theorem OR.mul (hx : look env x = some (.int k i)) (hy : look env y = some (.int k j)) (hR : R (.int k (k.wrap (i * j))) w) :
    OR P n ds ⟨dst, .binOp .mul tx x y tyy, ty, pos, aft, gd⟩ env w R :=
  .run (fun a ha => by simp [execOp, ha.look hx, ha.look hy, run_guard_int, binOp, Op.intArith]) hR

theorem wrap_i64 {c : Int} (h1 : -9223372036854775808 ≤ c) (h2 : c ≤ 9223372036854775807) : IntKind.i64.wrap c = c := IntWalk.i64_in _ ⟨h1, h2⟩

/-- Sums of int that stay in range. -/
theorem OR.addI (hx : look env x = some (.int .i64 i)) (hy : look env y = some (.int .i64 j)) (h1 : -9223372036854775808 ≤ i + j) (h2 : i + j ≤ 9223372036854775807)
    (hR : R (.int .i64 (i + j)) w) : OR P n ds ⟨dst, .binOp .add tx x y tyy, ty, pos, aft, gd⟩ env w R :=
  .add hx hy (by rw [wrap_i64 h1 h2]; exact hR)
theorem OR.subI (hx : look env x = some (.int .i64 i)) (hy : look env y = some (.int .i64 j)) (h1 : -9223372036854775808 ≤ i - j) (h2 : i - j ≤ 9223372036854775807)
    (hR : R (.int .i64 (i - j)) w) : OR P n ds ⟨dst, .binOp .sub tx x y tyy, ty, pos, aft, gd⟩ env w R :=
  .sub hx hy (by rw [wrap_i64 h1 h2]; exact hR)
theorem OR.mulI (hx : look env x = some (.int .i64 i)) (hy : look env y = some (.int .i64 j)) (h1 : -9223372036854775808 ≤ i * j) (h2 : i * j ≤ 9223372036854775807)
    (hR : R (.int .i64 (i * j)) w) : OR P n ds ⟨dst, .binOp .mul tx x y tyy, ty, pos, aft, gd⟩ env w R :=
  .mul hx hy (by rw [wrap_i64 h1 h2]; exact hR)

theorem OR.rem (hx : look env x = some (.int k i)) (hy : look env y = some (.int k j)) (h0 : j ≠ 0) (hR : R (.int k (i.tmod j)) w) :
    OR P n ds ⟨dst, .binOp .rem tx x y tyy, ty, pos, aft, gd⟩ env w R :=
  .run (fun a ha => by simp [execOp, ha.look hx, ha.look hy, run_guard_int, binOp, Op.intDiv, h0]) hR
theorem OR.xor (hx : look env x = some (.int k i)) (hy : look env y = some (.int k j)) (hR : R (.int k (k.wrap ((BitVec.ofInt k.bits i ^^^ BitVec.ofInt k.bits j).toNat))) w) :
    OR P n ds ⟨dst, .binOp .xor tx x y tyy, ty, pos, aft, gd⟩ env w R :=
  .run (fun a ha => by simp [execOp, ha.look hx, ha.look hy, run_guard_int, binOp, Op.intBits]) hR
theorem OR.shl {k' : IntKind} (hx : look env x = some (.int k i)) (hy : look env y = some (.int k' j)) (h0 : 0 ≤ j) (hR : R (.int k (k.wrap (i * 2 ^ (min j.toNat k.bits)))) w) :
    OR P n ds ⟨dst, .binOp .shl tx x y tyy, ty, pos, aft, gd⟩ env w R :=
  .run (fun a ha => by simp [execOp, ha.look hx, ha.look hy, run_guard_int, binOp, Op.shift, Int.not_lt.2 h0]) hR
theorem OR.shr {k' : IntKind} (hx : look env x = some (.int k i)) (hy : look env y = some (.int k' j)) (h0 : 0 ≤ j) (hR : R (.int k (i.fdiv (2 ^ (min j.toNat k.bits)))) w) :
    OR P n ds ⟨dst, .binOp .shr tx x y tyy, ty, pos, aft, gd⟩ env w R :=
  .run (fun a ha => by simp [execOp, ha.look hx, ha.look hy, run_guard_int, binOp, Op.shift, Int.not_lt.2 h0]) hR

theorem OR.eql (hx : look env x = some (.int k i)) (hy : look env y = some (.int k j)) (hR : R (.bool (decide (i = j))) w) :
    OR P n ds ⟨dst, .binOp .eql tx x y tyy, ty, pos, aft, gd⟩ env w R :=
  .run (v := .bool (i == j)) (w' := w) (fun a ha => by simp [execOp, ha.look hx, ha.look hy, run_guard_int, binOp, Op.intCmp]) (by rw [show (i == j) = decide (i = j) from rfl]; exact hR)
theorem OR.neq (hx : look env x = some (.int k i)) (hy : look env y = some (.int k j)) (hR : R (.bool (decide (i ≠ j))) w) :
    OR P n ds ⟨dst, .binOp .neq tx x y tyy, ty, pos, aft, gd⟩ env w R :=
  .run (v := .bool (i != j)) (w' := w) (fun a ha => by simp [execOp, ha.look hx, ha.look hy, run_guard_int, binOp, Op.intCmp])
    (by rw [show (i != j) = decide (i ≠ j) from by rw [decide_not]; rfl]; exact hR)
theorem OR.lss (hx : look env x = some (.int k i)) (hy : look env y = some (.int k j)) (hR : R (.bool (decide (i < j))) w) :
    OR P n ds ⟨dst, .binOp .lss tx x y tyy, ty, pos, aft, gd⟩ env w R :=
  .run (fun a ha => by simp [execOp, ha.look hx, ha.look hy, run_guard_int, binOp, Op.intCmp]) hR
theorem OR.leq (hx : look env x = some (.int k i)) (hy : look env y = some (.int k j)) (hR : R (.bool (decide (i ≤ j))) w) :
    OR P n ds ⟨dst, .binOp .leq tx x y tyy, ty, pos, aft, gd⟩ env w R :=
  .run (fun a ha => by simp [execOp, ha.look hx, ha.look hy, run_guard_int, binOp, Op.intCmp]) hR
theorem OR.gtr (hx : look env x = some (.int k i)) (hy : look env y = some (.int k j)) (hR : R (.bool (decide (i > j))) w) :
    OR P n ds ⟨dst, .binOp .gtr tx x y tyy, ty, pos, aft, gd⟩ env w R :=
  .run (fun a ha => by simp [execOp, ha.look hx, ha.look hy, run_guard_int, binOp, Op.intCmp]) hR
theorem OR.geq (hx : look env x = some (.int k i)) (hy : look env y = some (.int k j)) (hR : R (.bool (decide (i ≥ j))) w) :
    OR P n ds ⟨dst, .binOp .geq tx x y tyy, ty, pos, aft, gd⟩ env w R :=
  .run (fun a ha => by simp [execOp, ha.look hx, ha.look hy, run_guard_int, binOp, Op.intCmp]) hR

theorem OR.not {b : Bool} (hx : look env x = some (.bool b)) (hR : R (.bool (!b)) w) : OR P n ds ⟨dst, .unOp .not tx x, ty, pos, aft, gd⟩ env w R :=
  .run (fun a ha => by simp [execOp, ha.look hx, Op.unary]) hR

theorem OR.pickT {b : Bool} (hc : look env z = some (.bool b)) (hb : b = true) (hx : look env x = some v) (hR : R v w) : OR P n ds ⟨dst, .pick z x y, ty, pos, aft, gd⟩ env w R :=
  .run (fun a ha => by simp [execOp, ha.look hc, ha.look hx, asBool, hb]) hR
theorem OR.pickF {b : Bool} (hc : look env z = some (.bool b)) (hb : b = false) (hy : look env y = some v) (hR : R v w) : OR P n ds ⟨dst, .pick z x y, ty, pos, aft, gd⟩ env w R :=
  .run (fun a ha => by simp [execOp, ha.look hc, ha.look hy, asBool, hb]) hR

theorem OR.extract {vs : Array Value} {m : Nat} (hx : look env x = some (.tuple vs)) (hm : nth vs.toList m = some v) (hR : R v w) : OR P n ds ⟨dst, .extract x m, ty, pos, aft, gd⟩ env w R :=
  .run (fun a ha => by rw [nth_eq, Array.getElem?_toList] at hm; simp [execOp, ha.look hx, Instr.extract, hm]) hR

theorem OR.nilCheck {ad : Addr} (hx : look env x = some (.pointer (some ad))) (hR : R (.pointer (some ad)) w) : OR P n ds ⟨dst, .nilCheck x, ty, pos, aft, gd⟩ env w R :=
  .run (fun a ha => by simp [execOp, ha.look hx]) hR

theorem OR.makeFunc {fn : Fn} {first cap : List Operand} {vf vc : List Value} (hf : lookAll env first = some vf) (hc : lookAll env cap = some vc) (hR : R (.func fn vf.toArray vc.toArray) w) :
    OR P n ds ⟨dst, .makeFunc fn first.toArray cap.toArray, ty, pos, aft, gd⟩ env w R :=
  .run (fun a ha => by simp [execOp, Instr.makeFunc, List.map_toArray, ha.lookAll _ _ hf, ha.lookAll _ _ hc]) hR
end
structure TI (P : Program) (t : TypeId) (d : TypeDesc) (sz by_ : Nat) (z : Value) : Prop where
  und : P.underlying t = some d
  inf : ∃ i, P.info? t = some i ∧ i.size = sz ∧ i.bytes = by_ ∧ i.zero = some z

theorem TI.of {t : TypeId} {d : TypeDesc} {sz by_ : Nat} {z : Value} (h1 : P.underlying t = some d)
    (h2 : (P.info? t).map (fun i => (i.size, i.bytes, i.zero)) = some (sz, by_, some z)) : TI P t d sz by_ z := by
  refine ⟨h1, ?_⟩
  cases hi : P.info? t with
  | none => simp [hi] at h2
  | some i => simp [hi] at h2; exact ⟨i, rfl, h2.1, h2.2.1, h2.2.2⟩

theorem TI.run_size {t : TypeId} {d : TypeDesc} {sz by_ : Nat} {z : Value} (h : TI P t d sz by_ z) (w : World) : (sizeOf t).run P w = .ok sz w := by
  obtain ⟨i, h1, h2, _⟩ := h.inf
  simp [sizeOf, typeInfo, h1, h2]
theorem TI.run_zero {t : TypeId} {d : TypeDesc} {sz by_ : Nat} {z : Value} (h : TI P t d sz by_ z) (w : World) : (zeroValue t).run P w = .ok z w := by
  obtain ⟨i, h1, _, _, h2⟩ := h.inf
  simp [zeroValue, typeInfo, h1, h2]

def isAggD : TypeDesc → Bool
  | .struct _ | .array _ _ => true
  | _ => false

theorem TI.run_agg {t : TypeId} {d : TypeDesc} {sz by_ : Nat} {z : Value} (h : TI P t d sz by_ z) (w : World) : (isAgg t).run P w = .ok (isAggD d) w := by
  unfold isAgg
  simp only [Sem.run_bind, run_underlying h.und, Result.andThen_ok]
  cases d <;> simp [isAggD]

theorem add_off (b o i : Nat) : (⟨b, o, none⟩ : Addr).add i = ⟨b, o + i, none⟩ := by
  unfold Addr.add
  split <;> simp_all

section
variable {x y : Operand} {v u : Value} {t : TypeId} {d : TypeDesc} {sz by_ : Nat} {z : Value} {ad : Addr}
theorem OR.load (ht : TI P t d sz by_ z) (hd : isAggD d = false) (hx : look env x = some (.pointer (some ad))) (hc : w.cell? ad = some v) (hR : R v w) :
    OR P n ds ⟨dst, .load t x, ty, pos, aft, gd⟩ env w R :=
  .run (fun a ha => by simp [execOp, ha.look hx, Instr.loadAt, Instr.sureAddr, loadVar, ht.run_agg, hd, hc]) hR

theorem OR.loadN {cs : List Value} (ht : TI P t d sz by_ z) (hd : isAggD d = true) (hx : look env x = some (.pointer (some ad))) (hl : cs.length = sz)
    (hc : ∀ j u, cs[j]? = some u → w.cell? (ad.add j) = some u) (hR : R (.agg cs.toArray) w) :
    OR P n ds ⟨dst, .load t x, ty, pos, aft, gd⟩ env w R := by
  subst hl
  exact .run (fun a ha => by simp [execOp, ha.look hx, Instr.loadAt, Instr.sureAddr, loadVar, ht.run_agg, hd, ht.run_size, run_loadCells_list w ad cs hc]) hR

/-- A field's address. -/
def FA (P : Program) (s : TypeId) (f off : Nat) : Prop := ∀ (ad : Addr) (w : World), (Instr.fieldAt s (.pointer (some ad)) f).run P w = .ok (.pointer (some (ad.add off))) w
theorem FA.of {s : TypeId} {f off : Nat} {fs : Array Field} {g : Field} (hs : P.underlying s = some (.struct fs)) (hf : fs[f]? = some g) (ho : g.offset = off)
    (hz : (P.info? g.type).map (fun i => Nat.beq i.size 0) = some false) : FA P s f off := by
  intro ad w
  cases hi : P.info? g.type with
  | none => simp [hi] at hz
  | some i =>
    have h0 : i.size ≠ 0 := by
      intro e
      simp [hi, e] at hz
    simp [Instr.fieldAt, run_underlying hs, hf, Instr.sureAddr, fieldPlace, sizeOf, typeInfo, hi, h0, ho]
theorem OR.fieldAddr {s : TypeId} {f off b o : Nat} (hs : FA P s f off) (hx : look env x = some (.pointer (some ⟨b, o, none⟩))) (hR : R (.pointer (some ⟨b, o + off, none⟩)) w) :
    OR P n ds ⟨dst, .fieldAddr s x f, ty, pos, aft, gd⟩ env w R :=
  .run (fun a ha => by simp [execOp, ha.look hx, hs _ w, add_off]) hR

theorem OR.fieldN {s : TypeId} {f : Nat} {fs : Array Field} {g : Field} {cs : Array Value} (hs : P.underlying s = some (.struct fs)) (hf : fs[f]? = some g)
    (ht : TI P g.type d sz by_ z) (hd : isAggD d = true) (hx : look env x = some (.agg cs)) (hR : R (.agg (cs.extract g.offset (g.offset + sz))) w) :
    OR P n ds ⟨dst, .field s x f, ty, pos, aft, gd⟩ env w R :=
  .run (fun a ha => by simp [execOp, ha.look hx, Instr.field, run_underlying hs, hf, part, ht.run_agg, hd, asAgg, ht.run_size]) hR

/-- An element's address. -/
theorem OR.idxN (m : Nat) {e : TypeId} {k : IntKind} {i : Int} {b o len cap : Nat} (ht : P.underlying t = some (.slice e)) (he : TI P e d sz by_ z)
    (hx : look env x = some (.slice (some ⟨b, o, none⟩) len cap)) (hy : look env y = some (.int k i)) (hi : i = (m : Int)) (h1 : m < len) (hR : R (.pointer (some ⟨b, o + m * sz, none⟩)) w) :
    OR P n ds ⟨dst, .indexAddr t x y, ty, pos, aft, gd⟩ env w R := by
  subst hi
  exact .run (fun a ha => by simp [execOp, ha.look hx, ha.look hy, Instr.indexAt, asIntOf, run_underlying ht, he.run_size, h1, add_off]) hR
theorem OR.idx (m : Nat) {e : TypeId} {k : IntKind} {i : Int} {b o len cap : Nat} (ht : P.underlying t = some (.slice e)) (he : TI P e d 1 by_ z)
    (hx : look env x = some (.slice (some ⟨b, o, none⟩) len cap)) (hy : look env y = some (.int k i)) (hi : i = (m : Int)) (h1 : m < len) (hR : R (.pointer (some ⟨b, o + m, none⟩)) w) :
    OR P n ds ⟨dst, .indexAddr t x y, ty, pos, aft, gd⟩ env w R :=
  .idxN m ht he hx hy hi h1 (by rw [Nat.mul_one]; exact hR)
theorem OR.idxArr (m : Nat) {e : TypeId} {k : IntKind} {i : Int} {b o len : Nat} (ht : P.underlying t = some (.array len e)) (he : TI P e d 1 by_ z)
    (hx : look env x = some (.pointer (some ⟨b, o, none⟩))) (hy : look env y = some (.int k i)) (hi : i = (m : Int)) (h1 : m < len) (hR : R (.pointer (some ⟨b, o + m, none⟩)) w) :
    OR P n ds ⟨dst, .indexAddr t x y, ty, pos, aft, gd⟩ env w R := by
  subst hi
  exact .run (fun a ha => by simp [execOp, ha.look hx, ha.look hy, Instr.indexAt, Instr.sureAddr, asIntOf, run_underlying ht, he.run_size, h1, add_off]) hR
theorem OR.index1 {e : TypeId} {k : IntKind} {i : Int} {len : Nat} {cs : Array Value} (ht : P.underlying t = some (.array len e)) (he : TI P e d 1 by_ z) (hd : isAggD d = false)
    (hx : look env x = some (.agg cs)) (hy : look env y = some (.int k i)) (h0 : 0 ≤ i) (h1 : i < len) (hv : cs[i.toNat]? = some v) (hR : R v w) :
    OR P n ds ⟨dst, .index t x y, ty, pos, aft, gd⟩ env w R :=
  .run (fun a ha => by simp [execOp, ha.look hx, ha.look hy, Instr.index, asIntOf, run_underlying ht, he.run_size, h0, h1, part, he.run_agg, hd, hv]) hR

theorem fill_sized {place : Nat → Option (Nat × Nat)} {i : Nat} {v : Value} {rest : List (Nat × Value)} {cs : Array Value} {off sz : Nat} (hp : place i = some (off, sz)) (hv : v.cells.size = sz)
    (hc : off + sz ≤ cs.size) : Instr.fill place cs ((i, v) :: rest) = Instr.fill place (v.cells.zipIdx.foldl (fun cs (c, j) => cs.setIfInBounds (off + j) c) cs) rest := by
  simp [Instr.fill, hp, hv]
  omega

theorem OR.build {parts : List (Nat × Operand)} {vs : List Value} {cs : Array Value} (hv : lookAll env (parts.map (·.2)) = some vs)
    (hb : ∀ w : World, (Instr.build t ((parts.map (·.1)).zip vs).toArray).run P w = .ok (.agg cs) w) (hR : R (.agg cs) w) :
    OR P n ds ⟨dst, .build t parts.toArray, ty, pos, aft, gd⟩ env w R :=
  .run (fun a ha => by
    have h1 := ha.lookAll _ _ hv
    have h2 : parts.map (fun p => (p.1, a.eval p.2)) = (parts.map (·.1)).zip vs := by
      rw [← h1]
      clear hv h1 hb
      induction parts with
      | nil => rfl
      | cons p l ih => simp [ih]
    simp [execOp, List.map_toArray, h2, hb w]) hR
end
section
variable {xs : List Nat} {H0 H : Hp} {w0 : World} {M : Mem}
variable {x y : Operand} {v u : Value} {t : TypeId} {d : TypeDesc} {sz by_ : Nat} {z : Value} {ad : Addr}
theorem OR.box (hs : HS xs H0 w0 H M w) (hx : look env x = some v)
    (hR : ∀ g w', w0.heap.size ≤ g → HS xs H0 w0 H ((g, .cells v.cells t, true) :: M) w' → R (.pointer (some ⟨g, 0, none⟩)) w') :
    OR P n ds ⟨dst, .box t x, ty, pos, aft, gd⟩ env w R :=
  .run (v := .pointer (some ⟨w.heap.size, 0, none⟩)) (w' := w.alloc (.cells v.cells t))
    (fun a ha => by simp [execOp, ha.look hx, Instr.box, newVar, newRow, newObj, Sem.run]) (hR _ _ hs.size (hs.alloc _))

theorem OR.alloc (hs : HS xs H0 w0 H M w) (ht : TI P t d sz by_ z)
    (hR : ∀ g w', w0.heap.size ≤ g → HS xs H0 w0 H ((g, .cells z.cells t, true) :: M) w' → R (.pointer (some ⟨g, 0, none⟩)) w') :
    OR P n ds ⟨dst, .alloc t, ty, pos, aft, gd⟩ env w R :=
  .run (v := .pointer (some ⟨w.heap.size, 0, none⟩)) (w' := w.alloc (.cells z.cells t))
    (fun a ha => by simp [execOp, Instr.alloc, ht.run_zero, newVar, newRow, newObj, Sem.run]) (hR _ _ hs.size (hs.alloc _))

/-- Cells of a block from a place on, changed. -/
def setFrom (c : Array Value) (o : Nat) : List Value → Array Value
  | [] => c
  | v :: vs => setFrom (c.setIfInBounds o v) (o + 1) vs

theorem setFrom_size : ∀ (vs : List Value) (c : Array Value) (o : Nat), (setFrom c o vs).size = c.size
  | [], c, o => rfl
  | v :: vs, c, o => by simp [setFrom, setFrom_size vs]

theorem run_storeCells_in (g : Nat) (e : TypeId) : ∀ (vs : List Value) (c : Array Value) (o i : Nat) (w : World), w.heap[g]? = some (.cells c e (0, 0)) → o + i + vs.length ≤ c.size →
    (∀ v ∈ vs, v.oneCell' = true) → ∃ w', (storeCells ⟨g, o, none⟩ vs i).run P w = .ok () w' ∧ w'.heap = w.heap.setIfInBounds g (.cells (setFrom c (o + i) vs) e (0, 0)) ∧ w'.os = w.os ∧ w'.tape = w.tape ∧ w'.output = w.output
  | [], c, o, i, w, hg, _, _ => by
    refine ⟨w, by simp [storeCells], ?_, rfl, rfl, rfl⟩
    have hlt := lt_of_heap hg
    apply Array.ext_getElem?
    intro b
    rw [Array.getElem?_setIfInBounds]
    by_cases e : g = b
    · subst e; rw [hg]; simp [hlt, setFrom]
    · simp [e]
  | v :: vs, c, o, i, w, hg, hl, h1 => by
    have hv := h1 v (by simp)
    have hlt := lt_of_heap hg
    simp only [List.length_cons] at hl
    have hcell : w.cell? ⟨g, o + i, none⟩ = some (c[o + i]'(by omega)) := by simp [World.cell?, hg, show o + i < c.size from by omega]
    have hfr : w.frozen? ⟨g, o + i, none⟩ = false := by simp [World.frozen?, hg]
    have hst : (store ((⟨g, o, none⟩ : Addr).add i) v).run P w = .ok () (w.setCell ⟨g, o + i, none⟩ v) := by
      rw [run_store P w _ v _ hv, add_off]
      simp [stored, hcell, hfr]
    have hheap : (w.setCell ⟨g, o + i, none⟩ v).heap[g]? = some (.cells (c.setIfInBounds (o + i) v) e (0, 0)) := by
      simp [World.setCell, Array.getElem?_modify, hg]
    obtain ⟨w', h2, h3, h4, h5, h6⟩ := run_storeCells_in g e vs (c.setIfInBounds (o + i) v) o (i + 1) (w.setCell ⟨g, o + i, none⟩ v) hheap (by simp; omega) (fun u hu => h1 u (by simp [hu]))
    refine ⟨w', ?_, ?_, h4, h5, h6⟩
    · simp only [storeCells, Sem.run_bind, hst, Result.andThen_ok, h2]
    · rw [h3]
      apply Array.ext_getElem?
      intro b
      rw [Array.getElem?_setIfInBounds, Array.getElem?_setIfInBounds]
      by_cases e : g = b
      · subst e; simp [hlt, setFrom, World.setCell, Nat.add_assoc]
      · simp [e, World.setCell, Array.getElem?_modify]

/-- The same on lists: what a walk can read off. -/
def setL : List Value → Nat → List Value → List Value
  | l, _, [] => l
  | [], _, _ => []
  | _ :: l, 0, v :: vs => v :: setL l 0 vs
  | x :: l, o + 1, vs => x :: setL l o vs

theorem setL_nil : ∀ (l : List Value) (o : Nat), setL l o [] = l
  | [], _ => by simp [setL]
  | _ :: _, 0 => by simp [setL]
  | _ :: _, _ + 1 => by simp [setL]

theorem setL_step : ∀ (l : List Value) (o : Nat) (v : Value) (vs : List Value), setL l o (v :: vs) = setL (l.set o v) (o + 1) vs
  | [], o, v, vs => by cases vs <;> simp [setL]
  | x :: l, 0, v, vs => by
    cases vs with
    | nil => simp [setL, setL_nil]
    | cons u us => simp [setL]
  | x :: l, o + 1, v, vs => by
    have ih := setL_step l o v vs
    cases vs with
    | nil => simp only [setL_nil] at ih ⊢; simp [setL, ih]
    | cons u us => simp [setL, ih]

theorem setFrom_list : ∀ (vs : List Value) (c : Array Value) (o : Nat), setFrom c o vs = (setL c.toList o vs).toArray
  | [], c, o => by simp [setFrom, setL_nil]
  | v :: vs, c, o => by rw [setFrom, setFrom_list vs, setL_step]; simp

theorem setL_length : ∀ (vs l : List Value) (o : Nat), (setL l o vs).length = l.length
  | [], l, o => by rw [setL_nil]
  | v :: vs, l, o => by rw [setL_step, setL_length vs]; simp

theorem setL_all : ∀ (vs l : List Value), vs.length = l.length → setL l 0 vs = vs
  | [], [], _ => by simp [setL]
  | [], _ :: _, h => by simp at h
  | _ :: _, [], h => by simp at h
  | v :: vs, x :: l, h => by simp [setL, setL_all vs l (by simpa using h)]

/-- A store into the block that comes first. -/
theorem OR.store {g o : Nat} {c : Array Value} {e : TypeId} (hs : HS xs H0 w0 H ((g, .cells c e, true) :: M) w) (ht : TI P t d sz by_ z)
    (hx : look env x = some (.pointer (some ⟨g, o, none⟩))) (hy : look env y = some v) (hz : v.cells.size = sz) (ho : o + sz ≤ c.size) (h1 : v.cells.toList.all (·.oneCell') = true)
    (hR : ∀ w', HS xs H0 w0 H ((g, .cells (setL c.toList o v.cells.toList).toArray e, true) :: M) w' → R undef w') :
    OR P n ds ⟨dst, .store t x y, ty, pos, aft, gd⟩ env w R := by
  have hg := (hs.mem g (.cells c e) true (by simp)).1
  obtain ⟨w', h2, h3, h4, h5, h6⟩ := run_storeCells_in (P := P) g e v.cells.toList c o 0 w hg (by simp; omega) (by simpa [List.all_eq_true] using List.all_eq_true.1 h1)
  rw [Nat.add_zero, setFrom_list] at h3
  exact .runU (w' := w') (fun a ha => by simp [execOp, ha.look hx, ha.look hy, Instr.storeAt, Instr.sureAddr, storeVar, ht.run_size, hz, h2]) (hR w' (hs.write _ h3 h4 h5 h6))

/-- A whole block stored. -/
theorem OR.storeAll {g : Nat} {c : Array Value} {e : TypeId} (hs : HS xs H0 w0 H ((g, .cells c e, true) :: M) w) (ht : TI P t d sz by_ z)
    (hx : look env x = some (.pointer (some ⟨g, 0, none⟩))) (hy : look env y = some v) (hz : v.cells.size = sz) (ho : c.size = sz) (h1 : v.cells.toList.all (·.oneCell') = true)
    (hR : ∀ w', HS xs H0 w0 H ((g, .cells v.cells e, true) :: M) w' → R undef w') :
    OR P n ds ⟨dst, .store t x y, ty, pos, aft, gd⟩ env w R :=
  .store hs ht hx hy hz (by omega) h1 (fun w' h => hR w' (by rw [setL_all _ _ (by simp [hz, ho])] at h; simpa using h))

theorem OR.loadAll {g : Nat} {c : Array Value} {e : TypeId} {fr : Nat × Nat} (ht : TI P t d sz by_ z) (hd : isAggD d = true) (hx : look env x = some (.pointer (some ⟨g, 0, none⟩)))
    (hg : w.heap[g]? = some (.cells c e fr)) (hl : c.size = sz) (hR : R (.agg c) w) : OR P n ds ⟨dst, .load t x, ty, pos, aft, gd⟩ env w R := by
  have := OR.loadN (P := P) (n := n) (ds := ds) (env := env) (w := w) (dst := dst) (ty := ty) (pos := pos) (aft := aft) (gd := gd) (R := R) (x := x) (ad := ⟨g, 0, none⟩) (cs := c.toList) ht hd hx (by simpa using hl)
    (fun j u hj => by rw [add_off]; simpa [World.cell?, hg] using hj)
  simpa using this hR

/-- The one result lies in a block. -/
theorem WX.resCell {f : Func} {C : Ending → World → Prop} {e : Exit} {g s : Nat} {c : Array Value} {ee : TypeId} {fr : Nat × Nat} (he : (match e with | .normal => true | .ret => true | _ => false) = true)
    (ht : TI P t d sz by_ z) (hf : f.results = #[.cell s t])
    (hv : env.get s = some (.pointer (some ⟨g, 0, none⟩))) (hd : isAggD d = true) (hl : c.size = sz) (hg : w.heap[g]? = some (.cells c ee fr)) (h : C (.returned (.agg c)) w) : WX P n [] e (.fn f C) env w := by
  subst hl
  refine WX.end_ret (vs := fun _ => True) he fun a ha => ⟨_, ?_, h⟩
  have hc : ∀ j u, c.toList[j]? = some u → w.cell? ((⟨g, 0, none⟩ : Addr).add j) = some u := fun j u hj => by rw [add_off]; simpa [World.cell?, hg] using hj
  have := run_loadCells_list (P := P) w ⟨g, 0, none⟩ c.toList hc
  simp only [Array.length_toList] at this
  have hv' := ha.get s _ hv
  rw [Array.getD_eq_getD_getElem?] at hv'
  simp [results, hf, hv', asAddr, loadVar, ht.run_agg, hd, ht.run_size, this]
theorem WX.retCell {f : Func} {C : Ending → World → Prop} {g s : Nat} {c : Array Value} {ee : TypeId} {fr : Nat × Nat} (ht : TI P t d sz by_ z) (hf : f.results = #[.cell s t])
    (hv : env.get s = some (.pointer (some ⟨g, 0, none⟩))) (hd : isAggD d = true) (hl : c.size = sz) (hg : w.heap[g]? = some (.cells c ee fr)) (h : C (.returned (.agg c)) w) : WX P n [] .ret (.fn f C) env w :=
  .resCell rfl ht hf hv hd hl hg h

theorem OR.lenSlice {e : TypeId} {base : Option Addr} {m c : Nat} (ht : P.underlying t = some (.slice e)) (hx : look env x = some (.slice base m c)) (hR : R (.int .i64 m) w) :
    OR P n ds ⟨dst, .call { callee := .builtin .len, args := #[x], argTypes := #[t] }, ty, pos, aft, gd⟩ env w R :=
  .run (fun a ha => by simp [execOp, resolve, invoke, builtin, Builtin.len_, ha.look hx, run_underlying ht, goInt]) hR

theorem OR.makeSlice {e : TypeId} {m : Nat} (hs : HS xs H0 w0 H M w) (ht : P.underlying t = some (.slice e)) (he : TI P e d sz by_ z) (hzs : z.cells.size = sz) (hsz : 0 < sz)
    (hx : look env x = some (.int .i64 m)) (hy : look env y = some (.int .i64 m)) (hb : m * by_ ≤ 281474976710656) (hm : m ≤ 9223372036854775807)
    (hR : ∀ g w', w0.heap.size ≤ g → HS xs H0 w0 H ((g, .cells ((Array.range (m * sz)).map (z.cells[· % z.cells.size]!)) e, true) :: M) w' → R (.slice (some ⟨g, 0, none⟩) m m) w') :
    OR P n ds ⟨dst, .makeSlice t x y, ty, pos, aft, gd⟩ env w R := by
  obtain ⟨i, h1, h2, h3, h4⟩ := he.inf
  have hw : IntKind.i64.wrap (m : Int) = m := wrap_i64 (by omega) (by omega)
  refine .run (v := .slice (some ⟨w.heap.size, 0, none⟩) m m) (w' := w.alloc (.cells ((Array.range (m * sz)).map (z.cells[· % z.cells.size]!)) e)) (fun a ha => ?_) (hR _ _ hs.size (hs.alloc _))
  have hnot : ¬ ((m : Int) < 0) := by omega
  have hbig : ¬ ((by_ : Int) * (m : Int) > 2 ^ 48) := by
    have : (by_ : Int) * (m : Int) = ((m * by_ : Nat) : Int) := by rw [Nat.mul_comm]; exact (Int.natCast_mul by_ m).symm
    rw [this]; omega
  have hroom : ∀ W : World, (askRoom (m * by_)).run P W = .ok () W := by intro W; unfold askRoom; split <;> simp [mark, Sem.run]
  by_cases h0 : m * sz = 0
  · have : m = 0 := by
      rcases Nat.mul_eq_zero.1 h0 with h | h
      · exact h
      · omega
    subst this
    have hw0 : IntKind.i64.wrap 0 = 0 := wrap_i64 (by omega) (by omega)
    simp [execOp, ha.look hx, ha.look hy, Instr.makeSlice, run_underlying ht, asInt, asIntOf, typeInfo, h1, h2, h3, hw0, newRow, newObj, Sem.run, askRoom, mark, roomBytes, sizeOf, show Array.range 0 = #[] from rfl]
  · simp only [execOp, ha.look hx, ha.look hy, Instr.makeSlice, Sem.run_bind, run_underlying ht, Result.andThen_ok, asInt, asIntOf, Sem.run_pure, typeInfo, run_program, h1, hw, h3]
    have hbig' : ¬ (281474976710656 < (by_ : Int) * (m : Int)) := by simpa using hbig
    simp [hbig', hroom, he.run_size, h0, he.run_zero, newRow, newObj, Sem.run]
    intro h9; omega
end
section
variable {xs : List Nat} {H0 H : Hp} {w0 : World} {M : Mem}
/-- A function with a body is entered. -/
def Body (P : Program) (f : FuncId) : Prop := ∀ (args : Array Value) (w : World), (callFunc f args).run P w = .ok (.enter f args) w
theorem Body.of {f : FuncId} {fn : Func} (hf : P.funcs[f]? = some fn) (hn : (fn.name == "runtime.NumGoroutine") = false) (hb : fn.body.isNone = false) : Body P f := by
  intro args w
  have hn' : ¬ fn.name = "runtime.NumGoroutine" := by simpa using hn
  have hb' : ¬ fn.body = none := by intro h; rw [h] at hb; simp at hb
  simp [callFunc, hf, hn', hb']

/-- A call that may change the blocks xs', which come first. -/
theorem OR.callX {f : FuncId} {args : List Operand} {vs : List Value} {tys : Array TypeId} {x : Operand} {cap first : List Value} {Mx Mr : Mem} {xs' : List Nat} {C : Value → Hp → Mem → Prop}
    (hs : HS xs H0 w0 H (Mx ++ Mr) w) (hb : Body P f) (hx : look env x = some (.func (.func f) first.toArray cap.toArray)) (ha : lookAll env args = some vs)
    (hc : Calls P f (first ++ vs ++ cap).toArray w (Ret xs' H w C)) (hk : Mem.keys Mx = xs') (ht : Mx.all (·.2.2) = true)
    (hR : ∀ v H' M' w', HS xs H0 w0 H' (M' ++ Mr) w' → H.le H' → (∀ b o, H' b = some o → H b = some o ∨ w.heap.size ≤ b) → C v H' M' → R v w') :
    OR P n ds ⟨dst, .call { callee := .value x, args := args.toArray, argTypes := tys }, ty, pos, aft, gd⟩ env w R := by
  refine .enter (f := f) (args := (first ++ vs ++ cap).toArray) (w' := w) (fun a hs' => ?_) hc ?_
  · simp [execOp, resolve, hs'.look hx, Deferred.ofValue, invoke, List.map_toArray, hs'.lookAll _ _ ha, hb _ w]
  · rintro e w' ⟨v, H', M', rfl, hk', hM, hC⟩
    exact ⟨v, rfl, hR v H' M' w' (hs.after hk' rfl hk (by simpa using ht) hM) hk'.le hk'.new hC⟩

/-- A call that changes nothing. -/
theorem OR.call {f : FuncId} {args : List Operand} {vs : List Value} {tys : Array TypeId} {x : Operand} {cap first : List Value} {C : Value → Hp → Prop}
    (hs : HS xs H0 w0 H M w) (hb : Body P f) (hx : look env x = some (.func (.func f) first.toArray cap.toArray)) (ha : lookAll env args = some vs)
    (hc : Calls P f (first ++ vs ++ cap).toArray w (Pure H w C))
    (hR : ∀ v H' w', HS xs H0 w0 H' M w' → H.le H' → C v H' → R v w') :
    OR P n ds ⟨dst, .call { callee := .value x, args := args.toArray, argTypes := tys }, ty, pos, aft, gd⟩ env w R :=
  .callX (Mx := []) (Mr := M) hs hb hx ha hc rfl rfl (fun v H' M' w' h1 h2 _ h3 => by
    obtain ⟨rfl, hC⟩ := h3
    exact hR v H' w' h1 h2 hC)
/-- A call by whatever is known of how it ends. -/
theorem OR.callW {f : FuncId} {args : List Operand} {vs : List Value} {tys : Array TypeId} {x : Operand} {cap first : List Value} {C : Ending → World → Prop}
    (hb : Body P f) (hx : look env x = some (.func (.func f) first.toArray cap.toArray)) (ha : lookAll env args = some vs)
    (hc : Calls P f (first ++ vs ++ cap).toArray w C) (hR : ∀ e w', C e w' → ∃ v, e = .returned v ∧ R v w') :
    OR P n ds ⟨dst, .call { callee := .value x, args := args.toArray, argTypes := tys }, ty, pos, aft, gd⟩ env w R := by
  refine .enter (f := f) (args := (first ++ vs ++ cap).toArray) (w' := w) (fun a hs' => ?_) hc hR
  simp [execOp, resolve, hs'.look hx, Deferred.ofValue, invoke, List.map_toArray, hs'.lookAll _ _ ha, hb _ w]
end
end Go.Bw
namespace Go.Bw
open Go.Proofs
theorem mixed : Tryz.prog.follows .mixedOrders = true := by kernel_rfl
theorem T3 : TI Tryz.prog 3 (.int .i64) 1 8 (.int .i64 0) := TI.of (by kernel_rfl) (by kernel_rfl)
theorem T4 : TI Tryz.prog 4 (.bool) 1 1 (.bool false) := TI.of (by kernel_rfl) (by kernel_rfl)
theorem T5 : TI Tryz.prog 5 (.int .u8) 1 1 (.int .u8 0) := TI.of (by kernel_rfl) (by kernel_rfl)
theorem T9 : TI Tryz.prog 9 (.string) 1 16 (.string ByteArray.empty) := TI.of (by kernel_rfl) (by kernel_rfl)
theorem T22 : TI Tryz.prog 22 (.int .u64) 1 8 (.int .u64 0) := TI.of (by kernel_rfl) (by kernel_rfl)
theorem T27 : TI Tryz.prog 27 (.pointer 120) 1 8 (.pointer none) := TI.of (by kernel_rfl) (by kernel_rfl)
theorem T28 : TI Tryz.prog 28 (.int .i64) 1 8 (.int .i64 0) := TI.of (by kernel_rfl) (by kernel_rfl)
theorem T34 : TI Tryz.prog 34 (.pointer 131) 1 8 (.pointer none) := TI.of (by kernel_rfl) (by kernel_rfl)
theorem T40 : TI Tryz.prog 40 (.slice 43) 1 24 (.slice none 0 0) := TI.of (by kernel_rfl) (by kernel_rfl)
theorem T43 : TI Tryz.prog 43 (.slice 5) 1 24 (.slice none 0 0) := TI.of (by kernel_rfl) (by kernel_rfl)
theorem T45 : TI Tryz.prog 45 (.struct #[⟨ "Coefs", 43, 0, false, "", "", 0⟩, ⟨ "Payload", 43, 1, false, "", "", 24⟩]) 2 48 (.agg #[.slice none 0 0, .slice none 0 0]) := TI.of (by kernel_rfl) (by kernel_rfl)
theorem T66 : TI Tryz.prog 66 (.pointer 163) 1 8 (.pointer none) := TI.of (by kernel_rfl) (by kernel_rfl)
theorem T70 : TI Tryz.prog 70 (.func #[] #[28] false) 1 8 (.nilFunc) := TI.of (by kernel_rfl) (by kernel_rfl)
theorem T76 : TI Tryz.prog 76 (.slice 3) 1 24 (.slice none 0 0) := TI.of (by kernel_rfl) (by kernel_rfl)
theorem T78 : TI Tryz.prog 78 (.struct #[⟨ "G", 3, 0, false, "", "", 0⟩, ⟨ "S", 3, 1, false, "", "", 8⟩, ⟨ "Source", 3, 2, false, "", "", 16⟩, ⟨ "Sinks", 76, 3, false, "", "", 24⟩]) 4 48 (.agg #[.int .i64 0, .int .i64 0, .int .i64 0, .slice none 0 0]) := TI.of (by kernel_rfl) (by kernel_rfl)
theorem T79 : TI Tryz.prog 79 (.slice 78) 1 24 (.slice none 0 0) := TI.of (by kernel_rfl) (by kernel_rfl)
theorem T81 : TI Tryz.prog 81 (.struct #[⟨ "Nodes", 3, 0, false, "", "", 0⟩, ⟨ "Flows", 79, 1, false, "", "", 8⟩, ⟨ "Window", 3, 2, false, "", "", 32⟩, ⟨ "Queue", 3, 3, false, "", "", 40⟩]) 4 48 (.agg #[.int .i64 0, .slice none 0 0, .int .i64 0, .int .i64 0]) := TI.of (by kernel_rfl) (by kernel_rfl)
theorem T82 : TI Tryz.prog 82 (.pointer 172) 1 8 (.pointer none) := TI.of (by kernel_rfl) (by kernel_rfl)
theorem T85 : TI Tryz.prog 85 (.map 3 22) 1 8 (.map none) := TI.of (by kernel_rfl) (by kernel_rfl)
theorem T97 : TI Tryz.prog 97 (.slice 45) 1 24 (.slice none 0 0) := TI.of (by kernel_rfl) (by kernel_rfl)
theorem T98 : TI Tryz.prog 98 (.map 22 97) 1 8 (.map none) := TI.of (by kernel_rfl) (by kernel_rfl)
theorem T115 : TI Tryz.prog 115 (.slice 174) 1 24 (.slice none 0 0) := TI.of (by kernel_rfl) (by kernel_rfl)
theorem T120 : TI Tryz.prog 120 (.struct #[⟨ "g", 3, 0, false, "", "braidwork/sink", 0⟩, ⟨ "s", 3, 1, false, "", "braidwork/sink", 8⟩, ⟨ "delivered", 22, 2, false, "", "braidwork/sink", 16⟩, ⟨ "total", 22, 3, false, "", "braidwork/sink", 24⟩, ⟨ "known", 4, 4, false, "", "braidwork/sink", 32⟩, ⟨ "broken", 4, 5, false, "", "braidwork/sink", 33⟩]) 6 40 (.agg #[.int .i64 0, .int .i64 0, .int .u64 0, .int .u64 0, .bool false, .bool false]) := TI.of (by kernel_rfl) (by kernel_rfl)
theorem T123 : TI Tryz.prog 123 (.pointer 192) 1 8 (.pointer none) := TI.of (by kernel_rfl) (by kernel_rfl)
theorem T126 : TI Tryz.prog 126 (.pointer 194) 1 8 (.pointer none) := TI.of (by kernel_rfl) (by kernel_rfl)
theorem T129 : TI Tryz.prog 129 (.array 16 126) 16 128 (.agg #[.pointer none, .pointer none, .pointer none, .pointer none, .pointer none, .pointer none, .pointer none, .pointer none, .pointer none, .pointer none, .pointer none, .pointer none, .pointer none, .pointer none, .pointer none, .pointer none]) := TI.of (by kernel_rfl) (by kernel_rfl)
theorem T131 : TI Tryz.prog 131 (.struct #[⟨ "g", 3, 0, false, "", "braidwork/relay", 0⟩, ⟨ "s", 3, 1, false, "", "braidwork/relay", 8⟩, ⟨ "window", 123, 2, false, "", "braidwork/relay", 16⟩, ⟨ "slots", 129, 3, false, "", "braidwork/relay", 24⟩]) 19 152 (.agg #[.int .i64 0, .int .i64 0, .pointer none, .pointer none, .pointer none, .pointer none, .pointer none, .pointer none, .pointer none, .pointer none, .pointer none, .pointer none, .pointer none, .pointer none, .pointer none, .pointer none, .pointer none, .pointer none, .pointer none]) := TI.of (by kernel_rfl) (by kernel_rfl)
theorem T152 : TI Tryz.prog 152 (.slice 22) 1 24 (.slice none 0 0) := TI.of (by kernel_rfl) (by kernel_rfl)
theorem T163 : TI Tryz.prog 163 (.struct #[⟨ "g", 3, 0, false, "", "braidwork/source", 0⟩, ⟨ "s", 3, 1, false, "", "braidwork/source", 8⟩, ⟨ "stream", 43, 2, false, "", "braidwork/source", 16⟩, ⟨ "cuts", 76, 3, false, "", "braidwork/source", 40⟩, ⟨ "closed", 4, 4, false, "", "braidwork/source", 64⟩, ⟨ "chunks", 40, 5, false, "", "braidwork/source", 72⟩, ⟨ "open", 43, 6, false, "", "braidwork/source", 96⟩]) 7 120 (.agg #[.int .i64 0, .int .i64 0, .slice none 0 0, .slice none 0 0, .bool false, .slice none 0 0, .slice none 0 0]) := TI.of (by kernel_rfl) (by kernel_rfl)
theorem T172 : TI Tryz.prog 172 (.struct #[⟨ "c", 81, 0, false, "", "braidwork/flow", 0⟩, ⟨ "f", 78, 4, false, "", "braidwork/flow", 48⟩, ⟨ "node", 3, 8, false, "", "braidwork/flow", 96⟩, ⟨ "source", 66, 9, false, "", "braidwork/flow", 104⟩, ⟨ "relay", 34, 10, false, "", "braidwork/flow", 112⟩, ⟨ "sink", 27, 11, false, "", "braidwork/flow", 120⟩, ⟨ "next", 76, 12, false, "", "braidwork/flow", 128⟩, ⟨ "told", 85, 13, false, "", "braidwork/flow", 152⟩, ⟨ "base", 22, 14, false, "", "braidwork/flow", 160⟩, ⟨ "worked", 4, 15, false, "", "braidwork/flow", 168⟩, ⟨ "total", 22, 16, false, "", "braidwork/flow", 176⟩, ⟨ "known", 4, 17, false, "", "braidwork/flow", 184⟩]) 18 192 (.agg #[.int .i64 0, .slice none 0 0, .int .i64 0, .int .i64 0, .int .i64 0, .int .i64 0, .int .i64 0, .slice none 0 0, .int .i64 0, .pointer none, .pointer none, .pointer none, .slice none 0 0, .map none, .int .u64 0, .bool false, .int .u64 0, .bool false]) := TI.of (by kernel_rfl) (by kernel_rfl)
theorem T174 : TI Tryz.prog 174 (.struct #[⟨ "Gen", 22, 0, false, "", "", 0⟩, ⟨ "Rank", 3, 1, false, "", "", 8⟩]) 2 16 (.agg #[.int .u64 0, .int .i64 0]) := TI.of (by kernel_rfl) (by kernel_rfl)
theorem T192 : TI Tryz.prog 192 (.struct #[⟨ "base", 22, 0, false, "", "braidwork/window", 0⟩, ⟨ "width", 3, 1, false, "", "braidwork/window", 8⟩]) 2 16 (.agg #[.int .u64 0, .int .i64 0]) := TI.of (by kernel_rfl) (by kernel_rfl)
theorem T194 : TI Tryz.prog 194 (.struct #[⟨ "g", 3, 0, false, "", "braidwork/basis", 0⟩, ⟨ "s", 3, 1, false, "", "braidwork/basis", 8⟩, ⟨ "rows", 97, 2, false, "", "braidwork/basis", 16⟩]) 3 40 (.agg #[.int .i64 0, .int .i64 0, .slice none 0 0]) := TI.of (by kernel_rfl) (by kernel_rfl)
theorem T215 : TI Tryz.prog 215 (.slice 70) 1 24 (.slice none 0 0) := TI.of (by kernel_rfl) (by kernel_rfl)
theorem T216 : TI Tryz.prog 216 (.func #[3] #[] false) 1 8 (.nilFunc) := TI.of (by kernel_rfl) (by kernel_rfl)
theorem T226 : TI Tryz.prog 226 (.pointer 246) 1 8 (.pointer none) := TI.of (by kernel_rfl) (by kernel_rfl)
def Z234 : Value := .agg (Array.replicate 510 (.int .u8 0))
theorem T234 : TI Tryz.prog 234 (.array 510 5) 510 510 Z234 := TI.of (by kernel_rfl) (by kernel_rfl)
def Z235 : Value := .agg (Array.replicate 256 (.int .i64 0))
theorem T235 : TI Tryz.prog 235 (.array 256 3) 256 2048 Z235 := TI.of (by kernel_rfl) (by kernel_rfl)
def Z237 : Value := .agg (Array.replicate 510 (.int .u8 0) ++ Array.replicate 256 (.int .i64 0))
theorem T237 : TI Tryz.prog 237 (.struct #[⟨ "exp", 234, 0, false, "", "braidwork/field", 0⟩, ⟨ "log", 235, 510, false, "", "braidwork/field", 512⟩]) 766 2560 Z237 := TI.of (by kernel_rfl) (by kernel_rfl)
theorem T242 : TI Tryz.prog 242 (.array 8 5) 8 8 (.agg #[.int .u8 0, .int .u8 0, .int .u8 0, .int .u8 0, .int .u8 0, .int .u8 0, .int .u8 0, .int .u8 0]) := TI.of (by kernel_rfl) (by kernel_rfl)
theorem T246 : TI Tryz.prog 246 (.struct #[⟨ "left", 43, 0, false, "", "braidwork/wire", 0⟩, ⟨ "made", 4, 1, false, "", "braidwork/wire", 24⟩]) 2 32 (.agg #[.slice none 0 0, .bool false]) := TI.of (by kernel_rfl) (by kernel_rfl)
theorem FA45_0 : FA Tryz.prog 45 0 0 := FA.of T45.und rfl rfl (by kernel_rfl)
theorem FA45_1 : FA Tryz.prog 45 1 1 := FA.of T45.und rfl rfl (by kernel_rfl)
theorem FA78_0 : FA Tryz.prog 78 0 0 := FA.of T78.und rfl rfl (by kernel_rfl)
theorem FA78_1 : FA Tryz.prog 78 1 1 := FA.of T78.und rfl rfl (by kernel_rfl)
theorem FA78_2 : FA Tryz.prog 78 2 2 := FA.of T78.und rfl rfl (by kernel_rfl)
theorem FA78_3 : FA Tryz.prog 78 3 3 := FA.of T78.und rfl rfl (by kernel_rfl)
theorem FA81_0 : FA Tryz.prog 81 0 0 := FA.of T81.und rfl rfl (by kernel_rfl)
theorem FA81_1 : FA Tryz.prog 81 1 1 := FA.of T81.und rfl rfl (by kernel_rfl)
theorem FA81_2 : FA Tryz.prog 81 2 2 := FA.of T81.und rfl rfl (by kernel_rfl)
theorem FA81_3 : FA Tryz.prog 81 3 3 := FA.of T81.und rfl rfl (by kernel_rfl)
theorem FA120_0 : FA Tryz.prog 120 0 0 := FA.of T120.und rfl rfl (by kernel_rfl)
theorem FA120_1 : FA Tryz.prog 120 1 1 := FA.of T120.und rfl rfl (by kernel_rfl)
theorem FA120_2 : FA Tryz.prog 120 2 2 := FA.of T120.und rfl rfl (by kernel_rfl)
theorem FA120_3 : FA Tryz.prog 120 3 3 := FA.of T120.und rfl rfl (by kernel_rfl)
theorem FA120_4 : FA Tryz.prog 120 4 4 := FA.of T120.und rfl rfl (by kernel_rfl)
theorem FA120_5 : FA Tryz.prog 120 5 5 := FA.of T120.und rfl rfl (by kernel_rfl)
theorem FA131_0 : FA Tryz.prog 131 0 0 := FA.of T131.und rfl rfl (by kernel_rfl)
theorem FA131_1 : FA Tryz.prog 131 1 1 := FA.of T131.und rfl rfl (by kernel_rfl)
theorem FA131_2 : FA Tryz.prog 131 2 2 := FA.of T131.und rfl rfl (by kernel_rfl)
theorem FA131_3 : FA Tryz.prog 131 3 3 := FA.of T131.und rfl rfl (by kernel_rfl)
theorem FA163_0 : FA Tryz.prog 163 0 0 := FA.of T163.und rfl rfl (by kernel_rfl)
theorem FA163_1 : FA Tryz.prog 163 1 1 := FA.of T163.und rfl rfl (by kernel_rfl)
theorem FA163_2 : FA Tryz.prog 163 2 2 := FA.of T163.und rfl rfl (by kernel_rfl)
theorem FA163_3 : FA Tryz.prog 163 3 3 := FA.of T163.und rfl rfl (by kernel_rfl)
theorem FA163_4 : FA Tryz.prog 163 4 4 := FA.of T163.und rfl rfl (by kernel_rfl)
theorem FA163_5 : FA Tryz.prog 163 5 5 := FA.of T163.und rfl rfl (by kernel_rfl)
theorem FA163_6 : FA Tryz.prog 163 6 6 := FA.of T163.und rfl rfl (by kernel_rfl)
theorem FA172_0 : FA Tryz.prog 172 0 0 := FA.of T172.und rfl rfl (by kernel_rfl)
theorem FA172_1 : FA Tryz.prog 172 1 4 := FA.of T172.und rfl rfl (by kernel_rfl)
theorem FA172_2 : FA Tryz.prog 172 2 8 := FA.of T172.und rfl rfl (by kernel_rfl)
theorem FA172_3 : FA Tryz.prog 172 3 9 := FA.of T172.und rfl rfl (by kernel_rfl)
theorem FA172_4 : FA Tryz.prog 172 4 10 := FA.of T172.und rfl rfl (by kernel_rfl)
theorem FA172_5 : FA Tryz.prog 172 5 11 := FA.of T172.und rfl rfl (by kernel_rfl)
theorem FA172_6 : FA Tryz.prog 172 6 12 := FA.of T172.und rfl rfl (by kernel_rfl)
theorem FA172_7 : FA Tryz.prog 172 7 13 := FA.of T172.und rfl rfl (by kernel_rfl)
theorem FA172_8 : FA Tryz.prog 172 8 14 := FA.of T172.und rfl rfl (by kernel_rfl)
theorem FA172_9 : FA Tryz.prog 172 9 15 := FA.of T172.und rfl rfl (by kernel_rfl)
theorem FA172_10 : FA Tryz.prog 172 10 16 := FA.of T172.und rfl rfl (by kernel_rfl)
theorem FA172_11 : FA Tryz.prog 172 11 17 := FA.of T172.und rfl rfl (by kernel_rfl)
theorem FA192_0 : FA Tryz.prog 192 0 0 := FA.of T192.und rfl rfl (by kernel_rfl)
theorem FA192_1 : FA Tryz.prog 192 1 1 := FA.of T192.und rfl rfl (by kernel_rfl)
theorem FA194_0 : FA Tryz.prog 194 0 0 := FA.of T194.und rfl rfl (by kernel_rfl)
theorem FA194_1 : FA Tryz.prog 194 1 1 := FA.of T194.und rfl rfl (by kernel_rfl)
theorem FA194_2 : FA Tryz.prog 194 2 2 := FA.of T194.und rfl rfl (by kernel_rfl)
theorem FA237_0 : FA Tryz.prog 237 0 0 := FA.of T237.und rfl rfl (by kernel_rfl)
theorem FA237_1 : FA Tryz.prog 237 1 510 := FA.of T237.und rfl rfl (by kernel_rfl)
theorem FA246_0 : FA Tryz.prog 246 0 0 := FA.of T246.und rfl rfl (by kernel_rfl)
theorem FA246_1 : FA Tryz.prog 246 1 1 := FA.of T246.und rfl rfl (by kernel_rfl)
theorem PL45 : ∀ w : World, ((#[⟨ "Coefs", 43, 0, false, "", "", 0⟩, ⟨ "Payload", 43, 1, false, "", "", 24⟩] : Array Field).mapM (m := Sem) fun f => do pure (f.offset, ← sizeOf f.type)).run Tryz.prog w = .ok ((List.range 2).map fun i => (i, 1)).toArray w := by intro w; kernel_rfl
theorem PL78 : ∀ w : World, ((#[⟨ "G", 3, 0, false, "", "", 0⟩, ⟨ "S", 3, 1, false, "", "", 8⟩, ⟨ "Source", 3, 2, false, "", "", 16⟩, ⟨ "Sinks", 76, 3, false, "", "", 24⟩] : Array Field).mapM (m := Sem) fun f => do pure (f.offset, ← sizeOf f.type)).run Tryz.prog w = .ok ((List.range 4).map fun i => (i, 1)).toArray w := by intro w; kernel_rfl
theorem PL81 : ∀ w : World, ((#[⟨ "Nodes", 3, 0, false, "", "", 0⟩, ⟨ "Flows", 79, 1, false, "", "", 8⟩, ⟨ "Window", 3, 2, false, "", "", 32⟩, ⟨ "Queue", 3, 3, false, "", "", 40⟩] : Array Field).mapM (m := Sem) fun f => do pure (f.offset, ← sizeOf f.type)).run Tryz.prog w = .ok ((List.range 4).map fun i => (i, 1)).toArray w := by intro w; kernel_rfl
theorem PL174 : ∀ w : World, ((#[⟨ "Gen", 22, 0, false, "", "", 0⟩, ⟨ "Rank", 3, 1, false, "", "", 8⟩] : Array Field).mapM (m := Sem) fun f => do pure (f.offset, ← sizeOf f.type)).run Tryz.prog w = .ok ((List.range 2).map fun i => (i, 1)).toArray w := by intro w; kernel_rfl
theorem PL192 : ∀ w : World, ((#[⟨ "base", 22, 0, false, "", "braidwork/window", 0⟩, ⟨ "width", 3, 1, false, "", "braidwork/window", 8⟩] : Array Field).mapM (m := Sem) fun f => do pure (f.offset, ← sizeOf f.type)).run Tryz.prog w = .ok ((List.range 2).map fun i => (i, 1)).toArray w := by intro w; kernel_rfl
theorem PL194 : ∀ w : World, ((#[⟨ "g", 3, 0, false, "", "braidwork/basis", 0⟩, ⟨ "s", 3, 1, false, "", "braidwork/basis", 8⟩, ⟨ "rows", 97, 2, false, "", "braidwork/basis", 16⟩] : Array Field).mapM (m := Sem) fun f => do pure (f.offset, ← sizeOf f.type)).run Tryz.prog w = .ok ((List.range 3).map fun i => (i, 1)).toArray w := by intro w; kernel_rfl
theorem PL246 : ∀ w : World, ((#[⟨ "left", 43, 0, false, "", "braidwork/wire", 0⟩, ⟨ "made", 4, 1, false, "", "braidwork/wire", 24⟩] : Array Field).mapM (m := Sem) fun f => do pure (f.offset, ← sizeOf f.type)).run Tryz.prog w = .ok ((List.range 2).map fun i => (i, 1)).toArray w := by intro w; kernel_rfl
theorem body10 : Body Tryz.prog 10 := Body.of Tryz.func10 (by kernel_rfl) (by kernel_rfl)
theorem body12 : Body Tryz.prog 12 := Body.of Tryz.func12 (by kernel_rfl) (by kernel_rfl)
theorem body14 : Body Tryz.prog 14 := Body.of Tryz.func14 (by kernel_rfl) (by kernel_rfl)
theorem body15 : Body Tryz.prog 15 := Body.of Tryz.func15 (by kernel_rfl) (by kernel_rfl)
theorem body19 : Body Tryz.prog 19 := Body.of Tryz.func19 (by kernel_rfl) (by kernel_rfl)
theorem body21 : Body Tryz.prog 21 := Body.of Tryz.func21 (by kernel_rfl) (by kernel_rfl)
theorem body24 : Body Tryz.prog 24 := Body.of Tryz.func24 (by kernel_rfl) (by kernel_rfl)
theorem body28 : Body Tryz.prog 28 := Body.of Tryz.func28 (by kernel_rfl) (by kernel_rfl)
theorem body29 : Body Tryz.prog 29 := Body.of Tryz.func29 (by kernel_rfl) (by kernel_rfl)
theorem body31 : Body Tryz.prog 31 := Body.of Tryz.func31 (by kernel_rfl) (by kernel_rfl)
theorem body32 : Body Tryz.prog 32 := Body.of Tryz.func32 (by kernel_rfl) (by kernel_rfl)
theorem body35 : Body Tryz.prog 35 := Body.of Tryz.func35 (by kernel_rfl) (by kernel_rfl)
theorem body36 : Body Tryz.prog 36 := Body.of Tryz.func36 (by kernel_rfl) (by kernel_rfl)
theorem body37 : Body Tryz.prog 37 := Body.of Tryz.func37 (by kernel_rfl) (by kernel_rfl)
theorem body38 : Body Tryz.prog 38 := Body.of Tryz.func38 (by kernel_rfl) (by kernel_rfl)
theorem body39 : Body Tryz.prog 39 := Body.of Tryz.func39 (by kernel_rfl) (by kernel_rfl)
theorem body40 : Body Tryz.prog 40 := Body.of Tryz.func40 (by kernel_rfl) (by kernel_rfl)
theorem body41 : Body Tryz.prog 41 := Body.of Tryz.func41 (by kernel_rfl) (by kernel_rfl)
theorem body42 : Body Tryz.prog 42 := Body.of Tryz.func42 (by kernel_rfl) (by kernel_rfl)
theorem body43 : Body Tryz.prog 43 := Body.of Tryz.func43 (by kernel_rfl) (by kernel_rfl)
theorem body44 : Body Tryz.prog 44 := Body.of Tryz.func44 (by kernel_rfl) (by kernel_rfl)
theorem body45 : Body Tryz.prog 45 := Body.of Tryz.func45 (by kernel_rfl) (by kernel_rfl)
theorem body47 : Body Tryz.prog 47 := Body.of Tryz.func47 (by kernel_rfl) (by kernel_rfl)
theorem body49 : Body Tryz.prog 49 := Body.of Tryz.func49 (by kernel_rfl) (by kernel_rfl)
theorem body50 : Body Tryz.prog 50 := Body.of Tryz.func50 (by kernel_rfl) (by kernel_rfl)
theorem body53 : Body Tryz.prog 53 := Body.of Tryz.func53 (by kernel_rfl) (by kernel_rfl)
theorem body54 : Body Tryz.prog 54 := Body.of Tryz.func54 (by kernel_rfl) (by kernel_rfl)
theorem body55 : Body Tryz.prog 55 := Body.of Tryz.func55 (by kernel_rfl) (by kernel_rfl)
theorem body56 : Body Tryz.prog 56 := Body.of Tryz.func56 (by kernel_rfl) (by kernel_rfl)
theorem body57 : Body Tryz.prog 57 := Body.of Tryz.func57 (by kernel_rfl) (by kernel_rfl)
theorem body58 : Body Tryz.prog 58 := Body.of Tryz.func58 (by kernel_rfl) (by kernel_rfl)
theorem body59 : Body Tryz.prog 59 := Body.of Tryz.func59 (by kernel_rfl) (by kernel_rfl)
theorem body60 : Body Tryz.prog 60 := Body.of Tryz.func60 (by kernel_rfl) (by kernel_rfl)
theorem body61 : Body Tryz.prog 61 := Body.of Tryz.func61 (by kernel_rfl) (by kernel_rfl)
theorem body62 : Body Tryz.prog 62 := Body.of Tryz.func62 (by kernel_rfl) (by kernel_rfl)
theorem body64 : Body Tryz.prog 64 := Body.of Tryz.func64 (by kernel_rfl) (by kernel_rfl)
theorem body65 : Body Tryz.prog 65 := Body.of Tryz.func65 (by kernel_rfl) (by kernel_rfl)
theorem body68 : Body Tryz.prog 68 := Body.of Tryz.func68 (by kernel_rfl) (by kernel_rfl)
theorem body69 : Body Tryz.prog 69 := Body.of Tryz.func69 (by kernel_rfl) (by kernel_rfl)
theorem body70 : Body Tryz.prog 70 := Body.of Tryz.func70 (by kernel_rfl) (by kernel_rfl)
theorem body71 : Body Tryz.prog 71 := Body.of Tryz.func71 (by kernel_rfl) (by kernel_rfl)
theorem body72 : Body Tryz.prog 72 := Body.of Tryz.func72 (by kernel_rfl) (by kernel_rfl)
theorem body77 : Body Tryz.prog 77 := Body.of Tryz.func77 (by kernel_rfl) (by kernel_rfl)
theorem body78 : Body Tryz.prog 78 := Body.of Tryz.func78 (by kernel_rfl) (by kernel_rfl)
theorem body79 : Body Tryz.prog 79 := Body.of Tryz.func79 (by kernel_rfl) (by kernel_rfl)
theorem body82 : Body Tryz.prog 82 := Body.of Tryz.func82 (by kernel_rfl) (by kernel_rfl)
theorem body83 : Body Tryz.prog 83 := Body.of Tryz.func83 (by kernel_rfl) (by kernel_rfl)
theorem body84 : Body Tryz.prog 84 := Body.of Tryz.func84 (by kernel_rfl) (by kernel_rfl)
theorem body85 : Body Tryz.prog 85 := Body.of Tryz.func85 (by kernel_rfl) (by kernel_rfl)
theorem body86 : Body Tryz.prog 86 := Body.of Tryz.func86 (by kernel_rfl) (by kernel_rfl)
theorem body87 : Body Tryz.prog 87 := Body.of Tryz.func87 (by kernel_rfl) (by kernel_rfl)
theorem body88 : Body Tryz.prog 88 := Body.of Tryz.func88 (by kernel_rfl) (by kernel_rfl)
theorem body89 : Body Tryz.prog 89 := Body.of Tryz.func89 (by kernel_rfl) (by kernel_rfl)
theorem body90 : Body Tryz.prog 90 := Body.of Tryz.func90 (by kernel_rfl) (by kernel_rfl)
theorem body91 : Body Tryz.prog 91 := Body.of Tryz.func91 (by kernel_rfl) (by kernel_rfl)
theorem body94 : Body Tryz.prog 94 := Body.of Tryz.func94 (by kernel_rfl) (by kernel_rfl)
theorem body95 : Body Tryz.prog 95 := Body.of Tryz.func95 (by kernel_rfl) (by kernel_rfl)
theorem body96 : Body Tryz.prog 96 := Body.of Tryz.func96 (by kernel_rfl) (by kernel_rfl)
theorem body97 : Body Tryz.prog 97 := Body.of Tryz.func97 (by kernel_rfl) (by kernel_rfl)
theorem body98 : Body Tryz.prog 98 := Body.of Tryz.func98 (by kernel_rfl) (by kernel_rfl)
theorem body99 : Body Tryz.prog 99 := Body.of Tryz.func99 (by kernel_rfl) (by kernel_rfl)
theorem body104 : Body Tryz.prog 104 := Body.of Tryz.func104 (by kernel_rfl) (by kernel_rfl)
theorem body105 : Body Tryz.prog 105 := Body.of Tryz.func105 (by kernel_rfl) (by kernel_rfl)
theorem body106 : Body Tryz.prog 106 := Body.of Tryz.func106 (by kernel_rfl) (by kernel_rfl)
theorem body107 : Body Tryz.prog 107 := Body.of Tryz.func107 (by kernel_rfl) (by kernel_rfl)
theorem body108 : Body Tryz.prog 108 := Body.of Tryz.func108 (by kernel_rfl) (by kernel_rfl)
theorem body109 : Body Tryz.prog 109 := Body.of Tryz.func109 (by kernel_rfl) (by kernel_rfl)
theorem body110 : Body Tryz.prog 110 := Body.of Tryz.func110 (by kernel_rfl) (by kernel_rfl)
theorem body113 : Body Tryz.prog 113 := Body.of Tryz.func113 (by kernel_rfl) (by kernel_rfl)
theorem body114 : Body Tryz.prog 114 := Body.of Tryz.func114 (by kernel_rfl) (by kernel_rfl)
theorem body115 : Body Tryz.prog 115 := Body.of Tryz.func115 (by kernel_rfl) (by kernel_rfl)
theorem body116 : Body Tryz.prog 116 := Body.of Tryz.func116 (by kernel_rfl) (by kernel_rfl)
theorem body117 : Body Tryz.prog 117 := Body.of Tryz.func117 (by kernel_rfl) (by kernel_rfl)
theorem body118 : Body Tryz.prog 118 := Body.of Tryz.func118 (by kernel_rfl) (by kernel_rfl)
theorem body119 : Body Tryz.prog 119 := Body.of Tryz.func119 (by kernel_rfl) (by kernel_rfl)
theorem body120 : Body Tryz.prog 120 := Body.of Tryz.func120 (by kernel_rfl) (by kernel_rfl)
theorem body121 : Body Tryz.prog 121 := Body.of Tryz.func121 (by kernel_rfl) (by kernel_rfl)
theorem body122 : Body Tryz.prog 122 := Body.of Tryz.func122 (by kernel_rfl) (by kernel_rfl)
theorem body123 : Body Tryz.prog 123 := Body.of Tryz.func123 (by kernel_rfl) (by kernel_rfl)
theorem body124 : Body Tryz.prog 124 := Body.of Tryz.func124 (by kernel_rfl) (by kernel_rfl)
theorem body125 : Body Tryz.prog 125 := Body.of Tryz.func125 (by kernel_rfl) (by kernel_rfl)
theorem body126 : Body Tryz.prog 126 := Body.of Tryz.func126 (by kernel_rfl) (by kernel_rfl)
theorem body127 : Body Tryz.prog 127 := Body.of Tryz.func127 (by kernel_rfl) (by kernel_rfl)
theorem body134 : Body Tryz.prog 134 := Body.of Tryz.func134 (by kernel_rfl) (by kernel_rfl)
theorem body135 : Body Tryz.prog 135 := Body.of Tryz.func135 (by kernel_rfl) (by kernel_rfl)
theorem body137 : Body Tryz.prog 137 := Body.of Tryz.func137 (by kernel_rfl) (by kernel_rfl)
theorem body138 : Body Tryz.prog 138 := Body.of Tryz.func138 (by kernel_rfl) (by kernel_rfl)
theorem body139 : Body Tryz.prog 139 := Body.of Tryz.func139 (by kernel_rfl) (by kernel_rfl)
theorem body140 : Body Tryz.prog 140 := Body.of Tryz.func140 (by kernel_rfl) (by kernel_rfl)
theorem body144 : Body Tryz.prog 144 := Body.of Tryz.func144 (by kernel_rfl) (by kernel_rfl)
theorem body145 : Body Tryz.prog 145 := Body.of Tryz.func145 (by kernel_rfl) (by kernel_rfl)
theorem body146 : Body Tryz.prog 146 := Body.of Tryz.func146 (by kernel_rfl) (by kernel_rfl)
theorem body147 : Body Tryz.prog 147 := Body.of Tryz.func147 (by kernel_rfl) (by kernel_rfl)
theorem body148 : Body Tryz.prog 148 := Body.of Tryz.func148 (by kernel_rfl) (by kernel_rfl)
theorem body150 : Body Tryz.prog 150 := Body.of Tryz.func150 (by kernel_rfl) (by kernel_rfl)
theorem body151 : Body Tryz.prog 151 := Body.of Tryz.func151 (by kernel_rfl) (by kernel_rfl)
theorem body152 : Body Tryz.prog 152 := Body.of Tryz.func152 (by kernel_rfl) (by kernel_rfl)
theorem body153 : Body Tryz.prog 153 := Body.of Tryz.func153 (by kernel_rfl) (by kernel_rfl)
theorem body154 : Body Tryz.prog 154 := Body.of Tryz.func154 (by kernel_rfl) (by kernel_rfl)
theorem body155 : Body Tryz.prog 155 := Body.of Tryz.func155 (by kernel_rfl) (by kernel_rfl)
theorem body156 : Body Tryz.prog 156 := Body.of Tryz.func156 (by kernel_rfl) (by kernel_rfl)
theorem body157 : Body Tryz.prog 157 := Body.of Tryz.func157 (by kernel_rfl) (by kernel_rfl)
theorem body158 : Body Tryz.prog 158 := Body.of Tryz.func158 (by kernel_rfl) (by kernel_rfl)
theorem body159 : Body Tryz.prog 159 := Body.of Tryz.func159 (by kernel_rfl) (by kernel_rfl)
theorem body160 : Body Tryz.prog 160 := Body.of Tryz.func160 (by kernel_rfl) (by kernel_rfl)
theorem body161 : Body Tryz.prog 161 := Body.of Tryz.func161 (by kernel_rfl) (by kernel_rfl)
theorem body162 : Body Tryz.prog 162 := Body.of Tryz.func162 (by kernel_rfl) (by kernel_rfl)
theorem body163 : Body Tryz.prog 163 := Body.of Tryz.func163 (by kernel_rfl) (by kernel_rfl)
theorem body164 : Body Tryz.prog 164 := Body.of Tryz.func164 (by kernel_rfl) (by kernel_rfl)
theorem body165 : Body Tryz.prog 165 := Body.of Tryz.func165 (by kernel_rfl) (by kernel_rfl)
theorem body166 : Body Tryz.prog 166 := Body.of Tryz.func166 (by kernel_rfl) (by kernel_rfl)
theorem body170 : Body Tryz.prog 170 := Body.of Tryz.func170 (by kernel_rfl) (by kernel_rfl)
theorem body171 : Body Tryz.prog 171 := Body.of Tryz.func171 (by kernel_rfl) (by kernel_rfl)
theorem body172 : Body Tryz.prog 172 := Body.of Tryz.func172 (by kernel_rfl) (by kernel_rfl)
theorem body173 : Body Tryz.prog 173 := Body.of Tryz.func173 (by kernel_rfl) (by kernel_rfl)
theorem body175 : Body Tryz.prog 175 := Body.of Tryz.func175 (by kernel_rfl) (by kernel_rfl)
theorem body176 : Body Tryz.prog 176 := Body.of Tryz.func176 (by kernel_rfl) (by kernel_rfl)
theorem body178 : Body Tryz.prog 178 := Body.of Tryz.func178 (by kernel_rfl) (by kernel_rfl)
theorem body179 : Body Tryz.prog 179 := Body.of Tryz.func179 (by kernel_rfl) (by kernel_rfl)
theorem body182 : Body Tryz.prog 182 := Body.of Tryz.func182 (by kernel_rfl) (by kernel_rfl)
theorem body202 : Body Tryz.prog 202 := Body.of Tryz.func202 (by kernel_rfl) (by kernel_rfl)
theorem body203 : Body Tryz.prog 203 := Body.of Tryz.func203 (by kernel_rfl) (by kernel_rfl)
theorem body205 : Body Tryz.prog 205 := Body.of Tryz.func205 (by kernel_rfl) (by kernel_rfl)
theorem body206 : Body Tryz.prog 206 := Body.of Tryz.func206 (by kernel_rfl) (by kernel_rfl)
theorem body212 : Body Tryz.prog 212 := Body.of Tryz.func212 (by kernel_rfl) (by kernel_rfl)
theorem body213 : Body Tryz.prog 213 := Body.of Tryz.func213 (by kernel_rfl) (by kernel_rfl)
end Go.Bw
namespace Go.Bw
set_option linter.unusedVariables false
set_option linter.unusedSimpArgs false
abbrev B (b : UInt8) : Value := .int .u8 (b.toNat : Int)

theorem u8_wrap (n : Nat) : IntKind.u8.wrap (n : Int) = ((n % 256 : Nat) : Int) := by
  simp [IntKind.wrap, IntKind.bits, IntKind.signed]

theorem u8_shl1 (a : UInt8) : IntKind.u8.wrap ((a.toNat : Int) * 2 ^ (min (1 : Int).toNat IntKind.u8.bits)) = ((a <<< 1).toNat : Int) := by
  have : ((a.toNat : Int) * 2 ^ (min (1 : Int).toNat IntKind.u8.bits)) = ((a.toNat * 2 : Nat) : Int) := by simp [IntKind.bits]
  rw [this, u8_wrap]
  simp [UInt8.toNat_shiftLeft, Nat.shiftLeft_eq]
theorem u8_xor (a b : UInt8) : IntKind.u8.wrap (((BitVec.ofInt IntKind.u8.bits (a.toNat : Int) ^^^ BitVec.ofInt IntKind.u8.bits (b.toNat : Int)).toNat : Nat) : Int) = ((a ^^^ b).toNat : Int) := by
  rw [u8_wrap]
  have ha := a.toNat_lt
  have hb := b.toNat_lt
  change (((BitVec.ofInt 8 (a.toNat : Int) ^^^ BitVec.ofInt 8 (b.toNat : Int) : BitVec 8).toNat % 256 : Nat) : Int) = _
  have h1 : (BitVec.ofInt 8 (a.toNat : Int)) = BitVec.ofNat 8 a.toNat := by
    apply BitVec.eq_of_toNat_eq; simp
  have h2 : (BitVec.ofInt 8 (b.toNat : Int)) = BitVec.ofNat 8 b.toNat := by
    apply BitVec.eq_of_toNat_eq; simp
  have h := Nat.xor_lt_two_pow (n := 8) ha hb
  rw [h1, h2, BitVec.toNat_xor, BitVec.toNat_ofNat, BitVec.toNat_ofNat, Nat.mod_eq_of_lt ha, Nat.mod_eq_of_lt hb, UInt8.toNat_xor]
  omega

section
variable {P : Program} {n : Nat} {ds : List Deferred} {env : Env} {w : World} {x y : Operand} {i j : Int} {tx tyy : TypeId}
variable {dst : Option Nat} {ty : TypeId} {pos : String} {aft : Array Edge} {gd : Option (Nat × Bool)} {R : Value → World → Prop}
theorem OR.xorB (a b : UInt8) (hx : look env x = some (.int .u8 i)) (hy : look env y = some (.int .u8 j)) (hi : i = (a.toNat : Int)) (hj : j = (b.toNat : Int)) (hR : R (B (a ^^^ b)) w) :
    OR P n ds ⟨dst, .binOp .xor tx x y tyy, ty, pos, aft, gd⟩ env w R :=
  .xor hx hy (by subst hi; subst hj; rw [u8_xor]; exact hR)
end
def Sub (H : Hp) (w : World) : Prop := ∀ b o, H b = some o → w.heap[b]? = some o
theorem HS.toSub {xs : List Nat} {H0 H : Hp} {w0 w : World} {M : Mem} (h : HS xs H0 w0 H M w) : Sub H w := h.sub
theorem HS.init {H : Hp} {w : World} (h : Sub H w) : HS [] H w H [] w := HS.start [] h (by simp) (by simp [Mem.keys])
theorem Pure.mk {H : Hp} {w : World} {R : Value → Hp → Prop} {v : Value} {H' : Hp} {M : Mem} {w' : World} (h : HS [] H w H' M w') (hR : R v H') : Pure H w R (.returned v) w' :=
  ⟨v, H', [], rfl, h.sublist (List.nil_sublist _), by simp, rfl, hR⟩

end Go.Bw
namespace Go.Bw
set_option linter.unusedVariables false
set_option linter.unusedSimpArgs false
/-- A fact on a value, and on the blocks that were made with it, that stays as memory grows. -/
structure MF where
  F : Value → Mem → Hp → Prop
  mono : ∀ v M H H', Hp.le H H' → F v M H → F v M H'

def MF.eq (u : Value) : MF := ⟨fun v M _ => v = u ∧ M = [], fun _ _ _ _ _ h => h⟩
/-- A fact on the value alone. -/
def MF.of (F : Value → Hp → Prop) (mono : ∀ v H H', Hp.le H H' → F v H → F v H') : MF := ⟨fun v M H => F v H ∧ M = [], fun v _ H H' hle h => ⟨mono v H H' hle h.1, h.2⟩⟩
section
variable {P : Program} {n : Nat} {ds : List Deferred}
/-- An operation with its guard. -/
def ORg (P : Program) (n : Nat) (ds : List Deferred) (ops : List Oper) (o : Oper) (env : Env) (w : World) (R : Value → World → Prop) : Prop :=
  ∀ a, St n ds env a → ∀ (K : Act → World → Prop) (Q : Exit → Act → World → Prop), (∀ v w', R v w' → K (a.put o.dst v) w') →
    if Region.wanted o (yielded ops.toArray a.tmps) then o.wp P a w K Q else K (a.put o.dst undef) w

variable {env : Env} {w : World} {op : Op} {dst : Option Nat} {ty : TypeId} {pos : String} {aft : Array Edge} {R : Value → World → Prop} {ops : List Oper}
theorem ORg.plain (h : OR P n ds ⟨dst, op, ty, pos, aft, none⟩ env w R) : ORg P n ds ops ⟨dst, op, ty, pos, aft, none⟩ env w R := by
  intro a ha K Q hK
  simp only [Region.wanted, if_true]
  exact h a ha K Q hK
theorem ORg.yes {j : Nat} {b c : Bool} (hb : guardOf ops env j = some c) (hc : c = b) (hj : guardDst ops n j = true)
    (h : OR P n ds ⟨dst, op, ty, pos, aft, some (j, b)⟩ env w R) : ORg P n ds ops ⟨dst, op, ty, pos, aft, some (j, b)⟩ env w R := by
  subst hc
  intro a ha K Q hK
  have hy := yielded_of ha hb (by intro o' d h1 h2; simpa [guardDst, h1, h2, dstOk] using hj)
  simp only [Region.wanted, hy, beq_self_eq_true, if_true]
  exact h a ha K Q hK
theorem ORg.no {j : Nat} {b c : Bool} (hb : guardOf ops env j = some c) (hc : c = !b) (hj : guardDst ops n j = true)
    (h : R undef w) : ORg P n ds ops ⟨dst, op, ty, pos, aft, some (j, b)⟩ env w R := by
  subst hc
  intro a ha K Q hK
  have hy := yielded_of ha hb (by intro o' d h1 h2; simpa [guardDst, h1, h2, dstOk] using hj)
  have : (some (!b) == some b) = false := by cases b <;> rfl
  simp only [Region.wanted, hy, this, if_false, Bool.false_eq_true]
  exact hK _ _ h
end
/-- On which operations one leans: data and guards. -/
def leans (o : Oper) : List Nat :=
  (o.after.toList.filter fun e => match e.ground with | .data => true | .guard => true | _ => false).map (·.on)

def uniq : List Nat → List Nat
  | [] => []
  | x :: xs => if xs.any (Nat.beq x) then uniq xs else x :: uniq xs

theorem mem_uniq {x : Nat} : ∀ {l : List Nat}, x ∈ uniq l → x ∈ l
  | [], h => by simp [uniq] at h
  | y :: l, h => by
    unfold uniq at h
    split at h
    · exact List.mem_cons_of_mem _ (mem_uniq h)
    · rcases List.mem_cons.1 h with e | h
      · simp [e]
      · exact List.mem_cons_of_mem _ (mem_uniq h)

/-- For all values of these operations that meet their facts. -/
def forVals (ops : List Oper) (Fs : List MF) (H : Hp) : List Nat → Env → (Env → Prop) → Prop
  | [], acc, K => K acc
  | j :: js, acc, K =>
    match nth ops j, nth Fs j with
    | some o, some F =>
      match o.dst with
      | some d => ∀ v My, F.F v My H → forVals ops Fs H js ((d, v) :: acc) K
      | none => forVals ops Fs H js acc K
    | _, _ => forVals ops Fs H js acc K

theorem forVals_nil {ops : List Oper} {Fs : List MF} {H : Hp} {acc : Env} {K : Env → Prop} (h : K acc) : forVals ops Fs H [] acc K := h
theorem forVals_cons {ops : List Oper} {Fs : List MF} {H : Hp} {acc : Env} {K : Env → Prop} {j : Nat} {js : List Nat} {o : Oper} {F : MF} {d : Nat} (ho : nth ops j = some o) (hF : nth Fs j = some F)
    (hd : o.dst = some d) (h : ∀ v My, F.F v My H → forVals ops Fs H js ((d, v) :: acc) K) : forVals ops Fs H (j :: js) acc K := by
  unfold forVals
  rw [ho, hF]
  simp only [hd]
  exact h

/-- What is owed for the first k of these operations, one behind the other; what is then left. -/
def OwedF (P : Program) (n : Nat) (ds : List Deferred) (xs : List Nat) (H0 : Hp) (w0 : World) (M : Mem) (ops : List Oper) (env : Env) (H : Hp) (fin : List MF → Prop) : List Oper → Nat → List MF → Prop
  | _, 0, Fs => fin Fs
  | [], _ + 1, _ => False
  | o :: os, k + 1, Fs => ∃ F : MF, (∀ Mx H' w', Hp.le H H' → HS xs H0 w0 H' (Mx ++ M) w' → forVals ops Fs H' (uniq (leans o)) env fun env' =>
      ORg P n ds ops o env' w' fun v w'' => ∃ H'' My, Hp.le H' H'' ∧ HS xs H0 w0 H'' (My ++ (Mx ++ M)) w'' ∧ F.F v My H'') ∧ OwedF P n ds xs H0 w0 M ops env H fin os k (Fs ++ [F])

/-- The same, with the facts in reverse (quicker to look up). -/
def Owed (P : Program) (n : Nat) (ds : List Deferred) (xs : List Nat) (H0 : Hp) (w0 : World) (M : Mem) (ops : List Oper) (env : Env) (H : Hp) (fin : List MF → Prop) : List Oper → Nat → List MF → Prop
  | _, 0, Rs => fin Rs.reverse
  | [], _ + 1, _ => False
  | o :: os, k + 1, Rs => ∃ F : MF, (∀ Mx H' w', Hp.le H H' → HS xs H0 w0 H' (Mx ++ M) w' → forVals ops Rs.reverse H' (uniq (leans o)) env fun env' =>
      ORg P n ds ops o env' w' fun v w'' => ∃ H'' My, Hp.le H' H'' ∧ HS xs H0 w0 H'' (My ++ (Mx ++ M)) w'' ∧ F.F v My H'') ∧ Owed P n ds xs H0 w0 M ops env H fin os k (F :: Rs)

theorem Owed.toF {P : Program} {n : Nat} {ds : List Deferred} {xs : List Nat} {H0 : Hp} {w0 : World} {M : Mem} {ops : List Oper} {env : Env} {H : Hp} {fin : List MF → Prop} : ∀ (os : List Oper) (k : Nat) (Rs : List MF),
    Owed P n ds xs H0 w0 M ops env H fin os k Rs → OwedF P n ds xs H0 w0 M ops env H fin os k Rs.reverse
  | [], 0, _, h => h
  | _ :: _, 0, _, h => h
  | [], _ + 1, _, h => h
  | o :: os, k + 1, Rs, ⟨F, h1, h2⟩ => ⟨F, h1, by rw [← List.reverse_cons]; exact Owed.toF os k _ h2⟩

theorem forVals_congr {ops : List Oper} {A A' : List MF} {H : Hp} {K : Env → Prop} : ∀ (js : List Nat) (acc : Env), forVals ops A H js acc K → (∀ j ∈ js, nth A j = nth A' j) → forVals ops A' H js acc K
  | [], acc, h, _ => h
  | j :: js, acc, h, hj => by
    unfold forVals at h ⊢
    rw [← hj j (by simp)]
    have hr : ∀ j' ∈ js, nth A j' = nth A' j' := fun j' h' => hj j' (List.mem_cons_of_mem _ h')
    split
    · rename_i o F ho hF
      rw [ho, hF] at h
      simp only at h
      split
      · rename_i d hd
        rw [hd] at h
        intro v My hv
        exact forVals_congr js _ (h v My hv) hr
      · rename_i hd
        rw [hd] at h
        exact forVals_congr js _ h hr
    · rename_i hno
      have h' : forVals ops A H js acc K := by
        revert h
        split
        · rename_i o F ho hF; exact absurd hF (by intro h9; exact hno o F ho h9)
        · exact id
      exact forVals_congr js _ h' hr

theorem leans_lt {o : Oper} {i : Nat} (h : ∀ e ∈ o.after.toList, Region.binds .any e = true → e.on < i) : ∀ j ∈ uniq (leans o), j < i := by
  intro j hj
  have := mem_uniq hj
  unfold leans at this
  obtain ⟨e, he, rfl⟩ := List.mem_map.1 this
  rw [List.mem_filter] at he
  refine h e he.1 ?_
  have h2 := he.2
  unfold Region.binds
  split at h2 <;> simp_all

theorem nth_append_left {α : Type} {l r : List α} {i : Nat} (h : i < l.length) : nth (l ++ r) i = nth l i := by
  rw [nth_eq, nth_eq, List.getElem?_append_left h]

section
variable {P : Program} {n : Nat} {ds : List Deferred} {xs : List Nat} {H0 H : Hp} {w0 : World} {M : Mem} {ops : List Oper} {env : Env} {fin : List MF → Prop}
theorem OwedF.elim (hb : ∀ i o, nth ops i = some o → ∀ e ∈ o.after.toList, Region.binds .any e = true → e.on < i) : ∀ (k : Nat) (Fs : List MF), OwedF P n ds xs H0 w0 M ops env H fin (ops.drop Fs.length) k Fs →
    ∃ Gs, (Fs ++ Gs).length = Fs.length + k ∧ fin (Fs ++ Gs) ∧ ∀ i o F, Fs.length ≤ i → nth ops i = some o → nth (Fs ++ Gs) i = some F → ∀ Mx H' w', Hp.le H H' → HS xs H0 w0 H' (Mx ++ M) w' →
      forVals ops (Fs ++ Gs) H' (uniq (leans o)) env fun env' => ORg P n ds ops o env' w' fun v w'' => ∃ H'' My, Hp.le H' H'' ∧ HS xs H0 w0 H'' (My ++ (Mx ++ M)) w'' ∧ F.F v My H''
  | 0, Fs, h => by
    have h' : fin Fs := by revert h; cases ops.drop Fs.length <;> exact id
    refine ⟨[], by simp, by simpa using h', ?_⟩
    intro i o F hi ho hF
    rw [List.append_nil, nth_eq] at hF
    exact absurd (List.getElem?_eq_some_iff.1 hF).1 (by omega)
  | k + 1, Fs, h => by
    cases hd : ops.drop Fs.length with
    | nil => rw [hd] at h; exact False.elim h
    | cons o os =>
      rw [hd] at h
      obtain ⟨F, hF, hrest⟩ := h
      have hlt : Fs.length < ops.length := by
        rcases Nat.lt_or_ge Fs.length ops.length with h1 | h1
        · exact h1
        · rw [List.drop_eq_nil_of_le h1] at hd; cases hd
      have hos : os = ops.drop (Fs ++ [F]).length := by
        rw [List.length_append, List.length_singleton]
        rw [List.drop_eq_getElem_cons hlt] at hd
        exact (List.cons.inj hd).2.symm
      have ho : nth ops Fs.length = some o := by
        rw [nth_eq, List.getElem?_eq_getElem hlt]
        rw [List.drop_eq_getElem_cons hlt] at hd
        rw [(List.cons.inj hd).1]
      rw [hos] at hrest
      obtain ⟨Gs, h1, h2, h3⟩ := OwedF.elim hb k (Fs ++ [F]) hrest
      have e : Fs ++ [F] ++ Gs = Fs ++ ([F] ++ Gs) := List.append_assoc ..
      refine ⟨[F] ++ Gs, by rw [← e, h1]; simp; omega, by rw [← e]; exact h2, ?_⟩
      intro i o' F' hi ho' hF' Mx H' w' hle hs
      by_cases hie : i = Fs.length
      · subst hie
        rw [ho] at ho'
        cases ho'
        rw [← e, nth_append_left (by simp), nth_eq, List.getElem?_append_right (Nat.le_refl _)] at hF'
        simp at hF'
        subst hF'
        refine forVals_congr _ _ (hF Mx H' w' hle hs) ?_
        intro j hj
        exact (nth_append_left (leans_lt (hb _ _ ho) j hj)).symm
      · have := h3 i o' F' (by simp; omega) ho' (by rw [e]; exact hF') Mx H' w' hle hs
        rw [e] at this
        exact this
end
def dstOf (ops : List Oper) (i : Nat) : Option Nat := (nth ops i).bind (·.dst)

/-- On which operations each one leans, through others too. -/
def reachRow (rows : List (List Bool)) (o : Oper) : List Bool :=
  (List.range rows.length).map fun j => o.after.toList.any fun e => Region.binds .any e && (Nat.beq e.on j || (match nth rows e.on with | some r => (match nth r j with | some b => b | none => false) | none => false))
def reachTab : List Oper → List (List Bool) → List (List Bool)
  | [], rows => rows
  | o :: os, rows => reachTab os (rows ++ [reachRow rows o])
def reaches (tab : List (List Bool)) (i j : Nat) : Bool := match nth tab i with | some r => (match nth r j with | some b => b | none => false) | none => false

inductive Reach (ops : List Oper) : Nat → Nat → Prop
  | edge {i : Nat} {o : Oper} {e : Edge} (ho : nth ops i = some o) (he : e ∈ o.after.toList) (hb : Region.binds .any e = true) : Reach ops i e.on
  | step {i j : Nat} {o : Oper} {e : Edge} (ho : nth ops i = some o) (he : e ∈ o.after.toList) (hb : Region.binds .any e = true) (h : Reach ops e.on j) : Reach ops i j

theorem reachTab_ok (ops : List Oper) : ∀ (os : List Oper) (rows : List (List Bool)), os = ops.drop rows.length → (∀ i j, reaches rows i j = true → Reach ops i j) → ∀ i j, reaches (reachTab os rows) i j = true → Reach ops i j
  | [], rows, _, h => h
  | o :: os, rows, ho, h => by
    have hlt : rows.length < ops.length := by
      rcases Nat.lt_or_ge rows.length ops.length with h1 | h1
      · exact h1
      · rw [List.drop_eq_nil_of_le h1] at ho; cases ho
    rw [List.drop_eq_getElem_cons hlt] at ho
    obtain ⟨h1, h2⟩ := List.cons.inj ho
    have hno : nth ops rows.length = some o := by rw [nth_eq, List.getElem?_eq_getElem hlt, h1]
    refine reachTab_ok ops os (rows ++ [reachRow rows o]) (by simpa using h2) ?_
    intro i j hij
    unfold reaches at hij
    by_cases hi : i < rows.length
    · refine h i j ?_
      unfold reaches
      rw [nth_eq, List.getElem?_append_left hi, ← nth_eq] at hij
      exact hij
    · by_cases hi2 : i = rows.length
      · subst hi2
        rw [nth_eq, List.getElem?_append_right (Nat.le_refl _)] at hij
        simp only [Nat.sub_self, List.getElem?_cons_zero] at hij
        rw [nth_eq] at hij
        unfold reachRow at hij
        by_cases hj : j < rows.length
        · rw [List.getElem?_map, List.getElem?_range hj] at hij
          simp only [Option.map_some, List.any_eq_true, Bool.and_eq_true, Bool.or_eq_true] at hij
          obtain ⟨e, he, hb, h3⟩ := hij
          rcases h3 with h3 | h3
          · have := Nat.eq_of_beq_eq_true h3
            subst this
            exact .edge hno he hb
          · exact .step hno he hb (h e.on j h3)
        · rw [List.getElem?_eq_none (by simpa using hj)] at hij
          simp at hij
      · rw [nth_eq, List.getElem?_eq_none (by simp; omega)] at hij
        simp at hij

/-- All is well with the region's shape: the first m in any order, the rest behind all that stand ahead of them. -/
def drawOk (ops : List Oper) (m n : Nat) (env : Env) (fl : List Nat) : Bool :=
  Nat.ble m ops.length &&
  (List.range ops.length).all (fun i => match nth ops i with
    | some o => o.after.toList.all (fun e => !Region.binds .any e || Nat.blt e.on i) &&
        (if i < m then (match o.dst with
            | some d => Nat.blt d n && env.all (fun p => !Nat.beq p.1 d) && (List.range m).all (fun j => Nat.beq i j || (match dstOf ops j with | some d' => !Nat.beq d d' | none => false))
            | none => false) &&
          (uniq (leans o)).all (fun j => o.after.toList.any fun e => Region.binds .any e && Nat.beq e.on j)
        else (List.range i).all fun j => fl.any (Nat.beq j) || reaches (reachTab ops []) i j)
    | none => false)

/-- For all values that meet the facts, one behind the other; the blocks that were made stand in front. -/
def forAllVals (ops : List Oper) (H : Hp) : Nat → List MF → Env → Mem → (Env → Mem → Prop) → Prop
  | _, [], env, M, K => K env M
  | i, F :: Fs, env, M, K => ∀ v My, F.F v My H → forAllVals ops H (i + 1) Fs (match dstOf ops i with | some d => (d, v) :: env | none => env) (My ++ M) K

theorem forAllVals_nil {ops : List Oper} {H : Hp} {i : Nat} {env : Env} {M : Mem} {K : Env → Mem → Prop} (h : K env M) : forAllVals ops H i [] env M K := h
theorem forAllVals_cons {ops : List Oper} {H : Hp} {i : Nat} {F : MF} {Fs : List MF} {env : Env} {M : Mem} {K : Env → Mem → Prop} {d : Nat} (hd : dstOf ops i = some d)
    (h : ∀ v My, F.F v My H → forAllVals ops H (i + 1) Fs ((d, v) :: env) (My ++ M) K) : forAllVals ops H i (F :: Fs) env M K := by
  unfold forAllVals
  rw [hd]
  exact h
theorem forAllVals_eq {ops : List Oper} {H : Hp} {i : Nat} {u : Value} {Fs : List MF} {env : Env} {M : Mem} {K : Env → Mem → Prop} {d : Nat} (hd : dstOf ops i = some d)
    (h : forAllVals ops H (i + 1) Fs ((d, u) :: env) M K) : forAllVals ops H i (MF.eq u :: Fs) env M K :=
  forAllVals_cons hd (by rintro v My ⟨rfl, rfl⟩; exact h)
theorem forAllVals_of {ops : List Oper} {H : Hp} {i : Nat} {F : Value → Hp → Prop} {hm} {Fs : List MF} {env : Env} {M : Mem} {K : Env → Mem → Prop} {d : Nat} (hd : dstOf ops i = some d)
    (h : ∀ v, F v H → forAllVals ops H (i + 1) Fs ((d, v) :: env) M K) : forAllVals ops H i (MF.of F hm :: Fs) env M K :=
  forAllVals_cons hd (by rintro v My ⟨hv, rfl⟩; exact h v hv)
theorem forVals_eq {ops : List Oper} {Fs : List MF} {H : Hp} {acc : Env} {K : Env → Prop} {j : Nat} {js : List Nat} {o : Oper} {u : Value} {d : Nat} (ho : nth ops j = some o) (hF : nth Fs j = some (MF.eq u))
    (hd : o.dst = some d) (h : forVals ops Fs H js ((d, u) :: acc) K) : forVals ops Fs H (j :: js) acc K :=
  forVals_cons ho hF hd (by rintro v My ⟨rfl, rfl⟩; exact h)
theorem forVals_of {ops : List Oper} {Fs : List MF} {H : Hp} {acc : Env} {K : Env → Prop} {j : Nat} {js : List Nat} {o : Oper} {F : Value → Hp → Prop} {hm} {d : Nat} (ho : nth ops j = some o) (hF : nth Fs j = some (MF.of F hm))
    (hd : o.dst = some d) (h : ∀ v, F v H → forVals ops Fs H js ((d, v) :: acc) K) : forVals ops Fs H (j :: js) acc K :=
  forVals_cons ho hF hd (by rintro v My ⟨hv, rfl⟩; exact h v hv)

theorem ready_iff {ops : List Oper} {L : Array Bool} {i : Nat} :
    i ∈ Region.ready .any ops.toArray L ↔ ∃ o, nth ops i = some o ∧ L.getD i true = false ∧ ∀ e ∈ o.after.toList, Region.binds .any e = true → L.getD e.on false = true := by
  unfold Region.ready
  rw [List.mem_filter, List.mem_range]
  simp only [List.getElem?_toArray, nth_eq, Bool.and_eq_true, Bool.not_eq_true', List.size_toArray]
  constructor
  · rintro ⟨h1, h2, h3⟩
    rw [List.getElem?_eq_getElem h1] at h3 ⊢
    refine ⟨_, rfl, h2, ?_⟩
    simp only [Option.map_some, Option.getD_some, Array.all_eq_true_iff_forall_mem] at h3
    intro e he hb
    have := h3 e (Array.mem_toList_iff.1 he)
    simpa [hb] using this
  · rintro ⟨o, h1, h2, h3⟩
    have hlt : i < ops.length := (List.getElem?_eq_some_iff.1 h1).1
    refine ⟨hlt, h2, ?_⟩
    rw [h1]
    simp only [Option.map_some, Option.getD_some, Array.all_eq_true_iff_forall_mem]
    intro e he
    cases hb : Region.binds .any e with
    | false => simp
    | true => simp [h3 e (Array.mem_toList_iff.2 he) hb]

structure Shape (ops : List Oper) (m n : Nat) (env : Env) (fl : List Nat) : Prop where
  le : m ≤ ops.length
  back : ∀ i o, nth ops i = some o → ∀ e ∈ o.after.toList, Region.binds .any e = true → e.on < i
  dst : ∀ i o, nth ops i = some o → i < m → ∃ d, o.dst = some d ∧ d < n ∧ (∀ p ∈ env, p.1 ≠ d) ∧ ∀ j, j < m → i ≠ j → ∀ d', dstOf ops j = some d' → d ≠ d'
  lean : ∀ i o, nth ops i = some o → i < m → ∀ j ∈ uniq (leans o), ∃ e ∈ o.after.toList, Region.binds .any e = true ∧ e.on = j
  last : ∀ i o, nth ops i = some o → m ≤ i → ∀ j, j < i → j ∈ fl ∨ Reach ops i j

theorem beq_iff (a b : Nat) : Nat.beq a b = true ↔ a = b := ⟨Nat.eq_of_beq_eq_true, fun e => by subst e; exact Nat.beq_refl a⟩

theorem Shape.of {ops : List Oper} {m n : Nat} {env : Env} {fl : List Nat} (h : drawOk ops m n env fl = true) : Shape ops m n env fl := by
  unfold drawOk at h
  rw [Bool.and_eq_true, List.all_eq_true] at h
  obtain ⟨h0, h1⟩ := h
  have key : ∀ i o, nth ops i = some o → (o.after.toList.all (fun e => !Region.binds .any e || Nat.blt e.on i) &&
        (if i < m then (match o.dst with
            | some d => Nat.blt d n && env.all (fun p => !Nat.beq p.1 d) && (List.range m).all (fun j => Nat.beq i j || (match dstOf ops j with | some d' => !Nat.beq d d' | none => false))
            | none => false) &&
          (uniq (leans o)).all (fun j => o.after.toList.any fun e => Region.binds .any e && Nat.beq e.on j)
        else (List.range i).all fun j => fl.any (Nat.beq j) || reaches (reachTab ops []) i j)) = true := by
    intro i o ho
    have hlt : i < ops.length := by rw [nth_eq] at ho; exact (List.getElem?_eq_some_iff.1 ho).1
    have := h1 i (List.mem_range.2 hlt)
    rwa [ho] at this
  refine ⟨Nat.le_of_ble_eq_true h0, ?_, ?_, ?_, ?_⟩
  · intro i o ho e he hb
    have := key i o ho
    rw [Bool.and_eq_true, List.all_eq_true] at this
    have := this.1 e he
    simpa [hb, Nat.blt_eq] using this
  · intro i o ho hi
    have := key i o ho
    rw [Bool.and_eq_true, if_pos hi, Bool.and_eq_true] at this
    have h2 := this.2.1
    cases hd : o.dst with
    | none => rw [hd] at h2; exact absurd h2 (by simp)
    | some d =>
      rw [hd] at h2
      simp only [Bool.and_eq_true, List.all_eq_true] at h2
      obtain ⟨⟨h3, h4⟩, h5⟩ := h2
      refine ⟨d, rfl, by simpa [Nat.blt_eq] using h3, ?_, ?_⟩
      · intro p hp e
        have := h4 p hp
        rw [Bool.not_eq_true', ← Bool.not_eq_true, beq_iff] at this
        exact this e
      · intro j hj hij d' hd' e
        have := h5 j (List.mem_range.2 hj)
        rw [hd', Bool.or_eq_true, beq_iff, Bool.not_eq_true', ← Bool.not_eq_true, beq_iff] at this
        rcases this with h6 | h6
        · exact hij h6
        · exact h6 e
  · intro i o ho hi j hj
    have := key i o ho
    rw [Bool.and_eq_true, if_pos hi, Bool.and_eq_true] at this
    have := (List.all_eq_true.1 this.2.2) j hj
    rw [List.any_eq_true] at this
    obtain ⟨e, he, h3⟩ := this
    rw [Bool.and_eq_true, beq_iff] at h3
    exact ⟨e, he, h3.1, h3.2⟩
  · intro i o ho hi j hj
    have := key i o ho
    rw [Bool.and_eq_true, if_neg (by omega)] at this
    have := (List.all_eq_true.1 this.2) j (List.mem_range.2 hj)
    rw [Bool.or_eq_true] at this
    rcases this with this | this
    · obtain ⟨q, hq, he⟩ := List.any_eq_true.1 this
      rw [beq_iff] at he
      subst he
      exact .inl hq
    · exact .inr (reachTab_ok ops ops [] rfl (by intro i j h; simp [reaches, nth] at h) i j this)

/-- What has been done is closed: on whatever it leans has been done. -/
def Closed (ops : List Oper) (L : Array Bool) : Prop :=
  ∀ i o, nth ops i = some o → L.getD i false = true → ∀ e ∈ o.after.toList, Region.binds .any e = true → L.getD e.on false = true
theorem Closed.reach {ops : List Oper} {L : Array Bool} (h : Closed ops L) {i j : Nat} (hr : Reach ops i j) :
    (∀ o, nth ops i = some o → ∀ e ∈ o.after.toList, Region.binds .any e = true → L.getD e.on false = true) → L.getD j false = true := by
  induction hr with
  | edge ho he hb => exact fun hd => hd _ ho _ he hb
  | step ho he hb _ ih => exact fun hd => ih fun o' ho' e' he' hb' => h _ o' ho' (hd _ ho _ he hb) e' he' hb'
theorem Closed.set {ops : List Oper} {L : Array Bool} (h : Closed ops L) {i : Nat} {o : Oper} (ho : nth ops i = some o) (hd : ∀ e ∈ o.after.toList, Region.binds .any e = true → L.getD e.on false = true) :
    Closed ops (L.setIfInBounds i true) := by
  have up : ∀ k, L.getD k false = true → (L.setIfInBounds i true).getD k false = true := by
    intro k hk
    simp only [Array.getD_eq_getD_getElem?, Array.getElem?_setIfInBounds] at hk ⊢
    by_cases e : i = k
    · subst e
      by_cases hs : i < L.size
      · simp [hs]
      · simp [hs] at hk
    · simpa [e] using hk
  intro k o' ho' hk e he hb
  by_cases e2 : i = k
  · subst e2
    rw [ho] at ho'
    cases ho'
    exact up _ (hd e he hb)
  · simp only [Array.getD_eq_getD_getElem?, Array.getElem?_setIfInBounds, e2, if_false] at hk
    exact up _ (h k o' ho' (by rw [Array.getD_eq_getD_getElem?]; exact hk) e he hb)

theorem getD_of_lt {L : Array Bool} {i : Nat} (h : i < L.size) (x y : Bool) : L.getD i x = L.getD i y := by simp [Array.getD, h]

section
variable {P : Program} {n m : Nat} {ds : List Deferred} {ops : List Oper} {env : Env} {Q : Exit → Act → World → Prop}
/-- Behind the first m: in their order. -/
theorem wpAny_rest {fl : List Nat} (hsh : Shape ops m n env fl) : ∀ (fuel j : Nat) (L : Array Bool) (a : Act) (w : World), (∀ q ∈ fl, L.getD q false = true) → L.size = ops.length → (∀ i, i < ops.length → (L.getD i true = true ↔ i < j)) → m ≤ j → j ≤ ops.length →
    ops.length - j ≤ fuel → Closed ops L → wpList P ops.toArray Q (ops.drop j) a w → wpAny P .any ops.toArray Q fuel L a w
  | 0, j, L, a, w, _, hsz, hL, hmj, hj, hf, _, h => by
    have e : j = ops.length := by omega
    subst e
    rw [List.drop_length] at h
    refine ⟨?_, h⟩
    cases hr : Region.ready .any ops.toArray L with
    | nil => rfl
    | cons i l =>
      have hi : i ∈ Region.ready .any ops.toArray L := by rw [hr]; simp
      obtain ⟨o, h1, h2, _⟩ := ready_iff.1 hi
      have hlt : i < ops.length := by rw [nth_eq] at h1; exact (List.getElem?_eq_some_iff.1 h1).1
      rw [(hL i hlt).2 hlt] at h2
      cases h2
  | fuel + 1, j, L, a, w, hfl, hsz, hL, hmj, hj, hf, hcl, h => by
    refine ⟨?_, ?_⟩
    · intro hr
      by_cases e : j = ops.length
      · subst e; rw [List.drop_length] at h; exact h
      · exfalso
        have hlt : j < ops.length := by omega
        have : j ∈ Region.ready .any ops.toArray L := by
          refine ready_iff.2 ⟨ops[j], by rw [nth_eq, List.getElem?_eq_getElem hlt], ?_, ?_⟩
          · cases hg : L.getD j true with
            | false => rfl
            | true => exact absurd ((hL j hlt).1 hg) (Nat.lt_irrefl j)
          · intro e he hb
            have h3 := hsh.back j ops[j] (by rw [nth_eq, List.getElem?_eq_getElem hlt]) e he hb
            rw [getD_of_lt (by omega) false true]
            exact (hL e.on (by omega)).2 h3
        rw [hr] at this
        cases this
    · intro i hi
      obtain ⟨o, h1, h2, h3⟩ := ready_iff.1 hi
      have hlt : i < ops.length := by rw [nth_eq] at h1; exact (List.getElem?_eq_some_iff.1 h1).1
      have hij : j ≤ i := by
        rcases Nat.lt_or_ge i j with h4 | h4
        · rw [(hL i hlt).2 h4] at h2; cases h2
        · exact h4
      have e : i = j := by
        rcases Nat.lt_or_ge j i with h4 | h4
        · have h5 : L.getD j false = true := by
            rcases hsh.last i o h1 (by omega) j h4 with h6 | h6
            · exact hfl j h6
            · exact hcl.reach h6 (fun o' ho' e he hb => by rw [h1] at ho'; cases ho'; exact h3 e he hb)
          rw [getD_of_lt (by omega) false true] at h5
          exact absurd ((hL j (by omega)).1 h5) (Nat.lt_irrefl j)
        · omega
      subst e
      have hg : ops[i] = o := by rw [nth_eq, List.getElem?_eq_getElem hlt] at h1; exact Option.some.inj h1
      rw [List.drop_eq_getElem_cons hlt, hg] at h
      have h6 : wpOp P ops.toArray Q i (wpList P ops.toArray Q (ops.drop (i + 1))) a w := by
        unfold wpOp
        rw [nth_eq] at h1
        simp only [List.getElem?_toArray, h1]
        exact h
      refine wpOp_mono ?_ h6
      intro a' w' h7
      refine wpAny_rest hsh fuel (i + 1) _ a' w' (fun q hq => getD_set_true (hfl q hq)) (by simp [hsz]) ?_ (by omega) (by omega) (by omega) (hcl.set h1 h3) h7
      intro k hk
      by_cases e : i = k
      · subst e; simp [hsz, hlt]
      · have h8 := hL k hk
        simp only [Array.getD_eq_getD_getElem?, Array.getElem?_setIfInBounds, e, if_false] at h8 ⊢
        rw [h8]; omega

variable {xs : List Nat} {H0 H : Hp} {w0 : World} {M : Mem} {Fs : List MF}
theorem forVals_elim {H' : Hp} {K : Env → Prop} {a : Act} : ∀ (js : List Nat) (acc : Env), forVals ops Fs H' js acc K → St n ds acc a →
    (∀ j ∈ js, ∀ o F d, nth ops j = some o → nth Fs j = some F → o.dst = some d → ∃ My, F.F (a.tmps.getD d undef) My H') → ∃ env', St n ds env' a ∧ K env'
  | [], acc, h, ha, _ => ⟨acc, ha, h⟩
  | j :: js, acc, h, ha, hj => by
    unfold forVals at h
    have hrest : ∀ j' ∈ js, ∀ o F d, nth ops j' = some o → nth Fs j' = some F → o.dst = some d → ∃ My, F.F (a.tmps.getD d undef) My H' := fun j' hj' => hj j' (List.mem_cons_of_mem _ hj')
    split at h
    · rename_i o F ho hF
      split at h
      · rename_i d hd
        obtain ⟨My, hMy⟩ := hj j (by simp) o F d ho hF hd
        refine forVals_elim js _ (h _ My hMy) ⟨ha.dfr, ha.sz, ?_⟩ hrest
        intro t v hv
        simp only [Env.get] at hv
        cases hb : Nat.beq d t with
        | true =>
          rw [hb] at hv
          have := Nat.eq_of_beq_eq_true hb
          subst this
          exact Option.some.inj hv
        | false => rw [hb] at hv; exact ha.get t v hv
      · exact forVals_elim js _ h ha hrest
    · exact forVals_elim js _ h ha hrest

/-- The blocks that were made, the latest in front. -/
def catM : Nat → List MF → (Nat → Mem) → Mem → Mem
  | _, [], _, M => M
  | i, _ :: Fs, my, M => catM (i + 1) Fs my (my i ++ M)

theorem catM_perm (my : Nat → Mem) : ∀ (Fs : List MF) (i : Nat) (M : Mem), (catM i Fs my M).Perm ((List.range' i Fs.length).flatMap my ++ M)
  | [], i, M => by simp [catM]
  | F :: Fs, i, M => by
    unfold catM
    refine (catM_perm my Fs (i + 1) (my i ++ M)).trans ?_
    simp only [List.length_cons, List.range'_succ, List.flatMap_cons, List.append_assoc]
    rw [← List.append_assoc, ← List.append_assoc]
    exact List.Perm.append_right M List.perm_append_comm

theorem forAllVals_elim {H' : Hp} {K : Env → Mem → Prop} {a : Act} (my : Nat → Mem) : ∀ (Fs' : List MF) (i : Nat) (acc : Env) (M' : Mem), forAllVals ops H' i Fs' acc M' K → St n ds acc a →
    (∀ j F, nth Fs' j = some F → ∃ d, dstOf ops (i + j) = some d ∧ F.F (a.tmps.getD d undef) (my (i + j)) H') → ∃ env', St n ds env' a ∧ K env' (catM i Fs' my M')
  | [], i, acc, M', h, ha, _ => ⟨acc, ha, h⟩
  | F :: Fs', i, acc, M', h, ha, hj => by
    unfold forAllVals at h
    obtain ⟨d, hd, hF⟩ := hj 0 F rfl
    have h1 := h _ _ hF
    simp only [Nat.add_zero] at hd h1
    rw [hd] at h1
    refine forAllVals_elim my Fs' (i + 1) _ _ h1 ⟨ha.dfr, ha.sz, ?_⟩ (fun j F' hF' => by have := hj (j + 1) F' hF'; rwa [show i + (j + 1) = i + 1 + j by omega] at this)
    intro t v hv
    simp only [Env.get] at hv
    cases hb : Nat.beq d t with
    | true =>
      rw [hb] at hv
      have := Nat.eq_of_beq_eq_true hb
      subst this
      exact Option.some.inj hv
    | false => rw [hb] at hv; exact ha.get t v hv

/-- What has been made by what has been done. -/
def madeBy (L : Array Bool) (my : Nat → Mem) (i : Nat) : Mem := if L.getD i true = true then my i else []

theorem flatMap_one {f g : Nat → Mem} {i : Nat} {X : Mem} : ∀ (l : List Nat), i ∈ l → l.Nodup → (∀ j, j ≠ i → f j = g j) → f i = [] → g i = X → (X ++ l.flatMap f).Perm (l.flatMap g)
  | [], h, _, _, _, _ => by cases h
  | k :: l, h, hn, hfg, hf, hg => by
    rw [List.nodup_cons] at hn
    by_cases e : k = i
    · subst e
      have : l.flatMap f = l.flatMap g := by
        rw [List.flatMap_def, List.flatMap_def]
        congr 1
        exact List.map_congr_left fun j hj => hfg j (fun e => hn.1 (e ▸ hj))
      simp only [List.flatMap_cons, hf, hg, this, List.nil_append]
      exact List.Perm.refl _
    · have hi : i ∈ l := by rcases List.mem_cons.1 h with h' | h'; exact absurd h'.symm e; exact h'
      have ih := flatMap_one l hi hn.2 hfg hf hg
      simp only [List.flatMap_cons, hfg k e]
      rw [← List.append_assoc]
      refine (List.Perm.append_right _ List.perm_append_comm).trans ?_
      rw [List.append_assoc]
      exact ih.append_left _

theorem St.putNew {a : Act} {d : Nat} (v : Value) (ha : St n ds env a) (hd : ∀ p ∈ env, p.1 ≠ d) : St n ds env (a.put (some d) v) := by
  refine ⟨ha.dfr, by simp [Act.put, ha.sz], ?_⟩
  intro t v' hv'
  have hne : d ≠ t := by
    intro e
    subst e
    have : ∃ p ∈ env, p.1 = d := by
      clear hd ha
      revert hv'
      generalize env = en
      intro hv'
      induction en with
      | nil => simp [Env.get] at hv'
      | cons p en ihe =>
        obtain ⟨k, u⟩ := p
        simp only [Env.get] at hv'
        cases hb : Nat.beq k d with
        | true => exact ⟨(k, u), by simp, Nat.eq_of_beq_eq_true hb⟩
        | false =>
          rw [hb] at hv'
          obtain ⟨p, hp, hp2⟩ := ihe hv'
          exact ⟨p, List.mem_cons_of_mem _ hp, hp2⟩
    obtain ⟨p, hp, hp2⟩ := this
    exact hd p hp hp2
  have := ha.get t v' hv'
  simpa [Act.put, Array.getD_eq_getD_getElem?, Array.getElem?_setIfInBounds, hne] using this

/-- What holds while the first m are under way. -/
structure DInv (n : Nat) (ds : List Deferred) (xs : List Nat) (H0 : Hp) (w0 : World) (H : Hp) (M : Mem) (ops : List Oper) (Fs : List MF) (env : Env) (L : Array Bool) (a : Act) (w : World) (H' : Hp) (Mx : Mem) (my : Nat → Mem) : Prop where
  cl : Closed ops L
  perm : Mx.Perm ((List.range' 0 Fs.length).flatMap (madeBy L my))
  sz : L.size = ops.length
  rest : ∀ i, i < ops.length → Fs.length ≤ i → L.getD i true = false
  le : Hp.le H H'
  hs : HS xs H0 w0 H' (Mx ++ M) w
  st : St n ds env a
  ok : ∀ i F d, nth Fs i = some F → dstOf ops i = some d → L.getD i true = true → F.F (a.tmps.getD d undef) (my i) H'

theorem DInv.step {fl : List Nat} (hsh : Shape ops Fs.length n env fl) {L : Array Bool} {a : Act} {w w'' : World} {H' H'' : Hp} {Mx My : Mem} {my : Nat → Mem} (D : DInv n ds xs H0 w0 H M ops Fs env L a w H' Mx my)
    {i : Nat} {o : Oper} {F : MF} {v : Value} (h1 : nth ops i = some o) (him : i < Fs.length) (hFi : nth Fs i = some F) (h2 : L.getD i true = false) (h3 : ∀ e ∈ o.after.toList, Region.binds .any e = true → L.getD e.on false = true)
    (hle' : Hp.le H' H'') (hs' : HS xs H0 w0 H'' (My ++ (Mx ++ M)) w'') (hF : F.F v My H'') :
    DInv n ds xs H0 w0 H M ops Fs env (L.setIfInBounds i true) (a.put o.dst v) w'' H'' (My ++ Mx) (fun k => if k = i then My else my k) := by
  obtain ⟨hcl, hperm, hsz, hrest, hle, hs, ha, hf⟩ := D
  have hlt : i < ops.length := by rw [nth_eq] at h1; exact (List.getElem?_eq_some_iff.1 h1).1
  obtain ⟨d, hd, hdn, hdenv, hdd⟩ := hsh.dst i o h1 him
  have hdi : dstOf ops i = some d := by simp [dstOf, h1, hd]
  have hput : (a.put o.dst v).tmps.getD d undef = v := by
    rw [hd]
    simp [Act.put, Array.getD_eq_getD_getElem?, ha.sz, hdn]
  have hother : ∀ t, t ≠ d → (a.put o.dst v).tmps.getD t undef = a.tmps.getD t undef := by
    intro t ht
    rw [hd]
    simp [Act.put, Array.getD_eq_getD_getElem?, Array.getElem?_setIfInBounds, Ne.symm ht]
  have hperm' : (My ++ Mx).Perm ((List.range' 0 Fs.length).flatMap (madeBy (L.setIfInBounds i true) (fun k => if k = i then My else my k))) := by
    refine (hperm.append_left My).trans (flatMap_one (i := i) _ ?_ List.nodup_range' ?_ ?_ ?_)
    · simp; omega
    · intro j hj
      unfold madeBy
      simp only [Array.getD_eq_getD_getElem?, Array.getElem?_setIfInBounds, show ¬ i = j from fun h => hj h.symm, if_false, hj]
    · simp [madeBy, h2]
    · simp [madeBy, hsz, hlt]
  refine ⟨hcl.set h1 h3, hperm', by simp [hsz], ?_, hle.trans hle', by rw [List.append_assoc]; exact hs', ?_, ?_⟩
  · intro k hk hmk
    have := hrest k hk hmk
    simp only [Array.getD_eq_getD_getElem?, Array.getElem?_setIfInBounds, show ¬ i = k by omega, if_false] at this ⊢
    exact this
  · rw [hd]; exact ha.putNew v hdenv
  · intro k F' d' hF' hd' hk
    by_cases e : k = i
    · subst e
      rw [hFi] at hF'
      rw [hdi] at hd'
      cases hF'
      cases hd'
      rw [hput, if_pos rfl]
      exact hF
    · have hkm : k < Fs.length := by rw [nth_eq] at hF'; exact (List.getElem?_eq_some_iff.1 hF').1
      have hne : d' ≠ d := fun h => hdd k hkm (Ne.symm e) d' hd' h.symm
      rw [hother d' hne, if_neg e]
      simp only [Array.getD_eq_getD_getElem?, Array.getElem?_setIfInBounds, show ¬ i = k from fun h => e h.symm, if_false] at hk
      exact F'.mono _ _ _ _ hle' (hf k F' d' hF' hd' (by rw [Array.getD_eq_getD_getElem?]; exact hk))

/-- The first m, in any order. -/
theorem wpAny_firstM {fl : List Nat} (hsh : Shape ops Fs.length n env fl) (howed : ∀ (i : Nat) (o : Oper) (F : MF), nth ops i = some o → nth Fs i = some F →
    ∀ Mx H' w', Hp.le H H' → HS xs H0 w0 H' (Mx ++ M) w' → forVals ops Fs H' (uniq (leans o)) env fun env' =>
      ORg P n ds ops o env' w' fun v w'' => ∃ H'' My, Hp.le H' H'' ∧ HS xs H0 w0 H'' (My ++ (Mx ++ M)) w'' ∧ F.F v My H'')
    (hfin : ∀ H' w', Hp.le H H' → forAllVals ops H' 0 Fs env M fun env' M' => HS xs H0 w0 H' M' w' → ∀ a, St n ds env' a → wpList P ops.toArray Q (ops.drop Fs.length) a w') :
    ∀ (fuel : Nat) (L : Array Bool) (l : List Nat) (a : Act) (w : World) (H' : Hp) (Mx : Mem) (my : Nat → Mem), (∀ q ∈ fl, L.getD q false = true) → DInv n ds xs H0 w0 H M ops Fs env L a w H' Mx my →
      (∀ i, i < Fs.length → L.getD i true = false → i ∈ l) → l.length + (ops.length - Fs.length) ≤ fuel → wpAny P .any ops.toArray Q fuel L a w := by
  have hfull : ∀ (L : Array Bool) (a : Act) (w : World) (H' : Hp) (Mx : Mem) (my : Nat → Mem), Mx.Perm ((List.range' 0 Fs.length).flatMap (madeBy L my)) → (∀ i, i < Fs.length → L.getD i true = true) → Hp.le H H' → HS xs H0 w0 H' (Mx ++ M) w → St n ds env a →
      (∀ i F d, nth Fs i = some F → dstOf ops i = some d → L.getD i true = true → F.F (a.tmps.getD d undef) (my i) H') → wpList P ops.toArray Q (ops.drop Fs.length) a w := by
    intro L a w H' Mx my hperm hall hle hs ha hf
    obtain ⟨env', h1, h2⟩ := forAllVals_elim (n := n) (ds := ds) (a := a) my Fs 0 env M (hfin H' w hle) ha (by
      intro j F hF
      have hj : j < Fs.length := by rw [nth_eq] at hF; exact (List.getElem?_eq_some_iff.1 hF).1
      have hjo : j < ops.length := Nat.lt_of_lt_of_le hj hsh.le
      obtain ⟨d, hd, _⟩ := hsh.dst j ops[j] (by rw [nth_eq, List.getElem?_eq_getElem hjo]) hj
      have hd' : dstOf ops j = some d := by simp [dstOf, nth_eq, hjo, hd]
      rw [Nat.zero_add]
      exact ⟨d, hd', hf j F d hF hd' (hall j hj)⟩)
    refine h2 (hs.perm ?_) a h1
    refine (catM_perm my Fs 0 M).trans (List.Perm.append_right M ?_)
    have : (List.range' 0 Fs.length).flatMap (madeBy L my) = (List.range' 0 Fs.length).flatMap my := by
      rw [List.flatMap_def, List.flatMap_def]
      congr 1
      refine List.map_congr_left fun j hj => ?_
      simp only [List.mem_range'_1] at hj
      simp [madeBy, hall j (by omega)]
    rw [← this]
    exact hperm.symm
  intro fuel
  induction fuel with
  | zero =>
    intro L l a w H' Mx my hfl D hl hlen
    obtain ⟨hcl, hperm, hsz, hrest, hle, hs, ha, hf⟩ := D
    have hl0 : l = [] := List.eq_nil_of_length_eq_zero (by omega)
    have hm := hsh.le
    have hall : ∀ i, i < Fs.length → L.getD i true = true := by
      intro i hi
      cases h : L.getD i true with
      | true => rfl
      | false => have := hl i hi h; rw [hl0] at this; cases this
    have h1 := hfull L a w H' Mx my hperm hall hle hs ha hf
    refine wpAny_rest hsh 0 Fs.length L a w hfl hsz ?_ (Nat.le_refl _) hm (by omega) hcl h1
    intro i hi
    exact ⟨fun _ => by omega, fun h => hall i h⟩
  | succ fuel ih =>
    intro L l a w H' Mx my hfl D hl hlen
    have D0 := D
    obtain ⟨hcl, hperm, hsz, hrest, hle, hs, ha, hf⟩ := D
    have hm := hsh.le
    by_cases hall : ∀ i, i < Fs.length → L.getD i true = true
    · have h1 := hfull L a w H' Mx my hperm hall hle hs ha hf
      refine wpAny_rest hsh (fuel + 1) Fs.length L a w hfl hsz ?_ (Nat.le_refl _) hm (by omega) hcl h1
      intro i hi
      refine ⟨fun h => ?_, fun h => hall i h⟩
      rcases Nat.lt_or_ge i Fs.length with h4 | h4
      · exact h4
      · rw [hrest i hi h4] at h; cases h
    · have hex : ∃ i, i < Fs.length ∧ L.getD i true = false ∧ ∀ j, j < i → L.getD j true = true := by
        clear ih hf ha hs D0
        have h0 : ∃ i, i < Fs.length ∧ L.getD i true = false := by
          refine Classical.byContradiction fun hno => hall fun i hi => ?_
          cases h : L.getD i true with
          | true => rfl
          | false => exact absurd ⟨i, hi, h⟩ hno
        obtain ⟨i, hi⟩ := h0
        induction i using Nat.strongRecOn with
        | _ i ihi =>
          by_cases hj : ∀ j, j < i → L.getD j true = true
          · exact ⟨i, hi.1, hi.2, hj⟩
          · have : ∃ j, j < i ∧ L.getD j true = false := by
              refine Classical.byContradiction fun hno => hj fun j hji => ?_
              cases h : L.getD j true with
              | true => rfl
              | false => exact absurd ⟨j, hji, h⟩ hno
            obtain ⟨j, hji, hj2⟩ := this
            exact ihi j hji ⟨by omega, hj2⟩
      refine ⟨?_, ?_⟩
      · intro hr
        exfalso
        obtain ⟨i, hi, h1, h2⟩ := hex
        have hio : i < ops.length := by omega
        have : i ∈ Region.ready .any ops.toArray L := by
          refine ready_iff.2 ⟨ops[i], by rw [nth_eq, List.getElem?_eq_getElem hio], h1, ?_⟩
          intro e he hb
          have h3 := hsh.back i ops[i] (by rw [nth_eq, List.getElem?_eq_getElem hio]) e he hb
          rw [getD_of_lt (by omega) false true]
          exact h2 e.on h3
        rw [hr] at this
        cases this
      · intro i hi
        obtain ⟨o, h1, h2, h3⟩ := ready_iff.1 hi
        have hlt : i < ops.length := by rw [nth_eq] at h1; exact (List.getElem?_eq_some_iff.1 h1).1
        have him : i < Fs.length := by
          rcases Nat.lt_or_ge i Fs.length with h4 | h4
          · exact h4
          · exfalso
            obtain ⟨j, hj, hj1, _⟩ := hex
            have h5 : L.getD j false = true := by
              rcases hsh.last i o h1 h4 j (by omega) with h6 | h6
              · exact hfl j h6
              · exact hcl.reach h6 (fun o' ho' e he hb => by rw [h1] at ho'; cases ho'; exact h3 e he hb)
            rw [getD_of_lt (by omega) false true, hj1] at h5
            cases h5
        obtain ⟨d, hd, hdn, hdenv, hdd⟩ := hsh.dst i o h1 him
        have hFi : nth Fs i = some Fs[i] := by rw [nth_eq, List.getElem?_eq_getElem him]
        have hdi : dstOf ops i = some d := by simp [dstOf, h1, hd]
        obtain ⟨env', hst, horg⟩ := forVals_elim (n := n) (ds := ds) (a := a) _ _ (howed i o Fs[i] h1 hFi Mx H' w hle hs) ha (by
          intro j hj o' F' d' ho' hF' hd'
          obtain ⟨e, he, hb, hon⟩ := hsh.lean i o h1 him j hj
          have h5 := h3 e he hb
          have h6 := hsh.back i o h1 e he hb
          rw [hon] at h5 h6
          rw [getD_of_lt (by omega) false true] at h5
          exact ⟨my j, hf j F' d' hF' (by simp [dstOf, ho', hd']) h5⟩)
        unfold wpOp
        have h1' := h1
        rw [nth_eq] at h1'
        simp only [List.getElem?_toArray, h1']
        have key := horg a hst (wpAny P .any ops.toArray Q fuel (L.setIfInBounds i true)) Q (by
          rintro v w'' ⟨H'', My, hle', hs', hF⟩
          refine ih _ (l.erase i) _ w'' H'' (My ++ Mx) _ (fun q hq => getD_set_true (hfl q hq)) (D0.step hsh h1 him hFi h2 h3 hle' hs' hF) ?_ ?_
          · intro k hk hk2
            by_cases e : k = i
            · subst e
              simp [hsz, hlt] at hk2
            · simp only [Array.getD_eq_getD_getElem?, Array.getElem?_setIfInBounds, show ¬ i = k from fun h => e h.symm, if_false] at hk2
              exact (List.mem_erase_of_ne e).2 (hl k hk (by rw [Array.getD_eq_getD_getElem?]; exact hk2))
          · have hmem := hl i him h2
            rw [List.length_erase_of_mem hmem]
            have := List.length_pos_of_mem hmem
            omega)
        split
        · rename_i hw; rw [if_pos hw] at key; exact .inl key
        · rename_i hw; rw [if_neg hw] at key; exact key

/-- No cut on the way out. -/
def Kont.flat : Kont → Bool
  | .fn _ _ => true
  | .seq _ k => k.flat
  | .block _ k => k.flat
  | .loop _ k => k.flat
  | .scope k => k.flat
  | .jump _ _ k => k.flat
  | .cut _ => false
theorem Kont.panic_put {c : _} {a : Act} {w : World} {d : Option Nat} {v : Value} : ∀ (k : Kont), k.flat = true → k.Q P (.panic c) (a.put d v) w → k.Q P (.panic c) a w
  | .fn f R, _, h => by
    have hd : (a.put d v).defers = a.defers := by cases d <;> rfl
    exact ⟨hd ▸ h.1, h.2⟩
  | .seq y k, hk, h => Kont.panic_put k hk h
  | .block id k, hk, h => Kont.panic_put k hk h
  | .loop I k, hk, h => Kont.panic_put k hk h
  | .scope k, hk, h => Kont.panic_put k hk h
  | .jump l J k, hk, h => Kont.panic_put k hk h
  | .cut X, hk, _ => by cases hk

/-- Moves that may be thought done first. -/
def floatOk (ops : List Oper) (n : Nat) (env : Env) : List Nat → Array Bool → Bool
  | [], _ => true
  | i :: is, L => (match nth ops i with
      | some o => (match o.op with | .move _ => true | _ => false) && (match o.guard with | none => true | some _ => false) && (match leans o with | [] => true | _ => false)
      | none => false) && Region.free .any ops.toArray L i && (Region.ready .any ops.toArray L).contains i && floatOk ops n env is (L.setIfInBounds i true)
def setAll (L : Array Bool) : List Nat → Array Bool
  | [] => L
  | i :: is => setAll (L.setIfInBounds i true) is

theorem wpAny_float {fl : List Nat} {k : Kont} (hk : k.flat = true) (hsel : Region.noSelect ops.toArray = true) (hsh : Shape ops Fs.length n env fl) (howed : ∀ (i : Nat) (o : Oper) (F : MF), nth ops i = some o → nth Fs i = some F →
    ∀ Mx H' w', Hp.le H H' → HS xs H0 w0 H' (Mx ++ M) w' → forVals ops Fs H' (uniq (leans o)) env fun env' =>
      ORg P n ds ops o env' w' fun v w'' => ∃ H'' My, Hp.le H' H'' ∧ HS xs H0 w0 H'' (My ++ (Mx ++ M)) w'' ∧ F.F v My H'') (fuel : Nat) :
    ∀ (is : List Nat) (L : Array Bool) (a : Act) (w : World) (H' : Hp) (Mx : Mem) (my : Nat → Mem), (∀ i ∈ is, i < Fs.length) → floatOk ops n env is L = true → DInv n ds xs H0 w0 H M ops Fs env L a w H' Mx my →
      (∀ a' H' Mx my, DInv n ds xs H0 w0 H M ops Fs env (setAll L is) a' w H' Mx my → wpAny P .any ops.toArray (k.Q P) fuel (setAll L is) a' w) → wpAny P .any ops.toArray (k.Q P) (is.length + fuel) L a w
  | [], L, a, w, H', Mx, my, _, _, D, h => by
    rw [List.length_nil, Nat.zero_add]
    exact h a H' Mx my D
  | i :: is, L, a, w, H', Mx, my, hlt, hok, D, h => by
    unfold floatOk at hok
    simp only [Bool.and_eq_true] at hok
    obtain ⟨⟨⟨h1, h2⟩, h3⟩, h4⟩ := hok
    have him := hlt i (by simp)
    cases ho : nth ops i with
    | none => rw [ho] at h1; exact absurd h1 (by simp)
    | some o =>
      rw [ho] at h1
      simp only [Bool.and_eq_true] at h1
      obtain ⟨⟨h5, h6⟩, h7⟩ := h1
      obtain ⟨dst, op, ty, pos, aft, gd⟩ := o
      cases op with
      | move x =>
        cases gd with
        | some _ => cases h6
        | none =>
        have hl : leans ⟨dst, .move x, ty, pos, aft, none⟩ = [] := by
          revert h7; cases leans ⟨dst, Op.move x, ty, pos, aft, none⟩ <;> simp
        obtain ⟨d, hd, hdn, hdenv, hdd⟩ := hsh.dst i _ ho him
        simp only at hd
        subst hd
        have hFi : nth Fs i = some Fs[i] := by rw [nth_eq, List.getElem?_eq_getElem him]
        have hr : i ∈ Region.ready .any ops.toArray L := by simpa using h3
        obtain ⟨o', ho', hr2, hr3⟩ := ready_iff.1 hr
        rw [ho] at ho'
        cases ho'
        have hq := howed i _ Fs[i] ho hFi Mx H' w D.le D.hs
        rw [hl] at hq
        have hq2 := hq a D.st (fun a' w' => ∃ v H'' My, a' = a.put (some d) v ∧ Hp.le H' H'' ∧ HS xs H0 w0 H'' (My ++ (Mx ++ M)) w' ∧ Fs[i].F v My H'') (fun _ _ _ => True)
          (fun v w' ⟨H'', My, q1, q2, q3⟩ => ⟨v, H'', My, rfl, q1, q2, q3⟩)
        have hw : Region.wanted (⟨some d, .move x, ty, pos, aft, none⟩ : Oper) (yielded ops.toArray a.tmps) = true := rfl
        rw [if_pos hw] at hq2
        have hrun : (execOp a.eval (⟨some d, .move x, ty, pos, aft, none⟩ : Oper)).run P w = .ok (.value (a.eval x)) w := by simp [execOp]
        have hq3 : ∃ v H'' My, a.put (some d) (a.eval x) = a.put (some d) v ∧ Hp.le H' H'' ∧ HS xs H0 w0 H'' (My ++ (Mx ++ M)) w ∧ Fs[i].F v My H'' := by
          unfold Oper.wp at hq2
          rw [hrun] at hq2
          exact hq2
        obtain ⟨v, H'', My, e, q1, q2, q3⟩ := hq3
        have hv : v = a.eval x := by
          have e1 : (a.put (some d) (a.eval x)).tmps.getD d undef = (a.put (some d) v).tmps.getD d undef := by rw [e]
          simpa [Act.put, Array.getD_eq_getD_getElem?, D.st.sz, hdn] using e1.symm
        subst hv
        have hD := D.step hsh ho him hFi hr2 hr3 q1 q2 q3
        have ih := wpAny_float hk hsel hsh howed fuel is _ _ w _ _ _ (fun j hj => hlt j (List.mem_cons_of_mem _ hj)) h4 hD h
        have hy : Yields P ops.toArray (⟨some d, .move x, ty, pos, aft, none⟩ : Oper) (a.eval x) a := .inl ⟨hw, fun w => by simp [execOp]⟩
        have ho' := ho
        rw [nth_eq] at ho'
        have := wpAny_take (Q := k.Q P) (fuel := is.length + fuel) (by simpa using ho') hsel h2 h3 (fun c a w => Kont.panic_put k hk) hy ih
        rwa [show is.length + fuel + 1 = (i :: is).length + fuel by simp; omega] at this
      | _ => cases h5

variable {w : World} {k : Kont}
theorem WC.drawF {id : Nat} (m : Nat) (fl : List Nat) (hm : P.follows .mixedOrders = true) (hs : HS xs H0 w0 H M w) (hok : (drawOk ops m n env fl && fl.all (Nat.blt · m) && (k.flat || fl.isEmpty) && (fl.isEmpty || Region.noSelect ops.toArray) && floatOk ops n env fl (Array.replicate ops.length false) && Nat.ble (fl.length + ((List.range m).filter fun i => !fl.contains i).length) m) = true)
    (howed : Owed P n ds xs H0 w0 M ops env H (fun Fs => ∀ H' w', Hp.le H H' → forAllVals ops H' 0 Fs env M fun env' M' => HS xs H0 w0 H' M' w' → WO P n ds ops.toArray (ops.drop m) k env' w') ops m []) :
    WC P n ds (.region id ops.toArray true) k env w := by
  simp only [Bool.and_eq_true, Bool.or_eq_true] at hok
  obtain ⟨⟨⟨⟨⟨h1, h2⟩, h3⟩, h4⟩, h5⟩, h8⟩ := hok
  have h8 := Nat.le_of_ble_eq_true h8
  intro a ha
  have hsh := Shape.of h1
  obtain ⟨Fs, h6, hfin, h7⟩ := OwedF.elim hsh.back m [] (Owed.toF _ _ [] howed)
  simp only [List.nil_append, List.length_nil, Nat.zero_add] at h6 hfin h7
  subst h6
  have hlt : ∀ i ∈ fl, i < Fs.length := fun i hi => by
    have := List.all_eq_true.1 h2 i hi
    simpa [Nat.blt_eq] using this
  refine wp_region_any hm ?_
  have hrep : ∀ i, i < ops.length → (Array.replicate ops.length false).getD i true = false := by
    intro i hi
    simp [Array.getD_eq_getD_getElem?, hi]
  have hD : DInv n ds xs H0 w0 H M ops Fs env (Array.replicate ops.length false) a w.drew H [] (fun _ => []) := by
    refine ⟨?_, ?_, by simp, fun i hi _ => hrep i hi, Hp.le.refl H, hs.drew, ha, ?_⟩
    · intro i o ho hi
      have hlt : i < ops.length := by rw [nth_eq] at ho; exact (List.getElem?_eq_some_iff.1 ho).1
      rw [getD_of_lt (by simpa using hlt) false true, hrep i hlt] at hi
      cases hi
    · rw [List.flatMap_eq_nil_iff.2 (by intro j _; simp [madeBy])]
    · intro i F d hF hd hL
      have hi : i < Fs.length := by rw [nth_eq] at hF; exact (List.getElem?_eq_some_iff.1 hF).1
      rw [hrep i (Nat.lt_of_lt_of_le hi hsh.le)] at hL
      cases hL
  have hset : ∀ (is : List Nat) (L : Array Bool) (q : Nat), L.getD q false = true → (setAll L is).getD q false = true := by
    intro is
    induction is with
    | nil => intro L q h; exact h
    | cons i is ih => intro L q h; exact ih _ q (getD_set_true h)
  have hset2 : ∀ (is : List Nat) (L : Array Bool) (q : Nat), q ∈ is → q < L.size → (setAll L is).getD q false = true := by
    intro is
    induction is with
    | nil => intro L q h; cases h
    | cons i is ih =>
      intro L q h hq
      rcases List.mem_cons.1 h with e | h
      · subst e
        exact hset is _ q (by simp [hq])
      · exact ih _ q h (by simpa using hq)
  have key : ∀ fuel L a', (∀ q ∈ fl, L.getD q false = true) → (∃ H' Mx my, DInv n ds xs H0 w0 H M ops Fs env L a' w.drew H' Mx my) → (∀ i, i < Fs.length → i ∉ fl → i ∈ (List.range Fs.length).filter fun i => !fl.contains i) →
      ((List.range Fs.length).filter fun i => !fl.contains i).length + (ops.length - Fs.length) ≤ fuel → wpAny P .any ops.toArray (k.Q P) fuel L a' w.drew := by
    rintro fuel L a' hq ⟨H', Mx, my, hD'⟩ hl hle
    refine wpAny_firstM (H := H) hsh (fun i o F => h7 i o F (Nat.zero_le i)) (fun H' w' h1 => hfin H' w' h1) fuel L _ a' _ H' Mx my hq hD' (fun i hi h => ?_) hle
    refine hl i hi fun hmem => ?_
    have := hq i hmem
    rw [getD_of_lt (by rw [hD'.sz]; exact Nat.lt_of_lt_of_le hi hsh.le) false true, h] at this
    cases this
  have hin : ∀ i, i < Fs.length → i ∉ fl → i ∈ (List.range Fs.length).filter fun i => !fl.contains i := by
    intro i hi hni
    rw [List.mem_filter]
    exact ⟨List.mem_range.2 hi, by simpa using hni⟩
  have hle := hsh.le
  by_cases hfe : fl = []
  · subst hfe
    simp only [List.size_toArray]
    refine key _ _ _ (fun q hq => by cases hq) ⟨_, _, _, hD⟩ hin ?_
    simp only [List.length_nil] at h8
    omega
  · have hkf : k.flat = true := by
      rcases h3 with h | h
      · exact h
      · exact absurd (List.isEmpty_iff.1 h) hfe
    have hns : Region.noSelect ops.toArray = true := by
      rcases h4 with h | h
      · exact absurd (List.isEmpty_iff.1 h) hfe
      · exact h
    have := wpAny_float hkf hns hsh (fun i o F => h7 i o F (Nat.zero_le i)) (ops.length - fl.length) fl _ a _ _ _ _ hlt h5 hD (fun a' H' Mx my hD' => by
      refine key _ _ _ (fun q hq => hset2 fl _ q hq ?_) ⟨_, _, _, hD'⟩ hin (by omega)
      have := hlt q hq
      simp; omega)
    simp only [List.size_toArray]
    rwa [show fl.length + (ops.length - fl.length) = ops.length by omega] at this
end
theorem WC.draw {P : Program} {n : Nat} {ds : List Deferred} {xs : List Nat} {H0 H : Hp} {w0 w : World} {M : Mem} {ops : List Oper} {env : Env} {k : Kont} {id : Nat} (m : Nat) (hm : P.follows .mixedOrders = true) (hs : HS xs H0 w0 H M w) (hok : drawOk ops m n env [] = true)
    (howed : Owed P n ds xs H0 w0 M ops env H (fun Fs => ∀ H' w', Hp.le H H' → forAllVals ops H' 0 Fs env M fun env' M' => HS xs H0 w0 H' M' w' → WO P n ds ops.toArray (ops.drop m) k env' w') ops m []) :
    WC P n ds (.region id ops.toArray true) k env w :=
  .drawF m [] hm hs (by
    have : ((List.range m).filter (fun _ => true)).length ≤ m := Nat.le_trans (List.length_filter_le _ _) (by simp)
    simpa [hok, floatOk] using this) howed

end Go.Bw
namespace Go.Bw
set_option linter.unusedVariables false
set_option linter.unusedSimpArgs false
/-- Of what was taken nothing is known. -/
def MF.gone : MF := ⟨fun _ M _ => M = [], fun _ _ _ _ _ h => h⟩
theorem forAllVals_gone {ops : List Oper} {H : Hp} {i : Nat} {Fs : List MF} {env : Env} {M : Mem} {K : Env → Mem → Prop} {d : Nat} (hd : dstOf ops i = some d)
    (h : ∀ v, forAllVals ops H (i + 1) Fs ((d, v) :: env) M K) : forAllVals ops H i (MF.gone :: Fs) env M K :=
  forAllVals_cons hd (by rintro v My rfl; exact h v)

section
variable {P : Program} {n : Nat} {ds : List Deferred} {ops : List Oper} {env : Env} {Q : Exit → Act → World → Prop}
variable {xs : List Nat} {H0 H : Hp} {w0 : World} {M : Mem} {Fs : List MF}
/-- What is owed for the operation that takes. -/
def Tob (P : Program) (n : Nat) (ds : List Deferred) (xs : List Nat) (H0 : Hp) (w0 : World) (M : Mem) (ops : List Oper) (env : Env) (H : Hp) (Fs : List MF) (tj : Nat) (o : Oper) (F : MF) : Prop :=
  ∃ Fj, nth Fs tj = some Fj ∧ ∀ vj Mj Mx H' w', Hp.le H H' → HS xs H0 w0 H' (Mj ++ (Mx ++ M)) w' → Fj.F vj Mj H' → forVals ops (Fs.set tj (MF.eq vj)) H' (uniq (leans o)) env fun env' =>
    ORg P n ds ops o env' w' fun v w'' => ∃ H'' My, Hp.le H' H'' ∧ HS xs H0 w0 H'' (My ++ (Mx ++ M)) w'' ∧ F.F v My H''

structure TInv (n : Nat) (ds : List Deferred) (xs : List Nat) (H0 : Hp) (w0 : World) (H : Hp) (M : Mem) (ops : List Oper) (Fs : List MF) (env : Env) (ti tj : Nat) (L : Array Bool) (a : Act) (w : World) (H' : Hp) (Mx : Mem) (my : Nat → Mem) : Prop where
  cl : Closed ops L
  perm : Mx.Perm ((List.range' 0 Fs.length).flatMap (madeBy L my))
  sz : L.size = ops.length
  rest : ∀ i, i < ops.length → Fs.length ≤ i → L.getD i true = false
  le : Hp.le H H'
  hs : HS xs H0 w0 H' (Mx ++ M) w
  st : St n ds env a
  ok : ∀ i F d, nth Fs i = some F → dstOf ops i = some d → L.getD i true = true → (i = tj → L.getD ti true = false) → F.F (a.tmps.getD d undef) (my i) H'
  gone : L.getD ti true = true → my tj = []

theorem tperm {L : Array Bool} {my : Nat → Mem} {i m : Nat} {My Mx : Mem} (hperm : Mx.Perm ((List.range' 0 m).flatMap (madeBy L my))) (him : i < m) (hsz : i < L.size) (h2 : L.getD i true = false) :
    (My ++ Mx).Perm ((List.range' 0 m).flatMap (madeBy (L.setIfInBounds i true) (fun k => if k = i then My else my k))) := by
  refine (hperm.append_left My).trans (flatMap_one (i := i) _ ?_ List.nodup_range' ?_ ?_ ?_)
  · simp; omega
  · intro j hj
    unfold madeBy
    simp only [Array.getD_eq_getD_getElem?, Array.getElem?_setIfInBounds, show ¬ i = j from fun h => hj h.symm, if_false, hj]
  · simp [madeBy, h2]
  · simp [madeBy, hsz]

theorem put_other {a : Act} {d t : Nat} {v : Value} (ht : t ≠ d) : (a.put (some d) v).tmps.getD t undef = a.tmps.getD t undef := by
  simp [Act.put, Array.getD_eq_getD_getElem?, Array.getElem?_setIfInBounds, Ne.symm ht]
theorem set_other {L : Array Bool} {i k : Nat} (e : k ≠ i) (b : Bool) : (L.setIfInBounds i true).getD k b = L.getD k b := by
  simp only [Array.getD_eq_getD_getElem?, Array.getElem?_setIfInBounds, show ¬ i = k from fun h => e h.symm, if_false]
theorem set_this {L : Array Bool} {i : Nat} (h : i < L.size) (b : Bool) : (L.setIfInBounds i true).getD i b = true := by
  simp [Array.getD_eq_getD_getElem?, h]

/-- One that takes nothing. -/
theorem TInv.step (hsh : Shape ops Fs.length n env []) {ti tj : Nat} (hdep : Reach ops ti tj) {L : Array Bool} {a : Act} {w w'' : World} {H' H'' : Hp} {Mx My : Mem} {my : Nat → Mem} (D : TInv n ds xs H0 w0 H M ops Fs env ti tj L a w H' Mx my)
    {i : Nat} {o : Oper} {F : MF} {v : Value} (hti : ti < ops.length) (hit : i ≠ ti) (h1 : nth ops i = some o) (him : i < Fs.length) (hFi : nth Fs i = some F) (h2 : L.getD i true = false) (h3 : ∀ e ∈ o.after.toList, Region.binds .any e = true → L.getD e.on false = true)
    (hle' : Hp.le H' H'') (hs' : HS xs H0 w0 H'' (My ++ (Mx ++ M)) w'') (hF : F.F v My H'') :
    TInv n ds xs H0 w0 H M ops Fs env ti tj (L.setIfInBounds i true) (a.put o.dst v) w'' H'' (My ++ Mx) (fun k => if k = i then My else my k) := by
  obtain ⟨hcl, hperm, hsz, hrest, hle, hs, ha, hf, hg⟩ := D
  have hlt : i < ops.length := by rw [nth_eq] at h1; exact (List.getElem?_eq_some_iff.1 h1).1
  obtain ⟨d, hd, hdn, hdenv, hdd⟩ := hsh.dst i o h1 him
  have hdi : dstOf ops i = some d := by simp [dstOf, h1, hd]
  have hput : (a.put o.dst v).tmps.getD d undef = v := by
    rw [hd]; simp [Act.put, Array.getD_eq_getD_getElem?, ha.sz, hdn]
  have hLi : L.getD i false = false := by rw [getD_of_lt (by omega) false true]; exact h2
  refine ⟨hcl.set h1 h3, tperm hperm him (by omega) h2, by simp [hsz], ?_, hle.trans hle', by rw [List.append_assoc]; exact hs', ?_, ?_, ?_⟩
  · intro k hk hmk
    rw [set_other (by omega)]
    exact hrest k hk hmk
  · rw [hd]; exact ha.putNew v hdenv
  · intro k F' d' hF' hd' hk hkt
    by_cases e : k = i
    · subst e
      rw [hFi] at hF'
      rw [hdi] at hd'
      cases hF'
      cases hd'
      rw [hput, if_pos rfl]
      exact hF
    · have hkm : k < Fs.length := by rw [nth_eq] at hF'; exact (List.getElem?_eq_some_iff.1 hF').1
      have hne : d' ≠ d := fun h => hdd k hkm (Ne.symm e) d' hd' h.symm
      rw [hd, put_other hne, if_neg e]
      rw [set_other e] at hk
      exact F'.mono _ _ _ _ hle' (hf k F' d' hF' hd' hk fun h => by have := hkt h; rwa [set_other (Ne.symm hit)] at this)
  · intro ht
    rw [set_other (Ne.symm hit)] at ht
    by_cases e : tj = i
    · exfalso
      have hc := hcl
      have : L.getD tj false = true := by
        cases hn : nth ops ti with
        | none => rw [nth_eq, List.getElem?_eq_getElem hti] at hn; cases hn
        | some ot => exact hcl.reach hdep (fun o' ho' e he hb => hcl ti o' ho' (by rw [getD_of_lt (by omega) false true]; exact ht) e he hb)
      rw [e, hLi] at this
      cases this
    · rw [if_neg e]
      exact hg ht

/-- The one that takes. -/
theorem TInv.take (hsh : Shape ops Fs.length n env []) {ti tj : Nat} (htjm : tj < Fs.length) (hne : ti ≠ tj) {L : Array Bool} {a : Act} {w w'' : World} {H' H'' : Hp} {Mx My R : Mem} {my : Nat → Mem} (D : TInv n ds xs H0 w0 H M ops Fs env ti tj L a w H' Mx my)
    {o : Oper} {F : MF} {v : Value} (h1 : nth ops ti = some o) (him : ti < Fs.length) (hFi : nth Fs ti = some F) (h2 : L.getD ti true = false) (h3 : ∀ e ∈ o.after.toList, Region.binds .any e = true → L.getD e.on false = true)
    (hR : R = (List.range' 0 Fs.length).flatMap (madeBy L (fun k => if k = tj then [] else my k)))
    (hle' : Hp.le H' H'') (hs' : HS xs H0 w0 H'' (My ++ (R ++ M)) w'') (hF : F.F v My H'') :
    TInv n ds xs H0 w0 H M ops Fs env ti tj (L.setIfInBounds ti true) (a.put o.dst v) w'' H'' (My ++ R) (fun k => if k = ti then My else if k = tj then [] else my k) := by
  obtain ⟨hcl, hperm, hsz, hrest, hle, hs, ha, hf, hg⟩ := D
  have hlt : ti < ops.length := by rw [nth_eq] at h1; exact (List.getElem?_eq_some_iff.1 h1).1
  obtain ⟨d, hd, hdn, hdenv, hdd⟩ := hsh.dst ti o h1 him
  have hdi : dstOf ops ti = some d := by simp [dstOf, h1, hd]
  have hput : (a.put o.dst v).tmps.getD d undef = v := by
    rw [hd]; simp [Act.put, Array.getD_eq_getD_getElem?, ha.sz, hdn]
  refine ⟨hcl.set h1 h3, tperm (my := fun k => if k = tj then [] else my k) (by rw [hR]) him (by omega) h2, by simp [hsz], ?_, hle.trans hle', by rw [List.append_assoc]; exact hs', ?_, ?_, ?_⟩
  · intro k hk hmk
    rw [set_other (by omega)]
    exact hrest k hk hmk
  · rw [hd]; exact ha.putNew v hdenv
  · intro k F' d' hF' hd' hk hkt
    by_cases e : k = ti
    · subst e
      rw [hFi] at hF'
      rw [hdi] at hd'
      cases hF'
      cases hd'
      rw [hput, if_pos rfl]
      exact hF
    · have hkm : k < Fs.length := by rw [nth_eq] at hF'; exact (List.getElem?_eq_some_iff.1 hF').1
      have hne : d' ≠ d := fun h => hdd k hkm (Ne.symm e) d' hd' h.symm
      rw [hd, put_other hne, if_neg e]
      rw [set_other e] at hk
      by_cases e2 : k = tj
      · have := hkt e2
        rw [set_this (by omega)] at this
        cases this
      · rw [if_neg e2]
        exact F'.mono _ _ _ _ hle' (hf k F' d' hF' hd' hk fun h => absurd h e2)
  · intro _
    rw [if_neg (Ne.symm hne), if_pos rfl]

/-- The first m, in any order; one of them takes what another one made. -/
theorem wpAny_firstT (hsh : Shape ops Fs.length n env []) {ti tj : Nat} {ot : Oper} {Ft : MF} (hti : nth ops ti = some ot) (hFt : nth Fs ti = some Ft) (htj : tj < ti) (hlj : tj ∈ uniq (leans ot))
    (hln : ∀ (i : Nat) (o : Oper), nth ops i = some o → i < Fs.length → i ≠ ti → tj ∉ uniq (leans o)) (hT : Tob P n ds xs H0 w0 M ops env H Fs tj ot Ft)
    (howed : ∀ (i : Nat) (o : Oper) (F : MF), nth ops i = some o → nth Fs i = some F → i ≠ ti →
    ∀ Mx H' w', Hp.le H H' → HS xs H0 w0 H' (Mx ++ M) w' → forVals ops Fs H' (uniq (leans o)) env fun env' =>
      ORg P n ds ops o env' w' fun v w'' => ∃ H'' My, Hp.le H' H'' ∧ HS xs H0 w0 H'' (My ++ (Mx ++ M)) w'' ∧ F.F v My H'')
    (hfin : ∀ H' w', Hp.le H H' → forAllVals ops H' 0 (Fs.set tj MF.gone) env M fun env' M' => HS xs H0 w0 H' M' w' → ∀ a, St n ds env' a → wpList P ops.toArray Q (ops.drop Fs.length) a w') :
    ∀ (fuel : Nat) (L : Array Bool) (l : List Nat) (a : Act) (w : World) (H' : Hp) (Mx : Mem) (my : Nat → Mem), TInv n ds xs H0 w0 H M ops Fs env ti tj L a w H' Mx my →
      (∀ i, i < Fs.length → L.getD i true = false → i ∈ l) → l.length + (ops.length - Fs.length) ≤ fuel → wpAny P .any ops.toArray Q fuel L a w := by
  have htim : ti < Fs.length := by rw [nth_eq] at hFt; exact (List.getElem?_eq_some_iff.1 hFt).1
  have htil : ti < ops.length := by rw [nth_eq] at hti; exact (List.getElem?_eq_some_iff.1 hti).1
  have hdep : Reach ops ti tj := by
    obtain ⟨e, he, hb, hon⟩ := hsh.lean ti ot hti htim tj hlj
    rw [← hon]
    exact .edge hti he hb
  have hfull : ∀ (L : Array Bool) (a : Act) (w : World) (H' : Hp) (Mx : Mem) (my : Nat → Mem), TInv n ds xs H0 w0 H M ops Fs env ti tj L a w H' Mx my → (∀ i, i < Fs.length → L.getD i true = true) → wpList P ops.toArray Q (ops.drop Fs.length) a w := by
    intro L a w H' Mx my D hall
    obtain ⟨hcl, hperm, hsz, hrest, hle, hs, ha, hf, hg⟩ := D
    have hgone := hg (hall ti htim)
    obtain ⟨env', h1, h2⟩ := forAllVals_elim (n := n) (ds := ds) (a := a) my (Fs.set tj MF.gone) 0 env M (hfin H' w hle) ha (by
      intro j F hF
      have hj : j < Fs.length := by rw [nth_eq] at hF; simpa using (List.getElem?_eq_some_iff.1 hF).1
      have hjo : j < ops.length := Nat.lt_of_lt_of_le hj hsh.le
      obtain ⟨d, hd, _⟩ := hsh.dst j ops[j] (by rw [nth_eq, List.getElem?_eq_getElem hjo]) hj
      have hd' : dstOf ops j = some d := by simp [dstOf, nth_eq, hjo, hd]
      rw [Nat.zero_add]
      refine ⟨d, hd', ?_⟩
      by_cases e : j = tj
      · subst e
        rw [nth_eq, List.getElem?_set_self (by omega)] at hF
        cases hF
        exact hgone
      · rw [nth_eq, List.getElem?_set_ne (Ne.symm e), ← nth_eq] at hF
        exact hf j F d hF hd' (hall j hj) fun h => absurd h e)
    refine h2 (hs.perm ?_) a h1
    refine (catM_perm my (Fs.set tj MF.gone) 0 M).trans (List.Perm.append_right M ?_)
    rw [List.length_set]
    have : (List.range' 0 Fs.length).flatMap (madeBy L my) = (List.range' 0 Fs.length).flatMap my := by
      rw [List.flatMap_def, List.flatMap_def]
      congr 1
      refine List.map_congr_left fun j hj => ?_
      simp only [List.mem_range'_1] at hj
      simp [madeBy, hall j (by omega)]
    rw [← this]
    exact hperm.symm
  intro fuel
  induction fuel with
  | zero =>
    intro L l a w H' Mx my D hl hlen
    have hl0 : l = [] := List.eq_nil_of_length_eq_zero (by omega)
    have hm := hsh.le
    have hall : ∀ i, i < Fs.length → L.getD i true = true := by
      intro i hi
      cases h : L.getD i true with
      | true => rfl
      | false => have := hl i hi h; rw [hl0] at this; cases this
    refine wpAny_rest hsh 0 Fs.length L a w (fun q hq => by cases hq) D.sz ?_ (Nat.le_refl _) hm (by omega) D.cl (hfull L a w H' Mx my D hall)
    intro i hi
    exact ⟨fun _ => by omega, fun h => hall i h⟩
  | succ fuel ih =>
    intro L l a w H' Mx my D hl hlen
    have D0 := D
    obtain ⟨hcl, hperm, hsz, hrest, hle, hs, ha, hf, hg⟩ := D
    have hm := hsh.le
    by_cases hall : ∀ i, i < Fs.length → L.getD i true = true
    · refine wpAny_rest hsh (fuel + 1) Fs.length L a w (fun q hq => by cases hq) hsz ?_ (Nat.le_refl _) hm (by omega) hcl (hfull L a w H' Mx my D0 hall)
      intro i hi
      refine ⟨fun h => ?_, fun h => hall i h⟩
      rcases Nat.lt_or_ge i Fs.length with h4 | h4
      · exact h4
      · rw [hrest i hi h4] at h; cases h
    · have hex : ∃ i, i < Fs.length ∧ L.getD i true = false ∧ ∀ j, j < i → L.getD j true = true := by
        clear ih hf ha hs D0
        have h0 : ∃ i, i < Fs.length ∧ L.getD i true = false := by
          refine Classical.byContradiction fun hno => hall fun i hi => ?_
          cases h : L.getD i true with
          | true => rfl
          | false => exact absurd ⟨i, hi, h⟩ hno
        obtain ⟨i, hi⟩ := h0
        induction i using Nat.strongRecOn with
        | _ i ihi =>
          by_cases hj : ∀ j, j < i → L.getD j true = true
          · exact ⟨i, hi.1, hi.2, hj⟩
          · have : ∃ j, j < i ∧ L.getD j true = false := by
              refine Classical.byContradiction fun hno => hj fun j hji => ?_
              cases h : L.getD j true with
              | true => rfl
              | false => exact absurd ⟨j, hji, h⟩ hno
            obtain ⟨j, hji, hj2⟩ := this
            exact ihi j hji ⟨by omega, hj2⟩
      refine ⟨?_, ?_⟩
      · intro hr
        exfalso
        obtain ⟨i, hi, h1, h2⟩ := hex
        have hio : i < ops.length := by omega
        have : i ∈ Region.ready .any ops.toArray L := by
          refine ready_iff.2 ⟨ops[i], by rw [nth_eq, List.getElem?_eq_getElem hio], h1, ?_⟩
          intro e he hb
          have h3 := hsh.back i ops[i] (by rw [nth_eq, List.getElem?_eq_getElem hio]) e he hb
          rw [getD_of_lt (by omega) false true]
          exact h2 e.on h3
        rw [hr] at this
        cases this
      · intro i hi
        obtain ⟨o, h1, h2, h3⟩ := ready_iff.1 hi
        have hlt : i < ops.length := by rw [nth_eq] at h1; exact (List.getElem?_eq_some_iff.1 h1).1
        have him : i < Fs.length := by
          rcases Nat.lt_or_ge i Fs.length with h4 | h4
          · exact h4
          · exfalso
            obtain ⟨j, hj, hj1, _⟩ := hex
            have h5 : L.getD j false = true := by
              rcases hsh.last i o h1 h4 j (by omega) with h6 | h6
              · cases h6
              · exact hcl.reach h6 (fun o' ho' e he hb => by rw [h1] at ho'; cases ho'; exact h3 e he hb)
            rw [getD_of_lt (by omega) false true, hj1] at h5
            cases h5
        obtain ⟨d, hd, hdn, hdenv, hdd⟩ := hsh.dst i o h1 him
        have hFi : nth Fs i = some Fs[i] := by rw [nth_eq, List.getElem?_eq_getElem him]
        have hpre : ∀ j ∈ uniq (leans o), L.getD j true = true ∧ j < i := by
          intro j hj
          obtain ⟨e, he, hb, hon⟩ := hsh.lean i o h1 him j hj
          have h5 := h3 e he hb
          have h6 := hsh.back i o h1 e he hb
          rw [hon] at h5 h6
          rw [getD_of_lt (by omega) false true] at h5
          exact ⟨h5, h6⟩
        have hmem := hl i him h2
        have hl2 : ∀ k, k < Fs.length → (L.setIfInBounds i true).getD k true = false → k ∈ l.erase i := by
          intro k hk hk2
          by_cases e : k = i
          · subst e
            rw [set_this (by omega)] at hk2
            cases hk2
          · rw [set_other e] at hk2
            exact (List.mem_erase_of_ne e).2 (hl k hk hk2)
        have hlen2 : (l.erase i).length + (ops.length - Fs.length) ≤ fuel := by
          rw [List.length_erase_of_mem hmem]
          have := List.length_pos_of_mem hmem
          omega
        unfold wpOp
        have h1' := h1
        rw [nth_eq] at h1'
        simp only [List.getElem?_toArray, h1']
        by_cases hit : i = ti
        · subst hit
          rw [hti] at h1
          cases h1
          rw [hFt] at hFi
          obtain ⟨Fj, hFj, hob⟩ := hT
          have hLj := (hpre tj hlj).1
          have htjm : tj < Fs.length := by omega
          obtain ⟨dj, hdj, _⟩ := hsh.dst tj ops[tj] (by rw [nth_eq, List.getElem?_eq_getElem (by omega)]) htjm
          have hdj' : dstOf ops tj = some dj := by simp [dstOf, nth_eq, show tj < ops.length by omega, hdj]
          have hfj := hf tj Fj dj hFj hdj' hLj (fun _ => h2)
          obtain ⟨R, hR⟩ : ∃ R, R = (List.range' 0 Fs.length).flatMap (madeBy L (fun k => if k = tj then [] else my k)) := ⟨_, rfl⟩
          have hp2 : (my tj ++ R).Perm Mx := by
            rw [hR]
            refine (flatMap_one (i := tj) (f := madeBy L (fun k => if k = tj then [] else my k)) (g := madeBy L my) _ ?_ List.nodup_range' ?_ ?_ ?_).trans hperm.symm
            · simp; omega
            · intro j hj; simp only [madeBy, hj, if_false]
            · simp [madeBy]
            · simp [madeBy, hLj]
          have hs2 : HS xs H0 w0 H' (my tj ++ (R ++ M)) w := by
            rw [← List.append_assoc]
            exact hs.perm (hp2.append_right M)
          obtain ⟨env', hst, horg⟩ := forVals_elim (n := n) (ds := ds) (a := a) _ _ (hob _ _ R H' w hle hs2 hfj) ha (by
            intro j hj o' F' d' ho' hF' hd'
            by_cases e : j = tj
            · subst e
              rw [nth_eq, List.getElem?_set_self (by omega)] at hF'
              cases hF'
              have : d' = dj := by
                have h9 : dstOf ops j = some d' := by simp [dstOf, ho', hd']
                rw [hdj'] at h9
                exact (Option.some.inj h9).symm
              subst this
              exact ⟨[], rfl, rfl⟩
            · rw [nth_eq, List.getElem?_set_ne (Ne.symm e), ← nth_eq] at hF'
              exact ⟨my j, hf j F' d' hF' (by simp [dstOf, ho', hd']) (hpre j hj).1 fun h => absurd h e⟩)
          have key := horg a hst (wpAny P .any ops.toArray Q fuel (L.setIfInBounds i true)) Q (by
            rintro v w'' ⟨H'', My, hle', hs', hF⟩
            exact ih _ (l.erase i) _ w'' H'' (My ++ R) _ (D0.take hsh htjm (by omega) hti him hFt h2 h3 hR hle' hs' hF) hl2 hlen2)
          split
          · rename_i hw; rw [if_pos hw] at key; exact .inl key
          · rename_i hw; rw [if_neg hw] at key; exact key
        · obtain ⟨env', hst, horg⟩ := forVals_elim (n := n) (ds := ds) (a := a) _ _ (howed i o Fs[i] h1 hFi hit Mx H' w hle hs) ha (by
            intro j hj o' F' d' ho' hF' hd'
            exact ⟨my j, hf j F' d' hF' (by simp [dstOf, ho', hd']) (hpre j hj).1 fun h => absurd (h ▸ hj) (hln i o h1 him hit)⟩)
          have key := horg a hst (wpAny P .any ops.toArray Q fuel (L.setIfInBounds i true)) Q (by
            rintro v w'' ⟨H'', My, hle', hs', hF⟩
            exact ih _ (l.erase i) _ w'' H'' (My ++ Mx) _ (D0.step hsh hdep htil hit h1 him hFi h2 h3 hle' hs' hF) hl2 hlen2)
          split
          · rename_i hw; rw [if_pos hw] at key; exact .inl key
          · rename_i hw; rw [if_neg hw] at key; exact key

/-- One operation alone leans on what is taken. -/
def takeOk (ops : List Oper) (m ti tj : Nat) : Bool :=
  Nat.blt tj ti && Nat.blt ti m && (List.range m).all (fun i => match nth ops i with
    | some o => if Nat.beq i ti then (uniq (leans o)).any (Nat.beq tj) else !(uniq (leans o)).any (Nat.beq tj)
    | none => false)

variable {w : World} {k : Kont}
theorem WC.drawT {id : Nat} (m ti tj : Nat) (hm : P.follows .mixedOrders = true) (hs : HS xs H0 w0 H M w) (hok : (drawOk ops m n env [] && takeOk ops m ti tj && Nat.ble m ops.length) = true)
    (howed : Owed P n ds xs H0 w0 M ops env H (fun Fs => ∃ F o, nth ops ti = some o ∧ Tob P n ds xs H0 w0 M ops env H Fs tj o F ∧
      Owed P n ds xs H0 w0 M ops env H (fun Fs => ∀ H' w', Hp.le H H' → forAllVals ops H' 0 (Fs.set tj MF.gone) env M fun env' M' => HS xs H0 w0 H' M' w' → WO P n ds ops.toArray (ops.drop m) k env' w') (ops.drop (ti + 1)) (m - (ti + 1)) (F :: Fs.reverse)) ops ti []) :
    WC P n ds (.region id ops.toArray true) k env w := by
  simp only [Bool.and_eq_true] at hok
  obtain ⟨⟨h1, h2⟩, h8⟩ := hok
  have h8 := Nat.le_of_ble_eq_true h8
  intro a ha
  have hsh := Shape.of h1
  unfold takeOk at h2
  simp only [Bool.and_eq_true] at h2
  obtain ⟨⟨htj, htim⟩, hl⟩ := h2
  have htj : tj < ti := by simpa [Nat.blt_eq] using htj
  have htim : ti < m := by simpa [Nat.blt_eq] using htim
  obtain ⟨Gs, g1, ⟨Ft, ot, hot, hT, hrest⟩, g3⟩ := OwedF.elim hsh.back ti [] (Owed.toF _ _ [] howed)
  simp only [List.nil_append, List.length_nil, Nat.zero_add] at g1 hT hrest g3
  have hrest2 := Owed.toF _ _ _ hrest
  simp only [List.reverse_cons, List.reverse_reverse] at hrest2
  have hl1 : (Gs ++ [Ft]).length = ti + 1 := by simp [g1]
  rw [← hl1] at hrest2
  obtain ⟨Ks, k1, hfin, k3⟩ := OwedF.elim hsh.back (m - (Gs ++ [Ft]).length) (Gs ++ [Ft]) hrest2
  obtain ⟨Fs, hFs⟩ : ∃ Fs, Fs = Gs ++ [Ft] ++ Ks := ⟨_, rfl⟩
  rw [← hFs] at k1 hfin k3
  have hFl : Fs.length = m := by rw [k1, hl1]; omega
  have hFt : nth Fs ti = some Ft := by rw [hFs, nth_eq, List.getElem?_append_left (by simp [g1]), List.getElem?_append_right (by omega)]; simp [g1]
  have hGs : ∀ j, j < ti → nth Fs j = nth Gs j := by
    intro j hj
    rw [hFs, nth_append_left (by simp [g1]; omega), nth_append_left (by omega)]
  have hle : Fs.length ≤ ops.length := by omega
  rw [← hFl] at hsh
  have hlj : tj ∈ uniq (leans ot) := by
    have := List.all_eq_true.1 hl ti (List.mem_range.2 htim)
    rw [hot] at this
    simp only [Nat.beq_refl, if_true, List.any_eq_true] at this
    obtain ⟨x, hx, hb⟩ := this
    rw [Nat.eq_of_beq_eq_true hb]
    exact hx
  have hln : ∀ (i : Nat) (o : Oper), nth ops i = some o → i < Fs.length → i ≠ ti → tj ∉ uniq (leans o) := by
    intro i o ho hi hne hmem
    have := List.all_eq_true.1 hl i (List.mem_range.2 (by omega))
    rw [ho] at this
    have hb : Nat.beq i ti = false := by
      cases h : Nat.beq i ti with
      | false => rfl
      | true => exact absurd (Nat.eq_of_beq_eq_true h) hne
    simp only [hb, Bool.false_eq_true, if_false, Bool.not_eq_true', List.any_eq_false] at this
    exact this tj hmem (Nat.beq_refl tj)
  refine wp_region_any hm ?_
  have hrep : ∀ i, i < ops.length → (Array.replicate ops.length false).getD i true = false := by
    intro i hi
    simp [Array.getD_eq_getD_getElem?, hi]
  have hD : TInv n ds xs H0 w0 H M ops Fs env ti tj (Array.replicate ops.length false) a w.drew H [] (fun _ => []) := by
    refine ⟨?_, ?_, by simp, fun i hi _ => hrep i hi, Hp.le.refl H, hs.drew, ha, ?_, fun _ => rfl⟩
    · intro i o ho hi
      have hlt : i < ops.length := by rw [nth_eq] at ho; exact (List.getElem?_eq_some_iff.1 ho).1
      rw [getD_of_lt (by simpa using hlt) false true, hrep i hlt] at hi
      cases hi
    · rw [List.flatMap_eq_nil_iff.2 (by intro j _; simp [madeBy])]
    · intro i F d hF hd hL
      have hi : i < Fs.length := by rw [nth_eq] at hF; exact (List.getElem?_eq_some_iff.1 hF).1
      rw [hrep i (Nat.lt_of_lt_of_le hi hle)] at hL
      cases hL
  have hT2 : Tob P n ds xs H0 w0 M ops env H Fs tj ot Ft := by
    obtain ⟨Fj, hFj, hob⟩ := hT
    refine ⟨Fj, by rw [hGs tj htj]; exact hFj, fun vj Mj Mx H' w' q1 q2 q3 => ?_⟩
    refine forVals_congr _ _ (hob vj Mj Mx H' w' q1 q2 q3) fun j hj => ?_
    have hj' := leans_lt (hsh.back _ _ hot) j hj
    by_cases e : j = tj
    · subst e
      rw [nth_eq, nth_eq, List.getElem?_set_self (by omega), List.getElem?_set_self (by omega)]
    · rw [nth_eq, nth_eq, List.getElem?_set_ne (Ne.symm e), List.getElem?_set_ne (Ne.symm e), ← nth_eq, ← nth_eq, hGs j hj']
  simp only [List.size_toArray]
  refine wpAny_firstT hsh hot hFt htj hlj hln hT2 (fun i o F ho hF hne Mx H' w' q1 q2 => ?_) (fun H' w' q1 => ?_) ops.length _ (List.range Fs.length) a _ H [] (fun _ => []) hD (fun i hi _ => List.mem_range.2 hi) (by rw [List.length_range]; omega)
  · rcases Nat.lt_or_ge i ti with h | h
    · rw [hGs i h] at hF
      refine forVals_congr _ _ (g3 i o F (Nat.zero_le i) ho hF Mx H' w' q1 q2) fun j hj => ?_
      have hj' := leans_lt (hsh.back _ _ ho) j hj
      rw [hGs j (by omega)]
    · exact k3 i o F (by rw [hl1]; omega) ho hF Mx H' w' q1 q2
  · have := hfin H' w' q1
    rw [hFl]
    exact this
end
end Go.Bw
namespace Go.Bw
set_option linter.unusedVariables false
set_option linter.unusedSimpArgs false
/-- A slice of n elements of sz cells each, whose cells, one behind the other, are xs; they stay. -/
def Sl (H : Hp) (sz : Nat) (v : Value) (n : Nat) (xs : List Value) : Prop :=
  xs.length = n * sz ∧ ∃ base cap, v = .slice base n cap ∧ n ≤ cap ∧ (base = none → n = 0 ∧ cap = 0) ∧
    ∀ a, base = some a → (0 < n → a.spot = none) ∧ ∀ i u, xs[i]? = some u → hcell H ⟨a.block, a.off + i, none⟩ = some u

theorem Sl.mono {H H' : Hp} {sz n : Nat} {v : Value} {xs : List Value} (h : Sl H sz v n xs) (hle : Hp.le H H') : Sl H' sz v n xs := by
  obtain ⟨h1, base, cap, h2, h3, h4, h5⟩ := h
  exact ⟨h1, base, cap, h2, h3, h4, fun a ha => ⟨(h5 a ha).1, fun i u hi => hcell.mono hle ((h5 a ha).2 i u hi)⟩⟩

theorem Sl.nil (H : Hp) (sz : Nat) : Sl H sz (.slice none 0 0) 0 [] := ⟨by simp, none, 0, rfl, Nat.le_refl _, fun _ => ⟨rfl, rfl⟩, fun a h => by cases h⟩

theorem Sl.empty (H : Hp) (sz : Nat) (b : Option Addr) : Sl H sz (.slice b 0 0) 0 [] := ⟨by simp, b, 0, rfl, Nat.le_refl _, fun _ => ⟨rfl, rfl⟩, fun a h => ⟨fun h => by omega, fun i u hi => by simp at hi⟩⟩
theorem Sl.form {H : Hp} {sz n : Nat} {v : Value} {xs : List Value} (h : Sl H sz v n xs) : ∃ base cap, v = .slice base n cap := by
  obtain ⟨_, base, cap, h2, _⟩ := h
  exact ⟨base, cap, h2⟩

theorem Sl.pos {H : Hp} {sz n cap : Nat} {base : Option Addr} {xs : List Value} (h : Sl H sz (.slice base n cap) n xs) (hn : 0 < n) :
    ∃ b o, base = some ⟨b, o, none⟩ ∧ ∀ i u, xs[i]? = some u → hcell H ⟨b, o + i, none⟩ = some u := by
  obtain ⟨_, base', cap', h2, _, h4, h5⟩ := h
  cases h2
  cases base with
  | none => have := (h4 rfl).1; omega
  | some a =>
    obtain ⟨h6, h7⟩ := h5 a rfl
    obtain ⟨b, o, sp⟩ := a
    replace h6 := h6 hn
    simp only at h6
    subst h6
    exact ⟨b, o, rfl, h7⟩

theorem Sl.src {xs : List Nat} {H0 H : Hp} {w0 w : World} {M : Mem} {sz n cap : Nat} {base : Option Addr} {cs : List Value} (h : Sl H sz (.slice base n cap) n cs) (hs : HS xs H0 w0 H M w) : ∀ a, base = some a → ∀ j u, cs[j]? = some u → w.cell? (a.add j) = some u := by
  obtain ⟨q0, b', c', q1, _, _, q2⟩ := h
  cases q1
  intro a ha j u hj
  obtain ⟨q3, q4⟩ := q2 a ha
  have hj0 := (List.getElem?_eq_some_iff.1 hj).1
  have hn : 0 < n := by
    rcases Nat.eq_zero_or_pos n with e | e
    · rw [q0, e, Nat.zero_mul] at hj0; omega
    · exact e
  replace q3 := q3 hn
  obtain ⟨b, o, sp⟩ := a
  simp only at q3
  subst q3
  rw [add_off]
  exact hs.cell (q4 j u hj)

/-- A slice of bytes. -/
def Bytes (H : Hp) (v : Value) (l : List UInt8) : Prop := Sl H 1 v l.length (l.map B)

theorem Bytes.mono {H H' : Hp} {v : Value} {l : List UInt8} (h : Bytes H v l) (hle : Hp.le H H') : Bytes H' v l := Sl.mono h hle
theorem Bytes.nil (H : Hp) : Bytes H (.slice none 0 0) [] := Sl.nil H 1
theorem Bytes.form {H : Hp} {v : Value} {l : List UInt8} (h : Bytes H v l) : ∃ base cap, v = .slice base l.length cap := Sl.form h
theorem Bytes.pos {H : Hp} {l : List UInt8} {base : Option Addr} {cap : Nat} (h : Bytes H (.slice base l.length cap) l) (hn : 0 < l.length) :
    ∃ b o, base = some ⟨b, o, none⟩ ∧ ∀ i (hi : i < l.length), hcell H ⟨b, o + i, none⟩ = some (B l[i]) := by
  obtain ⟨b, o, h1, h2⟩ := Sl.pos h hn
  exact ⟨b, o, h1, fun i hi => h2 i _ (by simp [hi])⟩

def MF.bytes (l : List UInt8) : MF := MF.of (fun v H => Bytes H v l) fun _ _ _ hle h => Bytes.mono h hle

/-- A row: coefficients, payload. -/
abbrev RowD := List UInt8 × List UInt8
/-- A slice of slices of bytes: the elements' values, and what each is. -/
def BytesL (H : Hp) (v : Value) (ll : List (List UInt8)) : Prop :=
  ∃ cs : List Value, Sl H 1 v ll.length cs ∧ cs.length = ll.length ∧ ∀ i (h : i < ll.length) (h' : i < cs.length), Bytes H cs[i] ll[i]
theorem BytesL.mono {H H' : Hp} {v : Value} {ll : List (List UInt8)} (h : BytesL H v ll) (hle : Hp.le H H') : BytesL H' v ll := by
  obtain ⟨cs, h1, h2, h3⟩ := h
  exact ⟨cs, h1.mono hle, h2, fun i a b => (h3 i a b).mono hle⟩

/-- The cells of a list of rows, and that they are these rows. -/
def rowCells : List (Value × Value) → List Value
  | [] => []
  | (c, p) :: l => c :: p :: rowCells l
theorem rowCells_length : ∀ l, (rowCells l).length = l.length * 2
  | [] => rfl
  | (_, _) :: l => by simp [rowCells, rowCells_length l]; omega
theorem rowCells_get : ∀ (l : List (Value × Value)) (i : Nat) (h : i < l.length), (rowCells l)[i * 2]? = some l[i].1 ∧ (rowCells l)[i * 2 + 1]? = some l[i].2
  | [], i, h => by simp at h
  | (c, p) :: l, 0, h => by simp [rowCells]
  | (c, p) :: l, i + 1, h => by
    have := rowCells_get l i (by simpa using h)
    simp only [rowCells, show (i + 1) * 2 = i * 2 + 1 + 1 by omega, List.getElem?_cons_succ, List.getElem_cons_succ]
    exact this
theorem rowCells_append : ∀ (a b : List (Value × Value)), rowCells (a ++ b) = rowCells a ++ rowCells b
  | [], b => rfl
  | (c, p) :: a, b => by simp [rowCells, rowCells_append a b]
def RowsOk (H : Hp) (cs : List (Value × Value)) (rs : List RowD) : Prop :=
  cs.length = rs.length ∧ ∀ i (h : i < rs.length) (h' : i < cs.length), Bytes H cs[i].1 rs[i].1 ∧ Bytes H cs[i].2 rs[i].2
theorem RowsOk.mono {H H' : Hp} {cs : List (Value × Value)} {rs : List RowD} (h : RowsOk H cs rs) (hle : Hp.le H H') : RowsOk H' cs rs :=
  ⟨h.1, fun i a b => ⟨((h.2 i a b).1).mono hle, ((h.2 i a b).2).mono hle⟩⟩
theorem RowsOk.snoc {H : Hp} {cs : List (Value × Value)} {rs : List RowD} (h : RowsOk H cs rs) {c p : Value} {r : RowD} (hc : Bytes H c r.1) (hp : Bytes H p r.2) : RowsOk H (cs ++ [(c, p)]) (rs ++ [r]) := by
  refine ⟨by simp [h.1], fun i a b => ?_⟩
  have h1 := h.1
  by_cases e : i < rs.length
  · have e' : i < cs.length := by omega
    simp only [List.getElem_append_left e, List.getElem_append_left e']
    exact h.2 i e e'
  · simp only [List.length_append, List.length_singleton] at a b
    have : i = rs.length := by omega
    subst this
    simp only [List.getElem_append_right (Nat.le_refl _), Nat.sub_self, List.getElem_cons_zero]
    rw [List.getElem_append_right (by omega)]
    simp only [h1, Nat.sub_self, List.getElem_cons_zero]
    exact ⟨hc, hp⟩
/-- A slice of rows. -/
def Rws (H : Hp) (v : Value) (rs : List RowD) : Prop := ∃ cs, Sl H 2 v rs.length (rowCells cs) ∧ RowsOk H cs rs
theorem Rws.mono {H H' : Hp} {v : Value} {rs : List RowD} (h : Rws H v rs) (hle : Hp.le H H') : Rws H' v rs := by
  obtain ⟨cs, h1, h2⟩ := h
  exact ⟨cs, h1.mono hle, h2.mono hle⟩
/-- A row as a value. -/
def RowV (H : Hp) (v : Value) (r : RowD) : Prop := ∃ c p, v = .agg #[c, p] ∧ Bytes H c r.1 ∧ Bytes H p r.2
theorem RowV.mono {H H' : Hp} {v : Value} {r : RowD} (h : RowV H v r) (hle : Hp.le H H') : RowV H' v r := by
  obtain ⟨c, p, h1, h2, h3⟩ := h
  exact ⟨c, p, h1, h2.mono hle, h3.mono hle⟩
def MF.row (r : RowD) : MF := MF.of (fun v H => RowV H v r) fun _ _ _ hle h => RowV.mono h hle
def MF.rows (l : List RowD) : MF := MF.of (fun v H => Rws H v l) fun _ _ _ hle h => Rws.mono h hle

/-- A slice that is owned: nothing yet, or the head of a block of its own. -/
def Own (N : Nat) (e : TypeId) (sz : Nat) (v : Value) (n : Nat) (xs : List Value) (Mo : Mem) : Prop :=
  xs.length = n * sz ∧ ((Mo = [] ∧ (∃ b, v = .slice b 0 0) ∧ n = 0) ∨
    ∃ g c cap, Mo = [(g, .cells c e, true)] ∧ v = .slice (some ⟨g, 0, none⟩) n cap ∧ n ≤ cap ∧ c.size = cap * sz ∧ c.toList.take (n * sz) = xs ∧ N ≤ g)

theorem Own.nil (N : Nat) (e : TypeId) (sz : Nat) : Own N e sz (.slice none 0 0) 0 [] [] := ⟨by simp, .inl ⟨rfl, ⟨_, rfl⟩, rfl⟩⟩
theorem Own.empty (N : Nat) (e : TypeId) (sz : Nat) (b : Option Addr) : Own N e sz (.slice b 0 0) 0 [] [] := ⟨by simp, .inl ⟨rfl, ⟨_, rfl⟩, rfl⟩⟩
theorem Own.form {N : Nat} {e : TypeId} {sz n : Nat} {v : Value} {xs : List Value} {Mo : Mem} (h : Own N e sz v n xs Mo) : ∃ base cap, v = .slice base n cap := by
  rcases h.2 with ⟨_, ⟨b, h1⟩, h2⟩ | ⟨g, c, cap, _, h1, _⟩
  · exact ⟨b, 0, by rw [h1, h2]⟩
  · exact ⟨_, cap, h1⟩
theorem Own.block {N g : Nat} {e : TypeId} {sz n cap : Nat} {c : Array Value} {xs : List Value} (hn : n ≤ cap) (hc : c.size = cap * sz) (hx : c.toList.take (n * sz) = xs) (hg : N ≤ g) :
    Own N e sz (.slice (some ⟨g, 0, none⟩) n cap) n xs [(g, .cells c e, true)] := by
  refine ⟨?_, .inr ⟨g, c, cap, rfl, rfl, hn, hc, hx, hg⟩⟩
  rw [← hx]
  have := Nat.mul_le_mul_right sz hn
  simp; omega

section
variable {xs : List Nat} {H0 H : Hp} {w0 w : World} {M : Mem}
/-- What was owned stays from now on. -/
theorem HS.pub {e : TypeId} {sz n : Nat} {v : Value} {cs : List Value} {Mo : Mem} (h : HS xs H0 w0 H (Mo ++ M) w) (ho : Own w0.heap.size e sz v n cs Mo) :
    ∃ H', Hp.le H H' ∧ HS xs H0 w0 H' M w ∧ Sl H' sz v n cs ∧ ∀ b o, H' b = some o → H b = some o ∨ ∃ p ∈ Mo, p.1 = b := by
  obtain ⟨hl, ⟨rfl, ⟨b9, rfl⟩, rfl⟩ | ⟨g, c, cap, rfl, rfl, hn, hc, hx, hg⟩⟩ := ho
  · have : cs = [] := List.eq_nil_of_length_eq_zero (by simpa using hl)
    subst this
    exact ⟨H, .refl H, h, Sl.empty H sz b9, fun b o hb => .inl hb⟩
  · have h0 := h.mem g (.cells c e) true (by simp)
    refine ⟨H.put g (.cells c e), Hp.le_put h0.2.1 _, HS.publish h hg, ⟨hl, _, cap, rfl, hn, (fun h => by cases h), fun a ha => ?_⟩, fun b o hb => ?_⟩
    · cases ha
      refine ⟨fun _ => rfl, fun i u hi => ?_⟩
      refine hcell_put ?_
      rw [← hx, List.getElem?_take] at hi
      split at hi
      · simpa using hi
      · cases hi
    · unfold Hp.put at hb
      split at hb
      · rename_i e'; exact .inr ⟨(g, .cells c e, true), by simp, e'.symm⟩
      · exact .inl hb

variable {P : Program} {n' : Nat} {ds : List Deferred} {env : Env} {dst : Option Nat} {ty : TypeId} {pos : String} {aft : Array Edge} {gd : Option (Nat × Bool)} {R : Value → World → Prop}
variable {x y : Operand} {t e : TypeId} {d : TypeDesc} {sz by_ : Nat} {z : Value}
theorem execOp_append {ops : Operand → Value} {tys : Array TypeId} {o : Oper} {v : Value} {w w' : World} (ho : o.op = .call { callee := .builtin .append, args := #[x, y], argTypes := tys })
    (h : (Builtin.append_ tys o.type #[ops x, ops y]).run P w = .ok v w') : (execOp ops o).run P w = .ok (.value v) w' := by
  simp [execOp, ho, resolve, invoke, builtin, h]

/-- append to a slice that is owned. -/
theorem OR.appendN {N : Nat} (hN : N ≤ w0.heap.size) {n m : Nat} {v : Value} {cs news : List Value} {Mo : Mem} {bx : Option Addr} {c : Nat} (hs : HS xs H0 w0 H (Mo ++ M) w) (ho : Own N e sz v n cs Mo)
    (ht : P.underlying t = some (.slice e)) (he : TI P e d sz by_ z) (hzs : z.cells.size = sz) (hsz : 0 < sz)
    (hx : look env x = some v) (hy : look env y = some (.slice bx m c)) (hl : news.length = m * sz)
    (hnews : ∀ a, bx = some a → ∀ j u, news[j]? = some u → w.cell? (a.add j) = some u) (hb0 : bx = none → m = 0) (h1 : news.all (·.oneCell') = true)
    (h63 : n + m ≤ 9223372036854775807) (hbytes : (n + m) * by_ ≤ 140737488355328)
    (hR : ∀ v' w' Mo', HS xs H0 w0 H (Mo' ++ M) w' → Own N e sz v' (n + m) (cs ++ news) Mo' → w.heap.size ≤ w'.heap.size → R v' w') :
    OR P n' ds ⟨dst, .call { callee := .builtin .append, args := #[x, y], argTypes := #[t, t] }, ty, pos, aft, gd⟩ env w R := by
  obtain ⟨inf, hi1, hi2, hi3, hi4⟩ := he.inf
  have hlen : (cs ++ news).length = (n + m) * sz := by rw [List.length_append, ho.1, hl, Nat.add_mul]
  have hone : ∀ u ∈ news, u.oneCell' = true := List.all_eq_true.1 h1
  -- the growing case
  have grown : ∀ (old : Nat), old < n + m → HS xs H0 w0 H M w → 
      Own N e sz (.slice (some ⟨w.heap.size, 0, none⟩) (n + m) (grownCap w (n + m) old e)) (n + m) (cs ++ news) [(w.heap.size, .cells (cs.toArray ++ news.toArray ++ Builtin.zeroCells z.cells (grownCap w (n + m) old e - (n + m))) e, true)] ∧
      HS xs H0 w0 H ([(w.heap.size, .cells (cs.toArray ++ news.toArray ++ Builtin.zeroCells z.cells (grownCap w (n + m) old e - (n + m))) e, true)] ++ M) (w.drew.alloc (.cells (cs.toArray ++ news.toArray ++ Builtin.zeroCells z.cells (grownCap w (n + m) old e - (n + m))) e)) := by
    intro old _ hs'
    have hge := grownCap_ge w (n + m) old e
    refine ⟨Own.block hge ?_ ?_ (Nat.le_trans hN hs'.size), hs'.drew.alloc _⟩
    · simp only [Array.size_append, List.size_toArray, size_zeroCells, hzs, ho.1, hl, ← Nat.add_mul]
      congr 1
      omega
    · simp only [Array.toList_append, List.append_assoc]
      rw [← List.append_assoc, ← hlen]
      exact List.take_left
  obtain ⟨_, ⟨rfl, ⟨b9, rfl⟩, rfl⟩ | ⟨g, cc, cap, rfl, rfl, hn, hc, hxs, hg⟩⟩ := ho
  · have hcs : cs = [] := List.eq_nil_of_length_eq_zero (by simp only [List.length_append, hl] at hlen; omega)
    subst hcs
    by_cases hm : m = 0
    · subst hm
      have hn0 : news = [] := List.eq_nil_of_length_eq_zero (by simpa using hl)
      subst hn0
      refine .run (v := .slice b9 0 0) (w' := w) (fun a ha => execOp_append rfl ?_) (hR _ w [] hs (by simpa using Own.empty N e sz b9) (Nat.le_refl _))
      rw [ha.look hx, ha.look hy]
      have hfc : (Builtin.firstCells sz 0 (.slice bx 0 c)).run P w = .ok #[] w := by
        cases bx <;> simp [Builtin.firstCells, loadCells, loadCellsFrom]
      cases b9 <;> simp [Builtin.append_, run_underlying ht, sizeOf, typeInfo, hi1, hi2, Builtin.lenOf, hfc, storeCells]
    · cases bx with
      | none => exact absurd (hb0 rfl) hm
      | some a =>
        obtain ⟨h2, h3⟩ := grown 0 (by omega) (by simpa using hs)
        simp only [Nat.zero_add, List.nil_append, Array.empty_append] at h2 h3
        cases b9 with
        | none =>
          have hr := fun (tyy : TypeId) => run_append_nil (P := P) w t tyy e inf z ht hi1 hi4 a m c news (by rw [hi2]; exact hl) (hnews a rfl) (by omega) (by omega) (by rw [hi3]; simp only [Nat.zero_add] at hbytes; omega)
          exact .run (fun aa ha => execOp_append rfl (by rw [ha.look hx, ha.look hy]; exact hr ty)) (hR _ _ _ h3 (by simpa using h2) (by simp))
        | some b =>
          have hr := fun (tyy : TypeId) => run_append_grow (P := P) w t tyy e inf z ht hi1 hi4 b 0 0 [] (by simp) (fun j u hj => by simp at hj) a m c news (by rw [hi2]; exact hl) (hnews a rfl) (by omega) (by omega)
            (by rw [hi3]; exact growslice_fits (by omega) hbytes)
          simp only [Nat.zero_add, List.nil_append, Array.empty_append] at hr
          exact .run (fun aa ha => execOp_append rfl (by rw [ha.look hx, ha.look hy]; exact hr ty)) (hR _ _ _ h3 (by simpa using h2) (by simp))
  · have hgb := (hs.mem g (.cells cc e) true (by simp)).1
    have holds : ∀ j u, cs[j]? = some u → w.cell? ((⟨g, 0, none⟩ : Addr).add j) = some u := by
      intro j u hj
      rw [add_off, ← hxs, List.getElem?_take] at *
      split at hj
      · simpa [World.cell?, hgb] using hj
      · cases hj
    have hcl : cs.length = n * sz := by simp only [List.length_append, hl, Nat.add_mul] at hlen; omega
    have hm0 : news = [] ∨ ∃ a, bx = some a := by
      cases bx with
      | none => left; exact List.eq_nil_of_length_eq_zero (by rw [hl, hb0 rfl]; simp)
      | some a => exact .inr ⟨a, rfl⟩
    by_cases hroom : n + m ≤ cap
    · have hfit : n * sz + news.length ≤ cc.size := by rw [hl, hc, ← Nat.add_mul]; exact Nat.mul_le_mul_right _ hroom
      have hrow : ∃ w', (∀ tyy, (Builtin.append_ #[t, t] tyy #[.slice (some ⟨g, 0, none⟩) n cap, .slice bx m c]).run P w = .ok (.slice (some ⟨g, 0, none⟩) (n + m) cap) w') ∧
          w'.heap = w.heap.setIfInBounds g (.cells (setFrom cc (n * sz) news) e (0, 0)) ∧ w'.os = w.os ∧ w'.tape = w.tape ∧ w'.output = w.output := by
        obtain ⟨w', q1, q2, q3, q4, q5⟩ := run_storeCells_in (P := P) g e news cc (n * sz) 0 w hgb (by simpa using hfit) hone
        refine ⟨w', fun tyy => ?_, by simpa using q2, q3, q4, q5⟩
        have hfc : (Builtin.firstCells sz m (.slice bx m c)).run P w = .ok news.toArray w := by
          cases bx with
          | none =>
            have : news = [] := List.eq_nil_of_length_eq_zero (by rw [hl, hb0 rfl]; simp)
            subst this
            simp [Builtin.firstCells]
          | some a => exact run_firstCells_some w sz m a m c news hl (hnews a rfl)
        simp [Builtin.append_, run_underlying ht, sizeOf, typeInfo, hi1, hi2, Builtin.lenOf, hroom, hfc, add_off, q1]
      obtain ⟨w', q1, q2, q3, q4, q5⟩ := hrow
      have hs2 := HS.write (g := g) (o := .cells cc e) hs (.cells (setFrom cc (n * sz) news) e) q2 q3 q4 q5
      refine .run (fun aa ha => execOp_append rfl (by rw [ha.look hx, ha.look hy]; exact q1 ty)) (hR _ w' [(g, .cells (setFrom cc (n * sz) news) e, true)] hs2 (Own.block hroom (by rw [setFrom_size, hc]) ?_ hg) (by rw [q2]; simp))
      rw [setFrom_list]
      have key : ∀ (vs l : List Value) (k : Nat), k + vs.length ≤ l.length → (setL l k vs).take (k + vs.length) = l.take k ++ vs := by
        intro vs
        induction vs with
        | nil => intro l k _; simp [setL_nil]
        | cons v vs ih =>
          intro l k hk
          simp only [List.length_cons] at hk ⊢
          rw [setL_step, show k + (vs.length + 1) = (k + 1) + vs.length by omega, ih _ _ (by simp; omega)]
          rw [List.take_succ_eq_append_getElem (by simp; omega), List.take_set, List.set_eq_of_length_le (by rw [List.length_take]; omega)]
          simp
      have h9 := key news cc.toList (n * sz) (by simpa using hfit)
      rw [hl, ← Nat.add_mul, hxs] at h9
      exact h9
    · have hpos : 0 < m := by omega
      cases bx with
      | none => have := hb0 rfl; omega
      | some a =>
        have hr := fun (tyy : TypeId) => run_append_grow (P := P) w t tyy e inf z ht hi1 hi4 ⟨g, 0, none⟩ n cap cs (by rw [hi2]; exact hcl) holds a m c news (by rw [hi2]; exact hl) (hnews a rfl) (by omega) (by omega)
          (by rw [hi3]; exact growslice_fits (by omega) hbytes)
        obtain ⟨h2, h3⟩ := grown cap (by omega) (hs.sublist (List.sublist_append_right _ _))
        exact .run (fun aa ha => execOp_append rfl (by rw [ha.look hx, ha.look hy]; exact hr ty)) (hR _ _ _ h3 h2 (by simp))
theorem OR.append {n m : Nat} {v : Value} {cs news : List Value} {Mo : Mem} {bx : Option Addr} {c : Nat} (hs : HS xs H0 w0 H (Mo ++ M) w) (ho : Own w0.heap.size e sz v n cs Mo)
    (ht : P.underlying t = some (.slice e)) (he : TI P e d sz by_ z) (hzs : z.cells.size = sz) (hsz : 0 < sz)
    (hx : look env x = some v) (hy : look env y = some (.slice bx m c)) (hl : news.length = m * sz)
    (hnews : ∀ a, bx = some a → ∀ j u, news[j]? = some u → w.cell? (a.add j) = some u) (hb0 : bx = none → m = 0) (h1 : news.all (·.oneCell') = true)
    (h63 : n + m ≤ 9223372036854775807) (hbytes : (n + m) * by_ ≤ 140737488355328)
    (hR : ∀ v' w' Mo', HS xs H0 w0 H (Mo' ++ M) w' → Own w0.heap.size e sz v' (n + m) (cs ++ news) Mo' → w.heap.size ≤ w'.heap.size → R v' w') :
    OR P n' ds ⟨dst, .call { callee := .builtin .append, args := #[x, y], argTypes := #[t, t] }, ty, pos, aft, gd⟩ env w R :=
  .appendN (Nat.le_refl _) hs ho ht he hzs hsz hx hy hl hnews hb0 h1 h63 hbytes hR
end
end Go.Bw
namespace Go.Bw
set_option linter.unusedVariables false
set_option linter.unusedSimpArgs false
section
variable {P : Program} {n : Nat} {ds : List Deferred} {env : Env} {w : World}
variable {dst : Option Nat} {ty : TypeId} {pos : String} {aft : Array Edge} {gd : Option (Nat × Bool)} {R : Value → World → Prop}
variable {xs : List Nat} {H0 H : Hp} {w0 : World} {M : Mem}
variable {x y : Operand} {v u : Value} {t e : TypeId} {d : TypeDesc} {sz by_ : Nat} {z : Value} {ad : Addr}
variable {tyy : TypeId}
def plainV : Value → Bool
  | .slice .. | .pointer _ | .bool _ => true
  | _ => false
def plainS : Value → Bool
  | .slice .. | .pointer _ | .bool _ | .string _ => true
  | _ => false
theorem run_bin_eql {x y : Value} {b : Bool} (hx : plainV x = true) (hb : plainV y = true) (h : ∀ k, (Op.equalIn (k + 1) t x y).run P w = .ok b w) : (binOp .eql t x y).run P w = .ok (.bool b) w := by
  have h' : (Op.equal t x y).run P w = .ok b w := h 9999
  cases x <;> simp [plainV] at hx <;> cases y <;> simp [plainV] at hb <;> (unfold binOp; simp [h'])
theorem run_bin_neq {x y : Value} {b : Bool} (hx : plainV x = true) (hb : plainV y = true) (h : ∀ k, (Op.equalIn (k + 1) t x y).run P w = .ok b w) : (binOp .neq t x y).run P w = .ok (.bool (!b)) w := by
  have h' : (Op.equal t x y).run P w = .ok b w := h 9999
  cases x <;> simp [plainV] at hx <;> cases y <;> simp [plainV] at hb <;> (unfold binOp; simp [h'])
theorem run_guard_plain (op : BinOp) (x y : Operand) {a b : Value} (ha : plainS a = true) : (eqGuard op t x y a b).run P w = .ok () w := by
  cases a <;> simp [plainS] at ha <;> (cases op <;> simp [eqGuard])
theorem OR.eqlRun {b : Bool} (hx : look env x = some u) (hy : look env y = some v) (h1 : plainV u = true) (h2 : plainV v = true)
    (h : ∀ k, (Op.equalIn (k + 1) t u v).run P w = .ok b w) (hR : R (.bool b) w) : OR P n ds ⟨dst, .binOp .eql t x y tyy, ty, pos, aft, gd⟩ env w R := by
  refine .run (fun a ha => ?_) hR
  have h3 := run_guard_plain (P := P) (t := t) (w := w) .eql x y (a := u) (b := v) (by cases u <;> simp [plainV, plainS] at h1 ⊢)
  simp [execOp, ha.look hx, ha.look hy, h3, run_bin_eql h1 h2 h]
theorem OR.neqRun {b : Bool} (hx : look env x = some u) (hy : look env y = some v) (h1 : plainV u = true) (h2 : plainV v = true)
    (h : ∀ k, (Op.equalIn (k + 1) t u v).run P w = .ok b w) (hR : R (.bool (!b)) w) : OR P n ds ⟨dst, .binOp .neq t x y tyy, ty, pos, aft, gd⟩ env w R := by
  refine .run (fun a ha => ?_) hR
  have h3 := run_guard_plain (P := P) (t := t) (w := w) .neq x y (a := u) (b := v) (by cases u <;> simp [plainV, plainS] at h1 ⊢)
  simp [execOp, ha.look hx, ha.look hy, h3, run_bin_neq h1 h2 h]

/-- A slice held against nil. -/
theorem OR.eqlNil {base : Option Addr} {m c : Nat} (ht : P.underlying t = some (.slice e)) (hx : look env x = some (.slice base m c)) (hy : look env y = some (.slice none 0 0)) (hR : R (.bool base.isNone) w) :
    OR P n ds ⟨dst, .binOp .eql t x y tyy, ty, pos, aft, gd⟩ env w R :=
  .eqlRun hx hy rfl rfl (fun k => by cases base <;> simp [Op.equalIn, run_underlying ht]) hR
/-- A pointer held against nil. -/
theorem OR.eqlNilP {p : Option Addr} (ht : P.underlying t = some (.pointer e)) (hx : look env x = some (.pointer p)) (hy : look env y = some (.pointer none)) (hR : R (.bool p.isNone) w) :
    OR P n ds ⟨dst, .binOp .eql t x y tyy, ty, pos, aft, gd⟩ env w R :=
  .eqlRun hx hy rfl rfl (fun k => by cases p <;> simp [Op.equalIn, run_underlying ht]) hR
theorem OR.neqNilP {p : Option Addr} (ht : P.underlying t = some (.pointer e)) (hx : look env x = some (.pointer p)) (hy : look env y = some (.pointer none)) (hR : R (.bool p.isSome) w) :
    OR P n ds ⟨dst, .binOp .neq t x y tyy, ty, pos, aft, gd⟩ env w R :=
  .neqRun (b := p.isNone) hx hy rfl rfl (fun k => by cases p <;> simp [Op.equalIn, run_underlying ht]) (by cases p <;> exact hR)
/-- Bytes as a string. -/
def str (l : List UInt8) : ByteArray := ⟨l.toArray⟩
theorem foldl_push (l : List UInt8) : ∀ acc : ByteArray, (l.map fun b => ((b.toNat : Int))).foldl (fun r n => r.push (UInt8.ofNat n.toNat)) acc = ⟨acc.data ++ l.toArray⟩ := by
  induction l with
  | nil => intro acc; simp
  | cons b l ih =>
    intro acc
    rw [List.map_cons, List.foldl_cons, ih]
    congr 1
    apply Array.ext'
    simp [ByteArray.push]

theorem OR.toStr {l : List UInt8} {t' : TypeId} (hs : HS xs H0 w0 H M w) (h1 : P.underlying t = some (.slice e)) (h2 : P.underlying t' = some .string) (h3 : P.underlying e = some (.int .u8))
    (hx : look env x = some v) (hv : Bytes H v l) (hR : R (.string (str l)) w) : OR P n ds ⟨dst, .convert t t' x, ty, pos, aft, gd⟩ env w R := by
  obtain ⟨base, cap, rfl⟩ := hv.form
  have hc : (Conv.bytesToString (.slice base l.length cap)).run P w = .ok (.string (str l)) w := by
    cases base with
    | none =>
      have : l.length = 0 := by obtain ⟨_, b', c', q1, _, q2, _⟩ := hv; cases q1; exact (q2 rfl).1
      have : l = [] := List.eq_nil_of_length_eq_zero this
      subst this
      simp [Conv.bytesToString, str]; rfl
    | some a =>
      have hld : (loadCells a l.length).run P w = .ok ((l.map fun b => ((b.toNat : Int))).map (Value.int .u8)).toArray w := by
        have := run_loadCells_list (P := P) w a (l.map B) (Sl.src hv hs a rfl)
        have e1 : ((l.map fun b => ((b.toNat : Int))).map (Value.int .u8)) = l.map B := by rw [List.map_map]; rfl
        rw [e1]
        simpa using this
      rw [run_bytesToString w _ _ _ _ hld, foldl_push]
      simp [str]
  refine .run (fun a ha => ?_) hR
  simp [execOp, ha.look hx, convert, run_underlying h1, run_underlying h2, run_underlying h3, hc]

theorem str_toList (l : List UInt8) : (str l).toList = l := by rw [ByteArray.toList_eq]; simp [str]
theorem OR.eqlStr {a b : List UInt8} (hx : look env x = some (.string (str a))) (hy : look env y = some (.string (str b))) (hR : R (.bool (decide (a = b))) w) :
    OR P n ds ⟨dst, .binOp .eql t x y tyy, ty, pos, aft, gd⟩ env w R := by
  refine .run (v := .bool (a == b)) (w' := w) (fun aa ha => ?_) (by rw [show (a == b) = decide (a = b) from by by_cases h : a = b <;> simp [h]]; exact hR)
  have h1 := run_guard_plain (P := P) (t := t) (w := w) .eql x y (a := .string (str a)) (b := .string (str b)) rfl
  simp [execOp, ha.look hx, ha.look hy, h1, binOp, Op.stringOp, str_toList]
/-- A row of parts that are given in full, one behind the other. -/
theorem fill_row (size : Nat) : ∀ (vs : List Value) (k : Nat) (cells : Array Value), (∀ v ∈ vs, v.cells.size = size) → (k + vs.length) * size ≤ cells.size →
    Instr.fill (fun i => some (i * size, size)) cells ((List.range' k vs.length).zip vs) = some (setL cells.toList (k * size) (vs.map (·.cells.toList)).flatten).toArray
  | [], k, cells, _, _ => by simp [Instr.fill, setL_nil]
  | v :: vs, k, cells, h, hl => by
    have hv := h v (by simp)
    simp only [List.length_cons, List.range'_succ, List.zip_cons_cons]
    simp only [List.length_cons] at hl
    have hk : k * size + size ≤ cells.size := by
      have h1 : (k + 1) * size ≤ (k + (vs.length + 1)) * size := Nat.mul_le_mul_right size (by omega)
      rw [Nat.add_mul, Nat.one_mul] at h1
      omega
    rw [fill_sized rfl hv hk]
    have hz : ∀ (l : List Value) (j : Nat) (c : Array Value), (l.zipIdx j).foldl (fun cs (x : Value × Nat) => cs.setIfInBounds (k * size + x.2) x.1) c = (setL c.toList (k * size + j) l).toArray := by
      intro l
      induction l with
      | nil => intro j c; simp [setL_nil]
      | cons u l ih =>
        intro j c
        simp only [List.zipIdx_cons, List.foldl_cons]
        rw [ih, setL_step]
        simp [Nat.add_assoc]
    have hz' : (v.cells.zipIdx.foldl (fun cs x => match x with | (c, j) => cs.setIfInBounds (k * size + j) c) cells) = (setL cells.toList (k * size) v.cells.toList).toArray := by
      rw [← Array.foldl_toList, Array.toList_zipIdx]
      simpa using hz v.cells.toList 0 cells
    rw [hz', fill_row size vs (k + 1) _ (fun u hu => h u (by simp [hu])) (by simp [setL_length]; rw [show k + 1 + vs.length = k + (vs.length + 1) by omega]; exact hl)]
    congr 2
    simp only [List.map_cons, List.flatten_cons]
    have happ : ∀ (a b l : List Value) (o : Nat), setL l o (a ++ b) = setL (setL l o a) (o + a.length) b := by
      intro a
      induction a with
      | nil => intro b l o; simp [setL_nil]
      | cons u a ih => intro b l o; rw [List.cons_append, setL_step, setL_step, ih]; simp [Nat.add_assoc, Nat.add_comm 1]
    rw [happ]
    congr 1
    rw [Nat.add_mul, Nat.one_mul, Array.length_toList, hv]

theorem OR.buildSlice {parts : List (Nat × Operand)} {vs : List Value} (hs : HS xs H0 w0 H M w) (ht : P.underlying t = some (.slice e)) (he : TI P e d sz by_ z) (hzs : z.cells.size = sz)
    (hn : parts.map (·.1) = List.range' 0 vs.length) (hv : lookAll env (parts.map (·.2)) = some vs) (hc : vs.all (fun v => Nat.beq v.cells.size sz) = true) (hlt : vs.length * sz ≤ 16777216)
    (hR : ∀ g w', w0.heap.size ≤ g → HS xs H0 w0 H ((g, .cells (vs.map (·.cells.toList)).flatten.toArray e, true) :: M) w' → R (.slice (some ⟨g, 0, none⟩) vs.length vs.length) w') :
    OR P n ds ⟨dst, .buildSlice t vs.length parts.toArray, ty, pos, aft, gd⟩ env w R := by
  have hsz : ∀ v ∈ vs, v.cells.size = sz := fun v h => Nat.eq_of_beq_eq_true (List.all_eq_true.1 hc v h)
  have hfl : (vs.map (·.cells.toList)).flatten.length = vs.length * sz := by
    clear hn hv hc hlt hR
    induction vs with
    | nil => simp
    | cons v vs ih => simp only [List.map_cons, List.flatten_cons, List.length_append, List.length_cons, Array.length_toList]; rw [ih (fun u hu => hsz u (by simp [hu])), hsz v (by simp), Nat.add_mul]; omega
  refine .run (v := .slice (some ⟨w.heap.size, 0, none⟩) vs.length vs.length) (w' := w.alloc (.cells (vs.map (·.cells.toList)).flatten.toArray e)) (fun a ha => ?_) (hR _ _ hs.size (hs.alloc _))
  have h1 := ha.lookAll _ _ hv
  have h2 : parts.map (fun p => (p.1, a.eval p.2)) = (parts.map (·.1)).zip vs := by
    rw [← h1]
    clear hv h1 hn hR hfl hsz hlt hc
    induction parts with
    | nil => rfl
    | cons p l ih => simp [ih]
  have hfill : ∀ cells : Array Value, cells.size = vs.length * sz → Instr.fill (fun i => some (i * sz, sz)) cells ((List.range' 0 vs.length).zip vs) = some (vs.map (·.cells.toList)).flatten.toArray := by
    intro cells hcs
    rw [fill_row sz vs 0 cells hsz (by rw [hcs]; simp)]
    rw [Nat.zero_mul, setL_all _ _ (by rw [hfl]; simp [hcs])]
  have hrun : (Instr.buildSlice t vs.length ((List.range' 0 vs.length).zip vs).toArray).run P w = .ok (.slice (some ⟨w.heap.size, 0, none⟩) vs.length vs.length) (w.alloc (.cells (vs.map (·.cells.toList)).flatten.toArray e)) := by
    have hbig : ¬ (16777216 < vs.length * sz) := by omega
    by_cases h0 : vs.length * sz = 0
    · have := hfill ((Array.range (vs.length * sz)).map ((#[] : Array Value)[· % (#[] : Array Value).size]!)) (by simp)
      simp [Instr.buildSlice, run_underlying ht, he.run_size, hbig, newRow, newObj, Sem.run, h0] at this ⊢
      rw [this]
      simp [newRow, newObj, Sem.run]
    · have := hfill ((Array.range (vs.length * sz)).map (z.cells[· % z.cells.size]!)) (by simp)
      simp [Instr.buildSlice, run_underlying ht, he.run_size, hbig, h0, he.run_zero, newRow, newObj, Sem.run] at this ⊢
      rw [this]
      simp [newRow, newObj, Sem.run]
  simp [execOp, List.map_toArray, h2, hn, hrun]

/-- A struct whose fields, of one cell each, are all given. -/
theorem OR.buildAll {parts : List (Nat × Operand)} {vs : List Value} {fs : Array Field} {by_ : Nat} (ht : TI P t (.struct fs) sz by_ z) (hv : lookAll env (parts.map (·.2)) = some vs) (hzs : z.cells.size = vs.length)
    (hp : ∀ w : World, (fs.mapM (m := Sem) fun f => do pure (f.offset, ← sizeOf f.type)).run P w = .ok ((List.range vs.length).map fun i => (i, 1)).toArray w)
    (hn : parts.map (·.1) = List.range' 0 vs.length) (hc : vs.all (·.oneCell') = true) (hR : R (.agg vs.toArray) w) :
    OR P n ds ⟨dst, .build t parts.toArray, ty, pos, aft, gd⟩ env w R := by
  refine OR.build hv (cs := vs.toArray) (fun w => ?_) hR
  have hcell : ∀ v ∈ vs, v.cells = #[v] := by
    intro v h
    have := List.all_eq_true.1 hc v h
    cases v <;> simp [Value.cells, Value.oneCell'] at this ⊢
  have hfl : (vs.map (·.cells.toList)).flatten = vs := by
    clear hn hv hc hR hp hzs
    induction vs with
    | nil => rfl
    | cons v vs ih => rw [List.map_cons, List.flatten_cons, hcell v (by simp), ih (fun u hu => hcell u (by simp [hu]))]; rfl
  have hf := fill_row 1 vs 0 z.cells (fun v h => by rw [hcell v h]; rfl) (by rw [hzs]; omega)
  rw [hfl, Nat.zero_mul, setL_all _ _ (by simp [hzs])] at hf
  have hplace : ∀ (ps : List (Nat × Value)) (cells : Array Value), (∀ p ∈ ps, p.1 < vs.length) → Instr.fill (fun i => ((List.range vs.length).map fun i => (i, 1)).toArray[i]?) cells ps = Instr.fill (fun i => some (i * 1, 1)) cells ps := by
    intro ps
    induction ps with
    | nil => intro cells _; rfl
    | cons p ps ih =>
      intro cells h
      obtain ⟨i, v⟩ := p
      have hi := h (i, v) (by simp)
      simp only [Instr.fill]
      have : ((List.range vs.length).map fun i => (i, 1)).toArray[i]? = some (i * 1, 1) := by simp at hi; simp [hi]
      rw [this]
      simp only
      split
      · rfl
      · exact ih _ (fun q hq => h q (by simp [hq]))
  have hlen : ∀ p ∈ (List.range' 0 vs.length).zip vs, p.1 < vs.length := by
    intro p hp
    have := (List.of_mem_zip hp).1
    simp at this
    omega
  rw [hn]
  unfold Instr.build
  simp only [Sem.run_bind, ht.run_zero, Result.andThen_ok, run_underlying ht.und, hp w]
  rw [hplace _ _ hlen, hf]
  simp
end
end Go.Bw
namespace Go.Bw
set_option linter.unusedVariables false
set_option linter.unusedSimpArgs false
theorem bytes_one (l : List UInt8) : (l.map B).all (·.oneCell') = true := by
  rw [List.all_eq_true]
  intro v hv
  obtain ⟨b, _, rfl⟩ := List.mem_map.1 hv
  rfl
section
variable {xs : List Nat} {H0 H : Hp} {w0 w : World} {M : Mem}
theorem Sl.src0 {sz n cap : Nat} {base : Option Addr} {cs : List Value} (h : Sl H sz (.slice base n cap) n cs) : base = none → n = 0 := by
  obtain ⟨_, b', c', q1, _, q2, _⟩ := h
  cases q1
  exact fun e => (q2 e).1
theorem Sl.block {sz n cap g : Nat} {c : Array Value} {e : TypeId} {fr : Nat × Nat} {cs : List Value} (hg : H g = some (.cells c e fr)) (hl : cs.length = n * sz) (hc : c.toList.take (n * sz) = cs) (hn : n ≤ cap) :
    Sl H sz (.slice (some ⟨g, 0, none⟩) n cap) n cs := by
  refine ⟨hl, _, cap, rfl, hn, (fun h => by cases h), fun a ha => ?_⟩
  cases ha
  refine ⟨fun _ => rfl, fun i u hi => ?_⟩
  rw [← hc, List.getElem?_take] at hi
  split at hi
  · simpa [hcell, hg] using hi
  · cases hi
theorem Bytes.block {cap g : Nat} {c : Array Value} {e : TypeId} {fr : Nat × Nat} {l : List UInt8} (hg : H g = some (.cells c e fr)) (hc : c.toList.take l.length = l.map B) (hn : l.length ≤ cap) :
    Bytes H (.slice (some ⟨g, 0, none⟩) l.length cap) l :=
  Sl.block hg (by simp) (by rw [Nat.mul_one]; exact hc) hn

/-- What a call owns it may let stay. -/
theorem own_pure {R : Value → Hp → Prop} {E : Ending} {w' : World} {e : TypeId} {sz n : Nat} {cs : List Value}
    (h : Ret [] H0 w0 (fun v H' M' => H' = H0 ∧ Own w0.heap.size e sz v n cs M') E w') (hR : ∀ v H', Hp.le H0 H' → Sl H' sz v n cs → R v H') : Pure H0 w0 R E w' := by
  obtain ⟨v, H', M', rfl, hs, hM, rfl, ho⟩ := h
  obtain ⟨H2, h1, h2, h3, _⟩ := HS.pub (M := []) (by simpa using hs) ho
  exact ⟨v, H2, [], rfl, h2, by simp, rfl, hR v H2 h1 h3⟩
end
end Go.Bw
namespace Go.Bw
set_option linter.unusedVariables false
set_option linter.unusedSimpArgs false
section
variable {P : Program} {n : Nat} {ds : List Deferred} {env : Env} {w : World}
variable {dst : Option Nat} {ty : TypeId} {pos : String} {aft : Array Edge} {gd : Option (Nat × Bool)} {R : Value → World → Prop}
variable {xs : List Nat} {H0 H : Hp} {w0 : World} {M : Mem}
variable {x y : Operand} {t e : TypeId} {d : TypeDesc} {by_ : Nat} {z : Value}
theorem one_cells {v : Value} (h : v.oneCell' = true) : v.cells = #[v] := by
  cases v <;> simp [Value.cells, Value.oneCell'] at h ⊢
theorem zeros_one (m : Nat) (h : z.oneCell' = true) : (Array.range (m * 1)).map (z.cells[· % z.cells.size]!) = (List.replicate m z).toArray := by
  rw [one_cells h]
  apply Array.toList_inj.1
  rw [Array.toList_map, Array.toList_range, Nat.mul_one]
  apply List.ext_getElem?
  intro i
  by_cases hi : i < m
  · simp [hi, Nat.mod_one]
  · simp [hi]
/-- make of elements of one cell. -/
theorem OR.make1 {m : Nat} (hs : HS xs H0 w0 H M w) (ht : P.underlying t = some (.slice e)) (he : TI P e d 1 by_ z) (hz : z.oneCell' = true)
    (hx : look env x = some (.int .i64 m)) (hy : look env y = some (.int .i64 m)) (hb : m * by_ ≤ 281474976710656) (hm : m ≤ 9223372036854775807)
    (hR : ∀ g w', w0.heap.size ≤ g → HS xs H0 w0 H ((g, .cells (List.replicate m z).toArray e, true) :: M) w' → R (.slice (some ⟨g, 0, none⟩) m m) w') :
    OR P n ds ⟨dst, .makeSlice t x y, ty, pos, aft, gd⟩ env w R :=
  .makeSlice hs ht he (by rw [one_cells hz]; rfl) (by omega) hx hy hb hm (fun g w' h1 h2 => hR g w' h1 (by rw [zeros_one m hz] at h2; exact h2))
end
end Go.Bw
namespace Go.Bw
set_option linter.unusedVariables false
set_option linter.unusedSimpArgs false
theorem HS.pub1 {xs : List Nat} {H0 H : Hp} {w0 w : World} {M : Mem} {g : Nat} {o : Obj} {t : Bool} (hs : HS xs H0 w0 H ((g, o, t) :: M) w) (hg : w0.heap.size ≤ g) :
    ∃ H', Hp.le H H' ∧ H' g = some o ∧ HS xs H0 w0 H' M w :=
  ⟨H.put g o, Hp.le_put (hs.mem g o t (by simp)).2.1 o, Hp.put_same .., hs.publish hg⟩
theorem hcell_of {H : Hp} {g i : Nat} {c : Array Value} {e : TypeId} {fr : Nat × Nat} {v : Value} (h : H g = some (.cells c e fr)) (hc : nth c.toList i = some v) : hcell H ⟨g, i, none⟩ = some v := by
  rw [nth_eq] at hc
  simpa [hcell, h] using hc
end Go.Bw
namespace Go.Bw
set_option linter.unusedVariables false
set_option linter.unusedSimpArgs false
/-- A pair of a slice of bytes and a number. -/
def TupB (H : Hp) (v : Value) (l : List UInt8) (e : Int) : Prop := ∃ r, v = .tuple #[r, .int .i64 e] ∧ Bytes H r l
def MF.tupB (l : List UInt8) (e : Int) : MF := MF.of (fun v H => TupB H v l e) fun _ _ _ hle ⟨r, h1, h2⟩ => ⟨r, h1, h2.mono hle⟩
theorem BytesL.form {H : Hp} {v : Value} {ll : List (List UInt8)} (h : BytesL H v ll) : ∃ base cap, v = .slice base ll.length cap := by
  obtain ⟨cs, h1, _⟩ := h
  exact h1.form
/-- The elements of a slice of slices. -/
theorem BytesL.pos {H : Hp} {ll : List (List UInt8)} {base : Option Addr} {cap : Nat} (h : BytesL H (.slice base ll.length cap) ll) (hn : 0 < ll.length) :
    ∃ b o, base = some ⟨b, o, none⟩ ∧ ∀ i (hi : i < ll.length), ∃ c, hcell H ⟨b, o + i, none⟩ = some c ∧ Bytes H c ll[i] := by
  obtain ⟨cs, h1, h2, h3⟩ := h
  obtain ⟨b, o, h4, h5⟩ := h1.pos hn
  exact ⟨b, o, h4, fun i hi => ⟨cs[i], h5 i _ (by simp [h2, hi]), h3 i hi (by omega)⟩⟩
end Go.Bw
namespace Go.Bw
set_option linter.unusedVariables false
set_option linter.unusedSimpArgs false
theorem Rws.form {H : Hp} {v : Value} {rs : List RowD} (h : Rws H v rs) : ∃ base cap, v = .slice base rs.length cap := by
  obtain ⟨cs, h1, _⟩ := h
  exact h1.form
theorem Rws.pos {H : Hp} {rs : List RowD} {base : Option Addr} {cap : Nat} (h : Rws H (.slice base rs.length cap) rs) (hn : 0 < rs.length) :
    ∃ b o, base = some ⟨b, o, none⟩ ∧ ∀ i (hi : i < rs.length), ∃ c p, (∀ j u, [c, p][j]? = some u → hcell H ((⟨b, o + i * 2, none⟩ : Addr).add j) = some u) ∧ Bytes H c rs[i].1 ∧ Bytes H p rs[i].2 := by
  obtain ⟨cs, h1, h2, h3⟩ := h
  obtain ⟨b, o, h4, h5⟩ := h1.pos hn
  refine ⟨b, o, h4, fun i hi => ⟨cs[i].1, cs[i].2, ?_, h3 i hi (by omega)⟩⟩
  have hg := rowCells_get cs i (by omega)
  intro j u hj
  rw [add_off]
  match j, hj with
  | 0, hj => simp at hj; subst hj; exact h5 _ _ hg.1
  | 1, hj => simp at hj; subst hj; exact h5 _ _ hg.2
theorem HS.start1 {H : Hp} {w : World} {g : Nat} {o : Obj} (h : Sub H w) (hg : w.heap[g]? = some o) (hn : H g = none) : HS [g] H w H [(g, o, true)] w :=
  HS.start [g] h (by simp; exact ⟨hg, hn⟩) (by simp [Mem.keys])
theorem HS.startR {H : Hp} {w : World} {g : Nat} {o : Obj} (h : Sub H w) (hg : w.heap[g]? = some o) (hn : H g = none) : HS [] H w H [(g, o, false)] w :=
  HS.start [] h (by simp; exact ⟨hg, hn⟩) (by simp [Mem.keys])
end Go.Bw
namespace Go.Bw
set_option linter.unusedVariables false
set_option linter.unusedSimpArgs false
section
variable {xs : List Nat} {H0 H : Hp} {w0 w : World} {M Mo : Mem} {p : Nat × Obj × Bool}
theorem HS.sink (hs : HS xs H0 w0 H (p :: (Mo ++ M)) w) : HS xs H0 w0 H (Mo ++ (p :: M)) w := hs.perm List.perm_middle
theorem HS.rise (hs : HS xs H0 w0 H (Mo ++ (p :: M)) w) : HS xs H0 w0 H (p :: (Mo ++ M)) w := hs.perm List.perm_middle.symm
theorem HS.dropMid (hs : HS xs H0 w0 H (Mo ++ (p :: M)) w) : HS xs H0 w0 H (Mo ++ M) w := hs.rise.sublist (List.sublist_cons_self _ _)
theorem cells_of {g : Nat} {c : Array Value} {e : TypeId} {fr : Nat × Nat} (hb : w.heap[g]? = some (.cells c e fr)) :
    ∀ a, some (⟨g, 0, none⟩ : Addr) = some a → ∀ j u, c.toList[j]? = some u → w.cell? (a.add j) = some u := by
  intro a ha j u hj
  cases ha
  rw [add_off]
  simpa [World.cell?, hb] using hj
end
end Go.Bw
namespace Go.Bw
set_option linter.unusedVariables false
set_option linter.unusedSimpArgs false
section
variable {P : Program} {n : Nat} {ds : List Deferred} {env : Env} {w : World}
variable {dst : Option Nat} {ty : TypeId} {pos : String} {aft : Array Edge} {gd : Option (Nat × Bool)} {R : Value → World → Prop}
variable {t : TypeId} {d : TypeDesc} {sz by_ : Nat} {z : Value}
/-- A struct of noughts. -/
theorem OR.buildZero {fs : Array Field} {pl : Array (Nat × Nat)} (ht : TI P t (.struct fs) sz by_ z)
    (hp : ∀ w : World, (fs.mapM (m := Sem) fun f => do pure (f.offset, ← sizeOf f.type)).run P w = .ok pl w) (hR : R (.agg z.cells) w) :
    OR P n ds ⟨dst, .build t #[], ty, pos, aft, gd⟩ env w R :=
  .run (fun a ha => by
    have h : (Instr.build t #[]).run P w = .ok (.agg z.cells) w := by
      unfold Instr.build
      simp only [Sem.run_bind, ht.run_zero, Result.andThen_ok, run_underlying ht.und, hp w]
      simp [Instr.fill]
    simp [execOp, h]) hR

/-- The first result lies in a block, the second in a slot. -/
theorem WX.retCT {f : Func} {C : Ending → World → Prop} {g s u : Nat} {c : Array Value} {ee : TypeId} {fr : Nat × Nat} {v : Value} (ht : TI P t d sz by_ z) (hf : f.results = #[.cell s t, .tmp u])
    (hv : env.get s = some (.pointer (some ⟨g, 0, none⟩))) (hu : env.get u = some v) (hd : isAggD d = true) (hl : c.size = sz) (hg : w.heap[g]? = some (.cells c ee fr)) (h : C (.returned (.tuple #[.agg c, v])) w) : WX P n [] .ret (.fn f C) env w := by
  subst hl
  refine WX.end_ret (vs := fun _ => True) rfl fun a ha => ⟨_, ?_, h⟩
  have hc : ∀ j u, c.toList[j]? = some u → w.cell? ((⟨g, 0, none⟩ : Addr).add j) = some u := fun j u hj => by rw [add_off]; simpa [World.cell?, hg] using hj
  have := run_loadCells_list (P := P) w ⟨g, 0, none⟩ c.toList hc
  simp only [Array.length_toList] at this
  have hv' := ha.get s _ hv
  have hu' := ha.get u _ hu
  rw [Array.getD_eq_getD_getElem?] at hv' hu'
  simp [results, hf, hv', hu', asAddr, loadVar, ht.run_agg, hd, ht.run_size, this]
end
end Go.Bw
namespace Go.Bw
set_option linter.unusedVariables false
set_option linter.unusedSimpArgs false
def BLOk (H : Hp) (cs : List Value) (ll : List (List UInt8)) : Prop := cs.length = ll.length ∧ ∀ i (h : i < ll.length) (h' : i < cs.length), Bytes H cs[i] ll[i]
theorem BLOk.mono {H H' : Hp} {cs : List Value} {ll : List (List UInt8)} (h : BLOk H cs ll) (hle : Hp.le H H') : BLOk H' cs ll := ⟨h.1, fun i a b => (h.2 i a b).mono hle⟩
theorem BLOk.nil (H : Hp) : BLOk H [] [] := ⟨rfl, fun i h => by simp at h⟩
theorem BLOk.snoc {H : Hp} {cs : List Value} {ll : List (List UInt8)} (h : BLOk H cs ll) {c : Value} {l : List UInt8} (hc : Bytes H c l) : BLOk H (cs ++ [c]) (ll ++ [l]) := by
  refine ⟨by simp [h.1], fun i a b => ?_⟩
  have h1 := h.1
  by_cases e : i < ll.length
  · have e' : i < cs.length := by omega
    simp only [List.getElem_append_left e, List.getElem_append_left e']
    exact h.2 i e e'
  · simp only [List.length_append, List.length_singleton] at a b
    have : i = ll.length := by omega
    subst this
    simp only [List.getElem_append_right (Nat.le_refl _), Nat.sub_self, List.getElem_cons_zero]
    rw [List.getElem_append_right (by omega)]
    simp only [h1, Nat.sub_self, List.getElem_cons_zero]
    exact hc
theorem BLOk.bytesL {H : Hp} {v : Value} {cs : List Value} {ll : List (List UInt8)} (h : BLOk H cs ll) (hs : Sl H 1 v ll.length cs) : BytesL H v ll := ⟨cs, hs, h.1, h.2⟩
end Go.Bw
