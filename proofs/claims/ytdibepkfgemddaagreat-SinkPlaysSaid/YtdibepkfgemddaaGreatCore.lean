/- The walker: frames as short lists of known slots, continuations as data, one lemma for each kind of operation. -/
import Derived.WalkKit
import Derived.ScopeJumps
namespace Go.Bw
set_option linter.unusedVariables false
set_option linter.unusedSimpArgs false

/-- What is known of a frame: slots with their values, the latest first. -/
abbrev Env := List (Nat × Value)

def Env.get : Env → Nat → Option Value
  | [], _ => none
  | (k, v) :: e, t => cond (Nat.beq k t) (some v) (Env.get e t)

def look (env : Env) : Operand → Option Value
  | .tmp t => env.get t
  | .const v => some v
  | .global g => some (.pointer (some ⟨g, 0, none⟩))
  | .func f => some (.func (.func f) #[] #[])

def lookAll (env : Env) : List Operand → Option (List Value)
  | [] => some []
  | x :: xs => match look env x with
    | none => none
    | some v => match lookAll env xs with
      | none => none
      | some vs => some (v :: vs)

structure St (n : Nat) (ds : List Deferred) (env : Env) (a : Act) : Prop where
  dfr : a.defers = ds
  sz : a.tmps.size = n
  get : ∀ t v, env.get t = some v → a.tmps.getD t undef = v

variable {P : Program} {n : Nat} {ds : List Deferred} {env : Env} {w : World} {a : Act}

theorem St.look (h : St n ds env a) {x : Operand} {v : Value} (hx : look env x = some v) : a.eval x = v := by
  cases x with
  | tmp t => exact h.get t v hx
  | const c => simpa [Bw.look, Act.eval] using hx
  | global g => simpa [Bw.look, Act.eval] using hx
  | func f => simpa [Bw.look, Act.eval] using hx

theorem St.lookAll (h : St n ds env a) : ∀ (xs : List Operand) (vs : List Value), lookAll env xs = some vs → xs.map a.eval = vs
  | [], vs, hx => by simp [Bw.lookAll] at hx; simp [hx]
  | x :: xs, vs, hx => by
    simp only [Bw.lookAll] at hx
    cases h1 : Bw.look env x with
    | none => simp [h1] at hx
    | some v =>
      cases h2 : Bw.lookAll env xs with
      | none => simp [h1, h2] at hx
      | some us =>
        simp [h1, h2] at hx
        subst hx
        simp [h.look h1, St.lookAll h xs us h2]

/-- A slot written. -/
def putE (dst : Option Nat) (v : Value) (env : Env) : Env :=
  match dst with
  | some d => (d, v) :: env
  | none => env

theorem St.put (h : St n ds env a) {d : Nat} (hd : Nat.blt d n = true) (v : Value) : St n ds ((d, v) :: env) (a.put (some d) v) := by
  have hd' : d < n := by simpa [Nat.blt_eq] using hd
  refine ⟨h.dfr, by simp [Act.put, h.sz], ?_⟩
  intro t u hu
  simp only [Env.get] at hu
  by_cases e : d = t
  · subst e
    simp at hu
    subst hu
    simp [Act.put, Array.getD_eq_getD_getElem?, h.sz, hd']
  · have : Nat.beq d t = false := by
      cases hb : Nat.beq d t with
      | false => rfl
      | true => exact absurd (Nat.eq_of_beq_eq_true hb) e
    rw [this] at hu
    have := h.get t u hu
    simpa [Act.put, Array.getD_eq_getD_getElem?, Array.getElem?_setIfInBounds, e] using this

theorem St.putO (h : St n ds env a) {dst : Option Nat} (hd : (match dst with | some d => Nat.blt d n | none => true) = true) (v : Value) :
    St n ds (putE dst v env) (a.put dst v) := by
  cases dst with
  | some d => exact h.put hd v
  | none => exact h

/-- Known slots forgotten, or told otherwise. -/
theorem St.sub (h : St n ds env a) {env' : Env} (hs : ∀ t v, env'.get t = some v → env.get t = some v) : St n ds env' a :=
  ⟨h.dfr, h.sz, fun t v ht => h.get t v (hs t v ht)⟩

def Env.subB (sub : Env) (env : Env) : Prop :=
  match sub with
  | [] => True
  | (k, v) :: e => env.get k = some v ∧ Env.subB e env

theorem Env.subB.get {sub env : Env} (h : sub.subB env) : ∀ t v, sub.get t = some v → env.get t = some v := by
  induction sub with
  | nil => intro t v ht; simp [Env.get] at ht
  | cons p e ih =>
    obtain ⟨k, u⟩ := p
    intro t v ht
    simp only [Env.get] at ht
    cases hb : Nat.beq k t with
    | true =>
      rw [hb] at ht
      have := Nat.eq_of_beq_eq_true hb
      subst this
      simp at ht
      subst ht
      exact h.1
    | false => rw [hb] at ht; exact ih h.2 t v ht

/-- What is to be done behind a piece of code. -/
inductive Kont where
  | fn (f : Func) (R : Ending → World → Prop)
  | seq (y : Code) (k : Kont)
  | block (id : Nat) (k : Kont)
  | loop (I : Act → World → Prop) (k : Kont)
  | scope (k : Kont)
  | jump (l : Nat) (J : Act → World → Prop) (k : Kont)
  | cut (X : Exit → Act → World → Prop)

def Kont.Q (P : Program) : Kont → Exit → Act → World → Prop
  | .fn f R => bodyPost P f R
  | .seq y k => Exit.then (fun a w => y.wp P (k.Q P) a w) (k.Q P)
  | .block id k => Exit.inBlock id (k.Q P)
  | .loop I k => Exit.then I (k.Q P)
  | .scope k => Exit.noGoto (k.Q P)
  | .jump l J k => Exit.jump l J (k.Q P)
  | .cut X => X

/-- A piece of code, from what is known of the frame. -/
def WC (P : Program) (n : Nat) (ds : List Deferred) (c : Code) (k : Kont) (env : Env) (w : World) : Prop :=
  ∀ a, St n ds env a → c.wp P (k.Q P) a w
/-- The operations that are left of a region. -/
def WO (P : Program) (n : Nat) (ds : List Deferred) (ops : Array Oper) (l : List Oper) (k : Kont) (env : Env) (w : World) : Prop :=
  ∀ a, St n ds env a → wpList P ops (k.Q P) l a w
/-- A piece of code is left. -/
def WX (P : Program) (n : Nat) (ds : List Deferred) (e : Exit) (k : Kont) (env : Env) (w : World) : Prop :=
  ∀ a, St n ds env a → k.Q P e a w

variable {k : Kont}

theorem WC.sub (env' : Env) {c : Code} (hs : env'.subB env) (h : WC P n ds c k env' w) : WC P n ds c k env w :=
  fun a ha => h a (ha.sub hs.get)
theorem WX.sub (env' : Env) {e : Exit} (hs : env'.subB env) (h : WX P n ds e k env' w) : WX P n ds e k env w :=
  fun a ha => h a (ha.sub hs.get)
theorem WO.sub (env' : Env) {ops : Array Oper} {l : List Oper} (hs : env'.subB env) (h : WO P n ds ops l k env' w) : WO P n ds ops l k env w :=
  fun a ha => h a (ha.sub hs.get)

theorem WC.seq {x y : Code} (h : WC P n ds x (.seq y k) env w) : WC P n ds (.seq x y) k env w :=
  fun a ha => wp_seq (h a ha)
theorem WC.skip (h : WX P n ds .normal k env w) : WC P n ds .skip k env w := fun a ha => wp_skip (h a ha)
theorem WC.label {l : Nat} (h : WX P n ds .normal k env w) : WC P n ds (.label l) k env w := fun a ha => wp_label (h a ha)
theorem WC.exit {id : Nat} (h : WX P n ds (.exit id) k env w) : WC P n ds (.exit id) k env w := fun a ha => wp_exit (h a ha)
theorem WC.goto {l : Nat} (h : WX P n ds (.goto l) k env w) : WC P n ds (.goto l) k env w := fun a ha => wp_goto (h a ha)
theorem WC.ret (h : WX P n ds .ret k env w) : WC P n ds .ret k env w := fun a ha => wp_ret (h a ha)
theorem WC.block {id : Nat} {c : Code} (h : WC P n ds c (.block id k) env w) : WC P n ds (.block id c) k env w :=
  fun a ha => wp_block (h a ha)
theorem WC.scope {c : Code} (h : WC P n ds c (.scope k) env w) : WC P n ds (.scope c) k env w :=
  fun a ha => wp_scope_straight (h a ha)
theorem WC.region {id : Nat} {l : List Oper} (h : WO P n ds l.toArray l k env w) : WC P n ds (.region id l.toArray false) k env w :=
  fun a ha => wp_region_lit (h a ha)
theorem WC.cond {c : Operand} {x y : Code} {t : Bool} (hc : look env c = some (.bool t))
    (h1 : t = true → WC P n ds x k env w) (h2 : t = false → WC P n ds y k env w) : WC P n ds (.cond c x y) k env w :=
  fun a ha => wp_cond_split (ha.look hc) (fun ht => h1 ht a ha) (fun ht => h2 ht a ha)
theorem WC.condD {c : Operand} {x y : Code} {p : Prop} [Decidable p] (hc : look env c = some (.bool (decide p)))
    (h1 : p → WC P n ds x k env w) (h2 : ¬p → WC P n ds y k env w) : WC P n ds (.cond c x y) k env w :=
  WC.cond hc (fun h => h1 (of_decide_eq_true h)) (fun h => h2 (of_decide_eq_false h))
theorem WC.yes {c : Operand} {x y : Code} {t : Bool} (hc : look env c = some (.bool t)) (ht : t = true)
    (h : WC P n ds x k env w) : WC P n ds (.cond c x y) k env w :=
  fun a ha => wp_cond (ha.look hc) (by rw [ht]; exact h a ha)
theorem WC.no {c : Operand} {x y : Code} {t : Bool} (hc : look env c = some (.bool t)) (ht : t = false)
    (h : WC P n ds y k env w) : WC P n ds (.cond c x y) k env w :=
  fun a ha => wp_cond (ha.look hc) (by rw [ht]; exact h a ha)

theorem WO.done {ops : Array Oper} (h : WX P n ds .normal k env w) : WO P n ds ops [] k env w := h

theorem WX.seq {y : Code} (h : WC P n ds y k env w) : WX P n ds .normal (.seq y k) env w := h
theorem WX.seq_exit {y : Code} {id : Nat} (h : WX P n ds (.exit id) k env w) : WX P n ds (.exit id) (.seq y k) env w := h
theorem WX.seq_goto {y : Code} {l : Nat} (h : WX P n ds (.goto l) k env w) : WX P n ds (.goto l) (.seq y k) env w := h
theorem WX.seq_ret {y : Code} (h : WX P n ds .ret k env w) : WX P n ds .ret (.seq y k) env w := h
theorem WX.block {id : Nat} (h : WX P n ds .normal k env w) : WX P n ds .normal (.block id k) env w := h
theorem WX.block_hit {id : Nat} (h : WX P n ds .normal k env w) : WX P n ds (.exit id) (.block id k) env w :=
  fun a ha => by show Exit.inBlock id (k.Q P) (.exit id) a w; simp only [Exit.inBlock, if_true]; exact h a ha
theorem WX.block_miss {id id' : Nat} (hne : Nat.beq id' id = false) (h : WX P n ds (.exit id') k env w) : WX P n ds (.exit id') (.block id k) env w :=
  fun a ha => by
    show Exit.inBlock id (k.Q P) (.exit id') a w
    have : id' ≠ id := fun e => by rw [e, Nat.beq_refl] at hne; exact Bool.noConfusion hne
    simp only [Exit.inBlock, this, if_false]
    exact h a ha
theorem WX.block_goto {id l : Nat} (h : WX P n ds (.goto l) k env w) : WX P n ds (.goto l) (.block id k) env w := h
theorem WX.block_ret {id : Nat} (h : WX P n ds .ret k env w) : WX P n ds .ret (.block id k) env w := h
theorem WX.scope (h : WX P n ds .normal k env w) : WX P n ds .normal (.scope k) env w := h
theorem WX.scope_exit {id : Nat} (h : WX P n ds (.exit id) k env w) : WX P n ds (.exit id) (.scope k) env w := h
theorem WX.scope_ret (h : WX P n ds .ret k env w) : WX P n ds .ret (.scope k) env w := h
theorem WX.jump {l : Nat} {J : Act → World → Prop} (h : WX P n ds .normal k env w) : WX P n ds .normal (.jump l J k) env w := h
theorem WX.jump_exit {l id : Nat} {J : Act → World → Prop} (h : WX P n ds (.exit id) k env w) : WX P n ds (.exit id) (.jump l J k) env w := h
theorem WX.jump_ret {l : Nat} {J : Act → World → Prop} (h : WX P n ds .ret k env w) : WX P n ds .ret (.jump l J k) env w := h
theorem WX.loop_exit {id : Nat} {I : Act → World → Prop} (h : WX P n ds (.exit id) k env w) : WX P n ds (.exit id) (.loop I k) env w := h
theorem WX.loop_goto {l : Nat} {I : Act → World → Prop} (h : WX P n ds (.goto l) k env w) : WX P n ds (.goto l) (.loop I k) env w := h
theorem WX.loop_ret {I : Act → World → Prop} (h : WX P n ds .ret k env w) : WX P n ds .ret (.loop I k) env w := h

/-- Behind the function's last statement. -/
theorem WX.end_ret {f : Func} {R : Ending → World → Prop} {e : Exit} (he : (match e with | .normal => true | .ret => true | _ => false) = true)
    {vs : Array Value → Prop} (hr : ∀ a, St n [] env a → ∃ v, (results f a.tmps).run P w = .ok v w ∧ R (.returned v) w) : WX P n [] e (.fn f R) env w := by
  intro a ha
  obtain ⟨v, h1, h2⟩ := hr a ha
  cases e with
  | normal => exact ⟨ha.dfr, v, h1, h2⟩
  | ret => exact ⟨ha.dfr, v, h1, h2⟩
  | _ => simp at he

/-- The result slots of a function whose results are slots. -/
def slots : List ResultVar → Option (List Nat)
  | [] => some []
  | .tmp t :: l => match slots l with | some ts => some (t :: ts) | none => none
  | .cell _ _ :: _ => none

theorem WX.ret0 {f : Func} {R : Ending → World → Prop} (hf : f.results = #[]) (h : R (.returned (.tuple #[])) w) : WX P n [] .ret (.fn f R) env w :=
  fun a ha => ⟨ha.dfr, _, results_none hf a.tmps P w, h⟩
theorem WX.end0 {f : Func} {R : Ending → World → Prop} (hf : f.results = #[]) (h : R (.returned (.tuple #[])) w) : WX P n [] .normal (.fn f R) env w :=
  fun a ha => ⟨ha.dfr, _, results_none hf a.tmps P w, h⟩
theorem WX.ret1 {f : Func} {R : Ending → World → Prop} {t : Nat} {v : Value} (hf : f.results = #[.tmp t]) (hv : env.get t = some v) (h : R (.returned v) w) :
    WX P n [] .ret (.fn f R) env w :=
  fun a ha => ⟨ha.dfr, _, results_tmp hf a.tmps P w, by rw [ha.get t v hv]; exact h⟩
theorem WX.ret2 {f : Func} {R : Ending → World → Prop} {t u : Nat} {v x : Value} (hf : f.results = #[.tmp t, .tmp u]) (hv : env.get t = some v) (hx : env.get u = some x)
    (h : R (.returned (.tuple #[v, x])) w) : WX P n [] .ret (.fn f R) env w :=
  fun a ha => ⟨ha.dfr, _, results_tmp2 hf a.tmps P w, by rw [ha.get t v hv, ha.get u x hx]; exact h⟩

/-- A function's body, from its arguments. -/
def argsEnv : Nat → List Value → Env
  | _, [] => []
  | i, v :: vs => (i, v) :: argsEnv (i + 1) vs

theorem argsEnv_get : ∀ (i : Nat) (vs : List Value) (t : Nat) (v : Value), (argsEnv i vs).get t = some v → i ≤ t ∧ vs[t - i]? = some v
  | i, [], t, v, h => by simp [argsEnv, Env.get] at h
  | i, u :: us, t, v, h => by
    simp only [argsEnv, Env.get] at h
    cases hb : Nat.beq i t with
    | true =>
      have := Nat.eq_of_beq_eq_true hb
      subst this
      rw [hb] at h
      simp at h
      simp [h]
    | false =>
      rw [hb] at h
      obtain ⟨h1, h2⟩ := argsEnv_get (i + 1) us t v h
      refine ⟨by omega, ?_⟩
      rw [show t - i = (t - (i + 1)) + 1 from by omega]
      simpa using h2

theorem Calls.enter {f : FuncId} {fn : Func} {c : Code} {args : List Value} {R : Ending → World → Prop} {m : Nat}
    (hf : P.funcs[f]? = some fn) (hb : fn.body = some c) (hm : fn.ntmps = m) (ha : Nat.ble args.length m = true)
    (h : WC P m [] c (.fn fn R) (argsEnv 0 args) w) : Calls P f args.toArray w R := by
  refine calls_of_wp hf hb (h _ ⟨rfl, ?_, ?_⟩)
  · have : args.length ≤ m := Nat.le_of_ble_eq_true ha
    simp [hm]; omega
  · intro t v hv
    have := (argsEnv_get 0 args t v hv).2
    simp at this
    rw [Array.getD_eq_getD_getElem?, Array.getElem?_append]
    have hlt : t < args.length := by
      rcases Nat.lt_or_ge t args.length with h | h
      · exact h
      · rw [List.getElem?_eq_none h] at this; cases this
    have h2 : args[t] = v := by rw [List.getElem?_eq_getElem hlt] at this; exact Option.some.inj this
    simp [hlt, h2]

/-- A loop: what is known of the frame and of the world at each round's head, told by an index; a measure on the index. -/
theorem WC.loop {ι : Type} {c : Code} (E : ι → Env) (W : ι → World → Prop) (m : ι → Nat) (i₀ : ι) (hE : (E i₀).subB env) (h₀ : W i₀ w)
    (round : ∀ i w, W i w → WC P n ds c (.loop (fun a' w' => ∃ j, St n ds (E j) a' ∧ W j w' ∧ m j < m i) k) (E i) w) : WC P n ds (.loop c) k env w := by
  intro a ha b kk cs
  have key : ∀ N i a w, m i = N → St n ds (E i) a → W i w →
      ∃ e a' w', k.Q P e a' w' ∧ Arrives P (lone (b.at a (.code c :: .inLoop c :: kk)) cs w) b kk cs e a' w' := by
    intro N
    induction N using Nat.strongRecOn with
    | _ N ih =>
      intro i a w hN hs hw
      obtain ⟨e, a₁, w₁, hq, harr⟩ := round i w hw a hs b (.inLoop c :: kk) cs
      cases e with
      | normal =>
        obtain ⟨j, hs', hw', hlt⟩ := hq
        obtain ⟨e₂, a₂, w₂, hq₂, harr₂⟩ := ih (m j) (hN ▸ hlt) j a₁ w₁ rfl hs' hw'
        exact ⟨e₂, a₂, w₂, hq₂, .of_steps (Steps.trans harr (.one step_inLoop)) harr₂⟩
      | exit id => exact ⟨_, a₁, w₁, hq, .pass (x := .inLoop c) rfl (fun _ _ => .inl (by simp)) harr⟩
      | goto l => exact ⟨_, a₁, w₁, hq, .pass (x := .inLoop c) rfl (fun _ _ => .inl (by simp)) harr⟩
      | ret => exact ⟨_, a₁, w₁, hq, .pass (x := .inLoop c) rfl (fun _ _ => .inl (by simp)) harr⟩
      | panic ch => exact ⟨_, a₁, w₁, hq, .pass (x := .inLoop c) rfl (fun _ _ => .inl (by simp)) harr⟩
      | outgrown => exact ⟨_, a₁, w₁, hq, .pass (x := .inLoop c) rfl (fun _ _ => .inl (by simp)) harr⟩
  obtain ⟨e, a', w', hq, harr⟩ := key _ i₀ a w rfl (ha.sub hE.get) h₀
  exact ⟨e, a', w', hq, .of_steps (.one step_loop) harr⟩

theorem WX.again {ι : Type} {E : ι → Env} {W : ι → World → Prop} {m : ι → Nat} {N : Nat} (j : ι) (hE : (E j).subB env) (hw : W j w) (hm : m j < N) :
    WX P n ds .normal (.loop (fun a' w' => ∃ j, St n ds (E j) a' ∧ W j w' ∧ m j < N) k) env w :=
  fun _ ha => ⟨j, ha.sub hE.get, hw, hm⟩

/-- A scope that is gone round by a goto to its label. -/
theorem WC.scopeLoop {ι : Type} {c rest : Code} (l : Nat) (E : ι → Env) (W : ι → World → Prop) (m : ι → Nat) (hl : findLabel c l = some rest)
    (first : WC P n ds c (.jump l (fun a' w' => ∃ j, St n ds (E j) a' ∧ W j w') k) env w)
    (round : ∀ i w, W i w → WC P n ds rest (.jump l (fun a' w' => ∃ j, St n ds (E j) a' ∧ W j w' ∧ m j < m i) k) (E i) w) : WC P n ds (.scope c) k env w := by
  intro a ha b kk cs
  have hg : gotoIn l (.inScope c :: kk) = some (.code rest :: .inScope c :: kk) := by simp [gotoIn, hl]
  have key : ∀ N i a w, m i = N → St n ds (E i) a → W i w →
      ∃ e a' w', k.Q P e a' w' ∧ Arrives P (lone (b.at a (.code rest :: .inScope c :: kk)) cs w) b kk cs e a' w' := by
    intro N
    induction N using Nat.strongRecOn with
    | _ N ih =>
      intro i a w hN hs hw
      obtain ⟨e, a₁, w₁, hq, harr⟩ := round i w hw a hs b (.inScope c :: kk) cs
      cases e with
      | normal => exact ⟨.normal, a₁, w₁, hq, Steps.trans harr (.one step_inScope)⟩
      | exit id => exact ⟨.exit id, a₁, w₁, hq, fun k' hk => harr k' (by simp [exitTo, hk])⟩
      | goto l' =>
        obtain ⟨rfl, j, hs', hw', hlt⟩ := hq
        obtain ⟨e₂, a₂, w₂, hq₂, harr₂⟩ := ih (m j) (hN ▸ hlt) j a₁ w₁ rfl hs' hw'
        exact ⟨e₂, a₂, w₂, hq₂, .of_steps (harr _ hg) harr₂⟩
      | ret => exact ⟨_, a₁, w₁, hq, harr⟩
      | panic ch => exact ⟨_, a₁, w₁, hq, harr⟩
      | outgrown => exact ⟨_, a₁, w₁, hq, harr⟩
  obtain ⟨e, a₁, w₁, hq, harr⟩ := first a ha b (.inScope c :: kk) cs
  cases e with
  | normal => exact ⟨.normal, a₁, w₁, hq, .head step_scope (Steps.trans harr (.one step_inScope))⟩
  | exit id => exact ⟨.exit id, a₁, w₁, hq, fun k' hk => .head step_scope (harr k' (by simp [exitTo, hk]))⟩
  | goto l' =>
    obtain ⟨rfl, j, hs', hw'⟩ := hq
    obtain ⟨e₂, a₂, w₂, hq₂, harr₂⟩ := key _ j a₁ w₁ rfl hs' hw'
    exact ⟨e₂, a₂, w₂, hq₂, .of_steps (.head step_scope (harr _ hg)) harr₂⟩
  | ret => exact ⟨_, a₁, w₁, hq, .of_steps (.one step_scope) harr⟩
  | panic ch => exact ⟨_, a₁, w₁, hq, .of_steps (.one step_scope) harr⟩
  | outgrown => exact ⟨_, a₁, w₁, hq, .of_steps (.one step_scope) harr⟩

/-- The same where a first piece stands ahead of the label. -/
theorem WC.scopeLoopAt {ι : Type} {pre y : Code} (l : Nat) (E : ι → Env) (W : ι → World → Prop) (m : ι → Nat) (hl : findLabel pre l = none)
    (first : WC P n ds pre (.cut fun e a' w' => e = .normal ∧ ∃ j, St n ds (E j) a' ∧ W j w') env w)
    (round : ∀ i w, W i w → WC P n ds y (.jump l (fun a' w' => ∃ j, St n ds (E j) a' ∧ W j w' ∧ m j < m i) k) (E i) w) : WC P n ds (.scope (.seq pre (.seq (.label l) y))) k env w := by
  have hl' : findLabel (.seq pre (.seq (.label l) y)) l = some (.seq .skip y) := by simp [findLabel, hl]
  refine WC.scopeLoop l E W m hl' ?_ ?_
  · intro a ha
    refine wp_seq ?_
    refine wp_mono (first a ha) ?_
    rintro e a' w' ⟨rfl, j, hs, hW⟩
    show (Code.seq (.label l) y).wp P _ a' w'
    refine wp_seq (wp_label ?_)
    show y.wp P _ a' w'
    refine wp_mono (round j w' hW a' hs) ?_
    intro e a'' w'' hq
    cases e with
    | goto l' => exact ⟨hq.1, by obtain ⟨_, i, h1, h2, _⟩ := hq; exact ⟨i, h1, h2⟩⟩
    | _ => exact hq
  · intro i w hW
    exact WC.seq (WC.skip (WX.seq (round i w hW)))

theorem WX.arrive {ι : Type} {E : ι → Env} {W : ι → World → Prop} (j : ι) (hE : (E j).subB env) (hw : W j w) :
    WX P n ds .normal (.cut fun e a' w' => e = .normal ∧ ∃ j, St n ds (E j) a' ∧ W j w') env w :=
  fun _ ha => ⟨rfl, j, ha.sub hE.get, hw⟩

/-- Two roads that meet. -/
theorem WC.joinK {ι : Type} {x y : Code} (E : ι → Env) (W : ι → World → Prop)
    (h1 : WC P n ds x (.cut fun e a' w' => e = .normal ∧ ∃ j, St n ds (E j) a' ∧ W j w') env w)
    (h2 : ∀ i w, W i w → WC P n ds y k (E i) w) : WC P n ds x (.seq y k) env w := by
  intro a ha
  refine wp_mono (h1 a ha) ?_
  rintro e a' w' ⟨rfl, j, hs, hW⟩
  exact h2 j w' hW a' hs

theorem WX.jumpTo {ι : Type} {E : ι → Env} {W : ι → World → Prop} {l : Nat} (j : ι) (hE : (E j).subB env) (hw : W j w) :
    WX P n ds (.goto l) (.jump l (fun a' w' => ∃ j, St n ds (E j) a' ∧ W j w') k) env w :=
  fun _ ha => ⟨rfl, j, ha.sub hE.get, hw⟩
theorem WX.jumpAgain {ι : Type} {E : ι → Env} {W : ι → World → Prop} {m : ι → Nat} {N : Nat} {l : Nat} (j : ι) (hE : (E j).subB env) (hw : W j w) (hm : m j < N) :
    WX P n ds (.goto l) (.jump l (fun a' w' => ∃ j, St n ds (E j) a' ∧ W j w' ∧ m j < N) k) env w :=
  fun _ ha => ⟨rfl, j, ha.sub hE.get, hw, hm⟩

/-! ### one operation -/
/-- An operation, run from what is known of the frame, comes to a value and a world with R. -/
def OR (P : Program) (n : Nat) (ds : List Deferred) (o : Oper) (env : Env) (w : World) (R : Value → World → Prop) : Prop :=
  ∀ a, St n ds env a → ∀ (K : Act → World → Prop) (Q : Exit → Act → World → Prop), (∀ v w', R v w' → K (a.put o.dst v) w') →
    o.upon P a K Q ((execOp a.eval o).run P w)

theorem OR.mono {o : Oper} {R R' : Value → World → Prop} (h : OR P n ds o env w R) (hr : ∀ v w', R v w' → R' v w') : OR P n ds o env w R' :=
  fun a ha K Q hK => h a ha K Q fun v w' hR => hK v w' (hr v w' hR)

def dstOk (n : Nat) : Option Nat → Bool
  | some d => Nat.blt d n
  | none => true

section
variable {op : Op} {ty : TypeId} {pos : String} {aft : Array Edge}
theorem WO.step {ops : Array Oper} {l : List Oper} {d : Nat} (hd : Nat.blt d n = true)
    (h : OR P n ds ⟨some d, op, ty, pos, aft, none⟩ env w fun v w' => WO P n ds ops l k ((d, v) :: env) w') : WO P n ds ops (⟨some d, op, ty, pos, aft, none⟩ :: l) k env w := by
  intro a ha
  refine wpList_plain rfl fun K hK => ?_
  exact h a ha K (k.Q P) fun v w' hR => hK _ _ (hR _ (ha.put hd v))
theorem WO.stepN {ops : Array Oper} {l : List Oper}
    (h : OR P n ds ⟨none, op, ty, pos, aft, none⟩ env w fun _ w' => WO P n ds ops l k env w') : WO P n ds ops (⟨none, op, ty, pos, aft, none⟩ :: l) k env w := by
  intro a ha
  refine wpList_plain rfl fun K hK => ?_
  exact h a ha K (k.Q P) fun v w' hR => hK _ _ (hR _ ha)
end

/-- The guard of an operation, told by what is known of the frame. -/
def guardOf (ops : List Oper) (env : Env) (j : Nat) : Option Bool :=
  match ops[j]? with
  | some o => match o.dst with
    | some d => match env.get d with
      | some (.bool b) => some b
      | _ => none
    | none => none
  | none => none

theorem yielded_of {ops : List Oper} (ha : St n ds env a) {j : Nat} {b : Bool} (h : guardOf ops env j = some b)
    (hn : ∀ o d, ops[j]? = some o → o.dst = some d → Nat.blt d n = true) : yielded ops.toArray a.tmps j = some b := by
  unfold guardOf at h
  cases ho : ops[j]? with
  | none => simp [ho] at h
  | some o =>
    cases hd : o.dst with
    | none => simp [ho, hd] at h
    | some d =>
      have hlt : d < n := by simpa [Nat.blt_eq] using hn o d ho hd
      simp only [ho, hd] at h
      split at h
      · rename_i b' hb'
        simp at h
        subst h
        have hget := ha.get d _ hb'
        have hsz : d < a.tmps.size := by rw [ha.sz]; exact hlt
        rw [Array.getD_eq_getD_getElem?, Array.getElem?_eq_getElem hsz] at hget
        simp at hget
        simp [yielded, ho, hd, Array.getElem?_eq_getElem hsz, hget]
      · simp at h

def guardDst (ops : List Oper) (n j : Nat) : Bool :=
  match ops[j]? with
  | some o => dstOk n o.dst
  | none => true

section
variable {op : Op} {ty : TypeId} {pos : String} {aft : Array Edge}
theorem WO.guardYes {ops : List Oper} {l : List Oper} {d j : Nat} {b c : Bool} (hb : guardOf ops env j = some c) (hc : c = b) (hj : guardDst ops n j = true)
    (hd : Nat.blt d n = true) (h : OR P n ds ⟨some d, op, ty, pos, aft, some (j, b)⟩ env w fun v w' => WO P n ds ops.toArray l k ((d, v) :: env) w') :
    WO P n ds ops.toArray (⟨some d, op, ty, pos, aft, some (j, b)⟩ :: l) k env w := by
  subst hc
  intro a ha
  have hy := yielded_of ha hb (by intro o' d h1 h2; simpa [guardDst, h1, h2, dstOk] using hj)
  refine wpList_step fun K hK => ?_
  simp only [Region.wanted, hy, beq_self_eq_true, if_true]
  exact h a ha K (k.Q P) fun v w' hR => hK _ _ (hR _ (ha.put hd v))

theorem WO.guardNo {ops : List Oper} {l : List Oper} {d j : Nat} {b c : Bool} (hb : guardOf ops env j = some c) (hc : c = !b) (hj : guardDst ops n j = true)
    (hd : Nat.blt d n = true) (h : WO P n ds ops.toArray l k ((d, undef) :: env) w) : WO P n ds ops.toArray (⟨some d, op, ty, pos, aft, some (j, b)⟩ :: l) k env w := by
  subst hc
  intro a ha
  have hy := yielded_of ha hb (by intro o' d h1 h2; simpa [guardDst, h1, h2, dstOk] using hj)
  refine wpList_step fun K hK => ?_
  have : (some (!b) == some b) = false := by cases b <;> rfl
  simp only [Region.wanted, hy, this, if_false, Bool.false_eq_true]
  exact hK _ _ (h _ (ha.put hd undef))
end

/-- Both ways of a guard. -/
theorem WO.guardSplit {ops : List Oper} {l : List Oper} {j : Nat} {p : Prop} [Decidable p] (_hb : guardOf ops env j = some (decide p))
    (h1 : p → WO P n ds ops.toArray l k env w) (h2 : ¬p → WO P n ds ops.toArray l k env w) : WO P n ds ops.toArray l k env w := by
  by_cases h : p
  · exact h1 h
  · exact h2 h

/-- The i-th of a list. -/
def nth {α : Type} : List α → Nat → Option α
  | [], _ => none
  | v :: _, 0 => some v
  | _ :: l, i + 1 => nth l i

theorem nth_eq {α : Type} : ∀ (l : List α) (i : Nat), nth l i = l[i]?
  | [], i => by simp [nth]
  | v :: l, 0 => by simp [nth]
  | v :: l, i + 1 => by simp [nth, nth_eq l i]

end Go.Bw
