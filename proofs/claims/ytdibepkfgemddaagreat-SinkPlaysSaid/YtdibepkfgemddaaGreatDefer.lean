/- Deferred calls. -/
import Derived.Test.YtdibepkfgemddaaGreatGone
import Derived.Defers
import Derived.Lib.MakeNoZero
import Derived.Laws.Externs
namespace Go.Bw
set_option linter.unusedVariables false
set_option linter.unusedSimpArgs false
section
variable {P : Program} {n : Nat} {ds : List Deferred} {env : Env} {w : World} {k : Kont} {op : Op} {ty : TypeId} {pos : String} {aft : Array Edge}

theorem args_st {m : Nat} {args : List Value} (ha : Nat.ble args.length m = true) :
    St m [] (argsEnv 0 args) { tmps := args.toArray ++ Array.replicate (m - args.toArray.size) undef, defers := [] } := by
  refine ⟨rfl, ?_, ?_⟩
  · have : args.length ≤ m := Nat.le_of_ble_eq_true ha
    simp; omega
  · intro t v hv
    have := (argsEnv_get 0 args t v hv).2
    simp at this
    rw [Array.getD_eq_getD_getElem?, Array.getElem?_append]
    have hlt : t < args.length := by
      rcases Nat.lt_or_ge t args.length with h | h
      · exact h
      · rw [List.getElem?_eq_none h] at this; cases this
    have h2 : args[t] = v := by rw [List.getElem?_eq_getElem hlt] at this; exact Option.some.inj this
    simp [hlt, h2]

/-- A function that defers. -/
theorem Calls.enterD {f : FuncId} {fn : Func} {c : Code} {args : List Value} {R : Ending → World → Prop} {m : Nat}
    (hf : P.funcs[f]? = some fn) (hb : fn.body = some c) (hm : fn.ntmps = m) (ha : Nat.ble args.length m = true)
    (h : WC P m [] c (.cut (bodyPostD P fn R)) (argsEnv 0 args) w) : Calls P f args.toArray w R := by
  subst hm
  exact calls_of_wp_defers hf hb (h _ (args_st ha))
/-- A deferred call. -/
theorem CallsD.enter {f : FuncId} {fn : Func} {c : Code} {args : List Value} {u : FrameMode} {R : Ending → World → Prop} {m : Nat}
    (hf : P.funcs[f]? = some fn) (hb : fn.body = some c) (hm : fn.ntmps = m) (ha : Nat.ble args.length m = true)
    (h : WC P m [] c (.fn fn R) (argsEnv 0 args) w) : CallsD P f args.toArray u w fun e u' w' => u' = u ∧ R e w' := by
  subst hm
  exact callsD_of_wp hf hb (h _ (args_st ha))

theorem WO.defer {ops : Array Oper} {l : List Oper} {f : FuncId} {args : List Operand} {vs first cap : List Value} {tys : Array TypeId} {x : Operand}
    (hx : look env x = some (.func (.func f) first.toArray cap.toArray)) (ha : lookAll env args = some vs)
    (h : WO P n (⟨.fn (.func f) cap.toArray, (first ++ vs).toArray⟩ :: ds) ops l k env w) :
    WO P n ds ops (⟨none, .defer { callee := .value x, args := args.toArray, argTypes := tys }, ty, pos, aft, none⟩ :: l) k env w := by
  intro a hs
  refine wpList_plain rfl fun K hK => ?_
  have hr : (execOp a.eval ⟨none, .defer { callee := .value x, args := args.toArray, argTypes := tys }, ty, pos, aft, none⟩).run P w = .ok (.defer ⟨.fn (.func f) cap.toArray, (first ++ vs).toArray⟩) w := by
    simp [execOp, resolve, hs.look hx, Deferred.ofValue, List.map_toArray, hs.lookAll _ _ ha]
  show Oper.upon P _ a K _ _
  rw [hr]
  exact hK _ _ (h _ ⟨by show _ :: a.defers = _; rw [hs.dfr], hs.sz, hs.get⟩)

/-- The end, with one deferred call that changes nothing that is known. -/
theorem WX.retD {fn : Func} {R : Ending → World → Prop} {f : FuncId} {dargs cap : List Value} {S : Ending → World → Prop} (hb : Body P f)
    (hc : CallsD P f (dargs ++ cap).toArray .returning w fun e u' w' => u' = .returning ∧ S e w')
    (hS : ∀ e w', S e w' → ∃ v, e = .returned v ∧ ∀ a : Act, (∀ t v, env.get t = some v → a.tmps.getD t undef = v) → ∃ u, (results fn a.tmps).run P w' = .ok u w' ∧ R (.returned u) w') :
    WX P n [⟨.fn (.func f) cap.toArray, dargs.toArray⟩] .ret (.cut (bodyPostD P fn R)) env w := by
  intro a ha
  show Leaves P fn a.tmps R a.defers .returning w
  rw [ha.dfr]
  refine leaves_cons (f := f) (args := (dargs ++ cap).toArray) (by simp) (by simp [invoke, hb _ w]) (hc.mono ?_)
  rintro e u' w' ⟨rfl, hs⟩
  obtain ⟨v, rfl, h⟩ := hS e w' hs
  exact h a ha.get

theorem results_TC {fn : Func} {t u : Nat} {T : TypeId} {v x : Value} {d : TypeDesc} {sz by_ : Nat} {z : Value} {tmps : Array Value} {ad : Addr} (ht : TI P T d sz by_ z) (hd : isAggD d = false) (hf : fn.results = #[.tmp t, .cell u T])
    (hv : tmps.getD t undef = v) (hu : tmps.getD u undef = .pointer (some ad)) (hc : w.cell? ad = some x) : (results fn tmps).run P w = .ok (.tuple #[v, x]) w := by
  rw [Array.getD_eq_getD_getElem?] at hv hu
  simp [results, hf, hv, hu, asAddr, loadVar, ht.run_agg, hd, hc]
end

theorem OR.or {P : Program} {n : Nat} {ds : List Deferred} {env : Env} {w : World} {dst : Option Nat} {ty : TypeId} {pos : String} {aft : Array Edge} {gd : Option (Nat × Bool)} {R : Value → World → Prop}
    {x y : Operand} {tx tyy : TypeId} {k : IntKind} {i j : Int} (hx : look env x = some (.int k i)) (hy : look env y = some (.int k j)) (hR : R (.int k (k.wrap ((BitVec.ofInt k.bits i ||| BitVec.ofInt k.bits j).toNat))) w) :
    OR P n ds ⟨dst, .binOp .or tx x y tyy, ty, pos, aft, gd⟩ env w R :=
  .run (fun a ha => by simp [execOp, ha.look hx, ha.look hy, run_guard_int, binOp, Op.intBits]) hR
theorem or_u64 (a b : Nat) (hb : b < 256) (ha : a * 256 + b < 18446744073709551616) : IntKind.u64.wrap ((BitVec.ofInt IntKind.u64.bits ((a * 256 : Nat) : Int) ||| BitVec.ofInt IntKind.u64.bits ((b : Nat) : Int)).toNat) = ((a * 256 + b : Nat) : Int) := by
  have h3 : a * 256 < 2 ^ 64 := Nat.lt_of_lt_of_eq (Nat.lt_of_le_of_lt (Nat.le_add_right _ b) ha) (by decide)
  have h4 : b < 2 ^ 64 := Nat.lt_of_lt_of_eq (Nat.lt_of_lt_of_le hb (by decide : 256 ≤ 18446744073709551616)) (by decide)
  have h1 : (BitVec.ofInt IntKind.u64.bits ((a * 256 : Nat) : Int) ||| BitVec.ofInt IntKind.u64.bits ((b : Nat) : Int)).toNat = a * 256 + b := by
    show (BitVec.ofInt 64 ((a * 256 : Nat) : Int) ||| BitVec.ofInt 64 ((b : Nat) : Int)).toNat = _
    have h2 : a * 256 % 2 ^ 64 = a * 256 := Nat.mod_eq_of_lt h3
    have h5 : b % 2 ^ 64 = b := Nat.mod_eq_of_lt h4
    rw [BitVec.ofInt_natCast, BitVec.ofInt_natCast, BitVec.toNat_or, BitVec.toNat_ofNat, BitVec.toNat_ofNat, h2, h5]
    have := Nat.shiftLeft_add_eq_or_of_lt (i := 8) (b := b) (by omega) a
    rw [Nat.shiftLeft_eq, show (2 : Nat) ^ 8 = 256 from rfl] at this
    omega
  rw [h1]
  exact IntWalk.u64_in _ (by omega)

/-- New bytes, whatever they are. -/
theorem OR.makeNoZero {P : Program} {n : Nat} {ds : List Deferred} {env : Env} {w : World} {dst : Option Nat} {ty : TypeId} {pos : String} {aft : Array Edge} {gd : Option (Nat × Bool)} {R : Value → World → Prop}
    {xs : List Nat} {H0 H : Hp} {w0 : World} {M : Mem} {x y : Operand} {t e : TypeId} {ps tys : Array TypeId} {f : FuncId} {fn : Func} {m : Nat} (hs : HS xs H0 w0 H M w)
    (hf : P.funcs[f]? = some fn) (hname : (fn.name == "runtime.NumGoroutine") = false) (hb : fn.body.isNone = true) (hn : Extern.findNext fn = none) (he : Extern.find fn = some (Extern.BytealgMakeNoZero.makeNoZero ps #[t]))
    (ht : P.underlying t = some (.slice e)) (hx : look env x = some (.func (.func f) #[] #[])) (hy : look env y = some (.int .i64 (m : Int))) (hm : m ≤ 281474976710656)
    (hR : ∀ g c w', w0.heap.size ≤ g → m ≤ c.size → HS xs H0 w0 H ((g, .cells c e, true) :: M) w' → R (.slice (some ⟨g, 0, none⟩) m c.size) w') :
    OR P n ds ⟨dst, .call { callee := .value x, args := #[y], argTypes := tys }, ty, pos, aft, gd⟩ env w R := by
  obtain ⟨cs, hrun, hle, _⟩ := Lib.run_makeNoZero (P := P) w ps t e ht m hm
  refine .run (w' := w.drew.drew.alloc (.cells cs e)) (fun a ha => ?_) (hR w.heap.size cs _ hs.size hle (hs.drew.drew.alloc (.cells cs e)))
  have hc := run_callFunc_extern hf hname hb hn he #[.int .i64 (m : Int)] w
  rw [hrun] at hc
  simp [execOp, resolve, ha.look hx, ha.look hy, Deferred.ofValue, invoke, hc]
theorem OR.sliceMax {P : Program} {n : Nat} {ds : List Deferred} {env : Env} {w : World} {dst : Option Nat} {ty : TypeId} {pos : String} {aft : Array Edge} {gd : Option (Nat × Bool)} {R : Value → World → Prop}
    {x y u : Operand} {t e : TypeId} {d : TypeDesc} {sz by_ : Nat} {z : Value} (m : Nat) {k : IntKind} {i : Int} {a : Option Addr} {len cap : Nat} (ht : P.underlying t = some (.slice e)) (he : TI P e d sz by_ z) (hx : look env x = some (.slice a len cap))
    (hy : look env y = some (.int k i)) (hu : look env u = some (.int k i)) (hi : i = (m : Int)) (h1 : m ≤ cap) (hR : R (.slice a m m) w) :
    OR P n ds ⟨dst, .slice t x none (some y) (some u), ty, pos, aft, gd⟩ env w R := by
  subst hi
  have h9 : (if m = 0 then a else a.map (·.add 0)) = a := by
    split
    · rfl
    · cases a with
      | none => rfl
      | some a => rfl
  refine .run (fun aa ha => ?_) hR
  simp [execOp, ha.look hx, ha.look hy, ha.look hu, Instr.sliceAt, run_underlying ht, Instr.slice, Instr.sliceBounds, he.run_size, Instr.sliceBound, asIntOf, h1]
  intro h
  rw [if_neg h] at h9
  exact h9
end Go.Bw
