/- Operations whose guard was itself passed over. -/
import Derived.Test.YtdibepkfgemddaaGreatOps5
namespace Go.Bw
set_option linter.unusedVariables false
set_option linter.unusedSimpArgs false
/-- The guard's operation was passed over. -/
def guardGone (ops : List Oper) (env : Env) (j : Nat) : Bool :=
  match ops[j]? with
  | some o => match o.dst with
    | some d => match env.get d with
      | some (.tuple a) => a.size == 0
      | _ => false
    | none => false
  | none => false

theorem yielded_gone {n : Nat} {ds : List Deferred} {env : Env} {a : Act} {ops : List Oper} (ha : St n ds env a) {j : Nat} (h : guardGone ops env j = true)
    (hn : ∀ o d, ops[j]? = some o → o.dst = some d → Nat.blt d n = true) : yielded ops.toArray a.tmps j = none := by
  unfold guardGone at h
  cases ho : ops[j]? with
  | none => simp [ho] at h
  | some o =>
    cases hd : o.dst with
    | none => simp [ho, hd] at h
    | some d =>
      have hlt : d < n := by simpa [Nat.blt_eq] using hn o d ho hd
      simp only [ho, hd] at h
      split at h
      · rename_i b' hb'
        have hget := ha.get d _ hb'
        have hsz : d < a.tmps.size := by rw [ha.sz]; exact hlt
        rw [Array.getD_eq_getD_getElem?, Array.getElem?_eq_getElem hsz] at hget
        simp at hget
        simp [yielded, ho, hd, Array.getElem?_eq_getElem hsz, hget]
      · simp at h

theorem WO.guardGone {P : Program} {n : Nat} {ds : List Deferred} {env : Env} {w : World} {k : Kont} {op : Op} {ty : TypeId} {pos : String} {aft : Array Edge} {ops : List Oper} {l : List Oper} {d j : Nat} {b : Bool}
    (hb : guardGone ops env j = true) (hj : guardDst ops n j = true)
    (hd : Nat.blt d n = true) (h : WO P n ds ops.toArray l k ((d, undef) :: env) w) : WO P n ds ops.toArray (⟨some d, op, ty, pos, aft, some (j, b)⟩ :: l) k env w := by
  intro a ha
  have hy := yielded_gone ha hb (by intro o' d h1 h2; simpa [guardDst, h1, h2, dstOk] using hj)
  refine wpList_step fun K hK => ?_
  have : ((none : Option Bool) == some b) = false := rfl
  simp only [Region.wanted, hy, this, if_false, Bool.false_eq_true]
  exact hK _ _ (h _ (ha.put hd undef))

/-- A slice of bytes, told as a string's bytes: the block is marked. -/
theorem OR.convText {P : Program} {n : Nat} {ds : List Deferred} {env : Env} {w : World} {dst : Option Nat} {ty : TypeId} {pos : String} {aft : Array Edge} {gd : Option (Nat × Bool)} {R : Value → World → Prop}
    {xs : List Nat} {H0 H : Hp} {w0 : World} {M : Mem} {x : Operand} {t e e' : TypeId} {g len cap : Nat} {c : Array Value} (hs : HS xs H0 w0 H ((g, .cells c e', true) :: M) w)
    (h1 : P.underlying t = some (.slice e)) (h2 : P.underlying e = some (.int .u8)) (hx : look env x = some (.slice (some ⟨g, 0, none⟩) len cap))
    (hR : ∀ w', HS xs H0 w0 H ((g, .cells c e' (c.size, c.size + 1), true) :: M) w' → R (.slice (some ⟨g, 0, none⟩) len cap) w') :
    OR P n ds ⟨dst, .convert t t x, ty, pos, aft, gd⟩ env w R := by
  have hg := (hs.mem g (.cells c e') true (by simp)).1
  have hlt := lt_of_heap hg
  refine .run (w' := w.freeze ⟨g, c.size, none⟩ 1) (fun a ha => ?_) (hR _ (hs.write _ ?_ rfl rfl rfl))
  · simp [execOp, ha.look hx, convert, Sem.run_bind, run_underlying h1, run_underlying h2, Result.andThen_ok, markStringish, World.shape?, hg]
  · simp only [World.freeze, Nat.one_ne_zero, if_false]
    apply Array.ext_getElem?
    intro i
    rw [Array.getElem?_modify, Array.getElem?_setIfInBounds]
    by_cases e : g = i
    · subst e
      have hw : w.heap[g] = .cells c e' := by rw [Array.getElem?_eq_getElem hlt] at hg; exact Option.some.inj hg
      simp [hlt, hw]
    · simp [e]

theorem OR.minI {P : Program} {n : Nat} {ds : List Deferred} {env : Env} {w : World} {dst : Option Nat} {ty : TypeId} {pos : String} {aft : Array Edge} {gd : Option (Nat × Bool)} {R : Value → World → Prop}
    {x y : Operand} {t1 t2 : TypeId} {k k' : IntKind} {i j : Int} (hx : look env x = some (.int k i)) (hy : look env y = some (.int k' j)) (hR : R (.int k (if j < i then j else i)) w) :
    OR P n ds ⟨dst, .call { callee := .builtin .min, args := #[x, y], argTypes := #[t1, t2] }, ty, pos, aft, gd⟩ env w R :=
  .run (fun a ha => by simp [execOp, resolve, invoke, builtin, Builtin.min_, Builtin.min2, ha.look hx, ha.look hy]) hR
end Go.Bw
