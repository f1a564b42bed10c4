/- One lemma for each kind of operation. -/
import Derived.Test.YtdibepkfgemddaaGreatMem
import Derived.Laws.MakeOwn
namespace Go.Bw
set_option linter.unusedVariables false
set_option linter.unusedSimpArgs false

variable {P : Program} {n : Nat} {ds : List Deferred} {env : Env} {w : World}
variable {dst : Option Nat} {ty : TypeId} {pos : String} {aft : Array Edge} {gd : Option (Nat × Bool)} {R : Value → World → Prop}

theorem OR.run {o : Oper} {v : Value} {w' : World} (h : ∀ a, St n ds env a → (execOp a.eval o).run P w = .ok (.value v) w') (hR : R v w') : OR P n ds o env w R :=
  fun a ha K Q hK => by rw [h a ha]; exact hK v w' hR
theorem OR.runU {o : Oper} {w' : World} (h : ∀ a, St n ds env a → (execOp a.eval o).run P w = .ok .skip w') (hR : R undef w') : OR P n ds o env w R :=
  fun a ha K Q hK => by rw [h a ha]; exact hK undef w' hR
theorem OR.enter {o : Oper} {f : FuncId} {args : Array Value} {w' : World} {C : Ending → World → Prop} (h : ∀ a, St n ds env a → (execOp a.eval o).run P w = .ok (.enter f args) w')
    (hc : Calls P f args w' C) (hR : ∀ e w'', C e w'' → ∃ v, e = .returned v ∧ R v w'') : OR P n ds o env w R := by
  intro a ha K Q hK
  rw [h a ha]
  refine hc.mono ?_
  intro e w'' hC
  obtain ⟨v, rfl, hv⟩ := hR e w'' hC
  exact hK v w'' hv

section
variable {x y z : Operand} {v u : Value}

theorem OR.move (hx : look env x = some v) (hR : R v w) : OR P n ds ⟨dst, .move x, ty, pos, aft, gd⟩ env w R :=
  .run (fun a ha => by simp [execOp, ha.look hx]) hR
theorem OR.assign (hx : look env x = some v) (hR : R v w) : OR P n ds ⟨dst, .assign x, ty, pos, aft, gd⟩ env w R :=
  .run (fun a ha => by simp [execOp, ha.look hx]) hR

variable {k : IntKind} {i j : Int} {tx tyy : TypeId}

theorem run_guard_int (op : BinOp) (t : TypeId) (x y : Operand) (k k' : IntKind) (a b : Int) (w : World) : (eqGuard op t x y (.int k a) (.int k' b)).run P w = .ok () w := by
  unfold eqGuard
  split <;> simp

theorem OR.add (hx : look env x = some (.int k i)) (hy : look env y = some (.int k j)) (hR : R (.int k (k.wrap (i + j))) w) :
    OR P n ds ⟨dst, .binOp .add tx x y tyy, ty, pos, aft, gd⟩ env w R :=
  .run (fun a ha => by simp [execOp, ha.look hx, ha.look hy, run_guard_int, binOp, Op.intArith]) hR
theorem OR.sub (hx : look env x = some (.int k i)) (hy : look env y = some (.int k j)) (hR : R (.int k (k.wrap (i - j))) w) :
    OR P n ds ⟨dst, .binOp .sub tx x y tyy, ty, pos, aft, gd⟩ env w R :=
  .run (fun a ha => by simp [execOp, ha.look hx, ha.look hy, run_guard_int, binOp, Op.intArith]) hR
theorem OR.mul (hx : look env x = some (.int k i)) (hy : look env y = some (.int k j)) (hR : R (.int k (k.wrap (i * j))) w) :
    OR P n ds ⟨dst, .binOp .mul tx x y tyy, ty, pos, aft, gd⟩ env w R :=
  .run (fun a ha => by simp [execOp, ha.look hx, ha.look hy, run_guard_int, binOp, Op.intArith]) hR

theorem wrap_i64 {c : Int} (h1 : -9223372036854775808 ≤ c) (h2 : c ≤ 9223372036854775807) : IntKind.i64.wrap c = c := IntWalk.i64_in _ ⟨h1, h2⟩

/-- Sums of int that stay in range. -/
theorem OR.addI (hx : look env x = some (.int .i64 i)) (hy : look env y = some (.int .i64 j)) (h1 : -9223372036854775808 ≤ i + j) (h2 : i + j ≤ 9223372036854775807)
    (hR : R (.int .i64 (i + j)) w) : OR P n ds ⟨dst, .binOp .add tx x y tyy, ty, pos, aft, gd⟩ env w R :=
  .add hx hy (by rw [wrap_i64 h1 h2]; exact hR)
theorem OR.subI (hx : look env x = some (.int .i64 i)) (hy : look env y = some (.int .i64 j)) (h1 : -9223372036854775808 ≤ i - j) (h2 : i - j ≤ 9223372036854775807)
    (hR : R (.int .i64 (i - j)) w) : OR P n ds ⟨dst, .binOp .sub tx x y tyy, ty, pos, aft, gd⟩ env w R :=
  .sub hx hy (by rw [wrap_i64 h1 h2]; exact hR)
theorem OR.mulI (hx : look env x = some (.int .i64 i)) (hy : look env y = some (.int .i64 j)) (h1 : -9223372036854775808 ≤ i * j) (h2 : i * j ≤ 9223372036854775807)
    (hR : R (.int .i64 (i * j)) w) : OR P n ds ⟨dst, .binOp .mul tx x y tyy, ty, pos, aft, gd⟩ env w R :=
  .mul hx hy (by rw [wrap_i64 h1 h2]; exact hR)

theorem OR.quo (hx : look env x = some (.int k i)) (hy : look env y = some (.int k j)) (h0 : j ≠ 0) (hR : R (.int k (k.wrap (i.tdiv j))) w) :
    OR P n ds ⟨dst, .binOp .quo tx x y tyy, ty, pos, aft, gd⟩ env w R :=
  .run (fun a ha => by simp [execOp, ha.look hx, ha.look hy, run_guard_int, binOp, Op.intDiv, h0]) hR
theorem OR.rem (hx : look env x = some (.int k i)) (hy : look env y = some (.int k j)) (h0 : j ≠ 0) (hR : R (.int k (i.tmod j)) w) :
    OR P n ds ⟨dst, .binOp .rem tx x y tyy, ty, pos, aft, gd⟩ env w R :=
  .run (fun a ha => by simp [execOp, ha.look hx, ha.look hy, run_guard_int, binOp, Op.intDiv, h0]) hR
theorem OR.xor (hx : look env x = some (.int k i)) (hy : look env y = some (.int k j)) (hR : R (.int k (k.wrap ((BitVec.ofInt k.bits i ^^^ BitVec.ofInt k.bits j).toNat))) w) :
    OR P n ds ⟨dst, .binOp .xor tx x y tyy, ty, pos, aft, gd⟩ env w R :=
  .run (fun a ha => by simp [execOp, ha.look hx, ha.look hy, run_guard_int, binOp, Op.intBits]) hR
theorem OR.shl {k' : IntKind} (hx : look env x = some (.int k i)) (hy : look env y = some (.int k' j)) (h0 : 0 ≤ j) (hR : R (.int k (k.wrap (i * 2 ^ (min j.toNat k.bits)))) w) :
    OR P n ds ⟨dst, .binOp .shl tx x y tyy, ty, pos, aft, gd⟩ env w R :=
  .run (fun a ha => by simp [execOp, ha.look hx, ha.look hy, run_guard_int, binOp, Op.shift, Int.not_lt.2 h0]) hR
theorem OR.shr {k' : IntKind} (hx : look env x = some (.int k i)) (hy : look env y = some (.int k' j)) (h0 : 0 ≤ j) (hR : R (.int k (i.fdiv (2 ^ (min j.toNat k.bits)))) w) :
    OR P n ds ⟨dst, .binOp .shr tx x y tyy, ty, pos, aft, gd⟩ env w R :=
  .run (fun a ha => by simp [execOp, ha.look hx, ha.look hy, run_guard_int, binOp, Op.shift, Int.not_lt.2 h0]) hR

theorem OR.eql (hx : look env x = some (.int k i)) (hy : look env y = some (.int k j)) (hR : R (.bool (decide (i = j))) w) :
    OR P n ds ⟨dst, .binOp .eql tx x y tyy, ty, pos, aft, gd⟩ env w R :=
  .run (v := .bool (i == j)) (w' := w) (fun a ha => by simp [execOp, ha.look hx, ha.look hy, run_guard_int, binOp, Op.intCmp]) (by rw [show (i == j) = decide (i = j) from rfl]; exact hR)
theorem OR.neq (hx : look env x = some (.int k i)) (hy : look env y = some (.int k j)) (hR : R (.bool (decide (i ≠ j))) w) :
    OR P n ds ⟨dst, .binOp .neq tx x y tyy, ty, pos, aft, gd⟩ env w R :=
  .run (v := .bool (i != j)) (w' := w) (fun a ha => by simp [execOp, ha.look hx, ha.look hy, run_guard_int, binOp, Op.intCmp])
    (by rw [show (i != j) = decide (i ≠ j) from by rw [decide_not]; rfl]; exact hR)
theorem OR.lss (hx : look env x = some (.int k i)) (hy : look env y = some (.int k j)) (hR : R (.bool (decide (i < j))) w) :
    OR P n ds ⟨dst, .binOp .lss tx x y tyy, ty, pos, aft, gd⟩ env w R :=
  .run (fun a ha => by simp [execOp, ha.look hx, ha.look hy, run_guard_int, binOp, Op.intCmp]) hR
theorem OR.leq (hx : look env x = some (.int k i)) (hy : look env y = some (.int k j)) (hR : R (.bool (decide (i ≤ j))) w) :
    OR P n ds ⟨dst, .binOp .leq tx x y tyy, ty, pos, aft, gd⟩ env w R :=
  .run (fun a ha => by simp [execOp, ha.look hx, ha.look hy, run_guard_int, binOp, Op.intCmp]) hR
theorem OR.gtr (hx : look env x = some (.int k i)) (hy : look env y = some (.int k j)) (hR : R (.bool (decide (i > j))) w) :
    OR P n ds ⟨dst, .binOp .gtr tx x y tyy, ty, pos, aft, gd⟩ env w R :=
  .run (fun a ha => by simp [execOp, ha.look hx, ha.look hy, run_guard_int, binOp, Op.intCmp]) hR
theorem OR.geq (hx : look env x = some (.int k i)) (hy : look env y = some (.int k j)) (hR : R (.bool (decide (i ≥ j))) w) :
    OR P n ds ⟨dst, .binOp .geq tx x y tyy, ty, pos, aft, gd⟩ env w R :=
  .run (fun a ha => by simp [execOp, ha.look hx, ha.look hy, run_guard_int, binOp, Op.intCmp]) hR

theorem OR.not {b : Bool} (hx : look env x = some (.bool b)) (hR : R (.bool (!b)) w) : OR P n ds ⟨dst, .unOp .not tx x, ty, pos, aft, gd⟩ env w R :=
  .run (fun a ha => by simp [execOp, ha.look hx, Op.unary]) hR

theorem OR.pickT {b : Bool} (hc : look env z = some (.bool b)) (hb : b = true) (hx : look env x = some v) (hR : R v w) : OR P n ds ⟨dst, .pick z x y, ty, pos, aft, gd⟩ env w R :=
  .run (fun a ha => by simp [execOp, ha.look hc, ha.look hx, asBool, hb]) hR
theorem OR.pickF {b : Bool} (hc : look env z = some (.bool b)) (hb : b = false) (hy : look env y = some v) (hR : R v w) : OR P n ds ⟨dst, .pick z x y, ty, pos, aft, gd⟩ env w R :=
  .run (fun a ha => by simp [execOp, ha.look hc, ha.look hy, asBool, hb]) hR

theorem OR.extract {vs : Array Value} {m : Nat} (hx : look env x = some (.tuple vs)) (hm : nth vs.toList m = some v) (hR : R v w) : OR P n ds ⟨dst, .extract x m, ty, pos, aft, gd⟩ env w R :=
  .run (fun a ha => by rw [nth_eq, Array.getElem?_toList] at hm; simp [execOp, ha.look hx, Instr.extract, hm]) hR

theorem OR.nilCheck {ad : Addr} (hx : look env x = some (.pointer (some ad))) (hR : R (.pointer (some ad)) w) : OR P n ds ⟨dst, .nilCheck x, ty, pos, aft, gd⟩ env w R :=
  .run (fun a ha => by simp [execOp, ha.look hx]) hR

theorem OR.makeFunc {fn : Fn} {first cap : List Operand} {vf vc : List Value} (hf : lookAll env first = some vf) (hc : lookAll env cap = some vc) (hR : R (.func fn vf.toArray vc.toArray) w) :
    OR P n ds ⟨dst, .makeFunc fn first.toArray cap.toArray, ty, pos, aft, gd⟩ env w R :=
  .run (fun a ha => by simp [execOp, Instr.makeFunc, List.map_toArray, ha.lookAll _ _ hf, ha.lookAll _ _ hc]) hR
end

/-! ### types -/
structure TI (P : Program) (t : TypeId) (d : TypeDesc) (sz by_ : Nat) (z : Value) : Prop where
  und : P.underlying t = some d
  inf : ∃ i, P.info? t = some i ∧ i.size = sz ∧ i.bytes = by_ ∧ i.zero = some z

theorem TI.of {t : TypeId} {d : TypeDesc} {sz by_ : Nat} {z : Value} (h1 : P.underlying t = some d)
    (h2 : (P.info? t).map (fun i => (i.size, i.bytes, i.zero)) = some (sz, by_, some z)) : TI P t d sz by_ z := by
  refine ⟨h1, ?_⟩
  cases hi : P.info? t with
  | none => simp [hi] at h2
  | some i => simp [hi] at h2; exact ⟨i, rfl, h2.1, h2.2.1, h2.2.2⟩

theorem TI.run_size {t : TypeId} {d : TypeDesc} {sz by_ : Nat} {z : Value} (h : TI P t d sz by_ z) (w : World) : (sizeOf t).run P w = .ok sz w := by
  obtain ⟨i, h1, h2, _⟩ := h.inf
  simp [sizeOf, typeInfo, h1, h2]
theorem TI.run_zero {t : TypeId} {d : TypeDesc} {sz by_ : Nat} {z : Value} (h : TI P t d sz by_ z) (w : World) : (zeroValue t).run P w = .ok z w := by
  obtain ⟨i, h1, _, _, h2⟩ := h.inf
  simp [zeroValue, typeInfo, h1, h2]

def isAggD : TypeDesc → Bool
  | .struct _ | .array _ _ => true
  | _ => false

theorem TI.run_agg {t : TypeId} {d : TypeDesc} {sz by_ : Nat} {z : Value} (h : TI P t d sz by_ z) (w : World) : (isAgg t).run P w = .ok (isAggD d) w := by
  unfold isAgg
  simp only [Sem.run_bind, run_underlying h.und, Result.andThen_ok]
  cases d <;> simp [isAggD]

theorem add_off (b o i : Nat) : (⟨b, o, none⟩ : Addr).add i = ⟨b, o + i, none⟩ := by
  unfold Addr.add
  split <;> simp_all

section
variable {x y : Operand} {v u : Value} {t : TypeId} {d : TypeDesc} {sz by_ : Nat} {z : Value} {ad : Addr}

theorem OR.load (ht : TI P t d sz by_ z) (hd : isAggD d = false) (hx : look env x = some (.pointer (some ad))) (hc : w.cell? ad = some v) (hR : R v w) :
    OR P n ds ⟨dst, .load t x, ty, pos, aft, gd⟩ env w R :=
  .run (fun a ha => by simp [execOp, ha.look hx, Instr.loadAt, Instr.sureAddr, loadVar, ht.run_agg, hd, hc]) hR

theorem OR.loadN {cs : List Value} (ht : TI P t d sz by_ z) (hd : isAggD d = true) (hx : look env x = some (.pointer (some ad))) (hl : cs.length = sz)
    (hc : ∀ j u, cs[j]? = some u → w.cell? (ad.add j) = some u) (hR : R (.agg cs.toArray) w) :
    OR P n ds ⟨dst, .load t x, ty, pos, aft, gd⟩ env w R := by
  subst hl
  exact .run (fun a ha => by simp [execOp, ha.look hx, Instr.loadAt, Instr.sureAddr, loadVar, ht.run_agg, hd, ht.run_size, run_loadCells_list w ad cs hc]) hR

/-- A field's address. -/
def FA (P : Program) (s : TypeId) (f off : Nat) : Prop := ∀ (ad : Addr) (w : World), (Instr.fieldAt s (.pointer (some ad)) f).run P w = .ok (.pointer (some (ad.add off))) w
theorem FA.of {s : TypeId} {f off : Nat} {fs : Array Field} {g : Field} (hs : P.underlying s = some (.struct fs)) (hf : fs[f]? = some g) (ho : g.offset = off)
    (hz : (P.info? g.type).map (fun i => Nat.beq i.size 0) = some false) : FA P s f off := by
  intro ad w
  cases hi : P.info? g.type with
  | none => simp [hi] at hz
  | some i =>
    have h0 : i.size ≠ 0 := by
      intro e
      simp [hi, e] at hz
    simp [Instr.fieldAt, run_underlying hs, hf, Instr.sureAddr, fieldPlace, sizeOf, typeInfo, hi, h0, ho]
theorem OR.fieldAddr {s : TypeId} {f off b o : Nat} (hs : FA P s f off) (hx : look env x = some (.pointer (some ⟨b, o, none⟩))) (hR : R (.pointer (some ⟨b, o + off, none⟩)) w) :
    OR P n ds ⟨dst, .fieldAddr s x f, ty, pos, aft, gd⟩ env w R :=
  .run (fun a ha => by simp [execOp, ha.look hx, hs _ w, add_off]) hR

/-- A field of a struct value: one cell, or several. -/
theorem OR.field1 {s : TypeId} {f : Nat} {fs : Array Field} {g : Field} {cs : Array Value} (hs : P.underlying s = some (.struct fs)) (hf : fs[f]? = some g)
    (ht : TI P g.type d sz by_ z) (hd : isAggD d = false) (hx : look env x = some (.agg cs)) (hv : cs[g.offset]? = some v) (hR : R v w) :
    OR P n ds ⟨dst, .field s x f, ty, pos, aft, gd⟩ env w R :=
  .run (fun a ha => by simp [execOp, ha.look hx, Instr.field, run_underlying hs, hf, part, ht.run_agg, hd, asAgg, hv]) hR
theorem OR.fieldN {s : TypeId} {f : Nat} {fs : Array Field} {g : Field} {cs : Array Value} (hs : P.underlying s = some (.struct fs)) (hf : fs[f]? = some g)
    (ht : TI P g.type d sz by_ z) (hd : isAggD d = true) (hx : look env x = some (.agg cs)) (hR : R (.agg (cs.extract g.offset (g.offset + sz))) w) :
    OR P n ds ⟨dst, .field s x f, ty, pos, aft, gd⟩ env w R :=
  .run (fun a ha => by simp [execOp, ha.look hx, Instr.field, run_underlying hs, hf, part, ht.run_agg, hd, asAgg, ht.run_size]) hR

/-- An element's address. -/
theorem OR.idxN (m : Nat) {e : TypeId} {k : IntKind} {i : Int} {b o len cap : Nat} (ht : P.underlying t = some (.slice e)) (he : TI P e d sz by_ z)
    (hx : look env x = some (.slice (some ⟨b, o, none⟩) len cap)) (hy : look env y = some (.int k i)) (hi : i = (m : Int)) (h1 : m < len) (hR : R (.pointer (some ⟨b, o + m * sz, none⟩)) w) :
    OR P n ds ⟨dst, .indexAddr t x y, ty, pos, aft, gd⟩ env w R := by
  subst hi
  exact .run (fun a ha => by simp [execOp, ha.look hx, ha.look hy, Instr.indexAt, asIntOf, run_underlying ht, he.run_size, h1, add_off]) hR
theorem OR.idx (m : Nat) {e : TypeId} {k : IntKind} {i : Int} {b o len cap : Nat} (ht : P.underlying t = some (.slice e)) (he : TI P e d 1 by_ z)
    (hx : look env x = some (.slice (some ⟨b, o, none⟩) len cap)) (hy : look env y = some (.int k i)) (hi : i = (m : Int)) (h1 : m < len) (hR : R (.pointer (some ⟨b, o + m, none⟩)) w) :
    OR P n ds ⟨dst, .indexAddr t x y, ty, pos, aft, gd⟩ env w R :=
  .idxN m ht he hx hy hi h1 (by rw [Nat.mul_one]; exact hR)
theorem OR.idxArr (m : Nat) {e : TypeId} {k : IntKind} {i : Int} {b o len : Nat} (ht : P.underlying t = some (.array len e)) (he : TI P e d 1 by_ z)
    (hx : look env x = some (.pointer (some ⟨b, o, none⟩))) (hy : look env y = some (.int k i)) (hi : i = (m : Int)) (h1 : m < len) (hR : R (.pointer (some ⟨b, o + m, none⟩)) w) :
    OR P n ds ⟨dst, .indexAddr t x y, ty, pos, aft, gd⟩ env w R := by
  subst hi
  exact .run (fun a ha => by simp [execOp, ha.look hx, ha.look hy, Instr.indexAt, Instr.sureAddr, asIntOf, run_underlying ht, he.run_size, h1, add_off]) hR
theorem OR.index1 {e : TypeId} {k : IntKind} {i : Int} {len : Nat} {cs : Array Value} (ht : P.underlying t = some (.array len e)) (he : TI P e d 1 by_ z) (hd : isAggD d = false)
    (hx : look env x = some (.agg cs)) (hy : look env y = some (.int k i)) (h0 : 0 ≤ i) (h1 : i < len) (hv : cs[i.toNat]? = some v) (hR : R v w) :
    OR P n ds ⟨dst, .index t x y, ty, pos, aft, gd⟩ env w R :=
  .run (fun a ha => by simp [execOp, ha.look hx, ha.look hy, Instr.index, asIntOf, run_underlying ht, he.run_size, h0, h1, part, he.run_agg, hd, hv]) hR

/-- Parts laid together. -/
def buildOf (P : Program) (t : TypeId) (parts : List (Nat × Value)) (cs : Array Value) : Prop := ∀ w : World, (Instr.build t parts.toArray).run P w = .ok (.agg cs) w
theorem fill_sized {place : Nat → Option (Nat × Nat)} {i : Nat} {v : Value} {rest : List (Nat × Value)} {cs : Array Value} {off sz : Nat} (hp : place i = some (off, sz)) (hv : v.cells.size = sz)
    (hc : off + sz ≤ cs.size) : Instr.fill place cs ((i, v) :: rest) = Instr.fill place (v.cells.zipIdx.foldl (fun cs (c, j) => cs.setIfInBounds (off + j) c) cs) rest := by
  simp [Instr.fill, hp, hv]
  omega

theorem OR.build {parts : List (Nat × Operand)} {vs : List Value} {cs : Array Value} (hv : lookAll env (parts.map (·.2)) = some vs)
    (hb : ∀ w : World, (Instr.build t ((parts.map (·.1)).zip vs).toArray).run P w = .ok (.agg cs) w) (hR : R (.agg cs) w) :
    OR P n ds ⟨dst, .build t parts.toArray, ty, pos, aft, gd⟩ env w R :=
  .run (fun a ha => by
    have h1 := ha.lookAll _ _ hv
    have h2 : parts.map (fun p => (p.1, a.eval p.2)) = (parts.map (·.1)).zip vs := by
      rw [← h1]
      clear hv h1 hb
      induction parts with
      | nil => rfl
      | cons p l ih => simp [ih]
    simp [execOp, List.map_toArray, h2, hb w]) hR
end

/-! ### memory -/
section
variable {xs : List Nat} {H0 H : Hp} {w0 : World} {M : Mem}
variable {x y : Operand} {v u : Value} {t : TypeId} {d : TypeDesc} {sz by_ : Nat} {z : Value} {ad : Addr}

theorem OR.box (hs : HS xs H0 w0 H M w) (hx : look env x = some v)
    (hR : ∀ g w', w0.heap.size ≤ g → HS xs H0 w0 H ((g, .cells v.cells t, true) :: M) w' → R (.pointer (some ⟨g, 0, none⟩)) w') :
    OR P n ds ⟨dst, .box t x, ty, pos, aft, gd⟩ env w R :=
  .run (v := .pointer (some ⟨w.heap.size, 0, none⟩)) (w' := w.alloc (.cells v.cells t))
    (fun a ha => by simp [execOp, ha.look hx, Instr.box, newVar, newRow, newObj, Sem.run]) (hR _ _ hs.size (hs.alloc _))

theorem OR.alloc (hs : HS xs H0 w0 H M w) (ht : TI P t d sz by_ z)
    (hR : ∀ g w', w0.heap.size ≤ g → HS xs H0 w0 H ((g, .cells z.cells t, true) :: M) w' → R (.pointer (some ⟨g, 0, none⟩)) w') :
    OR P n ds ⟨dst, .alloc t, ty, pos, aft, gd⟩ env w R :=
  .run (v := .pointer (some ⟨w.heap.size, 0, none⟩)) (w' := w.alloc (.cells z.cells t))
    (fun a ha => by simp [execOp, Instr.alloc, ht.run_zero, newVar, newRow, newObj, Sem.run]) (hR _ _ hs.size (hs.alloc _))

/-- Cells of a block from a place on, changed. -/
def setFrom (c : Array Value) (o : Nat) : List Value → Array Value
  | [] => c
  | v :: vs => setFrom (c.setIfInBounds o v) (o + 1) vs

theorem setFrom_size : ∀ (vs : List Value) (c : Array Value) (o : Nat), (setFrom c o vs).size = c.size
  | [], c, o => rfl
  | v :: vs, c, o => by simp [setFrom, setFrom_size vs]

theorem run_storeCells_in (g : Nat) (e : TypeId) : ∀ (vs : List Value) (c : Array Value) (o i : Nat) (w : World), w.heap[g]? = some (.cells c e (0, 0)) → o + i + vs.length ≤ c.size →
    (∀ v ∈ vs, v.oneCell' = true) → ∃ w', (storeCells ⟨g, o, none⟩ vs i).run P w = .ok () w' ∧ w'.heap = w.heap.setIfInBounds g (.cells (setFrom c (o + i) vs) e (0, 0)) ∧ w'.os = w.os ∧ w'.tape = w.tape ∧ w'.output = w.output
  | [], c, o, i, w, hg, _, _ => by
    refine ⟨w, by simp [storeCells], ?_, rfl, rfl, rfl⟩
    have hlt := lt_of_heap hg
    apply Array.ext_getElem?
    intro b
    rw [Array.getElem?_setIfInBounds]
    by_cases e : g = b
    · subst e; rw [hg]; simp [hlt, setFrom]
    · simp [e]
  | v :: vs, c, o, i, w, hg, hl, h1 => by
    have hv := h1 v (by simp)
    have hlt := lt_of_heap hg
    simp only [List.length_cons] at hl
    have hcell : w.cell? ⟨g, o + i, none⟩ = some (c[o + i]'(by omega)) := by simp [World.cell?, hg, show o + i < c.size from by omega]
    have hfr : w.frozen? ⟨g, o + i, none⟩ = false := by simp [World.frozen?, hg]
    have hst : (store ((⟨g, o, none⟩ : Addr).add i) v).run P w = .ok () (w.setCell ⟨g, o + i, none⟩ v) := by
      rw [run_store P w _ v _ hv, add_off]
      simp [stored, hcell, hfr]
    have hheap : (w.setCell ⟨g, o + i, none⟩ v).heap[g]? = some (.cells (c.setIfInBounds (o + i) v) e (0, 0)) := by
      simp [World.setCell, Array.getElem?_modify, hg]
    obtain ⟨w', h2, h3, h4, h5, h6⟩ := run_storeCells_in g e vs (c.setIfInBounds (o + i) v) o (i + 1) (w.setCell ⟨g, o + i, none⟩ v) hheap (by simp; omega) (fun u hu => h1 u (by simp [hu]))
    refine ⟨w', ?_, ?_, h4, h5, h6⟩
    · simp only [storeCells, Sem.run_bind, hst, Result.andThen_ok, h2]
    · rw [h3]
      apply Array.ext_getElem?
      intro b
      rw [Array.getElem?_setIfInBounds, Array.getElem?_setIfInBounds]
      by_cases e : g = b
      · subst e; simp [hlt, setFrom, World.setCell, Nat.add_assoc]
      · simp [e, World.setCell, Array.getElem?_modify]

/-- The same on lists: what a walk can read off. -/
def setL : List Value → Nat → List Value → List Value
  | l, _, [] => l
  | [], _, _ => []
  | _ :: l, 0, v :: vs => v :: setL l 0 vs
  | x :: l, o + 1, vs => x :: setL l o vs

theorem setL_nil : ∀ (l : List Value) (o : Nat), setL l o [] = l
  | [], _ => by simp [setL]
  | _ :: _, 0 => by simp [setL]
  | _ :: _, _ + 1 => by simp [setL]

theorem setL_step : ∀ (l : List Value) (o : Nat) (v : Value) (vs : List Value), setL l o (v :: vs) = setL (l.set o v) (o + 1) vs
  | [], o, v, vs => by cases vs <;> simp [setL]
  | x :: l, 0, v, vs => by
    cases vs with
    | nil => simp [setL, setL_nil]
    | cons u us => simp [setL]
  | x :: l, o + 1, v, vs => by
    have ih := setL_step l o v vs
    cases vs with
    | nil => simp only [setL_nil] at ih ⊢; simp [setL, ih]
    | cons u us => simp [setL, ih]

theorem setFrom_list : ∀ (vs : List Value) (c : Array Value) (o : Nat), setFrom c o vs = (setL c.toList o vs).toArray
  | [], c, o => by simp [setFrom, setL_nil]
  | v :: vs, c, o => by rw [setFrom, setFrom_list vs, setL_step]; simp

theorem setL_length : ∀ (vs l : List Value) (o : Nat), (setL l o vs).length = l.length
  | [], l, o => by rw [setL_nil]
  | v :: vs, l, o => by rw [setL_step, setL_length vs]; simp

theorem setL_all : ∀ (vs l : List Value), vs.length = l.length → setL l 0 vs = vs
  | [], [], _ => by simp [setL]
  | [], _ :: _, h => by simp at h
  | _ :: _, [], h => by simp at h
  | v :: vs, x :: l, h => by simp [setL, setL_all vs l (by simpa using h)]

/-- A store into the block that comes first. -/
theorem OR.store {g o : Nat} {c : Array Value} {e : TypeId} (hs : HS xs H0 w0 H ((g, .cells c e, true) :: M) w) (ht : TI P t d sz by_ z)
    (hx : look env x = some (.pointer (some ⟨g, o, none⟩))) (hy : look env y = some v) (hz : v.cells.size = sz) (ho : o + sz ≤ c.size) (h1 : v.cells.toList.all (·.oneCell') = true)
    (hR : ∀ w', HS xs H0 w0 H ((g, .cells (setL c.toList o v.cells.toList).toArray e, true) :: M) w' → R undef w') :
    OR P n ds ⟨dst, .store t x y, ty, pos, aft, gd⟩ env w R := by
  have hg := (hs.mem g (.cells c e) true (by simp)).1
  obtain ⟨w', h2, h3, h4, h5, h6⟩ := run_storeCells_in (P := P) g e v.cells.toList c o 0 w hg (by simp; omega) (by simpa [List.all_eq_true] using List.all_eq_true.1 h1)
  rw [Nat.add_zero, setFrom_list] at h3
  exact .runU (w' := w') (fun a ha => by simp [execOp, ha.look hx, ha.look hy, Instr.storeAt, Instr.sureAddr, storeVar, ht.run_size, hz, h2]) (hR w' (hs.write _ h3 h4 h5 h6))

/-- A whole block stored. -/
theorem OR.storeAll {g : Nat} {c : Array Value} {e : TypeId} (hs : HS xs H0 w0 H ((g, .cells c e, true) :: M) w) (ht : TI P t d sz by_ z)
    (hx : look env x = some (.pointer (some ⟨g, 0, none⟩))) (hy : look env y = some v) (hz : v.cells.size = sz) (ho : c.size = sz) (h1 : v.cells.toList.all (·.oneCell') = true)
    (hR : ∀ w', HS xs H0 w0 H ((g, .cells v.cells e, true) :: M) w' → R undef w') :
    OR P n ds ⟨dst, .store t x y, ty, pos, aft, gd⟩ env w R :=
  .store hs ht hx hy hz (by omega) h1 (fun w' h => hR w' (by rw [setL_all _ _ (by simp [hz, ho])] at h; simpa using h))

theorem OR.loadAll {g : Nat} {c : Array Value} {e : TypeId} {fr : Nat × Nat} (ht : TI P t d sz by_ z) (hd : isAggD d = true) (hx : look env x = some (.pointer (some ⟨g, 0, none⟩)))
    (hg : w.heap[g]? = some (.cells c e fr)) (hl : c.size = sz) (hR : R (.agg c) w) : OR P n ds ⟨dst, .load t x, ty, pos, aft, gd⟩ env w R := by
  have := OR.loadN (P := P) (n := n) (ds := ds) (env := env) (w := w) (dst := dst) (ty := ty) (pos := pos) (aft := aft) (gd := gd) (R := R) (x := x) (ad := ⟨g, 0, none⟩) (cs := c.toList) ht hd hx (by simpa using hl)
    (fun j u hj => by rw [add_off]; simpa [World.cell?, hg] using hj)
  simpa using this hR

/-- The one result lies in a block. -/
theorem WX.resCell {f : Func} {C : Ending → World → Prop} {e : Exit} {g s : Nat} {c : Array Value} {ee : TypeId} {fr : Nat × Nat} (he : (match e with | .normal => true | .ret => true | _ => false) = true)
    (ht : TI P t d sz by_ z) (hf : f.results = #[.cell s t])
    (hv : env.get s = some (.pointer (some ⟨g, 0, none⟩))) (hd : isAggD d = true) (hl : c.size = sz) (hg : w.heap[g]? = some (.cells c ee fr)) (h : C (.returned (.agg c)) w) : WX P n [] e (.fn f C) env w := by
  subst hl
  refine WX.end_ret (vs := fun _ => True) he fun a ha => ⟨_, ?_, h⟩
  have hc : ∀ j u, c.toList[j]? = some u → w.cell? ((⟨g, 0, none⟩ : Addr).add j) = some u := fun j u hj => by rw [add_off]; simpa [World.cell?, hg] using hj
  have := run_loadCells_list (P := P) w ⟨g, 0, none⟩ c.toList hc
  simp only [Array.length_toList] at this
  have hv' := ha.get s _ hv
  rw [Array.getD_eq_getD_getElem?] at hv'
  simp [results, hf, hv', asAddr, loadVar, ht.run_agg, hd, ht.run_size, this]
theorem WX.retCell {f : Func} {C : Ending → World → Prop} {g s : Nat} {c : Array Value} {ee : TypeId} {fr : Nat × Nat} (ht : TI P t d sz by_ z) (hf : f.results = #[.cell s t])
    (hv : env.get s = some (.pointer (some ⟨g, 0, none⟩))) (hd : isAggD d = true) (hl : c.size = sz) (hg : w.heap[g]? = some (.cells c ee fr)) (h : C (.returned (.agg c)) w) : WX P n [] .ret (.fn f C) env w :=
  .resCell rfl ht hf hv hd hl hg h

theorem OR.lenSlice {e : TypeId} {base : Option Addr} {m c : Nat} (ht : P.underlying t = some (.slice e)) (hx : look env x = some (.slice base m c)) (hR : R (.int .i64 m) w) :
    OR P n ds ⟨dst, .call { callee := .builtin .len, args := #[x], argTypes := #[t] }, ty, pos, aft, gd⟩ env w R :=
  .run (fun a ha => by simp [execOp, resolve, invoke, builtin, Builtin.len_, ha.look hx, run_underlying ht, goInt]) hR

theorem OR.makeSlice {e : TypeId} {m : Nat} (hs : HS xs H0 w0 H M w) (ht : P.underlying t = some (.slice e)) (he : TI P e d sz by_ z) (hzs : z.cells.size = sz) (hsz : 0 < sz)
    (hx : look env x = some (.int .i64 m)) (hy : look env y = some (.int .i64 m)) (hb : m * by_ ≤ 281474976710656) (hm : m ≤ 9223372036854775807)
    (hR : ∀ g w', w0.heap.size ≤ g → HS xs H0 w0 H ((g, .cells ((Array.range (m * sz)).map (z.cells[· % z.cells.size]!)) e, true) :: M) w' → R (.slice (some ⟨g, 0, none⟩) m m) w') :
    OR P n ds ⟨dst, .makeSlice t x y, ty, pos, aft, gd⟩ env w R := by
  obtain ⟨i, h1, h2, h3, h4⟩ := he.inf
  have hw : IntKind.i64.wrap (m : Int) = m := wrap_i64 (by omega) (by omega)
  refine .run (v := .slice (some ⟨w.heap.size, 0, none⟩) m m) (w' := w.alloc (.cells ((Array.range (m * sz)).map (z.cells[· % z.cells.size]!)) e)) (fun a ha => ?_) (hR _ _ hs.size (hs.alloc _))
  have hnot : ¬ ((m : Int) < 0) := by omega
  have hbig : ¬ ((by_ : Int) * (m : Int) > 2 ^ 48) := by
    have : (by_ : Int) * (m : Int) = ((m * by_ : Nat) : Int) := by rw [Nat.mul_comm]; exact (Int.natCast_mul by_ m).symm
    rw [this]; omega
  have hroom : ∀ W : World, (askRoom (m * by_)).run P W = .ok () W := by intro W; unfold askRoom; split <;> simp [mark, Sem.run]
  by_cases h0 : m * sz = 0
  · have : m = 0 := by
      rcases Nat.mul_eq_zero.1 h0 with h | h
      · exact h
      · omega
    subst this
    have hw0 : IntKind.i64.wrap 0 = 0 := wrap_i64 (by omega) (by omega)
    simp [execOp, ha.look hx, ha.look hy, Instr.makeSlice, run_underlying ht, asInt, asIntOf, typeInfo, h1, h2, h3, hw0, newRow, newObj, Sem.run, askRoom, mark, roomBytes, sizeOf, show Array.range 0 = #[] from rfl]
  · simp only [execOp, ha.look hx, ha.look hy, Instr.makeSlice, Sem.run_bind, run_underlying ht, Result.andThen_ok, asInt, asIntOf, Sem.run_pure, typeInfo, run_program, h1, hw, h3]
    have hbig' : ¬ (281474976710656 < (by_ : Int) * (m : Int)) := by simpa using hbig
    simp [hbig', hroom, he.run_size, h0, he.run_zero, newRow, newObj, Sem.run]
    intro h9; omega
end

/-! ### calls -/
section
variable {xs : List Nat} {H0 H : Hp} {w0 : World} {M : Mem}

/-- A function with a body is entered. -/
def Body (P : Program) (f : FuncId) : Prop := ∀ (args : Array Value) (w : World), (callFunc f args).run P w = .ok (.enter f args) w
theorem Body.of {f : FuncId} {fn : Func} (hf : P.funcs[f]? = some fn) (hn : (fn.name == "runtime.NumGoroutine") = false) (hb : fn.body.isNone = false) : Body P f := by
  intro args w
  have hn' : ¬ fn.name = "runtime.NumGoroutine" := by simpa using hn
  have hb' : ¬ fn.body = none := by intro h; rw [h] at hb; simp at hb
  simp [callFunc, hf, hn', hb']

/-- A call that may change the blocks xs', which come first. -/
theorem OR.callX {f : FuncId} {args : List Operand} {vs : List Value} {tys : Array TypeId} {x : Operand} {cap first : List Value} {Mx Mr : Mem} {xs' : List Nat} {C : Value → Hp → Mem → Prop}
    (hs : HS xs H0 w0 H (Mx ++ Mr) w) (hb : Body P f) (hx : look env x = some (.func (.func f) first.toArray cap.toArray)) (ha : lookAll env args = some vs)
    (hc : Calls P f (first ++ vs ++ cap).toArray w (Ret xs' H w C)) (hk : Mem.keys Mx = xs') (ht : Mx.all (·.2.2) = true)
    (hR : ∀ v H' M' w', HS xs H0 w0 H' (M' ++ Mr) w' → H.le H' → (∀ b o, H' b = some o → H b = some o ∨ w.heap.size ≤ b) → C v H' M' → R v w') :
    OR P n ds ⟨dst, .call { callee := .value x, args := args.toArray, argTypes := tys }, ty, pos, aft, gd⟩ env w R := by
  refine .enter (f := f) (args := (first ++ vs ++ cap).toArray) (w' := w) (fun a hs' => ?_) hc ?_
  · simp [execOp, resolve, hs'.look hx, Deferred.ofValue, invoke, List.map_toArray, hs'.lookAll _ _ ha, hb _ w]
  · rintro e w' ⟨v, H', M', rfl, hk', hM, hC⟩
    exact ⟨v, rfl, hR v H' M' w' (hs.after hk' rfl hk (by simpa using ht) hM) hk'.le hk'.new hC⟩

/-- A call that changes nothing. -/
theorem OR.call {f : FuncId} {args : List Operand} {vs : List Value} {tys : Array TypeId} {x : Operand} {cap first : List Value} {C : Value → Hp → Prop}
    (hs : HS xs H0 w0 H M w) (hb : Body P f) (hx : look env x = some (.func (.func f) first.toArray cap.toArray)) (ha : lookAll env args = some vs)
    (hc : Calls P f (first ++ vs ++ cap).toArray w (Pure H w C))
    (hR : ∀ v H' w', HS xs H0 w0 H' M w' → H.le H' → C v H' → R v w') :
    OR P n ds ⟨dst, .call { callee := .value x, args := args.toArray, argTypes := tys }, ty, pos, aft, gd⟩ env w R :=
  .callX (Mx := []) (Mr := M) hs hb hx ha hc rfl rfl (fun v H' M' w' h1 h2 _ h3 => by
    obtain ⟨rfl, hC⟩ := h3
    exact hR v H' w' h1 h2 hC)
/-- A call by whatever is known of how it ends. -/
theorem OR.callW {f : FuncId} {args : List Operand} {vs : List Value} {tys : Array TypeId} {x : Operand} {cap first : List Value} {C : Ending → World → Prop}
    (hb : Body P f) (hx : look env x = some (.func (.func f) first.toArray cap.toArray)) (ha : lookAll env args = some vs)
    (hc : Calls P f (first ++ vs ++ cap).toArray w C) (hR : ∀ e w', C e w' → ∃ v, e = .returned v ∧ R v w') :
    OR P n ds ⟨dst, .call { callee := .value x, args := args.toArray, argTypes := tys }, ty, pos, aft, gd⟩ env w R := by
  refine .enter (f := f) (args := (first ++ vs ++ cap).toArray) (w' := w) (fun a hs' => ?_) hc hR
  simp [execOp, resolve, hs'.look hx, Deferred.ofValue, invoke, List.map_toArray, hs'.lookAll _ _ ha, hb _ w]
end

end Go.Bw
