/- Maps. -/
import Derived.Test.YtdibepkfgemddaaGreatOps5
namespace Go.Bw
set_option linter.unusedVariables false
set_option linter.unusedSimpArgs false

theorem HS.nh {xs : List Nat} {H0 H : Hp} {w0 w : World} {M : Mem} (h : HS xs H0 w0 H M w) {i g : Nat} {o : Obj} {t : Bool} (hm : nth M i = some (g, o, t)) : H g = none :=
  (h.mem g o t (List.mem_of_getElem? (by rw [← nth_eq]; exact hm))).2.1

section
variable {P : Program} {n : Nat} {ds : List Deferred} {env : Env} {w w0 : World} {dst : Option Nat} {ty : TypeId} {pos : String} {aft : Array Edge} {gd : Option (Nat × Bool)} {R : Value → World → Prop}
variable {xs : List Nat} {H0 H : Hp} {M : Mem} {x y : Operand} {t e : TypeId} {d : TypeDesc} {sz by_ : Nat} {z v : Value}
/-- A new map. -/
theorem OR.makeMap (hs : HS xs H0 w0 H M w) (hR : ∀ g w', w0.heap.size ≤ g → HS xs H0 w0 H ((g, .map #[] 0, true) :: M) w' → R (.map (some g)) w') :
    OR P n ds ⟨dst, .makeMap t none, ty, pos, aft, gd⟩ env w R :=
  .run (v := .map (some w.heap.size)) (w' := w.alloc (.map #[] 0)) (fun a ha => by simp [execOp, Instr.makeMap, newObj, Sem.run]) (hR _ _ hs.size (hs.alloc _))
/-- Is a map none? -/
theorem OR.eqlNilM {kt et tyy : TypeId} {m : Option Nat} (ht : P.underlying t = some (.map kt et)) (hx : look env x = some (.map m)) (hy : look env y = some (.map none)) (hR : R (.bool m.isNone) w) :
    OR P n ds ⟨dst, .binOp .eql t x y tyy, ty, pos, aft, gd⟩ env w R :=
  .run (fun a ha => by
    have h0 : ∀ k, (Op.equalIn (k + 1) t (.map m) (.map none)).run P w = .ok m.isNone w := fun k => by cases m <;> simp [Op.equalIn, run_underlying ht]
    have h' : (Op.equal t (.map m) (.map none)).run P w = .ok m.isNone w := h0 9999
    have h3 : (eqGuard .eql t x y (.map m) (.map none)).run P w = .ok () w := by simp [eqGuard]
    have h2 : (binOp .eql t (.map m) (.map none)).run P w = .ok (.bool m.isNone) w := by unfold binOp; simp [h']
    simp [execOp, ha.look hx, ha.look hy, h3, h2]) hR
/-- A map without entries has none for a key. -/
theorem OR.lookupNone {g : Nat} {kt et : TypeId} {clk : Nat} {kv : Value} (hg : w.heap[g]? = some (.map #[] clk)) (ht : P.underlying t = some (.map kt et)) (hx : look env x = some (.map (some g))) (hy : look env y = some kv)
    (hck : ∀ w : World, (Instr.checkKey true 10000 kt kv).run P w = .ok () w) (hz : TI P et d sz by_ z) (hu : ∃ kd, P.underlying kt = some kd) (hR : R z w) :
    OR P n ds ⟨dst, .lookup t x y false, ty, pos, aft, gd⟩ env w R := by
  obtain ⟨kd, hkd⟩ := hu
  refine .run (v := z) (w' := w) (fun a ha => ?_) hR
  have hgo : (getObj g).run P w = .ok (.map #[] clk) w := by simp [getObj, Sem.run, hg]
  simp [execOp, ha.look hx, ha.look hy, Instr.lookup, Sem.run_bind, run_underlying ht, run_underlying hkd, hgo, hck, Instr.findKey, Instr.findNow, hz.run_zero]
/-- What a map has for a key that is there. -/
theorem OR.lookupIn {g i : Nat} {kt et : TypeId} {clk : Nat} {es : Array MapEntry} {kv u : Value} (hg : w.heap[g]? = some (.map es clk)) (ht : P.underlying t = some (.map kt et)) (hx : look env x = some (.map (some g))) (hy : look env y = some kv)
    (hck : ∀ w : World, (Instr.checkKey es.isEmpty 10000 kt kv).run P w = .ok () w) (hfk : ∀ w : World, (Instr.findKey kt kv es.toList).run P w = .ok (some (i, u)) w) (hR : R u w) :
    OR P n ds ⟨dst, .lookup t x y false, ty, pos, aft, gd⟩ env w R := by
  refine .run (v := u) (w' := w) (fun a ha => ?_) hR
  have hgo : (getObj g).run P w = .ok (.map es clk) w := by simp [getObj, Sem.run, hg]
  simp [execOp, ha.look hx, ha.look hy, Instr.lookup, Sem.run_bind, run_underlying ht, hgo, hck, hfk]
/-- A key that a map has not. -/
theorem OR.lookupMiss {g : Nat} {kt et : TypeId} {clk : Nat} {es : Array MapEntry} {kv : Value} (hg : w.heap[g]? = some (.map es clk)) (ht : P.underlying t = some (.map kt et)) (hx : look env x = some (.map (some g))) (hy : look env y = some kv)
    (hck : ∀ w : World, (Instr.checkKey es.isEmpty 10000 kt kv).run P w = .ok () w) (hfk : ∀ w : World, (Instr.findKey kt kv es.toList).run P w = .ok none w) (hz : TI P et d sz by_ z) (hR : R z w) :
    OR P n ds ⟨dst, .lookup t x y false, ty, pos, aft, gd⟩ env w R := by
  refine .run (v := z) (w' := w) (fun a ha => ?_) hR
  have hgo : (getObj g).run P w = .ok (.map es clk) w := by simp [getObj, Sem.run, hg]
  simp [execOp, ha.look hx, ha.look hy, Instr.lookup, Sem.run_bind, run_underlying ht, hgo, hck, hfk, hz.run_zero]
/-- The entry of a key that is new to a map. -/
theorem OR.entryNew {g : Nat} {kt et : TypeId} {clk : Nat} {es : Array MapEntry} {kv : Value} (hs : HS xs H0 w0 H ((g, .map es clk, true) :: M) w) (ht : P.underlying t = some (.map kt et)) (hx : look env x = some (.map (some g))) (hy : look env y = some kv)
    (hck : ∀ w : World, (Instr.checkKey false 10000 kt kv).run P w = .ok () w) (hfk : ∀ w : World, (Instr.findKey kt kv es.toList).run P w = .ok none w) (hz : TI P et d sz by_ z)
    (hR : ∀ w', HS xs H0 w0 H ((g, .map (es.push { key := kv, val := z, born := clk }) (clk + 1), true) :: M) w' → R (.tuple #[z, .int .i64 (clk : Int)]) w') :
    OR P n ds ⟨dst, .mapEntry t x y, ty, pos, aft, gd⟩ env w R := by
  have hg := (hs.mem g (.map es clk) true (by simp)).1
  have hgo : (getObj g).run P w = .ok (.map es clk) w := by simp [getObj, Sem.run, hg]
  refine .run (v := .tuple #[z, .int .i64 (clk : Int)]) (w' := { w with heap := w.heap.setIfInBounds g (.map (es.push { key := kv, val := z, born := clk }) (clk + 1)) }) (fun a ha => ?_) (hR _ (hs.write _ rfl rfl rfl rfl))
  simp [execOp, ha.look hx, ha.look hy, Instr.mapEntry, Sem.run_bind, run_underlying ht, hgo, hck, hfk, hz.run_zero, setObj, Sem.run, hg, goInt]
/-- The entry of a key that a map has. -/
theorem OR.entryIn {g i b : Nat} {kt et : TypeId} {clk : Nat} {es : Array MapEntry} {kv u : Value} (hs : HS xs H0 w0 H ((g, .map es clk, true) :: M) w) (ht : P.underlying t = some (.map kt et)) (hx : look env x = some (.map (some g))) (hy : look env y = some kv)
    (hck : ∀ w : World, (Instr.checkKey false 10000 kt kv).run P w = .ok () w) (hfk : ∀ w : World, (Instr.findKey kt kv es.toList).run P w = .ok (some (i, u)) w)
    (hks : ∀ w : World, (Instr.keyThatStays (((es[i]?).map (·.key)).getD kv) kv).run P w = .ok kv w) (hb : ((es[i]?).map (·.born)).getD 0 = b)
    (hR : ∀ w', HS xs H0 w0 H ((g, .map (es.modify i fun e => { e with key := kv }) clk, true) :: M) w' → R (.tuple #[u, .int .i64 (b : Int)]) w') :
    OR P n ds ⟨dst, .mapEntry t x y, ty, pos, aft, gd⟩ env w R := by
  have hg := (hs.mem g (.map es clk) true (by simp)).1
  have hgo : (getObj g).run P w = .ok (.map es clk) w := by simp [getObj, Sem.run, hg]
  refine .run (v := .tuple #[u, .int .i64 (b : Int)]) (w' := { w with heap := w.heap.setIfInBounds g (.map (es.modify i fun e => { e with key := kv }) clk) }) (fun a ha => ?_) (hR _ (hs.write _ rfl rfl rfl rfl))
  simp only [execOp, ha.look hx, ha.look hy, Instr.mapEntry, Sem.run_bind, run_underlying ht, hgo, hck, hfk, hks, Result.andThen_ok]
  subst hb
  simp [setObj, Sem.run, hg, goInt]
  cases es[i]? <;> rfl
/-- What an entry has is written. -/
theorem OR.entryStore {g i b : Nat} {clk : Nat} {es : Array MapEntry} {u : Value} {z' : Operand} (hs : HS xs H0 w0 H ((g, .map es clk, true) :: M) w) (hx : look env x = some (.map (some g))) (hy : look env y = some (.int .i64 (b : Int))) (hz : look env z' = some u)
    (hi : es.findIdx? (fun e => (e.born : Int) == (b : Int)) = some i)
    (hR : ∀ w', HS xs H0 w0 H ((g, .map (es.modify i fun e => { e with val := u }) clk, true) :: M) w' → R undef w') :
    OR P n ds ⟨dst, .entryStore t x y z', ty, pos, aft, gd⟩ env w R := by
  have hg := (hs.mem g (.map es clk) true (by simp)).1
  have hgo : (getObj g).run P w = .ok (.map es clk) w := by simp [getObj, Sem.run, hg]
  refine .runU (w' := { w with heap := w.heap.setIfInBounds g (.map (es.modify i fun e => { e with val := u }) clk) }) (fun a ha => ?_) (hR _ (hs.write _ rfl rfl rfl rfl))
  simp only [execOp, ha.look hx, ha.look hy, ha.look hz, Instr.entryStore, Sem.run_bind, hgo, Result.andThen_ok]
  simp [asInt, asIntOf, hi, setObj, Sem.run, hg]
/-- A key that is new to a map. -/
theorem OR.mapNew {g : Nat} {kt et : TypeId} {clk : Nat} {es : Array MapEntry} {kv u : Value} {z : Operand} (hs : HS xs H0 w0 H ((g, .map es clk, true) :: M) w) (ht : P.underlying t = some (.map kt et)) (hx : look env x = some (.map (some g))) (hy : look env y = some kv) (hz : look env z = some u)
    (hck : ∀ w : World, (Instr.checkKey false 10000 kt kv).run P w = .ok () w) (hfk : ∀ w : World, (Instr.findKey kt kv es.toList).run P w = .ok none w)
    (hR : ∀ w', HS xs H0 w0 H ((g, .map (es.push { key := kv, val := u, born := clk }) (clk + 1), true) :: M) w' → R undef w') :
    OR P n ds ⟨dst, .mapUpdate t x y z, ty, pos, aft, gd⟩ env w R := by
  have hg := (hs.mem g (.map es clk) true (by simp)).1
  have hgo : (getObj g).run P w = .ok (.map es clk) w := by simp [getObj, Sem.run, hg]
  refine .runU (w' := { w with heap := w.heap.setIfInBounds g (.map (es.push { key := kv, val := u, born := clk }) (clk + 1)) }) (fun a ha => ?_) (hR _ (hs.write _ rfl rfl rfl rfl))
  simp [execOp, ha.look hx, ha.look hy, ha.look hz, Instr.mapUpdate, Sem.run_bind, run_underlying ht, hgo, hck, hfk, setObj, Sem.run, hg]
/-- A key that is there gets another value. -/
theorem OR.mapSet {g i : Nat} {kt et : TypeId} {clk : Nat} {es : Array MapEntry} {kv u u0 : Value} {z : Operand} (hs : HS xs H0 w0 H ((g, .map es clk, true) :: M) w) (ht : P.underlying t = some (.map kt et)) (hx : look env x = some (.map (some g))) (hy : look env y = some kv) (hz : look env z = some u)
    (hck : ∀ w : World, (Instr.checkKey false 10000 kt kv).run P w = .ok () w) (hfk : ∀ w : World, (Instr.findKey kt kv es.toList).run P w = .ok (some (i, u0)) w)
    (hks : ∀ w : World, (Instr.keyThatStays (((es[i]?).map (·.key)).getD kv) kv).run P w = .ok kv w)
    (hR : ∀ w', HS xs H0 w0 H ((g, .map (es.modify i fun e => { e with key := kv, val := u }) clk, true) :: M) w' → R undef w') :
    OR P n ds ⟨dst, .mapUpdate t x y z, ty, pos, aft, gd⟩ env w R := by
  have hg := (hs.mem g (.map es clk) true (by simp)).1
  have hgo : (getObj g).run P w = .ok (.map es clk) w := by simp [getObj, Sem.run, hg]
  refine .runU (w' := { w with heap := w.heap.setIfInBounds g (.map (es.modify i fun e => { e with key := kv, val := u }) clk) }) (fun a ha => ?_) (hR _ (hs.write _ rfl rfl rfl rfl))
  simp only [execOp, ha.look hx, ha.look hy, ha.look hz, Instr.mapUpdate, Sem.run_bind, run_underlying ht, hgo, hck, hfk, hks, Result.andThen_ok]
  simp [setObj, Sem.run, hg]
end
end Go.Bw
