/- Structs held against each other. -/
import Derived.Test.YtdibepkfgemddaaGreatOps6
import Derived.Laws.StructEq
namespace Go.Bw
set_option linter.unusedVariables false
set_option linter.unusedSimpArgs false
section
variable {P : Program} {n : Nat} {ds : List Deferred} {dst : Option Nat} {t tyy ty : TypeId} {x y : Operand} {pos : String} {aft : Array Edge} {gd : Option (Nat × Bool)} {env : Env} {w : World} {R : Value → World → Prop}
theorem OR.neqAgg {xs ys : Array Value} {b : Bool} (hm : P.eqGuardType P.depth t = false) (hx : look env x = some (.agg xs)) (hy : look env y = some (.agg ys)) (h : (Op.equalIn 10000 t (.agg xs) (.agg ys)).run P w = .ok b w) (hR : R (.bool (!b)) w) :
    OR P n ds ⟨dst, .binOp .neq t x y tyy, ty, pos, aft, gd⟩ env w R :=
  .run (fun a ha => by simp [execOp, ha.look hx, ha.look hy, run_eqGuard_agg _ _ _ _ _ _ _ hm, run_neq_struct, h]) hR
theorem OR.eqlAgg {xs ys : Array Value} {b : Bool} (hm : P.eqGuardType P.depth t = false) (hx : look env x = some (.agg xs)) (hy : look env y = some (.agg ys)) (h : (Op.equalIn 10000 t (.agg xs) (.agg ys)).run P w = .ok b w) (hR : R (.bool b) w) :
    OR P n ds ⟨dst, .binOp .eql t x y tyy, ty, pos, aft, gd⟩ env w R :=
  .run (fun a ha => by simp [execOp, ha.look hx, ha.look hy, run_eqGuard_agg _ _ _ _ _ _ _ hm, run_eql_struct, h]) hR
end
end Go.Bw
