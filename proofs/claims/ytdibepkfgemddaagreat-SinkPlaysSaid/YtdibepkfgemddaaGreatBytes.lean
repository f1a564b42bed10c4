/- Bytes as values. -/
import Derived.Test.YtdibepkfgemddaaGreatOps
namespace Go.Bw
set_option linter.unusedVariables false
set_option linter.unusedSimpArgs false

abbrev B (b : UInt8) : Value := .int .u8 (b.toNat : Int)

theorem u8_wrap (n : Nat) : IntKind.u8.wrap (n : Int) = ((n % 256 : Nat) : Int) := by
  simp [IntKind.wrap, IntKind.bits, IntKind.signed]

theorem u8_shl1 (a : UInt8) : IntKind.u8.wrap ((a.toNat : Int) * 2 ^ (min (1 : Int).toNat IntKind.u8.bits)) = ((a <<< 1).toNat : Int) := by
  have : ((a.toNat : Int) * 2 ^ (min (1 : Int).toNat IntKind.u8.bits)) = ((a.toNat * 2 : Nat) : Int) := by simp [IntKind.bits]
  rw [this, u8_wrap]
  simp [UInt8.toNat_shiftLeft, Nat.shiftLeft_eq]
theorem u8_xor (a b : UInt8) : IntKind.u8.wrap (((BitVec.ofInt IntKind.u8.bits (a.toNat : Int) ^^^ BitVec.ofInt IntKind.u8.bits (b.toNat : Int)).toNat : Nat) : Int) = ((a ^^^ b).toNat : Int) := by
  rw [u8_wrap]
  have ha := a.toNat_lt
  have hb := b.toNat_lt
  change (((BitVec.ofInt 8 (a.toNat : Int) ^^^ BitVec.ofInt 8 (b.toNat : Int) : BitVec 8).toNat % 256 : Nat) : Int) = _
  have h1 : (BitVec.ofInt 8 (a.toNat : Int)) = BitVec.ofNat 8 a.toNat := by
    apply BitVec.eq_of_toNat_eq; simp
  have h2 : (BitVec.ofInt 8 (b.toNat : Int)) = BitVec.ofNat 8 b.toNat := by
    apply BitVec.eq_of_toNat_eq; simp
  have h := Nat.xor_lt_two_pow (n := 8) ha hb
  rw [h1, h2, BitVec.toNat_xor, BitVec.toNat_ofNat, BitVec.toNat_ofNat, Nat.mod_eq_of_lt ha, Nat.mod_eq_of_lt hb, UInt8.toNat_xor]
  omega

section
variable {P : Program} {n : Nat} {ds : List Deferred} {env : Env} {w : World} {x y : Operand} {i j : Int} {tx tyy : TypeId}
variable {dst : Option Nat} {ty : TypeId} {pos : String} {aft : Array Edge} {gd : Option (Nat × Bool)} {R : Value → World → Prop}
theorem OR.xorB (a b : UInt8) (hx : look env x = some (.int .u8 i)) (hy : look env y = some (.int .u8 j)) (hi : i = (a.toNat : Int)) (hj : j = (b.toNat : Int)) (hR : R (B (a ^^^ b)) w) :
    OR P n ds ⟨dst, .binOp .xor tx x y tyy, ty, pos, aft, gd⟩ env w R :=
  .xor hx hy (by subst hi; subst hj; rw [u8_xor]; exact hR)
end

def Sub (H : Hp) (w : World) : Prop := ∀ b o, H b = some o → w.heap[b]? = some o
theorem HS.toSub {xs : List Nat} {H0 H : Hp} {w0 w : World} {M : Mem} (h : HS xs H0 w0 H M w) : Sub H w := h.sub
theorem HS.init {H : Hp} {w : World} (h : Sub H w) : HS [] H w H [] w := HS.start [] h (by simp) (by simp [Mem.keys])
theorem Pure.mk {H : Hp} {w : World} {R : Value → Hp → Prop} {v : Value} {H' : Hp} {M : Mem} {w' : World} (h : HS [] H w H' M w') (hR : R v H') : Pure H w R (.returned v) w' :=
  ⟨v, H', [], rfl, h.sublist (List.nil_sublist _), by simp, rfl, hR⟩

end Go.Bw
