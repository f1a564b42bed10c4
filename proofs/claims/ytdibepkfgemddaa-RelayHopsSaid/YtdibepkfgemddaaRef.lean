/- The document's own field, and rows. -/
import Derived.Test.YtdibepkfgemddaaSame
import Derived.Test.YtdibepkfgemddaaGf
namespace Go.Bw
set_option linter.unusedVariables false
set_option linter.unusedSimpArgs false
open Go.Proofs

theorem u8_tmod2 (b : UInt8) : ((b.toNat : Int).tmod 2) = ((b % 2).toNat : Int) := by
  rw [UInt8.toNat_mod]; rfl
theorem u8_tdiv2 (b : UInt8) : IntKind.u8.wrap ((b.toNat : Int).tdiv 2) = ((b / 2).toNat : Int) := by
  have h : (b.toNat : Int).tdiv 2 = ((b.toNat / 2 : Nat) : Int) := rfl
  rw [h, u8_wrap, UInt8.toNat_div]
  have := b.toNat_lt
  rw [Nat.mod_eq_of_lt (by omega)]
  rfl

-- left out, for this seat has no braidworkref01.Mul: theorem refMul_ok (a b
-- left out, for this seat has no braidworkref03.Own: theorem refOwn_ok (v
-- left out, for this seat has no braidworklaw07.R: theorem R_ok (c p
/-- The first k done. -/
def updZ (f : UInt8 → UInt8 → UInt8) (a b : List UInt8) (k : Nat) : List UInt8 := (List.zipWith f a b).take k ++ a.drop k
theorem updZ_len (f : UInt8 → UInt8 → UInt8) (a b : List UInt8) (k : Nat) (h : a.length = b.length) : (updZ f a b k).length = a.length := by simp [updZ]; omega
theorem updZ_at (f : UInt8 → UInt8 → UInt8) (a b : List UInt8) (k : Nat) (h : a.length = b.length) (hk : k < a.length) : (updZ f a b k)[k]? = some a[k] := by
  unfold updZ
  rw [List.getElem?_append_right (by simp; omega)]
  have e : k - ((List.zipWith f a b).take k).length = 0 := by simp; omega
  rw [e, List.drop_eq_getElem_cons hk]
  rfl
theorem updZ_step (f : UInt8 → UInt8 → UInt8) (a b : List UInt8) (k : Nat) (h : a.length = b.length) (hk : k < a.length) (hb : k < b.length) : (updZ f a b k).set k (f a[k] b[k]) = updZ f a b (k + 1) := by
  unfold updZ
  rw [List.take_succ_eq_append_getElem (by simp; omega), List.set_append_right _ _ (by simp; omega)]
  have e : k - ((List.zipWith f a b).take k).length = 0 := by simp; omega
  rw [e, List.drop_eq_getElem_cons hk, List.set_cons_zero, List.append_assoc, List.getElem_zipWith]
  rfl
-- left out, for this seat has no braidworkref07.Plus: theorem refPlus_ok (va vb
end Go.Bw
