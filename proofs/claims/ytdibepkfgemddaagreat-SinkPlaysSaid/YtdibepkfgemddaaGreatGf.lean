/- The field: what the code's mul is. -/
import Derived.Test.YtdibepkfgemddaaGreatField
namespace Go.Bw
set_option linter.unusedVariables false
set_option linter.unusedSimpArgs false

def xt (a : UInt8) : UInt8 := if a ≥ 128 then (a <<< 1) ^^^ 27 else a <<< 1
theorem t3_xt (a : UInt8) : t3 a = xt a ^^^ a := rfl

theorem all256 {p : UInt8 → Bool} (h : (List.range 256).all (fun i => p (UInt8.ofNat i)) = true) (a : UInt8) : p a = true := by
  have := List.all_eq_true.1 h a.toNat (List.mem_range.2 a.toNat_lt)
  simpa using this

theorem ge128 (a : UInt8) : decide (a ≥ 128) = a.toBitVec.msb := by
  have := all256 (p := fun a => decide (a ≥ 128) == a.toBitVec.msb) (by kernel_rfl) a
  simpa using this
theorem shl_xor (a b : UInt8) : (a ^^^ b) <<< 1 = (a <<< 1) ^^^ (b <<< 1) := by
  apply UInt8.toBitVec_inj.1
  simp [UInt8.toBitVec_shiftLeft, UInt8.toBitVec_xor, BitVec.shiftLeft_xor_distrib]

theorem xor_self8 (a : UInt8) : a ^^^ a = 0 := UInt8.xor_self
theorem xor_zero8 (a : UInt8) : a ^^^ 0 = a := UInt8.xor_zero
theorem zero_xor8 (a : UInt8) : 0 ^^^ a = a := UInt8.zero_xor
theorem xor_comm8 (a b : UInt8) : a ^^^ b = b ^^^ a := UInt8.xor_comm a b
theorem xor_assoc8 (a b c : UInt8) : a ^^^ b ^^^ c = a ^^^ (b ^^^ c) := UInt8.xor_assoc a b c
theorem xor4 (a b c d : UInt8) : (a ^^^ b) ^^^ (c ^^^ d) = (a ^^^ c) ^^^ (b ^^^ d) := by
  rw [xor_assoc8, ← xor_assoc8 b c d, xor_comm8 b c, xor_assoc8 c b d, ← xor_assoc8]
theorem xor_cancel (a b : UInt8) : a ^^^ b ^^^ b = a := by rw [xor_assoc8, xor_self8, xor_zero8]

theorem xt_xor (a b : UInt8) : xt (a ^^^ b) = xt a ^^^ xt b := by
  have h : decide (a ^^^ b ≥ 128) = (decide (a ≥ 128)).xor (decide (b ≥ 128)) := by
    rw [ge128, ge128, ge128, UInt8.toBitVec_xor, BitVec.msb_xor]
  unfold xt
  rw [shl_xor]
  by_cases ha : a ≥ 128 <;> by_cases hb : b ≥ 128
  · have : ¬ (a ^^^ b ≥ 128) := by simpa [ha, hb] using h
    rw [if_pos ha, if_pos hb, if_neg this, xor4, xor_self8, xor_zero8]
  · have : a ^^^ b ≥ 128 := by simpa [ha, hb] using h
    rw [if_pos ha, if_neg hb, if_pos this, xor_assoc8, xor_assoc8, xor_comm8 27]
  · have : a ^^^ b ≥ 128 := by simpa [ha, hb] using h
    rw [if_neg ha, if_pos hb, if_pos this, xor_assoc8]
  · have : ¬ (a ^^^ b ≥ 128) := by simpa [ha, hb] using h
    rw [if_neg ha, if_neg hb, if_neg this]

theorem t3_xor (a b : UInt8) : t3 (a ^^^ b) = t3 a ^^^ t3 b := by rw [t3_xt, t3_xt, t3_xt, xt_xor, xor4]
theorem t3_zero : t3 0 = 0 := by decide

def it : Nat → UInt8 → UInt8
  | 0, a => a
  | n + 1, a => t3 (it n a)
theorem it_zero : ∀ n, it n 0 = 0
  | 0 => rfl
  | n + 1 => by rw [it, it_zero n, t3_zero]
theorem it_xor : ∀ (n : Nat) (a b : UInt8), it n (a ^^^ b) = it n a ^^^ it n b
  | 0, _, _ => rfl
  | n + 1, a, b => by rw [it, it_xor n, t3_xor]; rfl
theorem it_add : ∀ (m n : Nat) (a : UInt8), it m (it n a) = it (n + m) a
  | 0, _, _ => rfl
  | m + 1, n, a => by rw [it, it_add m]; rfl
theorem pw_it : ∀ n, pw n = it n 1
  | 0 => rfl
  | n + 1 => by rw [pw, pw_it n]; rfl
theorem it_pw (m n : Nat) : it m (pw n) = pw (n + m) := by rw [pw_it, pw_it, it_add]

/-- The powers in a row. -/
def pwL : Nat → UInt8 → List UInt8
  | 0, _ => []
  | n + 1, x => x :: pwL n (t3 x)
theorem pwL_len : ∀ n x, (pwL n x).length = n
  | 0, _ => rfl
  | n + 1, x => by simp [pwL, pwL_len n]
theorem pwL_get : ∀ (n : Nat) (x : UInt8) (k : Nat) (h : k < n), (pwL n x)[k]? = some (it k x)
  | 0, _, _, h => by omega
  | n + 1, x, 0, _ => rfl
  | n + 1, x, k + 1, h => by
    rw [pwL, List.getElem?_cons_succ, pwL_get n (t3 x) k (by omega)]
    have := it_add k 1 x
    rw [show it 1 x = t3 x from rfl, Nat.add_comm] at this
    rw [this]
def memB : List UInt8 → Nat → Bool
  | [], _ => false
  | x :: l, a => Nat.beq x.toNat a || memB l a
def nodupB : List UInt8 → Bool
  | [] => true
  | x :: l => !memB l x.toNat && nodupB l
theorem memB_iff : ∀ (l : List UInt8) (a : UInt8), memB l a.toNat = true ↔ a ∈ l
  | [], a => by simp [memB]
  | x :: l, a => by
    rw [memB, Bool.or_eq_true, memB_iff l a, List.mem_cons]
    refine or_congr ⟨fun h => ?_, fun h => ?_⟩ Iff.rfl
    · exact (UInt8.toNat_inj.1 (Nat.eq_of_beq_eq_true h)).symm
    · rw [h]; exact Nat.beq_refl _
theorem nodupB_ok : ∀ (l : List UInt8), nodupB l = true → l.Nodup
  | [], _ => List.nodup_nil
  | x :: l, h => by
    rw [nodupB, Bool.and_eq_true, Bool.not_eq_true', ← Bool.not_eq_true, memB_iff] at h
    exact List.nodup_cons.2 ⟨h.1, nodupB_ok l h.2⟩
theorem pwL_nodup : (pwL 255 1).Nodup := nodupB_ok _ (by kernel_rfl)
theorem pwL_all (a : UInt8) (h : a ≠ 0) : a ∈ pwL 255 1 := by
  have := all256 (p := fun a => Nat.beq a.toNat 0 || memB (pwL 255 1) a.toNat) (by kernel_rfl) a
  rw [Bool.or_eq_true, memB_iff] at this
  rcases this with h1 | h1
  · exact absurd (UInt8.toNat_inj.1 (Nat.eq_of_beq_eq_true h1)) h
  · exact h1
theorem pw_255 : pw 255 = 1 := by kernel_rfl

theorem pw_inj (i j : Nat) (hi : i < 255) (hj : j < 255) (h : pw i = pw j) : i = j := by
  have h1 := pwL_get 255 1 i hi
  have h2 := pwL_get 255 1 j hj
  rw [← pw_it] at h1 h2
  rw [← h] at h2
  exact (List.getElem?_inj (by rw [pwL_len]; exact hi) pwL_nodup).1 (h1.trans h2.symm)
theorem exists_pw (a : UInt8) (h : a ≠ 0) : ∃ k, k < 255 ∧ pw k = a := by
  obtain ⟨k, hk, e⟩ := List.mem_iff_getElem.1 (pwL_all a h)
  rw [pwL_len] at hk
  have := pwL_get 255 1 k hk
  rw [List.getElem?_eq_getElem (by rw [pwL_len]; exact hk), e, ← pw_it] at this
  exact ⟨k, hk, (Option.some.inj this).symm⟩
theorem pw_ne (k : Nat) : pw k ≠ 0 := by
  have key : ∀ a : UInt8, t3 a = 0 → a = 0 := by
    intro a h
    have := all256 (p := fun a => !Nat.beq (t3 a).toNat 0 || Nat.beq a.toNat 0) (by kernel_rfl) a
    rw [h] at this
    exact UInt8.toNat_inj.1 (Nat.eq_of_beq_eq_true (by simpa using this))
  induction k with
  | zero => decide
  | succ k ih => exact fun h => ih (key _ h)
theorem pw_add255 (k : Nat) : pw (k + 255) = pw k := by
  have := it_pw k 255
  rw [pw_255, ← pw_it, Nat.add_comm] at this
  exact this.symm
theorem pw_mod (k : Nat) : pw (k % 255) = pw k := by
  have key : ∀ q r, pw (r + 255 * q) = pw r := by
    intro q
    induction q with
    | zero => intro r; rfl
    | succ q ih => intro r; rw [Nat.mul_succ, ← Nat.add_assoc, pw_add255, ih]
  have := key (k / 255) (k % 255)
  rw [Nat.mod_add_div] at this
  exact this.symm
theorem lgTo_pw (k : Nat) (hk : k < 255) : ∀ n, n ≤ 255 → k < n → lgTo (pw k) n = k
  | 0, _, h => by omega
  | n + 1, hn, h => by
    unfold lgTo
    by_cases e : n = k
    · subst e; simp
    · have : pw n ≠ pw k := fun h2 => e (pw_inj n k (by omega) hk h2)
      rw [if_neg this]
      exact lgTo_pw k hk n (by omega) (by omega)
theorem lg_pw (k : Nat) : lg (pw k) = k % 255 := by
  rw [← pw_mod]
  exact lgTo_pw _ (Nat.mod_lt _ (by omega)) 255 (Nat.le_refl _) (Nat.mod_lt _ (by omega))
theorem pw_lg (a : UInt8) (h : a ≠ 0) : pw (lg a) = a := by
  obtain ⟨k, hk, rfl⟩ := exists_pw a h
  rw [lg_pw, pw_mod]

theorem mul_pw (a : UInt8) (k : Nat) : mul a (pw k) = it k a := by
  unfold mul
  by_cases h : a = 0
  · subst h; rw [if_pos (.inl rfl), it_zero]
  · rw [if_neg (by simp [h, pw_ne]), lg_pw, Nat.add_mod_mod, pw_mod, ← it_pw, pw_lg a h]
theorem mul_zero (a : UInt8) : mul a 0 = 0 := by simp [mul]
theorem zero_mul (a : UInt8) : mul 0 a = 0 := by simp [mul]
theorem mul_comm (a b : UInt8) : mul a b = mul b a := by
  unfold mul
  rw [Nat.add_comm]
  simp only [or_comm]
theorem xor_mul (a b c : UInt8) : mul (a ^^^ b) c = mul a c ^^^ mul b c := by
  by_cases h : c = 0
  · subst h; simp [mul_zero]
  · obtain ⟨k, _, rfl⟩ := exists_pw c h
    rw [mul_pw, mul_pw, mul_pw, it_xor]
theorem mul_xor (a b c : UInt8) : mul a (b ^^^ c) = mul a b ^^^ mul a c := by
  rw [mul_comm, xor_mul, mul_comm b, mul_comm c]
theorem mul_assoc (a b c : UInt8) : mul (mul a b) c = mul a (mul b c) := by
  by_cases h : c = 0
  · subst h; simp [mul_zero]
  · by_cases h2 : b = 0
    · subst h2; simp [mul_zero, zero_mul]
    · obtain ⟨k, _, rfl⟩ := exists_pw c h
      obtain ⟨j, _, rfl⟩ := exists_pw b h2
      rw [mul_pw, mul_pw, mul_pw, it_pw, mul_pw, it_add]
theorem mul_one (a : UInt8) : mul a 1 = a := mul_pw a 0
theorem one_mul (a : UInt8) : mul 1 a = a := by rw [mul_comm, mul_one]
/-- What Inv answers. -/
def inv (a : UInt8) : UInt8 := pw ((255 - lg a) % 255)
theorem mul_inv (a : UInt8) (h : a ≠ 0) : mul a (inv a) = 1 := by
  unfold inv
  rw [pw_mod, mul_pw]
  have h1 := lg_lt a
  have : it (255 - lg a) (pw (lg a)) = pw (lg a + (255 - lg a)) := it_pw _ _
  rw [pw_lg a h, show lg a + (255 - lg a) = 255 by omega, pw_255] at this
  exact this
theorem mul_eq_zero (a b : UInt8) : mul a b = 0 ↔ a = 0 ∨ b = 0 := by
  constructor
  · intro h
    by_cases hb : b = 0
    · exact .inr hb
    · left
      have : mul (mul a b) (inv b) = a := by rw [mul_assoc, mul_inv b hb, mul_one]
      rw [h, zero_mul] at this
      exact this.symm
  · rintro (rfl | rfl)
    · exact zero_mul _
    · exact mul_zero _

theorem mul_three (a : UInt8) : mul a 3 = t3 a := mul_pw a 1
theorem mul_two (a : UInt8) : mul a 2 = xt a := by
  have h : (2 : UInt8) = 3 ^^^ 1 := by decide
  rw [h, mul_xor, mul_three, mul_one, t3_xt, xor_cancel]

/-- Bit by bit. -/
def rmul : Nat → UInt8 → UInt8 → UInt8 → UInt8
  | 0, _, _, s => s
  | n + 1, a, b, s => rmul n (xt a) (b / 2) (if b % 2 = 1 then s ^^^ a else s)
theorem half (b : UInt8) : b = xt (b / 2) ^^^ (if b % 2 = 1 then 1 else 0) := by
  have := all256 (p := fun b => Nat.beq b.toNat (xt (b / 2) ^^^ (if Nat.beq (b % 2).toNat 1 then 1 else 0)).toNat) (by kernel_rfl) b
  have h := UInt8.toNat_inj.1 (Nat.eq_of_beq_eq_true this)
  have e : (Nat.beq (b % 2).toNat 1 = true) ↔ b % 2 = 1 := by
    constructor
    · intro h; exact UInt8.toNat_inj.1 (Nat.eq_of_beq_eq_true h)
    · intro h; rw [h]; rfl
  simp only [e] at h
  exact h
theorem rmul_ok : ∀ (n : Nat) (a b s : UInt8), b.toNat < 2 ^ n → rmul n a b s = s ^^^ mul a b
  | 0, a, b, s, h => by
    have : b = 0 := UInt8.toNat_inj.1 (by simpa using h)
    subst this
    rw [rmul, mul_zero, xor_zero8]
  | n + 1, a, b, s, h => by
    rw [rmul, rmul_ok n (xt a) (b / 2) _ (by rw [UInt8.toNat_div]; rw [Nat.pow_succ] at h; exact Nat.div_lt_of_lt_mul (by simpa [Nat.mul_comm] using h))]
    have hb := half b
    have h2 : mul a b = mul (xt a) (b / 2) ^^^ (if b % 2 = 1 then a else 0) := by
      have h3 : mul a b = mul a (xt (b / 2) ^^^ if b % 2 = 1 then 1 else 0) := congrArg (mul a) hb
      rw [h3, mul_xor, ← mul_two (b / 2), mul_comm (b / 2) 2, ← mul_assoc, mul_two]
      congr 1
      split
      · rw [mul_one]
      · rw [mul_zero]
    rw [h2]
    split
    · rw [xor_assoc8, xor_comm8 a]
    · rw [xor_zero8]

end Go.Bw
