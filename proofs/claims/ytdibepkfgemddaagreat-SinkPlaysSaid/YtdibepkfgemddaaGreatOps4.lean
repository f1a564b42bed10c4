/- Conversions of numbers, copies from a slice that may be nil, short lists of bytes. -/
import Derived.Test.YtdibepkfgemddaaGreatOps3
namespace Go.Bw
set_option linter.unusedVariables false
set_option linter.unusedSimpArgs false
section
variable {P : Program} {n : Nat} {ds : List Deferred} {env : Env} {w : World}
variable {dst : Option Nat} {ty : TypeId} {pos : String} {aft : Array Edge} {gd : Option (Nat × Bool)} {R : Value → World → Prop}
variable {xs : List Nat} {H0 H : Hp} {w0 : World} {M : Mem}
variable {x y u : Operand} {t e : TypeId} {d : TypeDesc} {sz by_ : Nat} {z : Value}

theorem OR.convI {t' : TypeId} {k k' : IntKind} {i : Int} (h1 : P.underlying t = some d) (h2 : P.underlying t' = some (.int k')) (hx : look env x = some (.int k i)) (hR : R (.int k' (k'.wrap i)) w) :
    OR P n ds ⟨dst, .convert t t' x, ty, pos, aft, gd⟩ env w R :=
  .run (fun a ha => by
    simp only [execOp, ha.look hx, convert, Sem.run_bind, run_underlying h1, run_underlying h2, Result.andThen_ok]
    cases d <;> simp [Conv.intToInt]) hR
/-- A byte as a number. -/
theorem OR.convB {t' : TypeId} {b : UInt8} (h1 : P.underlying t = some (.int .u8)) (h2 : P.underlying t' = some (.int .i64)) (hx : look env x = some (B b)) (hR : R (.int .i64 (b.toNat : Int)) w) :
    OR P n ds ⟨dst, .convert t t' x, ty, pos, aft, gd⟩ env w R :=
  .convI h1 h2 hx (by have := b.toNat_lt; rw [wrap_i64 (by omega) (by omega)]; exact hR)
/-- A number as a byte. -/
theorem OR.convN {t' : TypeId} {i : Int} (h1 : P.underlying t = some d) (h2 : P.underlying t' = some (.int .u8)) {m : Nat} (hx : look env x = some (.int .i64 i)) (hi : i = (m : Int)) (hR : R (B (UInt8.ofNat m)) w) :
    OR P n ds ⟨dst, .convert t t' x, ty, pos, aft, gd⟩ env w R :=
  .convI h1 h2 hx (by
    subst hi
    rw [u8_wrap]
    have : (UInt8.ofNat m).toNat = m % 256 := by simp
    rw [← this]; exact hR)

theorem OR.copyO {g o dLen dCap sLen sCap : Nat} {a : Option Addr} {c : Array Value} {e' t' : TypeId} (hs : HS xs H0 w0 H ((g, .cells c e', true) :: M) w) (news : List Value) (ht : P.underlying t = some (.slice e)) (he : TI P e d sz by_ z)
    (hx : look env x = some (.slice (some ⟨g, o, none⟩) dLen dCap)) (hy : look env y = some (.slice a sLen sCap)) (hl : news.length = Nat.min sLen dLen * sz) (ha0 : a = none → sLen = 0)
    (hsrc : ∀ b, a = some b → ∀ j u, news[j]? = some u → w.cell? (b.add j) = some u) (hfit : o + news.length ≤ c.size) (h1 : news.all (·.oneCell') = true)
    (hR : ∀ w', HS xs H0 w0 H ((g, .cells (setL c.toList o news).toArray e', true) :: M) w' → R (.int .i64 (Nat.min sLen dLen : Nat)) w') :
    OR P n ds ⟨dst, .call { callee := .builtin .copy, args := #[x, y], argTypes := #[t, t'] }, ty, pos, aft, gd⟩ env w R := by
  cases a with
  | some b => exact .copy hs news ht he hx hy hl (hsrc b rfl) hfit h1 hR
  | none =>
    have h0 := ha0 rfl
    subst h0
    have hn : news = [] := List.eq_nil_of_length_eq_zero (by rw [hl, natmin (c := 0) (by omega)]; simp)
    subst hn
    have h9 := hR w (by rw [setL_nil]; simpa using hs)
    rw [natmin (a := 0) (b := dLen) (c := 0) (by omega)] at h9
    refine .run (v := .int .i64 0) (w' := w) (fun aa ha => ?_) h9
    have hmin : Nat.min 0 dLen = 0 := natmin (by omega)
    simp [execOp, resolve, invoke, builtin, Builtin.copy_, ha.look hx, ha.look hy, run_underlying ht, Builtin.lenOf, he.run_size, Builtin.firstCells, hmin, storeCells, goInt]
end

theorem WX.ret4 {P : Program} {n : Nat} {env : Env} {w : World} {f : Func} {C : Ending → World → Prop} {t1 t2 t3 t4 : Nat} {v1 v2 v3 v4 : Value} (hf : f.results = #[.tmp t1, .tmp t2, .tmp t3, .tmp t4]) (h1 : env.get t1 = some v1) (h2 : env.get t2 = some v2) (h3 : env.get t3 = some v3) (h4 : env.get t4 = some v4)
    (h : C (.returned (.tuple #[v1, v2, v3, v4])) w) : WX P n [] .ret (.fn f C) env w := by
  refine WX.end_ret (vs := fun _ => True) rfl fun a ha => ⟨_, ?_, h⟩
  have g1 := ha.get _ _ h1
  have g2 := ha.get _ _ h2
  have g3 := ha.get _ _ h3
  have g4 := ha.get _ _ h4
  rw [Array.getD_eq_getD_getElem?] at g1 g2 g3 g4
  simp [results, hf, g1, g2, g3, g4]
theorem WX.ret3 {P : Program} {n : Nat} {env : Env} {w : World} {f : Func} {C : Ending → World → Prop} {t1 t2 t3 : Nat} {v1 v2 v3 : Value} (hf : f.results = #[.tmp t1, .tmp t2, .tmp t3]) (h1 : env.get t1 = some v1) (h2 : env.get t2 = some v2) (h3 : env.get t3 = some v3)
    (h : C (.returned (.tuple #[v1, v2, v3])) w) : WX P n [] .ret (.fn f C) env w := by
  refine WX.end_ret (vs := fun _ => True) rfl fun a ha => ⟨_, ?_, h⟩
  have g1 := ha.get _ _ h1
  have g2 := ha.get _ _ h2
  have g3 := ha.get _ _ h3
  rw [Array.getD_eq_getD_getElem?] at g1 g2 g3
  simp [results, hf, g1, g2, g3]

/-- Bytes cut or filled up with noughts to a length. -/
def padTo (n : Nat) (l : List UInt8) : List UInt8 := l.take n ++ List.replicate (n - l.length) 0
theorem padTo_length (n : Nat) (l : List UInt8) : (padTo n l).length = n := by simp [padTo]; omega
theorem padTo_cells (n : Nat) (l : List UInt8) : setL (List.replicate n (B 0)) 0 ((l.take n).map B) = (padTo n l).map B := by
  have h : n - ((l.take n).map B).length = n - l.length := by simp; omega
  rw [setL_at _ _ _ (by simp; omega), padTo, Nat.zero_add, List.drop_replicate, h, List.map_append, List.map_replicate, List.take_zero, List.nil_append]
theorem padTo_nil (n : Nat) : padTo n [] = List.replicate n 0 := by simp [padTo]
end Go.Bw
