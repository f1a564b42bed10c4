/- The document's own field, and rows. -/
import Derived.Test.YtdibepkfgemddaaGreatSame
import Derived.Test.YtdibepkfgemddaaGreatGf
import Derived.Test.YtdibepkfgemddaaGreatOps4
namespace Go.Bw
set_option linter.unusedVariables false
set_option linter.unusedSimpArgs false
open Go.Proofs

theorem u8_tmod2 (b : UInt8) : ((b.toNat : Int).tmod 2) = ((b % 2).toNat : Int) := by
  rw [UInt8.toNat_mod]; rfl
theorem u8_tdiv2 (b : UInt8) : IntKind.u8.wrap ((b.toNat : Int).tdiv 2) = ((b / 2).toNat : Int) := by
  have h : (b.toNat : Int).tdiv 2 = ((b.toNat / 2 : Nat) : Int) := rfl
  rw [h, u8_wrap, UInt8.toNat_div]
  have := b.toNat_lt
  rw [Nat.mod_eq_of_lt (by omega)]
  rfl

set_option maxRecDepth 20000 in
set_option maxHeartbeats 2000000 in
theorem refMul_ok (a b : UInt8) (H0 : Hp) (w0 : World) (h0 : Sub H0 w0) : Calls Tryz.prog 149 #[B a, B b] w0 (Pure H0 w0 fun v _ => v = B (mul a b)) := by
  have hs := HS.init h0
  have hle := Hp.le.refl H0
  obtain ⟨RR, hRR⟩ : ∃ RR, RR = rmul 8 a b 0 := ⟨_, rfl⟩
  refine Calls.enter (args := [B a, B b]) Tryz.func149 rfl Tryz.ntmps149 rfl ?_
  refine WC.seq (WC.region (WO.step rfl (OR.assign rfl (WO.done (WX.seq (WC.seq (WC.region ?_)))))))
  refine WO.step rfl (OR.assign rfl (WO.done (WX.seq (WC.seq (WC.seq (WC.region (WO.step rfl ?_)))))))
  refine OR.assign rfl (WO.done (WX.seq (WC.block ?_)))
  refine WC.loop (ι := Nat × UInt8 × UInt8 × UInt8) (fun ix => [(0, B ix.2.1), (1, B ix.2.2.1), (5, B ix.2.2.2), (6, .int .i64 (ix.1 : Int))]) (fun ix w => (ix.1 ≤ 8 ∧ RR = rmul (8 - ix.1) ix.2.1 ix.2.2.1 ix.2.2.2 ∧ ∃ H, Hp.le H0 H ∧ HS [] H0 w0 H [] w)) (fun ix => 8 - ix.1) (0, a, b, 0) ⟨rfl, rfl, rfl, rfl,  trivial⟩ ?_ (fun ix w hW => ?_)
  · exact ⟨by omega, hRR, H0, hle, hs⟩
  obtain ⟨k, x, y, z⟩ := ix
  obtain ⟨hk, hr, H, hle, hs⟩ := hW
  simp only at hk hr
  refine WC.seq (WC.seq (WC.region (WO.step rfl (OR.move rfl (WO.step rfl (OR.lss rfl rfl (WO.done ?_)))))))
  refine WX.seq ?_
  refine WC.condD rfl (fun hlt => ?_) (fun hlt => ?_)
  · have e : 8 - k = (8 - (k + 1)) + 1 := by omega
    rw [e, rmul] at hr
    refine WC.skip (WX.seq (WC.seq (WC.block (WC.seq (WC.seq (WC.region (WO.step rfl ?_)))))))
    refine OR.move rfl ?_
    refine WO.step rfl (OR.rem rfl rfl (by omega) ?_)
    rw [u8_tmod2]
    refine WO.step rfl (OR.eql rfl rfl (WO.done (WX.seq ?_)))
    refine WC.condD rfl (fun hb => ?_) (fun hb => ?_)
    · have hb' : y % 2 = 1 := UInt8.toNat_inj.1 (by have : ((y % 2).toNat : Int) = 1 := hb; show (y % 2).toNat = 1; omega)
      rw [if_pos hb'] at hr
      refine WC.region (WO.step rfl (OR.move rfl (WO.step rfl (OR.move rfl (WO.step rfl (OR.xorB _ _ rfl rfl rfl rfl (WO.step rfl ?_)))))))
      refine OR.assign rfl (WO.done (WX.seq (WC.seq (WC.region (WO.step rfl (OR.move rfl ?_))))))
      refine WO.step rfl (OR.quo rfl rfl (by omega) ?_)
      rw [u8_tdiv2]
      refine WO.step rfl (OR.assign rfl (WO.done (WX.seq (WC.seq (WC.region (WO.step rfl (OR.move rfl ?_)))))))
      refine WO.step rfl (OR.geq rfl rfl (WO.done (WX.seq ?_)))
      refine WC.condD rfl (fun hc => ?_) (fun hc => ?_)
      · refine WC.region (WO.step rfl (OR.move rfl ?_))
        refine WO.step rfl (OR.shl rfl rfl (by omega) ?_)
        rw [u8_shl1]
        have hx : x ≥ 128 := by rw [ge_iff_le, UInt8.le_iff_toNat_le]; have : (128 : Int) ≤ x.toNat := hc; simp; omega
        have hxt : xt x = (x <<< 1) ^^^ 27 := by rw [xt, if_pos hx]
        refine WO.step rfl (OR.xorB _ 27 rfl rfl rfl rfl (WO.step rfl (OR.assign rfl (WO.done (WX.block (WX.seq (WC.region ?_)))))))
        refine WO.step rfl (OR.move rfl (WO.step rfl (OR.addI rfl rfl (by omega) (by omega) (WO.step rfl (OR.assign rfl (WO.done ?_))))))
        refine WX.again ((k + 1, (x <<< 1) ^^^ 27, y / 2, z ^^^ x)) ⟨rfl, rfl, rfl, rfl,  trivial⟩ ?_ ?_
        · exact ⟨by omega, by rw [hxt] at hr; exact hr, H, hle, hs⟩
        · simp only; omega
      · refine WC.region (WO.step rfl (OR.move rfl ?_))
        refine WO.step rfl (OR.shl rfl rfl (by omega) ?_)
        rw [u8_shl1]
        have hx : ¬ x ≥ 128 := by rw [ge_iff_le, UInt8.le_iff_toNat_le]; have : ¬ (128 : Int) ≤ x.toNat := hc; simp; omega
        have hxt : xt x = (x <<< 1) := by rw [xt, if_neg hx]
        rw [← hxt]
        refine WO.step rfl (OR.assign rfl (WO.done (WX.block (WX.seq (WC.region (WO.step rfl (OR.move rfl ?_)))))))
        refine WO.step rfl (OR.addI rfl rfl (by omega) (by omega) (WO.step rfl (OR.assign rfl (WO.done ?_))))
        refine WX.again ((k + 1, xt x, y / 2, z ^^^ x)) ⟨rfl, rfl, rfl, rfl,  trivial⟩ ?_ ?_
        · exact ⟨by omega, hr, H, hle, hs⟩
        · simp only; omega
    · have hb' : ¬ y % 2 = 1 := fun h => hb (by rw [h]; rfl)
      rw [if_neg hb'] at hr
      refine WC.skip (WX.seq (WC.seq (WC.region (WO.step rfl (OR.move rfl ?_)))))
      refine WO.step rfl (OR.quo rfl rfl (by omega) ?_)
      rw [u8_tdiv2]
      refine WO.step rfl (OR.assign rfl (WO.done (WX.seq (WC.seq (WC.region (WO.step rfl (OR.move rfl ?_)))))))
      refine WO.step rfl (OR.geq rfl rfl (WO.done (WX.seq ?_)))
      refine WC.condD rfl (fun hc => ?_) (fun hc => ?_)
      · refine WC.region (WO.step rfl (OR.move rfl ?_))
        refine WO.step rfl (OR.shl rfl rfl (by omega) ?_)
        rw [u8_shl1]
        have hx : x ≥ 128 := by rw [ge_iff_le, UInt8.le_iff_toNat_le]; have : (128 : Int) ≤ x.toNat := hc; simp; omega
        have hxt : xt x = (x <<< 1) ^^^ 27 := by rw [xt, if_pos hx]
        refine WO.step rfl (OR.xorB _ 27 rfl rfl rfl rfl (WO.step rfl (OR.assign rfl (WO.done (WX.block (WX.seq (WC.region ?_)))))))
        refine WO.step rfl (OR.move rfl (WO.step rfl (OR.addI rfl rfl (by omega) (by omega) (WO.step rfl (OR.assign rfl (WO.done ?_))))))
        refine WX.again ((k + 1, (x <<< 1) ^^^ 27, y / 2, z)) ⟨rfl, rfl, rfl, rfl,  trivial⟩ ?_ ?_
        · exact ⟨by omega, by rw [hxt] at hr; exact hr, H, hle, hs⟩
        · simp only; omega
      · refine WC.region (WO.step rfl (OR.move rfl ?_))
        refine WO.step rfl (OR.shl rfl rfl (by omega) ?_)
        rw [u8_shl1]
        have hx : ¬ x ≥ 128 := by rw [ge_iff_le, UInt8.le_iff_toNat_le]; have : ¬ (128 : Int) ≤ x.toNat := hc; simp; omega
        have hxt : xt x = (x <<< 1) := by rw [xt, if_neg hx]
        rw [← hxt]
        refine WO.step rfl (OR.assign rfl (WO.done (WX.block (WX.seq (WC.region (WO.step rfl (OR.move rfl ?_)))))))
        refine WO.step rfl (OR.addI rfl rfl (by omega) (by omega) (WO.step rfl (OR.assign rfl (WO.done ?_))))
        refine WX.again ((k + 1, xt x, y / 2, z)) ⟨rfl, rfl, rfl, rfl,  trivial⟩ ?_ ?_
        · exact ⟨by omega, hr, H, hle, hs⟩
        · simp only; omega
  · have e : k = 8 := by omega
    subst e
    refine WC.exit (WX.seq_exit (WX.loop_exit (WX.block_hit (WX.seq (WC.seq (WC.region (WO.step rfl ?_)))))))
    refine OR.move rfl (WO.step rfl (OR.assign rfl (WO.done (WX.seq (WC.ret ?_)))))
    refine WX.ret1 rfl rfl ?_
    refine .mk hs ?_
    have h1 := rmul_ok 8 a b 0 (by have := b.toNat_lt; omega)
    rw [← hRR, hr, zero_xor8] at h1
    rw [← h1]; rfl

set_option maxRecDepth 20000 in
set_option maxHeartbeats 2000000 in
theorem refOwn_ok (v : Value) (l : List UInt8) (H0 : Hp) (w0 : World) (h0 : Sub H0 w0) (hv : Bytes H0 v l) (hl : l.length ≤ 140737488355328) :
    Calls Tryz.prog 133 #[v] w0 (Ret [] H0 w0 fun v H' M' => H' = H0 ∧ Own w0.heap.size 5 1 v l.length (l.map B) M') := by
  have hs := HS.init h0
  obtain ⟨base, cp, rfl⟩ := hv.form
  refine Calls.enter (args := [.slice base l.length cp]) Tryz.func133 rfl Tryz.ntmps133 rfl ?_
  refine WC.seq (WC.region (WO.step rfl (OR.assign rfl (WO.done (WX.seq (WC.seq (WC.region ?_)))))))
  refine WO.step rfl (OR.assign rfl (WO.done (WX.seq (WC.seq (WC.region (WO.step rfl (OR.move rfl ?_)))))))
  refine WO.step rfl (OR.move rfl ?_)
  refine WO.step rfl (OR.append (n := 0) (cs := []) (news := l.map B) (Mo := []) (M := []) hs (Own.nil _ _ _) T43.und T5 rfl (by omega) rfl rfl (by simp) (Sl.src hv hs) (Sl.src0 hv) (bytes_one l) (by omega) (by omega) ?_)
  clear hs; intro v' w Mo hs ho hge
  refine WO.step rfl (OR.assign rfl (WO.done (WX.seq (WC.ret ?_))))
  refine WX.ret1 rfl rfl ?_
  rw [Nat.zero_add, List.nil_append] at ho
  exact ⟨_, H0, Mo, rfl, by simpa using hs, ho.tt, rfl, ho⟩

-- left out, for this seat has no braidworklaw07.R: theorem R_ok (c p
/-- The first k done. -/
def updZ (f : UInt8 → UInt8 → UInt8) (a b : List UInt8) (k : Nat) : List UInt8 := (List.zipWith f a b).take k ++ a.drop k
theorem updZ_len (f : UInt8 → UInt8 → UInt8) (a b : List UInt8) (k : Nat) (h : a.length = b.length) : (updZ f a b k).length = a.length := by simp [updZ]; omega
theorem updZ_at (f : UInt8 → UInt8 → UInt8) (a b : List UInt8) (k : Nat) (h : a.length = b.length) (hk : k < a.length) : (updZ f a b k)[k]? = some a[k] := by
  unfold updZ
  rw [List.getElem?_append_right (by simp; omega)]
  have e : k - ((List.zipWith f a b).take k).length = 0 := by simp; omega
  rw [e, List.drop_eq_getElem_cons hk]
  rfl
theorem updZ_step (f : UInt8 → UInt8 → UInt8) (a b : List UInt8) (k : Nat) (h : a.length = b.length) (hk : k < a.length) (hb : k < b.length) : (updZ f a b k).set k (f a[k] b[k]) = updZ f a b (k + 1) := by
  unfold updZ
  rw [List.take_succ_eq_append_getElem (by simp; omega), List.set_append_right _ _ (by simp; omega)]
  have e : k - ((List.zipWith f a b).take k).length = 0 := by simp; omega
  rw [e, List.drop_eq_getElem_cons hk, List.set_cons_zero, List.append_assoc, List.getElem_zipWith]
  rfl
set_option maxRecDepth 20000 in
set_option maxHeartbeats 2000000 in
/-- Bytes, and others multiplied with an element. -/
theorem refPlus_ok (va vb : Value) (a b : List UInt8) (c : UInt8) (H0 : Hp) (w0 : World) (h0 : Sub H0 w0) (ha : Bytes H0 va a) (hb : Bytes H0 vb b) (hl : a.length ≤ 140737488355328) (hlen : a.length = b.length) :
    Calls Tryz.prog 111 #[va, vb, B c] w0 (Pure H0 w0 fun v H' => Bytes H' v (addS c a b)) := by
  have hs := HS.init h0
  have hle := Hp.le.refl H0
  obtain ⟨ba, ca, rfl⟩ := ha.form
  obtain ⟨bb, cb, rfl⟩ := hb.form
  refine Calls.enter (args := [.slice ba a.length ca, .slice bb b.length cb, B c]) Tryz.func111 rfl Tryz.ntmps111 rfl ?_
  refine WC.seq (WC.region (WO.step rfl (OR.assign rfl (WO.done (WX.seq (WC.seq (WC.region ?_)))))))
  refine WO.step rfl (OR.move rfl ?_)
  refine WO.step rfl (OR.callX (Mx := []) hs body133 rfl rfl (refOwn_ok _ _ _ _ hs.toSub ha hl) rfl rfl ?_)
  clear hs; rintro _ H Mo w hs hle1 hnew ⟨_, ho⟩; replace hle := hle.trans hle1; (try replace hlb := hlb.trans hle1)
  obtain ⟨bo, co, rfl⟩ := ho.form
  refine WO.step rfl (OR.assign rfl (WO.done (WX.seq (WC.seq (WC.seq (WC.region (WO.step rfl ?_)))))))
  refine OR.assign rfl (WO.done (WX.seq (WC.block ?_)))
  refine WC.loop (ι := Nat) (fun k => [(1, .slice bb b.length cb), (2, B c), (7, .slice bo a.length co), (8, .int .i64 (k : Int))]) (fun k w => (k ≤ a.length ∧ ∃ H Mo, Hp.le H0 H ∧ Own w0.heap.size 5 1 (.slice bo a.length co) a.length ((updZ (fun x y => x ^^^ mul y c) a b k).map B) Mo ∧ HS [] H0 w0 H (Mo ++ []) w)) (fun k => a.length - k) 0 ⟨rfl, rfl, rfl, rfl,  trivial⟩ ?_ (fun k w hW => ?_)
  · exact ⟨by omega, _, _, hle, by simpa [updZ] using ho, hs⟩
  obtain ⟨hk, H, Mo, hle, ho, hs⟩ := hW
  refine WC.seq (WC.seq (WC.region (WO.step rfl (OR.move rfl (WO.step rfl (OR.move rfl (WO.step rfl ?_)))))))
  refine OR.lenSlice T43.und rfl (WO.step rfl (OR.lss rfl rfl (WO.done (WX.seq ?_))))
  refine WC.condD rfl (fun hlt => ?_) (fun hlt => ?_)
  · have hka : k < a.length := by omega
    have hkb : k < b.length := by omega
    obtain ⟨yb, yo, rfl, hcy⟩ := hb.pos (by omega)
    obtain ⟨hcl, ⟨rfl, hq9, h09⟩ | ⟨g3, cc, cap, rfl, hveq, hnc9, hcc, hxx, hg3⟩⟩ := ho
    · omega
    cases hveq
    have hat := updZ_at (fun x y => x ^^^ mul y c) a b k hlen hka
    have hcel : cc.toList[k]? = some (B a[k]) := by
      refine get_take (k := a.length * 1) ?_
      rw [hxx, List.getElem?_map, hat]
      rfl
    refine WC.skip (WX.seq (WC.seq (WC.block ?_)))
    refine WC.draw 13 mixed hs (by kernel_rfl) ?_
    refine ⟨MF.eq _, by intro Mx H w hle hs; refine forVals_nil (ORg.plain (OR.move rfl ?_)); exact ⟨_, [], Hp.le.refl _, hs, rfl, rfl⟩, ?_⟩
    refine ⟨MF.eq _, by intro Mx H w hle hs; refine forVals_nil (ORg.plain (OR.move rfl ?_)); exact ⟨_, [], Hp.le.refl _, hs, rfl, rfl⟩, ?_⟩
    refine ⟨MF.eq _, by intro Mx H w hle hs; refine forVals_nil (ORg.plain (OR.move rfl ?_)); exact ⟨_, [], Hp.le.refl _, hs, rfl, rfl⟩, ?_⟩
    refine ⟨MF.eq _, by intro Mx H w hle hs; refine forVals_nil (ORg.plain (OR.move rfl ?_)); exact ⟨_, [], Hp.le.refl _, hs, rfl, rfl⟩, ?_⟩
    refine ⟨MF.eq (.pointer (some ⟨g3, 0 + k, none⟩)), ?_, ?_⟩
    · intro Mx H w hle2 hs; (try replace hle := hle.trans hle2); (try replace hlb := hlb.trans hle2); refine forVals_eq rfl rfl rfl ?_; refine forVals_eq rfl rfl rfl ?_
      refine forVals_nil (ORg.plain (OR.idx k T43.und T5 rfl rfl rfl hka ?_))
      exact ⟨_, [], Hp.le.refl _, hs, rfl, rfl⟩
    refine ⟨MF.eq (B a[k]), ?_, ?_⟩
    · intro Mx H w hle2 hs; (try replace hle := hle.trans hle2); (try replace hlb := hlb.trans hle2); refine forVals_eq rfl rfl rfl ?_
      refine forVals_nil (ORg.plain (OR.load T5 rfl rfl (by rw [Nat.zero_add]; exact hs.right.cellM (i := 0) rfl (by rw [nth_eq]; exact hcel)) ?_))
      exact ⟨_, [], Hp.le.refl _, hs, rfl, rfl⟩
    refine ⟨MF.eq _, by intro Mx H w hle hs; refine forVals_nil (ORg.plain (OR.move rfl ?_)); exact ⟨_, [], Hp.le.refl _, hs, rfl, rfl⟩, ?_⟩
    refine ⟨MF.eq _, by intro Mx H w hle hs; refine forVals_nil (ORg.plain (OR.move rfl ?_)); exact ⟨_, [], Hp.le.refl _, hs, rfl, rfl⟩, ?_⟩
    refine ⟨MF.eq (.pointer (some ⟨yb, yo + k, none⟩)), ?_, ?_⟩
    · intro Mx H w hle2 hs; (try replace hle := hle.trans hle2); (try replace hlb := hlb.trans hle2); refine forVals_eq rfl rfl rfl ?_; refine forVals_eq rfl rfl rfl ?_
      refine forVals_nil (ORg.plain (OR.idx k T43.und T5 rfl rfl rfl hkb ?_))
      exact ⟨_, [], Hp.le.refl _, hs, rfl, rfl⟩
    refine ⟨MF.eq (B b[k]), ?_, ?_⟩
    · intro Mx H w hle2 hs; (try replace hle := hle.trans hle2); (try replace hlb := hlb.trans hle2); refine forVals_eq rfl rfl rfl ?_
      refine forVals_nil (ORg.plain (OR.load T5 rfl rfl (hs.cell (hcell.mono hle (hcy k hkb))) ?_))
      exact ⟨_, [], Hp.le.refl _, hs, rfl, rfl⟩
    refine ⟨MF.eq _, by intro Mx H w hle hs; refine forVals_nil (ORg.plain (OR.move rfl ?_)); exact ⟨_, [], Hp.le.refl _, hs, rfl, rfl⟩, ?_⟩
    refine ⟨MF.eq (B (mul b[k] c)), ?_, ?_⟩
    · intro Mx H w hle2 hs; (try replace hle := hle.trans hle2); (try replace hlb := hlb.trans hle2); refine forVals_eq rfl rfl rfl ?_; refine forVals_eq rfl rfl rfl ?_
      refine forVals_nil (ORg.plain (OR.call hs body149 rfl rfl (refMul_ok b[k] c _ _ hs.toSub) ?_))
      clear hs; rintro _ H w hs hle1 rfl
      exact ⟨_, [], hle1, hs, rfl, rfl⟩
    refine ⟨MF.eq _, by intro Mx H w hle hs; refine forVals_eq rfl rfl rfl ?_; refine forVals_eq rfl rfl rfl ?_; refine forVals_nil (ORg.plain (OR.xorB _ _ rfl rfl rfl rfl ?_)); exact ⟨_, [], Hp.le.refl _, hs, rfl, rfl⟩, ?_⟩
    intro H w hle2; (try replace hle := hle.trans hle2); (try replace hlb := hlb.trans hle2)
    refine forAllVals_eq rfl ?_
    refine forAllVals_eq rfl ?_
    refine forAllVals_eq rfl ?_
    refine forAllVals_eq rfl ?_
    refine forAllVals_eq rfl ?_
    refine forAllVals_eq rfl ?_
    refine forAllVals_eq rfl ?_
    refine forAllVals_eq rfl ?_
    refine forAllVals_eq rfl ?_
    refine forAllVals_eq rfl ?_
    refine forAllVals_eq rfl ?_
    refine forAllVals_eq rfl ?_
    refine forAllVals_eq rfl ?_
    refine forAllVals_nil ?_; (try clear hs); intro hs
    refine WO.step rfl (OR.idx k T43.und T5 rfl rfl rfl hka ?_)
    refine WO.stepN (OR.store hs T5 rfl rfl rfl (by rw [hcc]; omega) rfl ?_)
    clear hs; intro w hs
    refine WO.done (WX.block (WX.seq (WC.region (WO.step rfl (OR.move rfl (WO.step rfl (OR.addI rfl rfl (by omega) (by omega) ?_)))))))
    refine WO.step rfl (OR.assign rfl (WO.done ?_))
    refine WX.again (k + 1) ⟨rfl, rfl, rfl, rfl,  trivial⟩ ?_ ?_
    · refine ⟨hka, _, [_], hle, Own.block hnc9 ?_ ?_ hg3, hs⟩
      · simp [setL_length, hcc]
      · rw [← updZ_step _ _ _ _ hlen hka hkb, List.map_set, ← hxx, Nat.zero_add]
        have := take_setL cc.toList k (a.length * 1) [B (a[k] ^^^ mul b[k] c)] (by show k + 1 ≤ a.length * 1; omega) (Nat.le_trans (Nat.mul_le_mul_right 1 hnc9) (Nat.le_of_eq hcc.symm))
        rw [setL_step cc.toList, setL_step (List.take _ _), setL_nil, setL_nil] at this
        rw [← this]
        show List.take _ (setL cc.toList k [B _]) = _
        rw [setL_step, setL_nil]
    · omega
  · have e : k = a.length := by omega
    subst e
    refine WC.exit (WX.seq_exit (WX.loop_exit (WX.block_hit (WX.seq (WC.seq (WC.region (WO.step rfl ?_)))))))
    refine OR.move rfl (WO.step rfl (OR.assign rfl (WO.done (WX.seq (WC.ret ?_)))))
    refine WX.ret1 rfl rfl ?_
    obtain ⟨H2, hle2, hs2, hsl, _⟩ := HS.pub hs ho
    refine .mk hs2 ?_
    have : addS c a b = updZ (fun x y => x ^^^ mul y c) a b a.length := by
      rw [addS, eachR, if_pos hlen, updZ]
      simp
      rw [List.take_of_length_le (by simp; omega)]
    unfold Bytes
    rw [this, updZ_len _ _ _ _ hlen]
    exact hsl

end Go.Bw
namespace Go.Bw
set_option linter.unusedVariables false
set_option linter.unusedSimpArgs false
open Go.Proofs

theorem zip_takeR {α β : Type} : ∀ (a : List α) (b : List β), a.zip (b.take a.length) = a.zip b
  | [], b => by simp
  | x :: a, [] => by simp
  | x :: a, y :: b => by simp [zip_takeR a b]
theorem zip_takeL {α β : Type} : ∀ (a : List α) (b : List β), (a.take b.length).zip b = a.zip b
  | [], b => by simp
  | x :: a, [] => by simp
  | x :: a, y :: b => by simp [zip_takeL a b]

set_option maxRecDepth 20000 in
set_option maxHeartbeats 2000000 in
theorem times_ok (vc vs : Value) (c : List UInt8) (syms : List (List UInt8)) (s : Nat) (H0 : Hp) (w0 : World) (h0 : Sub H0 w0) (hc : Bytes H0 vc c) (hv : BytesL H0 vs syms) (hrow : ∀ r ∈ syms, r.length = s) (hsm : s ≤ 65535)
    (hlc : c.length ≤ 100000) (hls : syms.length ≤ 100000) :
    Calls Tryz.prog 52 #[vc, vs, .int .i64 (s : Int)] w0 (Pure H0 w0 fun v H' => Bytes H' v (comb s syms c)) := by
  have hs := HS.init h0
  have hle := Hp.le.refl H0
  obtain ⟨bc, cc, rfl⟩ := hc.form
  obtain ⟨bv, cv, rfl⟩ := hv.form
  refine Calls.enter (args := [.slice bc c.length cc, .slice bv syms.length cv, .int .i64 (s : Int)]) Tryz.func52 rfl Tryz.ntmps52 rfl ?_
  refine WC.seq (WC.region (WO.step rfl (OR.assign rfl (WO.done (WX.seq (WC.seq (WC.region ?_)))))))
  refine WO.step rfl (OR.move rfl ?_)
  refine WO.step rfl (OR.make1 hs T43.und T5 rfl rfl rfl (by omega) (by omega) ?_)
  clear hs; intro g1 w hg1 hs
  refine WO.step rfl (OR.assign rfl (WO.done (WX.seq (WC.seq (WC.seq (WC.region (WO.step rfl ?_)))))))
  refine OR.assign rfl (WO.done (WX.seq (WC.block ?_)))
  obtain ⟨H, hle1, hp_g1, hs9⟩ := hs.pub1 hg1; clear hs; have hs := hs9; clear hs9; replace hle := hle.trans hle1; (try replace hlb := hlb.trans hle1)
  have hz : Bytes H (.slice (some ⟨g1, 0, none⟩) s s) (List.replicate s 0) := by have := Bytes.block (l := List.replicate s 0) (cap := s) hp_g1 (by simp) (by simp); rwa [List.length_replicate] at this
  refine WC.loop (ι := Nat × Value) (fun ix => [(0, .slice bc c.length cc), (1, .slice bv syms.length cv), (2, .int .i64 (s : Int)), (7, ix.2), (8, .int .i64 (ix.1 : Int))]) (fun ix w => (ix.1 ≤ c.length ∧ ix.1 ≤ syms.length ∧ ∃ H, Hp.le H0 H ∧ Bytes H ix.2 (comb s (syms.take ix.1) (c.take ix.1)) ∧ HS [] H0 w0 H [] w)) (fun ix => c.length - ix.1) (0, .slice (some ⟨g1, 0, none⟩) s s) ⟨rfl, rfl, rfl, rfl, rfl,  trivial⟩ ?_ (fun ix w hW => ?_)
  · refine ⟨by omega, by omega, H, hle, ?_, hs⟩
    simpa [comb] using hz
  obtain ⟨k, vo⟩ := ix
  obtain ⟨hk1, hk2, H, hle, ho, hs⟩ := hW
  simp only at hk1 hk2 ho
  refine WC.seq (WC.seq (WC.region (WO.step rfl (OR.move rfl (WO.step rfl (OR.move rfl (WO.step rfl ?_)))))))
  refine OR.lenSlice T43.und rfl (WO.step rfl (OR.lss rfl rfl (WO.step rfl (OR.move rfl ?_))))
  refine WO.guardSplit (j := 4) rfl (fun hq => ?_) (fun hq => ?_)
  · refine WO.guardYes rfl (decide_eq_true hq) rfl rfl (OR.move rfl (WO.guardYes rfl (decide_eq_true hq) rfl rfl (OR.move rfl (WO.guardYes rfl (decide_eq_true hq) rfl rfl (OR.lenSlice T40.und rfl (WO.guardYes rfl (decide_eq_true hq) rfl rfl (OR.lss rfl rfl ?_)))))))
    refine WO.step rfl (OR.pickT rfl (decide_eq_true hq) rfl (WO.done (WX.seq ?_)))
    refine WC.condD rfl (fun hq2 => ?_) (fun hq2 => ?_)
    · have h1 : k < c.length := by omega
      have h2 : k < syms.length := by omega
      obtain ⟨xb, xo, rfl, hcx⟩ := hc.pos (by omega)
      obtain ⟨yb, yo, rfl, hcy⟩ := hv.pos (by omega)
      obtain ⟨e, hce, hbe⟩ := hcy k h2
      have hl := hrow syms[k] (List.getElem_mem _)
      have hcl := comb_length s (syms.take k) (c.take k) (fun r hr => hrow r (List.mem_of_mem_take hr))
      obtain ⟨be, ce, rfl⟩ := hbe.form
      obtain ⟨_, _, rfl⟩ := ho.form
      refine WC.skip (WX.seq (WC.seq (WC.block ?_)))
      refine WC.draw 10 mixed hs (by kernel_rfl) ?_
      refine ⟨MF.eq _, by intro Mx H w hle hs; refine forVals_nil (ORg.plain (OR.move rfl ?_)); exact ⟨_, [], Hp.le.refl _, hs, rfl, rfl⟩, ?_⟩
      refine ⟨MF.eq _, by intro Mx H w hle hs; refine forVals_nil (ORg.plain (OR.move rfl ?_)); exact ⟨_, [], Hp.le.refl _, hs, rfl, rfl⟩, ?_⟩
      refine ⟨MF.eq _, by intro Mx H w hle hs; refine forVals_nil (ORg.plain (OR.move rfl ?_)); exact ⟨_, [], Hp.le.refl _, hs, rfl, rfl⟩, ?_⟩
      refine ⟨MF.eq (.pointer (some ⟨yb, yo + k, none⟩)), ?_, ?_⟩
      · intro Mx H w hle2 hs; (try replace hle := hle.trans hle2); (try replace hlb := hlb.trans hle2); refine forVals_eq rfl rfl rfl ?_; refine forVals_eq rfl rfl rfl ?_
        refine forVals_nil (ORg.plain (OR.idx k T40.und T43 rfl rfl rfl h2 ?_))
        exact ⟨_, [], Hp.le.refl _, hs, rfl, rfl⟩
      refine ⟨MF.eq (.slice be syms[k].length ce), ?_, ?_⟩
      · intro Mx H w hle2 hs; (try replace hle := hle.trans hle2); (try replace hlb := hlb.trans hle2); refine forVals_eq rfl rfl rfl ?_
        refine forVals_nil (ORg.plain (OR.load T43 rfl rfl (hs.cell (hcell.mono hle hce)) ?_))
        exact ⟨_, [], Hp.le.refl _, hs, rfl, rfl⟩
      refine ⟨MF.eq _, by intro Mx H w hle hs; refine forVals_nil (ORg.plain (OR.move rfl ?_)); exact ⟨_, [], Hp.le.refl _, hs, rfl, rfl⟩, ?_⟩
      refine ⟨MF.eq _, by intro Mx H w hle hs; refine forVals_nil (ORg.plain (OR.move rfl ?_)); exact ⟨_, [], Hp.le.refl _, hs, rfl, rfl⟩, ?_⟩
      refine ⟨MF.eq (.pointer (some ⟨xb, xo + k, none⟩)), ?_, ?_⟩
      · intro Mx H w hle2 hs; (try replace hle := hle.trans hle2); (try replace hlb := hlb.trans hle2); refine forVals_eq rfl rfl rfl ?_; refine forVals_eq rfl rfl rfl ?_
        refine forVals_nil (ORg.plain (OR.idx k T43.und T5 rfl rfl rfl h1 ?_))
        exact ⟨_, [], Hp.le.refl _, hs, rfl, rfl⟩
      refine ⟨MF.eq (B c[k]), ?_, ?_⟩
      · intro Mx H w hle2 hs; (try replace hle := hle.trans hle2); (try replace hlb := hlb.trans hle2); refine forVals_eq rfl rfl rfl ?_
        refine forVals_nil (ORg.plain (OR.load T5 rfl rfl (hs.cell (hcell.mono hle (hcx k h1))) ?_))
        exact ⟨_, [], Hp.le.refl _, hs, rfl, rfl⟩
      refine ⟨MF.bytes (comb s (syms.take (k + 1)) (c.take (k + 1))), ?_, ?_⟩
      · intro Mx H w hle2 hs; (try replace hle := hle.trans hle2); (try replace hlb := hlb.trans hle2); refine forVals_eq rfl rfl rfl ?_; refine forVals_eq rfl rfl rfl ?_; refine forVals_eq rfl rfl rfl ?_
        refine forVals_nil (ORg.plain (OR.call hs body111 rfl rfl (refPlus_ok _ _ (comb s (syms.take k) (c.take k)) syms[k] c[k] _ _ hs.toSub (ho.mono hle2) (hbe.mono hle) (by rw [hcl]; omega) (by rw [hcl, hl])) ?_))
        clear hs; rintro _ H w hs hle1 hr
        exact ⟨_, [], hle1, hs, (by rw [comb_step _ _ _ _ h2 h1]; exact hr), rfl⟩
      intro H w hle2; (try replace hle := hle.trans hle2); (try replace hlb := hlb.trans hle2)
      refine forAllVals_eq rfl ?_
      refine forAllVals_eq rfl ?_
      refine forAllVals_eq rfl ?_
      refine forAllVals_eq rfl ?_
      refine forAllVals_eq rfl ?_
      refine forAllVals_eq rfl ?_
      refine forAllVals_eq rfl ?_
      refine forAllVals_eq rfl ?_
      refine forAllVals_eq rfl ?_
      refine forAllVals_of rfl ?_; intro v9 h9
      refine forAllVals_nil ?_; (try clear hs); intro hs
      obtain ⟨b9, c9, rfl⟩ := h9.form
      refine WO.step rfl (OR.assign rfl (WO.done (WX.block (WX.seq (WC.region (WO.step rfl (OR.move rfl ?_)))))))
      refine WO.step rfl (OR.addI rfl rfl (by omega) (by omega) (WO.step rfl (OR.assign rfl (WO.done ?_))))
      refine WX.again ((k + 1, _)) ⟨rfl, rfl, rfl, rfl, rfl,  trivial⟩ ?_ ?_
      · exact ⟨h1, h2, H, hle, h9, hs⟩
      · simp only; omega
    · have e : k = syms.length := by omega
      subst e
      refine WC.exit (WX.seq_exit (WX.loop_exit (WX.block_hit (WX.seq (WC.seq (WC.region (WO.step rfl ?_)))))))
      refine OR.move rfl (WO.step rfl (OR.assign rfl (WO.done (WX.seq (WC.ret ?_)))))
      refine WX.ret1 rfl rfl ?_
      refine .mk hs ?_
      rw [List.take_of_length_le (Nat.le_refl _)] at ho
      have e2 : comb s syms (c.take syms.length) = comb s syms c := by rw [comb, comb, zip_takeR]
      rw [← e2]; exact ho
  · have e : k = c.length := by omega
    subst e
    refine WO.guardNo rfl (decide_eq_false hq) rfl rfl (WO.guardNo rfl (decide_eq_false hq) rfl rfl (WO.guardNo rfl (decide_eq_false hq) rfl rfl (WO.guardNo rfl (decide_eq_false hq) rfl rfl (WO.step rfl (OR.pickF rfl (decide_eq_false hq) rfl (WO.done (WX.seq ?_)))))))
    refine WC.no rfl rfl (WC.exit (WX.seq_exit (WX.loop_exit (WX.block_hit (WX.seq (WC.seq (WC.region ?_)))))))
    refine WO.step rfl (OR.move rfl (WO.step rfl (OR.assign rfl (WO.done (WX.seq (WC.ret ?_))))))
    refine WX.ret1 rfl rfl ?_
    refine .mk hs ?_
    rw [List.take_of_length_le (Nat.le_refl c.length)] at ho
    have e2 : comb s (syms.take c.length) c = comb s syms c := by rw [comb, comb, zip_takeL]
    rw [← e2]; exact ho

end Go.Bw
namespace Go.Bw
set_option linter.unusedVariables false
set_option linter.unusedSimpArgs false
open Go.Proofs

/-- What laid makes. -/
def laidG (G : UInt8) : Nat := 1 + G.toNat % 10
def laidSyms (g s : Nat) (l : List (List UInt8)) : List (List UInt8) := (List.range g).map fun i => padTo s (l.getD i [])
def laidRow (g s : Nat) (syms : List (List UInt8)) (c : List UInt8) : RowD := (padTo g c, comb s syms (padTo g c))
def laidRows (g s : Nat) (syms : List (List UInt8)) (l : List (List UInt8)) : List RowD := (l.take 40).map (laidRow g s syms)

-- left out, for this seat has no (braidwork/braidworklaw07.Mix).laid: theorem laid_ok (G S
end Go.Bw
