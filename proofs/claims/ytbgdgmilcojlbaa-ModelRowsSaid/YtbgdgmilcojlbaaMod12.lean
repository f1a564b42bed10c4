/- ModelRows walked. -/
import Derived.Test.YtbgdgmilcojlbaaModD
import Derived.Test.YtbgdgmilcojlbaaLinear
namespace Go.Bw
set_option linter.unusedVariables false
set_option linter.unusedSimpArgs false
open Go.Proofs

def mG (a : UInt8) : Nat := 1 + a.toNat % 4
def mS (c : UInt8) : Nat := 5 + c.toNat % 4
theorem mGS (a c : UInt8) : goodGS (mG a) (mS c) ∧ mG a ≤ 4 ∧ mS c ≤ 8 := by
  have h1 := Nat.mod_lt a.toNat (by omega : 0 < 4)
  have h2 := Nat.mod_lt c.toNat (by omega : 0 < 4)
  have h3 : 1 * 5 ≤ mG a * mS c := Nat.mul_le_mul (by unfold mG; omega) (by unfold mS; omega)
  refine ⟨⟨by unfold mG; omega, by unfold mG; omega, by unfold mS; omega, by unfold mS; omega, ?_⟩, by unfold mG; omega, by unfold mS; omega⟩
  rw [← Int.natCast_mul]
  omega
theorem mod4 (a : UInt8) : IntKind.i64.wrap ((a.toNat : Int).tmod 4) = ((a.toNat % 4 : Nat) : Int) := by
  have h1 := Nat.mod_lt a.toNat (by omega : 0 < 4)
  have e : (a.toNat : Int).tmod 4 = ((a.toNat % 4 : Nat) : Int) := rfl
  rw [e]
  exact wrap_i64 (by omega) (by omega)
theorem xor_addS (a b : List UInt8) : eachR (fun x y => x ^^^ y) a b = addS 1 a b := by
  unfold addS
  congr 1
  funext x y
  rw [mul_one]
def mx1 (a c : UInt8) (b : List UInt8) : SrcD := mSubX (newD (mG a) (mS c) [] [] false) (b.take 60)
def mx2 (a c : UInt8) (b : List UInt8) : SrcD := mCloX (mx1 a c b)
theorem mx_facts (a c : UInt8) (b : List UInt8) : SrcOk (newD (mG a) (mS c) [] [] false) ∧ SrcOk (mx1 a c b) ∧ SrcOk (mx2 a c b) ∧ mSubE (newD (mG a) (mS c) [] [] false) (b.take 60) = 0 ∧ mFluE (mx1 a c b) = 0 ∧
    (mx1 a c b).cuts.length ≤ 9 ∧ (mx2 a c b).cuts.length ≤ 9 ∧ (mx1 a c b).g = mG a ∧ (mx1 a c b).s = mS c ∧ (mx2 a c b).g = mG a ∧ (mx2 a c b).s = mS c := by
  have h0 : SrcOk (newD (mG a) (mS c) [] [] false) := newD_ok (mGS a c).1
  obtain ⟨h1, h2, h3, h4⟩ := mSubX_ok h0 (b.take 60)
  obtain ⟨q1, q2, q3, q4⟩ := mCloX_ok h1
  have hl : (b.take 60).length ≤ 60 := by simp; omega
  have hfit : (newD (mG a) (mS c) [] [] false).st.length + (b.take 60).length ≤ 262144 := by show 0 + _ ≤ _; omega
  have e0 : mSubE (newD (mG a) (mS c) [] [] false) (b.take 60) = 0 := by
    rw [mSubE, if_neg (by show ¬ false = true; decide), if_pos hfit]
  have e1 : (mx1 a c b).cl = false := by
    show (mSubX _ _).cl = false
    rw [mSubX, if_neg (by show ¬ false = true; decide), mSubD]
    split <;> rfl
  have c1 : (mx1 a c b).cuts.length ≤ 9 := by
    show (mSubX _ _).cuts.length ≤ 9
    rw [h2]
    show 0 ≤ 9
    omega
  refine ⟨h0, h1, q1, e0, by rw [mFluE, if_neg (by rw [e1]; decide)], c1, ?_, h3, h4, q3.trans h3, q4.trans h4⟩
  have : (mx2 a c b).cuts.length ≤ (mx1 a c b).cuts.length + 1 := q2
  have h9 : (mx1 a c b).cuts.length = 0 := by
    show (mSubX _ _).cuts.length = 0
    rw [h2]
    rfl
  omega
set_option maxRecDepth 20000 in
set_option maxHeartbeats 2000000 in
theorem mrows_ok (a c gn : UInt8) (vb vx vy : Value) (b x y : List UInt8) (H0 : Hp) (w0 : World) (h0 : Sub H0 w0) (hb : Bytes H0 vb b) (hx : Bytes H0 vx x) (hy : Bytes H0 vy y) (hbl : b.length ≤ 9223372036854775807) :
    Calls Try.prog 11 #[vb, .agg #[B a, B c], vx, vy, B gn] w0 (Pure H0 w0 fun v _ => v = .bool true) := by
  have hs := HS.init h0
  have hle := Hp.le.refl H0
  obtain ⟨bb, cb, rfl⟩ := hb.form
  obtain ⟨bx, cx, rfl⟩ := hx.form
  obtain ⟨by_, cy, rfl⟩ := hy.form
  obtain ⟨hGS, hG4, hS8⟩ := mGS a c
  have hG1 : 1 ≤ mG a := by unfold mG; omega
  refine Calls.enter (args := [.slice bb b.length cb, .agg #[B a, B c], .slice bx x.length cx, .slice by_ y.length cy, B gn]) Try.func11 rfl Try.ntmps11 rfl ?_
  refine WC.seq (WC.region (WO.step rfl (OR.box hs rfl ?_)))
  clear hs; intro g1 w hg1 hs
  refine WO.step rfl (OR.assign rfl (WO.done (WX.seq (WC.seq (WC.region ?_)))))
  have hsz := hs.size
  refine WO.step rfl (OR.callX (Mx := []) hs body68 rfl rfl (three_ok _ _ hs.toSub) rfl rfl ?_)
  clear hs; rintro _ H M' w hs hle1 hnew ⟨fb, sv, rfl, rfl, hfb, hsv⟩; replace hle := hle.trans hle1; (try replace hlb := hlb.trans hle1)
  have hlb := Hp.le.refl H
  replace hfb := Nat.le_trans hsz hfb
  refine WO.step rfl (OR.alloc hs T117 ?_)
  clear hs; intro g2 w hg2 hs
  refine WO.stepN (OR.storeAll hs T117 rfl rfl rfl rfl rfl ?_)
  clear hs; intro w hs
  refine WO.done (WX.seq (WC.seq (WC.region ?_)))
  refine WO.step rfl (OR.idxArr 0 T114.und T5 rfl rfl (by omega) (by omega) ?_)
  refine WO.step rfl (OR.load T5 rfl rfl (hs.cellM (i := 2) rfl rfl) ?_)
  refine WO.step rfl (OR.rem rfl rfl (by omega) ?_)
  refine WO.step rfl (OR.convI T5.und T3.und rfl ?_)
  rw [mod4]
  refine WO.step rfl (OR.addI rfl rfl (by omega) (by omega) (WO.step rfl (OR.assign rfl (WO.done (WX.seq (WC.seq ?_))))))
  rw [show (1 : Int) + ((a.toNat % 4 : Nat) : Int) = (mG a : Int) from rfl]
  replace hs := hs.front (i := 1) rfl
  refine WC.drawS (H := fun _ => none) 13 12 (fun w => w.heap[g2]? = some (.cells #[.int .i64 3, .slice (some ⟨fb, 0, none⟩) 1 1, .int .i64 1, .int .i64 1] 117) ∧ w.heap[g1]? = some (.cells #[B a, B c] 114)) (fun w => HS [] H0 w0 H [(fb, flowObj 2 3 sv, true), (g2, .cells #[.int .i64 3, .slice (some ⟨fb, 0, none⟩) 1 1, .int .i64 1, .int .i64 1] 117, true), (g1, .cells #[B a, B c] 114, true)] w) (fun w => HS [] H0 w0 H [(fb, flowObj (mG a) 3 sv, true), (g2, .cells #[.int .i64 3, .slice (some ⟨fb, 0, none⟩) 1 1, .int .i64 1, .int .i64 1] 117, true), (g1, .cells #[B a, B c] 114, true)] w) mixed (by kernel_rfl) rfl (hs.drew) (fun w h => ⟨h.blk (i := 1) rfl, h.blk (i := 2) rfl⟩) (fun w h => ⟨h.blk (i := 1) rfl, h.blk (i := 2) rfl⟩) ?_
  refine OwedS.other (F := MF.eq _) rfl (by intro J hC w hJ; refine forVals_nil (ORg.plain (OR.fieldAddr FA117_1 rfl ?_)); exact ⟨hJ, rfl, rfl⟩) ?_
  refine OwedS.other (F := MF.eq _) rfl (by intro J hC w hJ; refine forVals_eq rfl rfl rfl ?_; refine forVals_nil (ORg.plain (OR.load T115 rfl rfl (cellAt (hC _ hJ).1 rfl) ?_)); exact ⟨hJ, rfl, rfl⟩) ?_
  refine OwedS.other (F := MF.eq _) rfl (by intro J hC w hJ; refine forVals_nil (ORg.plain (OR.fieldAddr FA117_1 rfl ?_)); exact ⟨hJ, rfl, rfl⟩) ?_
  refine OwedS.other (F := MF.eq _) rfl (by intro J hC w hJ; refine forVals_eq rfl rfl rfl ?_; refine forVals_nil (ORg.plain (OR.load T115 rfl rfl (cellAt (hC _ hJ).1 rfl) ?_)); exact ⟨hJ, rfl, rfl⟩) ?_
  refine OwedS.other (F := MF.eq _) rfl (by intro J hC w hJ; refine forVals_nil (ORg.plain (OR.move rfl ?_)); exact ⟨hJ, rfl, rfl⟩) ?_
  refine OwedS.other (F := MF.eq _) rfl (by intro J hC w hJ; refine forVals_nil (ORg.plain (OR.idxArr 1 T114.und T5 rfl rfl (by omega) (by omega) ?_)); exact ⟨hJ, rfl, rfl⟩) ?_
  refine OwedS.other (F := MF.eq _) rfl (by intro J hC w hJ; refine forVals_eq rfl rfl rfl ?_; refine forVals_nil (ORg.plain (OR.load T5 rfl rfl (cellAt (hC _ hJ).2 rfl) ?_)); exact ⟨hJ, rfl, rfl⟩) ?_
  refine OwedS.other (F := MF.eq _) rfl (by intro J hC w hJ; refine forVals_eq rfl rfl rfl ?_; refine forVals_nil (ORg.plain (OR.rem rfl rfl (by omega) ?_)); exact ⟨hJ, rfl, rfl⟩) ?_
  refine OwedS.other (F := MF.eq _) rfl (by intro J hC w hJ; refine forVals_eq rfl rfl rfl ?_; refine forVals_nil (ORg.plain (OR.convI T5.und T3.und rfl ?_)); exact ⟨hJ, rfl, rfl⟩) ?_
  refine OwedS.other (F := MF.eq _) rfl (by intro J hC w hJ; refine forVals_eq rfl rfl rfl ?_; refine forVals_nil (ORg.plain (OR.addI rfl rfl (by rw [mod4]; omega) (by rw [mod4]; omega) ?_)); exact ⟨hJ, rfl, rfl⟩) ?_
  refine OwedS.other (F := MF.eq _) rfl (by intro J hC w hJ; refine forVals_eq rfl rfl rfl ?_; refine forVals_nil (ORg.plain (OR.idxN 0 T115.und T120 rfl rfl rfl (by omega) ?_)); exact ⟨hJ, rfl, rfl⟩) ?_
  refine OwedS.other (F := MF.eq _) rfl (by intro J hC w hJ; refine forVals_eq rfl rfl rfl ?_; refine forVals_nil (ORg.plain (OR.fieldAddr FA120_0 rfl ?_)); exact ⟨hJ, rfl, rfl⟩) ?_
  refine OwedS.writer rfl ?_ ?_
  · intro w hJ; refine forVals_eq rfl rfl rfl ?_; refine forVals_eq rfl rfl rfl ?_; 
    refine forVals_nil (ORg.plain (OR.store hJ T3 rfl rfl rfl (Nat.le_of_ble_eq_true rfl) rfl ?_))
    intro w hs
    exact hs
  refine forAllVals_eq rfl ?_
  refine forAllVals_eq rfl ?_
  refine forAllVals_eq rfl ?_
  refine forAllVals_eq rfl ?_
  refine forAllVals_eq rfl ?_
  refine forAllVals_eq rfl ?_
  refine forAllVals_eq rfl ?_
  refine forAllVals_eq rfl ?_
  refine forAllVals_eq rfl ?_
  refine forAllVals_eq rfl ?_
  refine forAllVals_eq rfl ?_
  refine forAllVals_eq rfl ?_
  refine forAllVals_skip rfl ?_
  refine forAllVals_nil ?_; (try clear hs); intro w hJ
  have hs := hJ
  rw [mod4]
  rw [show (5 : Int) + ((c.toNat % 4 : Nat) : Int) = (mS c : Int) from rfl]
  refine WO.step rfl (OR.idxN 0 T115.und T120 rfl rfl rfl (by omega) ?_)
  refine WO.step rfl (OR.fieldAddr FA120_1 rfl (WO.stepN (OR.store hs T3 rfl rfl rfl (Nat.le_of_ble_eq_true rfl) rfl ?_)))
  clear hs; intro w hs
  refine WO.done (WX.seq (WC.seq (WC.region (WO.step rfl (OR.loadAll T117 rfl rfl (hs.blk (i := 1) rfl) rfl ?_)))))
  replace hs := hs.front (i := 0) rfl
  obtain ⟨H, hle1, hp_fb, hs9⟩ := hs.pub1 hfb; clear hs; have hs := hs9; clear hs9; replace hle := hle.trans hle1; (try replace hlb := hlb.trans hle1)
  have hfl : Flow1 H (.slice (some ⟨fb, 0, none⟩) 1 1) (mG a) (mS c) := ⟨fb, 0, 1, sv, rfl, Nat.le_refl _, hsv.mono hlb, fun j u hj => by
    rw [add_off, Nat.zero_add]
    refine hcell_of hp_fb ?_
    rw [nth_eq]
    exact hj⟩
  have hS0 : hcell H ⟨fb, 0 + 1, none⟩ = some (.int .i64 (mS c : Int)) := hcell_of hp_fb rfl
  refine WO.step rfl (OR.callX (Mx := []) hs body69 rfl rfl (mnew_ok (mG a) (mS c) _ _ _ hs.toSub hGS hfl) rfl rfl ?_)
  clear hs; rintro _ H M' w hs hle1 hnew ⟨mb, pb, gb, vf, rfl, rfl, hf⟩; replace hle := hle.trans hle1; (try replace hlb := hlb.trans hle1)
  have hP : PartIn H (newD (mG a) (mS c) [] [] false) (partObj (.slice none 0 0) (.slice none 0 0) false) := ⟨_, _, rfl, Sl.empty _ _ _, Sl.empty _ _ _⟩
  replace hS0 := hcell.mono hle1 hS0
  clear hfl hsv hlb
  refine WO.step rfl (OR.move rfl (WO.step rfl (OR.extract rfl rfl (WO.step rfl (OR.extract rfl rfl (WO.step rfl (OR.assign rfl ?_)))))))
  refine WO.step rfl (OR.assign rfl (WO.done (WX.seq (WC.seq (WC.seq (WC.region (WO.step rfl ?_)))))))
  refine OR.move rfl (WO.step rfl (OR.neq rfl rfl (WO.step rfl (OR.move rfl ?_))))
  replace hs := hs.drop (i := 4)
  replace hs := hs.front (i := 1) rfl
  replace hs := hs.front (i := 1) rfl
  replace hs := hs.front (i := 2) rfl
  obtain ⟨k0, k1, k2, e0, e1, cu1, cu2, gg1, ss1, gg2, ss2⟩ := mx_facts a c b
  have hb60 : Bytes H0 (.slice bb (b.take 60).length cb) (b.take 60) := by
    have := Sl.takeS hb (min b.length 60) (by omega)
    unfold Bytes
    rw [List.length_take, List.map_take, Nat.min_comm]
    rw [Nat.mul_one] at this
    rcases Nat.le_total b.length 60 with h | h
    · rw [Nat.min_eq_left h] at this ⊢
      rw [List.take_of_length_le (by rw [List.length_map]; omega)] at this ⊢
      exact this
    · rw [Nat.min_eq_right h] at this ⊢
      exact this
  have hb60l : (b.take 60).length = min b.length 60 := by rw [List.length_take, Nat.min_comm]
  refine WO.guardYes rfl rfl rfl rfl (OR.move rfl (WO.guardYes rfl rfl rfl rfl (OR.move rfl (WO.guardYes rfl rfl rfl rfl (OR.move rfl (WO.guardYes rfl rfl rfl rfl (OR.lenSlice T23.und rfl ?_)))))))
  refine WO.guardYes rfl rfl rfl rfl (OR.minI rfl rfl ?_)
  refine WO.guardYes rfl rfl rfl rfl (OR.sliceHiG (b.take 60).length T23.und T5 rfl rfl (by rw [hb60l]; split <;> omega) (by have := hb.cap_le; omega) ?_)
  refine WO.guardYes rfl rfl rfl rfl (OR.callX (Mx := [(pb, _, true)]) hs body70 rfl rfl (msubmit_ok mb pb gb vf _ (newD (mG a) (mS c) [] [] false) _ _ _ (b.take 60) (((hs.drop 2).drop 2).begin [true]) hf hP k0 (by show 0 ≤ _; omega) (hb60.mono hle) (by omega)) rfl rfl ?_)
  clear hs; rintro _ H M' w hs hle1 hnew ⟨rfl, o1, rfl, hP1⟩; replace hle := hle.trans hle1; (try replace hlb := hlb.trans hle1)
  rw [e0]
  replace hP1 : PartIn H (mx1 a c b) o1 := hP1
  clear hP hb60
  replace hf := hf.mono hle1
  replace hS0 := hcell.mono hle1 hS0
  refine WO.guardYes rfl rfl rfl rfl (OR.neq rfl rfl (WO.step rfl (OR.pickF rfl rfl rfl (WO.step rfl (OR.move rfl ?_)))))
  refine WO.guardYes rfl rfl rfl rfl (OR.move rfl ?_)
  refine WO.guardYes rfl rfl rfl rfl (OR.callX (Mx := [(pb, _, true)]) hs body71 rfl rfl (mclose_ok mb pb gb vf _ (mx1 a c b) _ _ (((hs.drop 2).drop 2).begin [true]) (by rw [gg1, ss1]; exact hf) hP1 k1 (by omega)) rfl rfl ?_)
  clear hs; rintro _ H M' w hs hle1 hnew ⟨rfl, o2, rfl, hP⟩; replace hle := hle.trans hle1; (try replace hlb := hlb.trans hle1)
  rw [e1]
  replace hP : PartIn H (mx2 a c b) o2 := hP
  clear hP1
  replace hf := hf.mono hle1
  replace hS0 := hcell.mono hle1 hS0
  refine WO.guardYes rfl rfl rfl rfl (OR.neq rfl rfl (WO.step rfl (OR.pickF rfl rfl rfl (WO.done (WX.seq ?_)))))
  refine WC.no rfl rfl ?_
  generalize mG a = g at *
  generalize mS c = s at *
  generalize mx2 a c b = X at *
  clear k0 k1 e0 e1 cu1 gg1 ss1
  subst gg2 ss2
  have hchl := k2.chl
  obtain ⟨hn1, hn2, hn3, hn4, hn5⟩ := k2.nat
  refine WC.skip (WX.seq (WC.seq (WC.seq (WC.region (WO.step rfl (OR.move rfl ?_))))))
  refine WO.step rfl (OR.call hs body72 rfl rfl (mgens_ok mb pb gb vf o2 X _ _ (((hs.drop 2).drop 2).begin []) hf hP k2 (by omega)) ?_)
  clear hs; rintro _ H w hs hle1 rfl; replace hle := hle.trans hle1; (try replace hlb := hlb.trans hle1)
  replace hf := hf.mono hle1
  replace hP := hP.mono hle1
  replace hS0 := hcell.mono hle1 hS0
  refine WO.step rfl (OR.eql rfl rfl (WO.done (WX.seq ?_)))
  refine WC.condD rfl (fun hz => ?_) (fun hz => ?_)
  · have hz' : X.chunks.length = 0 := by omega
    refine WC.seq (WC.region (WO.step rfl (OR.move rfl (WO.step rfl (OR.move rfl ?_)))))
    refine WO.step rfl (OR.make1 (m := X.g) hs T23.und T5 rfl rfl rfl (by omega) (by omega) ?_)
    clear hs; intro q1 w hq1 hs
    obtain ⟨H, hle1, hp_q1, hs9⟩ := hs.pub1 hq1; clear hs; have hs := hs9; clear hs9; replace hle := hle.trans hle1; (try replace hlb := hlb.trans hle1)
    have hq := Bytes.block (l := List.replicate X.g 0) (cap := X.g) hp_q1 (by simp [B]) (by simp)
    rw [List.length_replicate] at hq
    refine WO.step rfl (OR.call hs body73 rfl rfl (mrow_ok mb pb gb 0 vf _ (List.replicate X.g 0) o2 X _ _ (((hs.drop 2).drop 2).begin []) (hf.mono hle1) (hP.mono hle1) k2 (by omega) hq (by simp; omega)) ?_)
    clear hs; rintro _ H w hs hle1 ⟨r, rfl, hr⟩; replace hle := hle.trans hle1; (try replace hlb := hlb.trans hle1)
    rw [mrowE, if_neg (by omega)]
    obtain ⟨p1, p2, rfl, hp1, hp2⟩ := hr
    obtain ⟨bp1, cp1, rfl⟩ := hp1.form
    obtain ⟨bp2, cp2, rfl⟩ := hp2.form
    refine WO.step rfl (OR.move rfl (WO.step rfl (OR.extract rfl rfl (WO.step rfl (OR.extract rfl rfl (WO.step rfl (OR.alloc hs T35 ?_)))))))
    clear hs; intro g3 w hg3 hs
    refine WO.stepN (OR.storeAll hs T35 rfl rfl rfl rfl rfl ?_)
    clear hs; intro w hs
    refine WO.step rfl (OR.assign rfl (WO.done (WX.seq (WC.seq (WC.region (WO.step rfl (OR.move rfl ?_)))))))
    refine WO.step rfl (OR.eql rfl rfl (WO.step rfl (OR.move rfl ?_)))
    refine WO.guardYes rfl rfl rfl rfl (OR.call hs body74 rfl rfl (mwakes_ok _ _ hs.toSub) ?_)
    clear hs; rintro _ H w hs hle1 rfl; replace hle := hle.trans hle1; (try replace hlb := hlb.trans hle1)
    refine WO.step rfl (OR.pickT rfl rfl rfl (WO.step rfl (OR.assign rfl (WO.done (WX.seq (WC.ret (WX.seq_ret ?_)))))))
    refine WX.ret1 rfl rfl ?_
    exact .mk (((((hs.drop 0).drop 0).drop 0).drop 0).drop 0) rfl
  · have hpos : 0 < X.chunks.length := by omega
    refine WC.skip (WX.seq (WC.seq (WC.region (WO.step rfl (OR.move rfl ?_)))))
    refine WO.step rfl (OR.convI T5.und T58.und rfl ?_)
    have hgn2 := gn.toNat_lt
    rw [show IntKind.u64.wrap (gn.toNat : Int) = (gn.toNat : Int) from u64_wrap _ (by omega)]
    refine WO.step rfl (OR.move rfl ?_)
    refine WO.step rfl (OR.call hs body72 rfl rfl (mgens_ok mb pb gb vf o2 X _ _ (((hs.drop 2).drop 2).begin []) hf hP k2 (by omega)) ?_)
    clear hs; rintro _ H w hs hle1 rfl; replace hle := hle.trans hle1; (try replace hlb := hlb.trans hle1)
    replace hf := hf.mono hle1
    replace hP := hP.mono hle1
    replace hS0 := hcell.mono hle1 hS0
    refine WO.step rfl (OR.rem rfl rfl (by omega) ?_)
    rw [← Int.ofNat_tmod]
    refine WO.step rfl (OR.assign rfl (WO.done (WX.seq (WC.seq ?_))))
    have hat := Nat.mod_lt gn.toNat hpos
    generalize gn.toNat % X.chunks.length = at_ at *
    have hlb := Hp.le.refl H
    refine WC.drawT 5 4 1 mixed hs (by kernel_rfl) ?_
    refine ⟨MF.eq _, by intro Mx H w hle hs; refine forVals_nil (ORg.plain (OR.move rfl ?_)); exact ⟨_, [], Hp.le.refl _, hs, rfl, rfl⟩, ?_⟩
    refine ⟨MF.sl w0.heap.size X.g (.cells (List.replicate X.g (B 0)).toArray 5), ?_, ?_⟩
    · intro Mx H w hle2 hs; (try replace hle := hle.trans hle2); (try replace hlb := hlb.trans hle2); refine forVals_eq rfl rfl rfl ?_
      refine forVals_nil (ORg.plain (OR.make1 (m := X.g) hs T23.und T5 rfl rfl rfl (by omega) (by omega) ?_))
      intro g w hg hs; exact ⟨_, [_], Hp.le.refl _, hs, g, hg, rfl, rfl⟩
    refine ⟨MF.eq _, by intro Mx H w hle hs; refine forVals_nil (ORg.plain (OR.move rfl ?_)); exact ⟨_, [], Hp.le.refl _, hs, rfl, rfl⟩, ?_⟩
    refine ⟨MF.sl w0.heap.size X.g (.cells (List.replicate X.g (B 0)).toArray 5), ?_, ?_⟩
    · intro Mx H w hle2 hs; (try replace hle := hle.trans hle2); (try replace hlb := hlb.trans hle2); refine forVals_eq rfl rfl rfl ?_
      refine forVals_nil (ORg.plain (OR.make1 (m := X.g) hs T23.und T5 rfl rfl rfl (by omega) (by omega) ?_))
      intro g w hg hs; exact ⟨_, [_], Hp.le.refl _, hs, g, hg, rfl, rfl⟩
    refine ⟨MF.sl w0.heap.size X.g (.cells (List.replicate X.g (B 0)).toArray 5), _, rfl, ⟨_, rfl, ?_⟩, ?_⟩
    · intro vj Mj Mx H w hle2 hs hFj; (try replace hle := hle.trans hle2); (try replace hlb := hlb.trans hle2); refine forVals_eq rfl rfl rfl ?_
      refine forVals_nil (ORg.plain (OR.assign rfl ?_))
      exact ⟨_, Mj, Hp.le.refl _, hs, hFj⟩
    intro H w hle2; (try replace hle := hle.trans hle2); (try replace hlb := hlb.trans hle2)
    refine forAllVals_eq rfl ?_
    refine forAllVals_gone rfl ?_; intro v1
    refine forAllVals_eq rfl ?_
    refine forAllVals_sl rfl ?_; intro gq hgq
    refine forAllVals_sl rfl ?_; intro gp hgp
    refine forAllVals_nil ?_; (try clear hs); intro hs
    replace hf := hf.mono hlb
    replace hP := hP.mono hlb
    replace hS0 := hcell.mono hlb hS0
    refine WO.step rfl (OR.assign rfl (WO.done (WX.seq (WC.seq (WC.region (WO.step rfl (OR.move rfl ?_)))))))
    refine WO.step rfl (OR.move rfl ?_)
    replace hs := hs.front (i := 0) rfl
    refine WO.step rfl (OR.copyO hs ((x.take X.g).map B) T23.und T5 rfl rfl (by rw [List.length_map, List.length_take, natmin (c := min X.g x.length) (by omega)]; omega) (Sl.src0 (hx.mono hle)) (fun q hq j u hj => Sl.src (hx.mono hle) hs q hq j u (by rw [List.map_take] at hj; exact get_take hj)) (by simp; omega) (bytes_one _) ?_)
    clear hs; intro w hs
    refine WO.done (WX.seq (WC.seq (WC.region (WO.step rfl (OR.move rfl (WO.step rfl (OR.move rfl ?_)))))))
    obtain ⟨H, hle1, hp_gp, hs9⟩ := hs.pub1 hgp; clear hs; have hs := hs9; clear hs9; replace hle := hle.trans hle1; (try replace hlb := hlb.trans hle1)
    have hpa : Bytes H (.slice (some ⟨gp, 0, none⟩) X.g X.g) (padTo X.g x) := by
      have := Bytes.block (l := padTo X.g x) (cap := X.g) hp_gp (by rw [← padTo_cells, padTo_length]; exact List.take_of_length_le (by rw [setL_length]; simp)) (by rw [padTo_length]; exact Nat.le_refl _)
      rw [padTo_length] at this
      exact this
    replace hf := hf.mono hle1
    replace hP := hP.mono hle1
    replace hS0 := hcell.mono hle1 hS0
    replace hs := hs.front (i := 0) rfl
    refine WO.step rfl (OR.copyO hs ((y.take X.g).map B) T23.und T5 rfl rfl (by rw [List.length_map, List.length_take, natmin (c := min X.g y.length) (by omega)]; omega) (Sl.src0 (hy.mono hle)) (fun q hq j u hj => Sl.src (hy.mono hle) hs q hq j u (by rw [List.map_take] at hj; exact get_take hj)) (by simp; omega) (bytes_one _) ?_)
    clear hs; intro w hs
    refine WO.done (WX.seq (WC.seq (WC.region (WO.step rfl (OR.move rfl (WO.step rfl (OR.move rfl ?_)))))))
    obtain ⟨H, hle1, hp_gq, hs9⟩ := hs.pub1 hgq; clear hs; have hs := hs9; clear hs9; replace hle := hle.trans hle1; (try replace hlb := hlb.trans hle1)
    have hpb : Bytes H (.slice (some ⟨gq, 0, none⟩) X.g X.g) (padTo X.g y) := by
      have := Bytes.block (l := padTo X.g y) (cap := X.g) hp_gq (by rw [← padTo_cells, padTo_length]; exact List.take_of_length_le (by rw [setL_length]; simp)) (by rw [padTo_length]; exact Nat.le_refl _)
      rw [padTo_length] at this
      exact this
    replace hpa := hpa.mono hle1
    replace hf := hf.mono hle1
    replace hP := hP.mono hle1
    replace hS0 := hcell.mono hle1 hS0
    have hpal := padTo_length X.g x
    have hpbl := padTo_length X.g y
    generalize padTo X.g x = pa at *
    generalize padTo X.g y = pb' at *
    refine WO.step rfl (OR.call hs body75 rfl rfl (vadd_ok _ _ pa pb' _ _ hs.toSub hpa hpb (by omega)) ?_)
    clear hs; rintro _ H w hs hle1 ⟨r, rfl, hsum⟩; replace hle := hle.trans hle1; (try replace hlb := hlb.trans hle1)
    rw [xor_addS] at hsum
    replace hf := hf.mono hle1
    replace hP := hP.mono hle1
    replace hS0 := hcell.mono hle1 hS0
    replace hpa := hpa.mono hle1
    replace hpb := hpb.mono hle1
    have hsuml : (addS 1 pa pb').length = X.g := by rw [addS_length _ _ _ (by omega)]; exact hpal
    obtain ⟨bs, cs, rfl⟩ := hsum.form
    have hY := symF_row k2 hat
    have hYl := symF_len k2 hat
    refine WO.step rfl (OR.move rfl (WO.step rfl (OR.extract rfl rfl (WO.step rfl (OR.extract rfl rfl (WO.step rfl (OR.assign rfl ?_)))))))
    refine WO.step rfl (OR.assign rfl (WO.done (WX.seq (WC.seq (WC.region (WO.step rfl (OR.move rfl ?_)))))))
    refine WO.step rfl (OR.move rfl (WO.step rfl (OR.move rfl ?_)))
    replace hs := hs.front (i := 1) rfl
    replace hs := hs.front (i := 1) rfl
    refine WO.step rfl (OR.call hs body73 rfl rfl (mrow_ok mb pb gb at_ vf _ (pa) o2 X _ _ (((hs.drop 2).drop 2).begin []) hf hP k2 (by omega) hpa (by omega)) ?_)
    clear hs; rintro _ H w hs hle1 ⟨r, rfl, hr⟩; replace hle := hle.trans hle1; (try replace hlb := hlb.trans hle1)
    rw [mrowF, if_pos ⟨hat, by omega⟩] at hr
    rw [mrowE, if_pos hat, if_pos (by omega)]
    obtain ⟨p1, p2, rfl, hu1, hu2⟩ := hr
    obtain ⟨bu1, cu1, rfl⟩ := hu1.form
    obtain ⟨bu2, cu2, rfl⟩ := hu2.form
    replace hf := hf.mono hle1
    replace hP := hP.mono hle1
    replace hS0 := hcell.mono hle1 hS0
    replace hpa := hpa.mono hle1
    replace hpb := hpb.mono hle1
    replace hsum := hsum.mono hle1
    refine WO.step rfl (OR.move rfl (WO.step rfl (OR.extract rfl rfl (WO.step rfl (OR.extract rfl rfl (WO.step rfl (OR.alloc hs T35 ?_)))))))
    clear hs; intro g4 w hg4 hs
    refine WO.stepN (OR.storeAll hs T35 rfl rfl rfl rfl rfl ?_)
    clear hs; intro w hs
    refine WO.step rfl (OR.assign rfl (WO.done (WX.seq (WC.seq (WC.region (WO.step rfl (OR.move rfl ?_)))))))
    refine WO.step rfl (OR.move rfl (WO.step rfl (OR.move rfl ?_)))
    replace hs := hs.front (i := 2) rfl
    replace hs := hs.front (i := 2) rfl
    refine WO.step rfl (OR.call hs body73 rfl rfl (mrow_ok mb pb gb at_ vf _ (pb') o2 X _ _ ((((hs.drop 2).drop 2).drop 2).begin []) hf hP k2 (by omega) hpb (by omega)) ?_)
    clear hs; rintro _ H w hs hle1 ⟨r, rfl, hr⟩; replace hle := hle.trans hle1; (try replace hlb := hlb.trans hle1)
    rw [mrowF, if_pos ⟨hat, by omega⟩] at hr
    rw [mrowE, if_pos hat, if_pos (by omega)]
    obtain ⟨p1, p2, rfl, hv1, hv2⟩ := hr
    obtain ⟨bv1, cv1, rfl⟩ := hv1.form
    obtain ⟨bv2, cv2, rfl⟩ := hv2.form
    replace hf := hf.mono hle1
    replace hP := hP.mono hle1
    replace hS0 := hcell.mono hle1 hS0
    replace hpa := hpa.mono hle1
    replace hpb := hpb.mono hle1
    replace hsum := hsum.mono hle1
    replace hu1 := hu1.mono hle1
    replace hu2 := hu2.mono hle1
    refine WO.step rfl (OR.move rfl (WO.step rfl (OR.extract rfl rfl (WO.step rfl (OR.extract rfl rfl (WO.step rfl (OR.alloc hs T35 ?_)))))))
    clear hs; intro g5 w hg5 hs
    refine WO.stepN (OR.storeAll hs T35 rfl rfl rfl rfl rfl ?_)
    clear hs; intro w hs
    refine WO.step rfl (OR.assign rfl (WO.done (WX.seq (WC.seq (WC.region (WO.step rfl (OR.move rfl ?_)))))))
    refine WO.step rfl (OR.move rfl (WO.step rfl (OR.move rfl ?_)))
    replace hs := hs.front (i := 2) rfl
    replace hs := hs.front (i := 2) rfl
    refine WO.step rfl (OR.call hs body73 rfl rfl (mrow_ok mb pb gb at_ vf _ (addS 1 pa pb') o2 X _ _ (((((hs.drop 2).drop 2).drop 2).drop 2).begin []) hf hP k2 (by omega) hsum (by omega)) ?_)
    clear hs; rintro _ H w hs hle1 ⟨r, rfl, hr⟩; replace hle := hle.trans hle1; (try replace hlb := hlb.trans hle1)
    rw [mrowF, if_pos ⟨hat, by omega⟩] at hr
    rw [mrowE, if_pos hat, if_pos (by omega)]
    obtain ⟨p1, p2, rfl, hw1, hw2⟩ := hr
    obtain ⟨bw1, cw1, rfl⟩ := hw1.form
    obtain ⟨bw2, cw2, rfl⟩ := hw2.form
    replace hf := hf.mono hle1
    replace hP := hP.mono hle1
    replace hS0 := hcell.mono hle1 hS0
    replace hpa := hpa.mono hle1
    replace hpb := hpb.mono hle1
    replace hsum := hsum.mono hle1
    replace hu1 := hu1.mono hle1
    replace hu2 := hu2.mono hle1
    replace hv1 := hv1.mono hle1
    replace hv2 := hv2.mono hle1
    have hcl1 := comb_length X.s (symF X at_) pa hY
    have hcl2 := comb_length X.s (symF X at_) pb' hY
    rw [comb_add _ pa pb' 1 hY (by omega)] at hw2 ⊢
    refine WO.step rfl (OR.move rfl (WO.step rfl (OR.extract rfl rfl (WO.step rfl (OR.extract rfl rfl (WO.step rfl (OR.alloc hs T35 ?_)))))))
    clear hs; intro g6 w hg6 hs
    refine WO.stepN (OR.storeAll hs T35 rfl rfl rfl rfl rfl ?_)
    clear hs; intro w hs
    refine WO.step rfl (OR.assign rfl (WO.done (WX.seq (WC.seq (WC.region (WO.step rfl (OR.fieldAddr FA35_1 rfl ?_)))))))
    refine WO.step rfl (OR.load T23 rfl rfl (hs.cellM (i := 4) rfl rfl) (WO.step rfl (OR.fieldAddr FA35_1 rfl (WO.step rfl (OR.load T23 rfl rfl (hs.cellM (i := 3) rfl rfl) ?_)))))
    refine WO.step rfl (OR.call hs body75 rfl rfl (vadd_ok _ _ (comb X.s (symF X at_) pa) (comb X.s (symF X at_) pb') _ _ hs.toSub hu2 hv2 (by omega)) ?_)
    clear hs; rintro _ H w hs hle1 ⟨r, rfl, hboth⟩; replace hle := hle.trans hle1; (try replace hlb := hlb.trans hle1)
    rw [xor_addS] at hboth
    replace hf := hf.mono hle1
    replace hP := hP.mono hle1
    replace hS0 := hcell.mono hle1 hS0
    replace hpa := hpa.mono hle1
    replace hu1 := hu1.mono hle1
    replace hu2 := hu2.mono hle1
    replace hw2 := hw2.mono hle1
    obtain ⟨bo, co, rfl⟩ := hboth.form
    refine WO.step rfl (OR.move rfl (WO.step rfl (OR.extract rfl rfl (WO.step rfl (OR.extract rfl rfl (WO.step rfl (OR.assign rfl ?_)))))))
    refine WO.step rfl (OR.assign rfl (WO.done (WX.seq (WC.seq (WC.seq (WC.region (WO.step rfl ?_)))))))
    refine OR.move rfl (WO.step rfl (OR.neq rfl rfl (WO.step rfl (OR.move rfl ?_))))
    refine WO.guardYes rfl rfl rfl rfl (OR.move rfl (WO.guardYes rfl rfl rfl rfl (OR.neq rfl rfl (WO.step rfl (OR.pickF rfl rfl rfl (WO.step rfl (OR.move rfl ?_)))))))
    refine WO.guardYes rfl rfl rfl rfl (OR.move rfl (WO.guardYes rfl rfl rfl rfl (OR.neq rfl rfl (WO.step rfl (OR.pickF rfl rfl rfl (WO.step rfl (OR.move rfl ?_)))))))
    refine WO.guardYes rfl rfl rfl rfl (OR.fieldAddr FA35_1 rfl (WO.guardYes rfl rfl rfl rfl (OR.load T23 rfl rfl (hs.cellM (i := 0) rfl rfl) ?_)))
    refine WO.guardYes rfl rfl rfl rfl (OR.toStr hs T23.und T9.und T5.und rfl hw2 ?_)
    refine WO.guardYes rfl rfl rfl rfl (OR.move rfl ?_)
    refine WO.guardYes rfl rfl rfl rfl (OR.toStr hs T23.und T9.und T5.und rfl hboth ?_)
    refine WO.guardYes rfl rfl rfl rfl (OR.neqStr rfl rfl (WO.step rfl (OR.pickF rfl rfl rfl (WO.step rfl (OR.move rfl ?_)))))
    refine WO.guardYes rfl (decide_eq_false (fun h => h rfl)) rfl rfl (OR.fieldAddr FA35_0 rfl (WO.guardYes rfl (decide_eq_false (fun h => h rfl)) rfl rfl (OR.load T23 rfl rfl (hs.cellM (i := 4) rfl rfl) ?_)))
    refine WO.guardYes rfl (decide_eq_false (fun h => h rfl)) rfl rfl (OR.toStr hs T23.und T9.und T5.und rfl hu1 ?_)
    refine WO.guardYes rfl (decide_eq_false (fun h => h rfl)) rfl rfl (OR.move rfl ?_)
    refine WO.guardYes rfl (decide_eq_false (fun h => h rfl)) rfl rfl (OR.toStr hs T23.und T9.und T5.und rfl hpa ?_)
    refine WO.guardYes rfl (decide_eq_false (fun h => h rfl)) rfl rfl (OR.neqStr rfl rfl (WO.step rfl (OR.pickF rfl (decide_eq_false (fun h => h rfl)) rfl (WO.done (WX.seq ?_)))))
    refine WC.no rfl (decide_eq_false (fun h => h rfl)) ?_
    clear hv1 hv2 hw1 hw2 hboth hsum hpb
    refine WC.skip (WX.seq (WC.seq (WC.region (WO.step rfl (OR.fieldAddr FA117_1 rfl (WO.step rfl (OR.load T115 rfl rfl (hs.cellM (i := 6) rfl rfl) ?_)))))))
    refine WO.step rfl (OR.idxN 0 T115.und T120 rfl rfl rfl (by omega) ?_)
    refine WO.step rfl (OR.fieldAddr FA120_1 rfl ?_)
    refine WO.step rfl (OR.load T3 rfl rfl (hs.cell hS0) ?_)
    refine WO.step rfl (OR.make1 (m := X.s) hs T23.und T5 rfl rfl rfl (by omega) (by omega) ?_)
    clear hs; intro ga w hga hs
    refine WO.step rfl (OR.assign rfl (WO.done (WX.seq (WC.seq (WC.seq (WC.region (WO.step rfl ?_)))))))
    refine OR.assign rfl (WO.done (WX.seq (WC.block ?_)))
    obtain ⟨H, hle1, hp_ga, hs9⟩ := hs.pub1 hga; clear hs; have hs := hs9; clear hs9; replace hle := hle.trans hle1; (try replace hlb := hlb.trans hle1)
    have hall : Bytes H (.slice (some ⟨ga, 0, none⟩) X.s X.s) (List.replicate X.s 0) := by
      have := Bytes.block (l := List.replicate X.s 0) (cap := X.s) hp_ga (by simp [B]) (by simp)
      rw [List.length_replicate] at this
      exact this
    replace hf := hf.mono hle1
    replace hP := hP.mono hle1
    replace hpa := hpa.mono hle1
    replace hu1 := hu1.mono hle1
    replace hu2 := hu2.mono hle1
    replace hs := hs.drop (i := 0)
    replace hs := hs.drop (i := 2)
    replace hs := hs.drop (i := 3)
    replace hs := hs.drop (i := 3)
    replace hs := hs.front (i := 2) rfl
    have hall0 : Bytes H (.slice (some ⟨ga, 0, none⟩) X.s X.s) (comb X.s ((symF X at_).take 0) (pa.take 0)) := hall
    refine WC.loop (ι := Nat × Value) (fun ix => [(12, .int .i64 (X.g : Int)), (13, ptr mb), (17, .int .u64 (at_ : Int)), (18, .slice (some ⟨gp, 0, none⟩) X.g X.g), (22, ptr g4), (30, ix.2), (31, .int .i64 (ix.1 : Int))]) (fun ix w => (ix.1 ≤ X.g ∧ ∃ H, Hp.le H0 H ∧ Flow1 H vf X.g X.s ∧ PartIn H X o2 ∧ Bytes H (.slice (some ⟨gp, 0, none⟩) X.g X.g) pa ∧ Bytes H (.slice bu2 (comb X.s (symF X at_) pa).length cu2) (comb X.s (symF X at_) pa) ∧ Bytes H ix.2 (comb X.s ((symF X at_).take ix.1) (pa.take ix.1)) ∧ HS [] H0 w0 H [(g4, .cells #[.slice bu1 pa.length cu1, .slice bu2 (comb X.s (symF X at_) pa).length cu2] 35, true), (pb, o2, true), (mb, modObj vf pb gb, true)] w)) (fun ix => X.g - ix.1) (0, .slice (some ⟨ga, 0, none⟩) X.s X.s) ⟨rfl, rfl, rfl, rfl, rfl, rfl, rfl,  trivial⟩ ?_ (fun ix w hW => ?_)
    · exact ⟨Nat.zero_le _, H, hle, hf, hP, hpa, hu2, hall0, hs⟩
    clear hs hle hf hP hpa hu1 hu2 hall hall0 hS0 hlb
    obtain ⟨k, va⟩ := ix
    obtain ⟨hk, H, hle, hf, hP, hpa, hu2, hall, hs⟩ := hW
    simp only at hk hall
    obtain ⟨b1, c1, rfl⟩ := hall.form
    refine WC.seq (WC.seq (WC.region (WO.step rfl (OR.move rfl (WO.step rfl (OR.move rfl (WO.step rfl ?_)))))))
    refine OR.lss rfl rfl (WO.done (WX.seq ?_))
    refine WC.condD rfl (fun hlt => ?_) (fun hlt => ?_)
    · have hk' : k < X.g := by omega
      refine WC.skip (WX.seq (WC.seq (WC.block (WC.seq (WC.region (WO.step rfl (OR.move rfl ?_)))))))
      refine WO.step rfl (OR.move rfl ?_)
      refine WO.step rfl (OR.call hs body36 rfl rfl (unit_ok (X.g : Int) (k : Int) _ _ hs.toSub) ?_)
      clear hs; rintro _ H w hs hle1 ⟨r, rfl, hu⟩; replace hle := hle.trans hle1; (try replace hlb := hlb.trans hle1)
      have hcnd : 0 ≤ (X.g : Int) ∧ (X.g : Int) ≤ 70000 ∧ 0 ≤ (k : Int) ∧ (k : Int) < (X.g : Int) := by omega
      rw [if_pos hcnd] at hu ⊢
      replace hu : Bytes H r ((List.replicate X.g (0 : UInt8)).set k 1) := hu
      obtain ⟨b3, c3, rfl⟩ := hu.form
      replace hf := hf.mono hle1
      replace hP := hP.mono hle1
      replace hpa := hpa.mono hle1
      replace hu2 := hu2.mono hle1
      replace hall := hall.mono hle1
      refine WO.step rfl (OR.move rfl (WO.step rfl (OR.extract rfl rfl (WO.step rfl (OR.extract rfl rfl (WO.step rfl (OR.assign rfl ?_)))))))
      refine WO.step rfl (OR.assign rfl (WO.done (WX.seq (WC.seq (WC.region (WO.step rfl (OR.move rfl ?_)))))))
      refine WO.step rfl (OR.move rfl (WO.step rfl (OR.move rfl ?_)))
      replace hs := hs.front (i := 2) rfl
      replace hs := hs.front (i := 2) rfl
      refine WO.step rfl (OR.call hs body73 rfl rfl (mrow_ok mb pb gb at_ vf _ ((List.replicate X.g (0 : UInt8)).set k 1) o2 X _ _ ((hs.drop 2).begin []) hf hP k2 (by omega) hu (by simp; omega)) ?_)
      clear hs; rintro _ H w hs hle1 ⟨r, rfl, hr⟩; replace hle := hle.trans hle1; (try replace hlb := hlb.trans hle1)
      rw [mrowF, if_pos ⟨hat, by simp⟩, comb_unit _ _ _ hY hYl (by omega)] at hr
      rw [mrowE, if_pos hat, if_pos (by simp)]
      obtain ⟨p1, p2, rfl, hr1, hr2⟩ := hr
      obtain ⟨b4, c4, rfl⟩ := hr1.form
      obtain ⟨b5, c5, rfl⟩ := hr2.form
      replace hf := hf.mono hle1
      replace hP := hP.mono hle1
      replace hpa := hpa.mono hle1
      replace hu2 := hu2.mono hle1
      replace hall := hall.mono hle1
      refine WO.step rfl (OR.move rfl (WO.step rfl (OR.extract rfl rfl (WO.step rfl (OR.extract rfl rfl (WO.step rfl (OR.alloc hs T35 ?_)))))))
      clear hs; intro g7 w hg7 hs
      refine WO.stepN (OR.storeAll hs T35 rfl rfl rfl rfl rfl ?_)
      clear hs; intro w hs
      refine WO.step rfl (OR.assign rfl (WO.done (WX.seq (WC.seq (WC.seq (WC.region (WO.step rfl ?_)))))))
      refine OR.move rfl (WO.step rfl (OR.neq rfl rfl (WO.done (WX.seq ?_))))
      refine WC.no rfl rfl ?_
      obtain ⟨xb, xo, ep, hco⟩ := Bytes.pos (by rw [hpal]; exact hpa : Bytes H (.slice (some ⟨gp, 0, none⟩) pa.length X.g) pa) (by omega)
      cases ep
      have hkY : k < (symF X at_).length := by omega
      have hkp : k < pa.length := by omega
      have hYk : (symF X at_)[k].length = X.s := hY _ (List.getElem_mem _)
      have hcl : (comb X.s ((symF X at_).take k) (pa.take k)).length = X.s := comb_length _ _ _ (fun r hr => hY r (List.mem_of_mem_take hr))
      have hE : eachE (comb X.s ((symF X at_).take k) (pa.take k)) (symF X at_)[k] = 0 := by rw [eachE, if_pos (by omega)]
      have hstep := comb_step X.s (symF X at_) pa k hkY hkp
      refine WC.skip (WX.seq ?_)
      have hlb := Hp.le.refl H
      refine WC.drawL 11 10 mixed hs (by kernel_rfl) ?_
      refine ⟨MF.eq _, by intro Mx H w hle hs; refine forVals_nil (ORg.plain (OR.move rfl ?_)); exact ⟨_, [], Hp.le.refl _, hs, rfl, rfl⟩, ?_⟩
      refine ⟨MF.eq _, by intro Mx H w hle hs; refine forVals_nil (ORg.plain (OR.fieldAddr FA35_1 rfl ?_)); exact ⟨_, [], Hp.le.refl _, hs, rfl, rfl⟩, ?_⟩
      refine ⟨MF.eq _, by intro Mx H w hle hs; refine forVals_eq rfl rfl rfl ?_; refine forVals_nil (ORg.plain (OR.load T23 rfl rfl (hs.right.cellM (i := 0) rfl rfl) ?_)); exact ⟨_, [], Hp.le.refl _, hs, rfl, rfl⟩, ?_⟩
      refine ⟨MF.eq _, by intro Mx H w hle hs; refine forVals_nil (ORg.plain (OR.move rfl ?_)); exact ⟨_, [], Hp.le.refl _, hs, rfl, rfl⟩, ?_⟩
      refine ⟨MF.eq _, by intro Mx H w hle hs; refine forVals_nil (ORg.plain (OR.move rfl ?_)); exact ⟨_, [], Hp.le.refl _, hs, rfl, rfl⟩, ?_⟩
      refine ⟨MF.eq (.pointer (some ⟨gp, 0 + k, none⟩)), ?_, ?_⟩
      · intro Mx H w hle2 hs; (try replace hle := hle.trans hle2); (try replace hlb := hlb.trans hle2); refine forVals_eq rfl rfl rfl ?_; refine forVals_eq rfl rfl rfl ?_
        refine forVals_nil (ORg.plain (OR.idx k T23.und T5 rfl rfl rfl (by omega) ?_))
        exact ⟨_, [], Hp.le.refl _, hs, rfl, rfl⟩
      refine ⟨MF.eq (B pa[k]), ?_, ?_⟩
      · intro Mx H w hle2 hs; (try replace hle := hle.trans hle2); (try replace hlb := hlb.trans hle2); refine forVals_eq rfl rfl rfl ?_
        refine forVals_nil (ORg.plain (OR.load T5 rfl rfl (hs.cell (hcell.mono hlb (hco k hkp))) ?_))
        exact ⟨_, [], Hp.le.refl _, hs, rfl, rfl⟩
      refine ⟨MF.tupB (comb X.s ((symF X at_).take (k + 1)) (pa.take (k + 1))) 0, ?_, ?_⟩
      · intro Mx H w hle2 hs; (try replace hle := hle.trans hle2); (try replace hlb := hlb.trans hle2); refine forVals_eq rfl rfl rfl ?_; refine forVals_eq rfl rfl rfl ?_; refine forVals_eq rfl rfl rfl ?_
        refine forVals_nil (ORg.plain (OR.call hs body33 rfl rfl (addScaled_ok _ _ _ _ pa[k] _ _ hs.toSub (hall.mono hlb) (hr2.mono hlb) (by omega)) ?_))
        clear hs; rintro _ H w hs hle1 ⟨r, rfl, hr9⟩
        exact ⟨_, [], hle1, hs, ⟨r, by rw [hE], by rw [hstep]; exact hr9⟩, rfl⟩
      refine ⟨MF.tupB (comb X.s ((symF X at_).take (k + 1)) (pa.take (k + 1))) 0, ?_, ?_⟩
      · intro Mx H w hle2 hs; (try replace hle := hle.trans hle2); (try replace hlb := hlb.trans hle2); refine forVals_of rfl rfl rfl ?_; intro v7 h7
        refine forVals_nil (ORg.plain (OR.move rfl ?_))
        exact ⟨_, [], Hp.le.refl _, hs, h7, rfl⟩
      refine ⟨MF.bytes (comb X.s ((symF X at_).take (k + 1)) (pa.take (k + 1))), ?_, ?_⟩
      · intro Mx H w hle2 hs; (try replace hle := hle.trans hle2); (try replace hlb := hlb.trans hle2); refine forVals_of rfl rfl rfl ?_; intro v8 h8
        obtain ⟨r, rfl, hr9⟩ := h8
        refine forVals_nil (ORg.plain (OR.extract rfl rfl ?_))
        exact ⟨_, [], Hp.le.refl _, hs, hr9, rfl⟩
      refine ⟨MF.eq (.int .i64 0), ?_, ?_⟩
      · intro Mx H w hle2 hs; (try replace hle := hle.trans hle2); (try replace hlb := hlb.trans hle2); refine forVals_of rfl rfl rfl ?_; intro v8 h8
        obtain ⟨r, rfl, hr9⟩ := h8
        refine forVals_nil (ORg.plain (OR.extract rfl rfl ?_))
        exact ⟨_, [], Hp.le.refl _, hs, rfl, rfl⟩
      intro H w hle2; (try replace hle := hle.trans hle2); (try replace hlb := hlb.trans hle2)
      refine forAllVals_eq rfl ?_
      refine forAllVals_eq rfl ?_
      refine forAllVals_eq rfl ?_
      refine forAllVals_eq rfl ?_
      refine forAllVals_eq rfl ?_
      refine forAllVals_eq rfl ?_
      refine forAllVals_eq rfl ?_
      refine forAllVals_of rfl ?_; intro v7 h7
      refine forAllVals_of rfl ?_; intro v8 h8
      refine forAllVals_of rfl ?_; intro v9 h9
      refine forAllVals_eq rfl ?_
      refine forAllVals_nil ?_; (try clear hs); intro hs
      refine WO.step rfl (OR.assign rfl (WO.done (WX.block (WX.seq (WC.region (WO.step rfl (OR.move rfl ?_)))))))
      refine WO.step rfl (OR.addI rfl rfl (by omega) (by omega) (WO.step rfl (OR.assign rfl (WO.done ?_))))
      replace hs := hs.drop (i := 0)
      replace hs := hs.front (i := 2) rfl
      refine WX.again ((k + 1, v9)) ⟨rfl, rfl, rfl, rfl, rfl, rfl, rfl,  trivial⟩ ?_ ?_
      · exact ⟨hk', H, hle, hf.mono hlb, hP.mono hlb, hpa.mono hlb, hu2.mono hlb, h9, hs⟩
      · show X.g - (k + 1) < X.g - k; omega
    · have e : k = X.g := by omega
      subst e
      rw [List.take_of_length_le (by omega), List.take_of_length_le (by omega)] at hall
      have hlA : (comb X.s ((symF X at_).take X.g) (pa.take X.g)).length = (comb X.s (symF X at_) pa).length := by rw [List.take_of_length_le (by omega), List.take_of_length_le (by omega)]
      rw [hlA]
      refine WC.exit (WX.seq_exit (WX.loop_exit (WX.block_hit (WX.seq (WC.seq (WC.region (WO.step rfl ?_)))))))
      refine OR.move rfl (WO.step rfl (OR.move rfl (WO.step rfl (OR.move rfl ?_))))
      refine WO.step rfl (OR.buildSlice (vs := [B 0]) hs T23.und T5 rfl rfl rfl rfl (by simp) ?_)
      clear hs; intro q9 w hq9 hs
      obtain ⟨H, hle1, hp_q9, hs9⟩ := hs.pub1 hq9; clear hs; have hs := hs9; clear hs9; replace hle := hle.trans hle1; (try replace hlb := hlb.trans hle1)
      have hq9 := Bytes.block (l := [0]) (cap := 1) hp_q9 rfl (by simp)
      replace hf := hf.mono hle1
      replace hP := hP.mono hle1
      replace hpa := hpa.mono hle1
      replace hu2 := hu2.mono hle1
      replace hall := hall.mono hle1
      have hpa' : Bytes H (.slice (some ⟨gp, 0, none⟩) pa.length X.g) pa := by rw [hpal]; exact hpa
      refine WO.step rfl (OR.appendGrow (n := X.g) (m := 1) (cs := pa.map B) (news := [B 0]) hs T23.und T5 rfl (by omega) rfl (by simp; omega) (Sl.src hpa' hs _ rfl) rfl rfl (Sl.src hq9 hs _ rfl) (by omega) (by omega) (by omega) ?_)
      clear hs; intro v' w Mo hs ho
      obtain ⟨H3, hle3, hs, hsl3, _⟩ := HS.pub hs ho
      replace hle := hle.trans hle3
      have hv3 : Bytes H3 v' (pa ++ [0]) := by
        unfold Bytes
        rw [List.length_append, List.map_append, hpal]
        exact hsl3
      obtain ⟨b9, c9, rfl⟩ := hv3.form
      replace hf := hf.mono hle3
      replace hP := hP.mono hle3
      replace hpa := hpa.mono hle3
      replace hu2 := hu2.mono hle3
      replace hall := hall.mono hle3
      replace hs := hs.front (i := 2) rfl
      replace hs := hs.front (i := 2) rfl
      refine WO.step rfl (OR.call hs body73 rfl rfl (mrow_ok mb pb gb at_ vf _ (pa ++ [0]) o2 X _ _ ((hs.drop 2).begin []) hf hP k2 (by omega) hv3 (by simp; omega)) ?_)
      clear hs; rintro _ H w hs hle1 ⟨r, rfl, hr⟩; replace hle := hle.trans hle1; (try replace hlb := hlb.trans hle1)
      rw [mrowE, if_pos hat, if_neg (by simp; omega)]
      obtain ⟨p1, p2, rfl, hr1, hr2⟩ := hr
      obtain ⟨b4, c4, rfl⟩ := hr1.form
      obtain ⟨b5, c5, rfl⟩ := hr2.form
      replace hf := hf.mono hle1
      replace hP := hP.mono hle1
      replace hpa := hpa.mono hle1
      replace hu2 := hu2.mono hle1
      replace hall := hall.mono hle1
      refine WO.step rfl (OR.move rfl (WO.step rfl (OR.extract rfl rfl (WO.step rfl (OR.extract rfl rfl (WO.step rfl (OR.alloc hs T35 ?_)))))))
      clear hs; intro g8 w hg8 hs
      refine WO.stepN (OR.storeAll hs T35 rfl rfl rfl rfl rfl ?_)
      clear hs; intro w hs
      refine WO.step rfl (OR.assign rfl (WO.done (WX.seq (WC.seq (WC.region (WO.step rfl (OR.move rfl ?_)))))))
      refine WO.step rfl (OR.move rfl ?_)
      replace hs := hs.front (i := 2) rfl
      replace hs := hs.front (i := 2) rfl
      refine WO.step rfl (OR.call hs body72 rfl rfl (mgens_ok mb pb gb vf o2 X _ _ (((hs.drop 2).drop 2).begin []) hf hP k2 (by omega)) ?_)
      clear hs; rintro _ H w hs hle1 rfl; replace hle := hle.trans hle1; (try replace hlb := hlb.trans hle1)
      replace hf := hf.mono hle1
      replace hP := hP.mono hle1
      replace hpa := hpa.mono hle1
      replace hu2 := hu2.mono hle1
      replace hall := hall.mono hle1
      refine WO.step rfl (OR.move rfl ?_)
      refine WO.step rfl (OR.call hs body73 rfl rfl (mrow_ok mb pb gb X.chunks.length vf _ pa o2 X _ _ (((hs.drop 2).drop 2).begin []) hf hP k2 (by omega) hpa (by omega)) ?_)
      clear hs; rintro _ H w hs hle1 ⟨r, rfl, hr⟩; replace hle := hle.trans hle1; (try replace hlb := hlb.trans hle1)
      rw [mrowE, if_neg (by omega)]
      obtain ⟨p3, p4, rfl, hr3, hr4⟩ := hr
      obtain ⟨b6, c6, rfl⟩ := hr3.form
      obtain ⟨b7, c7, rfl⟩ := hr4.form
      replace hu2 := hu2.mono hle1
      replace hall := hall.mono hle1
      refine WO.step rfl (OR.move rfl (WO.step rfl (OR.extract rfl rfl (WO.step rfl (OR.extract rfl rfl (WO.step rfl (OR.alloc hs T35 ?_)))))))
      clear hs; intro g9 w hg9 hs
      refine WO.stepN (OR.storeAll hs T35 rfl rfl rfl rfl rfl ?_)
      clear hs; intro w hs
      refine WO.step rfl (OR.assign rfl (WO.done (WX.seq (WC.seq (WC.region (WO.step rfl (OR.move rfl ?_)))))))
      refine WO.step rfl (OR.toStr hs T23.und T9.und T5.und rfl hall ?_)
      refine WO.step rfl (OR.fieldAddr FA35_1 rfl (WO.step rfl (OR.load T23 rfl rfl (hs.cellM (i := 4) rfl rfl) ?_)))
      refine WO.step rfl (OR.toStr hs T23.und T9.und T5.und rfl hu2 ?_)
      refine WO.step rfl (OR.eqlStr rfl rfl (WO.step rfl (OR.move rfl ?_)))
      refine WO.guardYes rfl (decide_eq_true rfl) rfl rfl (OR.move rfl (WO.guardYes rfl (decide_eq_true rfl) rfl rfl (OR.eql rfl rfl (WO.step rfl (OR.pickT rfl (decide_eq_true rfl) rfl (WO.step rfl (OR.move rfl ?_)))))))
      refine WO.guardYes rfl rfl rfl rfl (OR.move rfl (WO.guardYes rfl rfl rfl rfl (OR.eql rfl rfl (WO.step rfl (OR.pickT rfl rfl rfl (WO.step rfl (OR.move rfl ?_)))))))
      refine WO.guardYes rfl rfl rfl rfl (OR.call hs body74 rfl rfl (mwakes_ok _ _ hs.toSub) ?_)
      clear hs; rintro _ H w hs hle1 rfl; replace hle := hle.trans hle1; (try replace hlb := hlb.trans hle1)
      refine WO.step rfl (OR.pickT rfl rfl rfl (WO.step rfl (OR.assign rfl (WO.done (WX.seq (WC.ret ?_))))))
      refine WX.ret1 rfl rfl ?_
      exact .mk ((((((hs.drop 0).drop 0).drop 0).drop 0).drop 0).drop 0) rfl
end Go.Bw
