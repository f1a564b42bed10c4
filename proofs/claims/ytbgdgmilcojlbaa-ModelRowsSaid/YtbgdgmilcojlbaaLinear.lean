/- SourceLinear walked. -/
import Derived.Test.YtbgdgmilcojlbaaFlat
namespace Go.Bw
set_option linter.unusedVariables false
set_option linter.unusedSimpArgs false
open Go.Proofs

def slG (G : UInt8) : Nat := 1 + G.toNat % 12
def slS (S : UInt8) : Nat := 5 + S.toNat % 12
theorem sl_good (G S : UInt8) : goodGS (slG G) (slS S) := by
  have h1 := Nat.mod_lt G.toNat (by omega : 0 < 12)
  have h2 := Nat.mod_lt S.toNat (by omega : 0 < 12)
  have h3 : 1 * 5 ≤ slG G * slS S := Nat.mul_le_mul (by unfold slG; omega) (by unfold slS; omega)
  refine ⟨by unfold slG; omega, by unfold slG; omega, by unfold slS; omega, by unfold slS; omega, ?_⟩
  rw [← Int.natCast_mul]
  omega
def slD1 (G S : UInt8) (st : List UInt8) : SrcD := subD (newD (slG G) (slS S) [] [] false) (1 :: st.take 400) 1099511627776
theorem sl_sub (G S : UInt8) (st : List UInt8) : subE (newD (slG G) (slS S) [] [] false) (1 :: st.take 400) 1099511627776 = 0 ∧ (slD1 G S st).st = 1 :: st.take 400 ∧ (slD1 G S st).cl = false ∧ (slD1 G S st).cuts = [] ∧ (slD1 G S st).g = slG G ∧ (slD1 G S st).s = slS S := by
  have hok := newD_ok (sl_good G S)
  have hl : (1 :: st.take 400).length ≤ 401 := by simp; omega
  have h1 := hok.long (l := 1 :: st.take 400) (by show 0 + _ ≤ _; omega)
  have h2 := h1.chl
  have hf : subFits (newD (slG G) (slS S) [] [] false) (1 :: st.take 400) 1099511627776 := by
    refine ⟨by show 0 + _ ≤ _; omega, ?_⟩
    unfold needs
    split <;> omega
  have hD : slD1 G S st = longD (newD (slG G) (slS S) [] [] false) (1 :: st.take 400) := by
    rw [slD1, subD, if_neg (by show ¬ false = true; decide), if_pos hf]
  refine ⟨by rw [subE, if_neg (by show ¬ false = true; decide), if_pos hf], by rw [hD]; rfl, by rw [hD]; rfl, by rw [hD]; rfl, by rw [hD]; rfl, by rw [hD]; rfl⟩
def slD (G S : UInt8) (st : List UInt8) : SrcD := flushD (slD1 G S st)
theorem sl_ok (G S : UInt8) (st : List UInt8) : SrcOk (slD1 G S st) ∧ SrcOk (slD G S st) ∧ 1 ≤ (slD G S st).chunks.length ∧ (slD G S st).g = slG G ∧ (slD G S st).s = slS S := by
  have h1 : SrcOk (slD1 G S st) := (newD_ok (sl_good G S)).sub _ _
  have h2 : SrcOk (slD G S st) := h1.flush
  obtain ⟨_, e1, e2, _, e3, e4⟩ := sl_sub G S st
  have e : slD G S st = cutD (slD1 G S st) := by rw [slD, flushD, if_neg (by rw [e2]; decide)]
  have h3 := h2.flat
  have h4 := cutD_open (slD1 G S st)
  have h5 := cutD_st (slD1 G S st)
  rw [← e] at h4 h5
  rw [h4, h5, e1, List.append_nil] at h3
  refine ⟨h1, h2, ?_, by rw [e, (cutD_g _).1, e3], by rw [e, (cutD_g _).2, e4]⟩
  rcases Nat.eq_zero_or_pos (slD G S st).chunks.length with h | h
  · rw [List.eq_nil_of_length_eq_zero h] at h3
    cases h3
  · exact h

set_option maxRecDepth 20000 in
set_option maxHeartbeats 2000000 in
theorem slinear_ok (G S C : UInt8) (Gen Sent : Nat) (vst va vb : Value) (st a b : List UInt8) (H0 : Hp) (w0 : World) (h0 : Sub H0 w0) (hst : Bytes H0 vst st) (ha : Bytes H0 va a) (hb : Bytes H0 vb b)
    (hl1 : st.length ≤ 9223372036854775807) (hGen : Gen < 65536) (hSent : Sent < 65536) :
    Calls Try.prog 6 #[.agg #[B G, B S, vst, va, vb, B C, .int .u16 (Gen : Int), .int .u16 (Sent : Int)]] w0 (Pure H0 w0 fun v _ => v = .bool true) := by
  have hs := HS.init h0
  have hle := Hp.le.refl H0
  obtain ⟨bst, cst, rfl⟩ := hst.form
  obtain ⟨ba, ca, rfl⟩ := ha.form
  obtain ⟨bb, cb, rfl⟩ := hb.form
  refine Calls.enter (args := [.agg #[B G, B S, .slice bst st.length cst, .slice ba a.length ca, .slice bb b.length cb, B C, .int .u16 (Gen : Int), .int .u16 (Sent : Int)]]) Try.func6 rfl Try.ntmps6 rfl ?_
  refine WC.seq (WC.region (WO.step rfl (OR.box hs rfl ?_)))
  clear hs; intro g1 w hg1 hs
  refine WO.step rfl (OR.assign rfl (WO.done (WX.seq (WC.seq ?_))))
  refine WC.draw 11 mixed hs (by kernel_rfl) ?_
  refine ⟨MF.eq _, by intro Mx H w hle hs; refine forVals_nil (ORg.plain (OR.fieldAddr FA53_0 rfl ?_)); exact ⟨_, [], Hp.le.refl _, hs, rfl, rfl⟩, ?_⟩
  refine ⟨MF.eq _, by intro Mx H w hle hs; refine forVals_eq rfl rfl rfl ?_; refine forVals_nil (ORg.plain (OR.load T5 rfl rfl (hs.right.cellM (i := 0) rfl rfl) ?_)); exact ⟨_, [], Hp.le.refl _, hs, rfl, rfl⟩, ?_⟩
  refine ⟨MF.eq (.int .i64 (G.toNat : Int)), ?_, ?_⟩
  · intro Mx H w hle2 hs; (try replace hle := hle.trans hle2); (try replace hlb := hlb.trans hle2); refine forVals_eq rfl rfl rfl ?_
    refine forVals_nil (ORg.plain (OR.convB T5.und T3.und rfl ?_))
    exact ⟨_, [], Hp.le.refl _, hs, rfl, rfl⟩
  refine ⟨MF.eq (.int .i64 ((G.toNat : Int).tmod 12)), ?_, ?_⟩
  · intro Mx H w hle2 hs; (try replace hle := hle.trans hle2); (try replace hlb := hlb.trans hle2); refine forVals_eq rfl rfl rfl ?_
    refine forVals_nil (ORg.plain (OR.rem rfl rfl (by omega) ?_))
    exact ⟨_, [], Hp.le.refl _, hs, rfl, rfl⟩
  refine ⟨MF.eq (.int .i64 (slG G : Int)), ?_, ?_⟩
  · intro Mx H w hle2 hs; (try replace hle := hle.trans hle2); (try replace hlb := hlb.trans hle2); refine forVals_eq rfl rfl rfl ?_
    have hG : (1 : Int) + (G.toNat : Int).tmod 12 = (slG G : Int) := rfl
    have hG2 := Nat.mod_lt G.toNat (by omega : 0 < 12)
    refine forVals_nil (ORg.plain (OR.addI rfl rfl (by rw [hG]; unfold slG; omega) (by rw [hG]; unfold slG; omega) ?_))
    exact ⟨_, [], Hp.le.refl _, hs, rfl, rfl⟩
  refine ⟨MF.eq _, by intro Mx H w hle hs; refine forVals_nil (ORg.plain (OR.fieldAddr FA53_1 rfl ?_)); exact ⟨_, [], Hp.le.refl _, hs, rfl, rfl⟩, ?_⟩
  refine ⟨MF.eq _, by intro Mx H w hle hs; refine forVals_eq rfl rfl rfl ?_; refine forVals_nil (ORg.plain (OR.load T5 rfl rfl (hs.right.cellM (i := 0) rfl rfl) ?_)); exact ⟨_, [], Hp.le.refl _, hs, rfl, rfl⟩, ?_⟩
  refine ⟨MF.eq (.int .i64 (S.toNat : Int)), ?_, ?_⟩
  · intro Mx H w hle2 hs; (try replace hle := hle.trans hle2); (try replace hlb := hlb.trans hle2); refine forVals_eq rfl rfl rfl ?_
    refine forVals_nil (ORg.plain (OR.convB T5.und T3.und rfl ?_))
    exact ⟨_, [], Hp.le.refl _, hs, rfl, rfl⟩
  refine ⟨MF.eq (.int .i64 ((S.toNat : Int).tmod 12)), ?_, ?_⟩
  · intro Mx H w hle2 hs; (try replace hle := hle.trans hle2); (try replace hlb := hlb.trans hle2); refine forVals_eq rfl rfl rfl ?_
    refine forVals_nil (ORg.plain (OR.rem rfl rfl (by omega) ?_))
    exact ⟨_, [], Hp.le.refl _, hs, rfl, rfl⟩
  refine ⟨MF.eq (.int .i64 (slS S : Int)), ?_, ?_⟩
  · intro Mx H w hle2 hs; (try replace hle := hle.trans hle2); (try replace hlb := hlb.trans hle2); refine forVals_eq rfl rfl rfl ?_
    have hG : (5 : Int) + (S.toNat : Int).tmod 12 = (slS S : Int) := rfl
    have hG2 := Nat.mod_lt S.toNat (by omega : 0 < 12)
    refine forVals_nil (ORg.plain (OR.addI rfl rfl (by rw [hG]; unfold slS; omega) (by rw [hG]; unfold slS; omega) ?_))
    exact ⟨_, [], Hp.le.refl _, hs, rfl, rfl⟩
  refine ⟨MF.eq _, by intro Mx H w hle hs; refine forVals_eq rfl rfl rfl ?_; refine forVals_nil (ORg.plain (OR.assign rfl ?_)); exact ⟨_, [], Hp.le.refl _, hs, rfl, rfl⟩, ?_⟩
  intro H w hle2; (try replace hle := hle.trans hle2); (try replace hlb := hlb.trans hle2)
  refine forAllVals_eq rfl ?_
  refine forAllVals_eq rfl ?_
  refine forAllVals_eq rfl ?_
  refine forAllVals_eq rfl ?_
  refine forAllVals_eq rfl ?_
  refine forAllVals_eq rfl ?_
  refine forAllVals_eq rfl ?_
  refine forAllVals_eq rfl ?_
  refine forAllVals_eq rfl ?_
  refine forAllVals_eq rfl ?_
  refine forAllVals_eq rfl ?_
  refine forAllVals_nil ?_; (try clear hs); intro hs
  obtain ⟨eE, e1, e2, e3, e4, e5⟩ := sl_sub G S st
  obtain ⟨hok1, hok2, hch, e6, e7⟩ := sl_ok G S st
  have hng : 1 ≤ slG G ∧ slG G ≤ 12 := by have := Nat.mod_lt G.toNat (by omega : 0 < 12); unfold slG; omega
  refine WO.step rfl (OR.assign rfl (WO.done (WX.seq (WC.seq (WC.region (WO.step rfl (OR.move rfl ?_)))))))
  refine WO.step rfl (OR.move rfl ?_)
  refine WO.step rfl (OR.callX (Mx := []) hs body27 rfl rfl (snew_ok (slG G) (slS S) _ _ hs.toSub (sl_good G S)) rfl rfl ?_)
  clear hs; rintro _ H M' w hs hle1 hnew ⟨x, o, rfl, rfl, hx0, hx⟩; replace hle := hle.trans hle1; (try replace hlb := hlb.trans hle1)
  refine WO.step rfl (OR.move rfl (WO.step rfl (OR.extract rfl rfl (WO.step rfl (OR.extract rfl rfl (WO.step rfl (OR.assign rfl ?_)))))))
  refine WO.step rfl (OR.assign rfl (WO.done (WX.seq (WC.seq (WC.seq (WC.region ?_))))))
  refine WO.step rfl (OR.call hs body28 rfl rfl (awake13_ok _ _ hs.toSub) ?_)
  clear hs; rintro _ H w hs hle1 rfl; replace hle := hle.trans hle1; (try replace hlb := hlb.trans hle1)
  replace hx := hx.mono hle1
  refine WO.step rfl (OR.not rfl (WO.step rfl (OR.move rfl ?_)))
  refine WO.guardYes rfl rfl rfl rfl (OR.move rfl (WO.guardYes rfl rfl rfl rfl (OR.neq rfl rfl (WO.step rfl (OR.pickF rfl rfl rfl (WO.step rfl (OR.move rfl ?_)))))))
  refine WO.guardYes rfl rfl rfl rfl (OR.move rfl ?_)
  refine WO.guardYes rfl rfl rfl rfl (OR.buildSlice (vs := [B 1]) hs T23.und T5 rfl rfl rfl rfl (by simp) ?_)
  clear hs; intro gA w hgA hs
  refine WO.guardYes rfl rfl rfl rfl (OR.fieldAddr FA53_2 rfl (WO.guardYes rfl rfl rfl rfl (OR.load T23 rfl rfl (hs.cellM (i := 2) rfl rfl) (WO.guardYes rfl rfl rfl rfl (OR.fieldAddr FA53_2 rfl (WO.guardYes rfl rfl rfl rfl (OR.load T23 rfl rfl (hs.cellM (i := 2) rfl rfl) ?_)))))))
  refine WO.guardYes rfl rfl rfl rfl (OR.lenSlice T23.und rfl ?_)
  refine WO.guardYes rfl rfl rfl rfl (OR.minI rfl rfl ?_)
  refine WO.guardYes rfl rfl rfl rfl (OR.sliceHiG (min st.length 400) T23.und T5 rfl rfl (by split <;> omega) (by have := hst.cap_le; omega) ?_)
  have hln : ((st.take 400).map B).length = min st.length 400 * 1 := by simp; omega
  refine WO.guardYes rfl rfl rfl rfl (OR.append (n := 1) (m := min st.length 400) (cs := [B 1]) (news := (st.take 400).map B) (Mo := [_]) (M := [_, _]) hs (Own.block (cap := 1) (by omega) rfl rfl hgA) T23.und T5 rfl (by omega) rfl rfl hln (fun q hq j u hj => Sl.src (hst.mono hle) hs q hq j u (by rw [List.map_take] at hj; exact get_take hj)) (fun q => by have := Sl.src0 hst q; omega) (bytes_one _) (by omega) (by omega) ?_)
  clear hs; intro v' w Mo hs ho hge
  obtain ⟨H3, hle3, hs, hsl3, _⟩ := HS.pub hs ho
  replace hle := hle.trans hle3
  have hv3 : Bytes H3 v' (1 :: st.take 400) := by
    have e : (1 :: st.take 400).length = 1 + min st.length 400 := by simp; omega
    unfold Bytes
    rw [e]
    exact hsl3
  clear hsl3 ho
  refine WO.guardYes rfl rfl rfl rfl (OR.callX (Mx := [(x, _, true)]) hs body29 rfl rfl (submit_ok x (newD (slG G) (slS S) [] [] false) o _ (1 :: st.take 400) 1099511627776 _ _ hs.toSub (hs.blk (i := 0) rfl) (hs.mem x _ true (List.mem_cons_self ..)).2.1 (hx.mono hle3) (newD_ok (sl_good G S)) hv3 (by simp; omega) (by show 0 ≤ _; omega)) rfl rfl ?_)
  clear hs; rintro _ H M' w hs hle1 hnew ⟨rfl, o1, rfl, hx1⟩; replace hle := hle.trans hle1; (try replace hlb := hlb.trans hle1)
  rw [eE]
  clear hx hv3
  replace hx1 : SrcIn H (slD1 G S st) o1 := hx1
  refine WO.guardYes rfl rfl rfl rfl (OR.neq rfl rfl (WO.step rfl (OR.pickF rfl rfl rfl (WO.step rfl (OR.move rfl ?_)))))
  refine WO.guardYes rfl rfl rfl rfl (OR.move rfl ?_)
  refine WO.guardYes rfl rfl rfl rfl (OR.callX (Mx := [(x, _, true)]) hs body30 rfl rfl (flush_ok x (slD1 G S st) o1 _ _ hs.toSub (hs.blk (i := 0) rfl) (hs.mem x _ true (List.mem_cons_self ..)).2.1 hx1 hok1 (by rw [e3]; show 0 ≤ _; omega)) rfl rfl ?_)
  clear hs; rintro _ H M' w hs hle1 hnew ⟨rfl, o2, rfl, hx2⟩; replace hle := hle.trans hle1; (try replace hlb := hlb.trans hle1)
  rw [e2]
  refine WO.guardYes rfl rfl rfl rfl (OR.neq rfl rfl (WO.step rfl (OR.pickF rfl rfl rfl (WO.done (WX.seq ?_)))))
  refine WC.no rfl rfl ?_
  replace hx2 : SrcIn H (slD G S st) o2 := hx2
  clear hx1 e1 e2 e3 e4 e5 eE
  generalize slD G S st = D at *
  generalize slD1 G S st = D1 at *
  generalize slG G = g at *
  generalize slS S = s at *
  subst e6 e7
  have hchl := hok2.chl
  obtain ⟨hn1, hn2, hn3, hn4, hn5⟩ := hok2.nat
  refine WC.skip (WX.seq (WC.seq ?_))
  have hlb := Hp.le.refl H
  refine WC.draw 6 mixed hs (by kernel_rfl) ?_
  refine ⟨MF.eq _, by intro Mx H w hle hs; refine forVals_nil (ORg.plain (OR.fieldAddr FA53_6 rfl ?_)); exact ⟨_, [], Hp.le.refl _, hs, rfl, rfl⟩, ?_⟩
  refine ⟨MF.eq _, by intro Mx H w hle hs; refine forVals_eq rfl rfl rfl ?_; refine forVals_nil (ORg.plain (OR.load T51 rfl rfl (hs.right.cellM (i := 1) rfl rfl) ?_)); exact ⟨_, [], Hp.le.refl _, hs, rfl, rfl⟩, ?_⟩
  refine ⟨MF.eq (.int .u64 (Gen : Int)), ?_, ?_⟩
  · intro Mx H w hle2 hs; (try replace hle := hle.trans hle2); (try replace hlb := hlb.trans hle2); refine forVals_eq rfl rfl rfl ?_
    refine forVals_nil (ORg.plain (OR.convI T51.und T58.und rfl ?_))
    exact ⟨_, [], Hp.le.refl _, hs, (by rw [u64_wrap _ (by omega)]), rfl⟩
  refine ⟨MF.eq _, by intro Mx H w hle hs; refine forVals_nil (ORg.plain (OR.move rfl ?_)); exact ⟨_, [], Hp.le.refl _, hs, rfl, rfl⟩, ?_⟩
  refine ⟨MF.eq (.int .u64 (D.chunks.length : Int)), ?_, ?_⟩
  · intro Mx H w hle2 hs; (try replace hle := hle.trans hle2); (try replace hlb := hlb.trans hle2); refine forVals_eq rfl rfl rfl ?_
    refine forVals_nil (ORg.plain (OR.call hs body31 rfl rfl (gens_ok x D o2 _ _ hs.toSub (hs.right.blk (i := 0) rfl) (hs.right.mem x _ true (List.mem_cons_self ..)).2.1 (hx2.mono hlb) (by omega)) ?_))
    clear hs; rintro _ H w hs hle1 rfl
    exact ⟨_, [], hle1, hs, rfl, rfl⟩
  refine ⟨MF.eq (.int .u64 ((Gen % D.chunks.length : Nat) : Int)), ?_, ?_⟩
  · intro Mx H w hle2 hs; (try replace hle := hle.trans hle2); (try replace hlb := hlb.trans hle2); refine forVals_eq rfl rfl rfl ?_; refine forVals_eq rfl rfl rfl ?_
    refine forVals_nil (ORg.plain (OR.rem rfl rfl (by omega) ?_))
    exact ⟨_, [], Hp.le.refl _, hs, (by rw [Int.ofNat_tmod]), rfl⟩
  intro H w hle2; (try replace hle := hle.trans hle2); (try replace hlb := hlb.trans hle2)
  refine forAllVals_eq rfl ?_
  refine forAllVals_eq rfl ?_
  refine forAllVals_eq rfl ?_
  refine forAllVals_eq rfl ?_
  refine forAllVals_eq rfl ?_
  refine forAllVals_eq rfl ?_
  refine forAllVals_nil ?_; (try clear hs); intro hs
  replace hx2 := hx2.mono hlb
  have hgl := Nat.mod_lt Gen (by omega : 0 < D.chunks.length)
  generalize Gen % D.chunks.length = gen at *
  refine WO.step rfl (OR.assign rfl (WO.done (WX.seq (WC.seq ?_))))
  have hlb := Hp.le.refl H
  refine WC.drawT 5 4 1 mixed hs (by kernel_rfl) ?_
  refine ⟨MF.eq _, by intro Mx H w hle hs; refine forVals_nil (ORg.plain (OR.move rfl ?_)); exact ⟨_, [], Hp.le.refl _, hs, rfl, rfl⟩, ?_⟩
  refine ⟨MF.sl w0.heap.size D.g (.cells (List.replicate D.g (B 0)).toArray 5), ?_, ?_⟩
  · intro Mx H w hle2 hs; (try replace hle := hle.trans hle2); (try replace hlb := hlb.trans hle2); refine forVals_eq rfl rfl rfl ?_
    refine forVals_nil (ORg.plain (OR.make1 (m := D.g) hs T23.und T5 rfl rfl rfl (by omega) (by omega) ?_))
    intro g w hg hs; exact ⟨_, [_], Hp.le.refl _, hs, g, hg, rfl, rfl⟩
  refine ⟨MF.eq _, by intro Mx H w hle hs; refine forVals_nil (ORg.plain (OR.move rfl ?_)); exact ⟨_, [], Hp.le.refl _, hs, rfl, rfl⟩, ?_⟩
  refine ⟨MF.sl w0.heap.size D.g (.cells (List.replicate D.g (B 0)).toArray 5), ?_, ?_⟩
  · intro Mx H w hle2 hs; (try replace hle := hle.trans hle2); (try replace hlb := hlb.trans hle2); refine forVals_eq rfl rfl rfl ?_
    refine forVals_nil (ORg.plain (OR.make1 (m := D.g) hs T23.und T5 rfl rfl rfl (by omega) (by omega) ?_))
    intro g w hg hs; exact ⟨_, [_], Hp.le.refl _, hs, g, hg, rfl, rfl⟩
  refine ⟨MF.sl w0.heap.size D.g (.cells (List.replicate D.g (B 0)).toArray 5), _, rfl, ⟨_, rfl, ?_⟩, ?_⟩
  · intro vj Mj Mx H w hle2 hs hFj; (try replace hle := hle.trans hle2); (try replace hlb := hlb.trans hle2); refine forVals_eq rfl rfl rfl ?_
    refine forVals_nil (ORg.plain (OR.assign rfl ?_))
    exact ⟨_, Mj, Hp.le.refl _, hs, hFj⟩
  intro H w hle2; (try replace hle := hle.trans hle2); (try replace hlb := hlb.trans hle2)
  refine forAllVals_eq rfl ?_
  refine forAllVals_gone rfl ?_; intro v1
  refine forAllVals_eq rfl ?_
  refine forAllVals_sl rfl ?_; intro gb hgb
  refine forAllVals_sl rfl ?_; intro ga hga
  refine forAllVals_nil ?_; (try clear hs); intro hs
  replace hx2 := hx2.mono hlb
  refine WO.step rfl (OR.assign rfl (WO.done (WX.seq (WC.seq (WC.region (WO.step rfl (OR.move rfl ?_)))))))
  refine WO.step rfl (OR.fieldAddr FA53_3 rfl (WO.step rfl (OR.load T23 rfl rfl (hs.cellM (i := 3) rfl rfl) ?_)))
  replace hs := hs.front (i := 0) rfl
  refine WO.step rfl (OR.copyO hs ((a.take D.g).map B) T23.und T5 rfl rfl (by rw [List.length_map, List.length_take, natmin (c := min D.g a.length) (by omega)]; omega) (Sl.src0 (ha.mono hle)) (fun q hq j u hj => Sl.src (ha.mono hle) hs q hq j u (by rw [List.map_take] at hj; exact get_take hj)) (by simp; omega) (bytes_one _) ?_)
  clear hs; intro w hs
  refine WO.done (WX.seq (WC.seq (WC.region (WO.step rfl (OR.move rfl (WO.step rfl (OR.fieldAddr FA53_4 rfl ?_)))))))
  refine WO.step rfl (OR.load T23 rfl rfl (hs.cellM (i := 3) rfl rfl) ?_)
  obtain ⟨H, hle1, hp_ga, hs9⟩ := hs.pub1 hga; clear hs; have hs := hs9; clear hs9; replace hle := hle.trans hle1; (try replace hlb := hlb.trans hle1)
  have hpa : Bytes H (.slice (some ⟨ga, 0, none⟩) D.g D.g) (padTo D.g a) := by
    have := Bytes.block (l := padTo D.g a) (cap := D.g) hp_ga (by rw [← padTo_cells, padTo_length]; exact List.take_of_length_le (by rw [setL_length]; simp)) (by rw [padTo_length]; exact Nat.le_refl _)
    rw [padTo_length] at this
    exact this
  replace hx2 := hx2.mono hle1
  replace hs := hs.front (i := 0) rfl
  refine WO.step rfl (OR.copyO hs ((b.take D.g).map B) T23.und T5 rfl rfl (by rw [List.length_map, List.length_take, natmin (c := min D.g b.length) (by omega)]; omega) (Sl.src0 (hb.mono hle)) (fun q hq j u hj => Sl.src (hb.mono hle) hs q hq j u (by rw [List.map_take] at hj; exact get_take hj)) (by simp; omega) (bytes_one _) ?_)
  clear hs; intro w hs
  refine WO.done (WX.seq (WC.seq (WC.region (WO.step rfl (OR.move rfl (WO.step rfl (OR.move rfl ?_)))))))
  refine WO.step rfl (OR.move rfl ?_)
  obtain ⟨H, hle1, hp_gb, hs9⟩ := hs.pub1 hgb; clear hs; have hs := hs9; clear hs9; replace hle := hle.trans hle1; (try replace hlb := hlb.trans hle1)
  have hpb : Bytes H (.slice (some ⟨gb, 0, none⟩) D.g D.g) (padTo D.g b) := by
    have := Bytes.block (l := padTo D.g b) (cap := D.g) hp_gb (by rw [← padTo_cells, padTo_length]; exact List.take_of_length_le (by rw [setL_length]; simp)) (by rw [padTo_length]; exact Nat.le_refl _)
    rw [padTo_length] at this
    exact this
  replace hx2 := hx2.mono hle1
  replace hpa := hpa.mono hle1
  have hpal := padTo_length D.g a
  have hpbl := padTo_length D.g b
  generalize padTo D.g a = pa at *
  generalize padTo D.g b = pb at *
  have hY := symF_row hok2 hgl
  have hYl := symF_len hok2 hgl
  replace hs := hs.front (i := 0) rfl
  refine WO.step rfl (OR.call hs body32 rfl rfl (srow_ok x gen _ (pa) D o2 _ _ hs.toSub (hs.blk (i := 0) rfl) (hs.mem x _ true (List.mem_cons_self ..)).2.1 hx2 hok2 hpa (by omega)) ?_)
  clear hs; rintro _ H w hs hle1 ⟨r, rfl, hr⟩; replace hle := hle.trans hle1; (try replace hlb := hlb.trans hle1)
  rw [rowF, if_pos ⟨hgl, hpal⟩] at hr
  rw [rowE, if_pos hgl, if_pos hpal]
  obtain ⟨p1, p2, rfl, hp1, hp2⟩ := hr
  obtain ⟨bp1, cp1, rfl⟩ := hp1.form
  obtain ⟨bp2, cp2, rfl⟩ := hp2.form
  replace hx2 := hx2.mono hle1
  replace hpa := hpa.mono hle1
  replace hpb := hpb.mono hle1
  refine WO.step rfl (OR.move rfl (WO.step rfl (OR.extract rfl rfl (WO.step rfl (OR.extract rfl rfl (WO.step rfl (OR.alloc hs T35 ?_)))))))
  clear hs; intro g2 w hg2 hs
  refine WO.stepN (OR.storeAll hs T35 rfl rfl rfl rfl rfl ?_)
  clear hs; intro w hs
  refine WO.step rfl (OR.assign rfl (WO.done (WX.seq (WC.seq (WC.region (WO.step rfl (OR.move rfl ?_)))))))
  refine WO.step rfl (OR.move rfl (WO.step rfl (OR.move rfl ?_)))
  replace hs := hs.front (i := 1) rfl
  refine WO.step rfl (OR.call hs body32 rfl rfl (srow_ok x gen _ (pb) D o2 _ _ hs.toSub (hs.blk (i := 0) rfl) (hs.mem x _ true (List.mem_cons_self ..)).2.1 hx2 hok2 hpb (by omega)) ?_)
  clear hs; rintro _ H w hs hle1 ⟨r, rfl, hr⟩; replace hle := hle.trans hle1; (try replace hlb := hlb.trans hle1)
  rw [rowF, if_pos ⟨hgl, hpbl⟩] at hr
  rw [rowE, if_pos hgl, if_pos hpbl]
  obtain ⟨q1, q2, rfl, hq1, hq2⟩ := hr
  obtain ⟨bq1, cq1, rfl⟩ := hq1.form
  obtain ⟨bq2, cq2, rfl⟩ := hq2.form
  replace hx2 := hx2.mono hle1
  replace hpa := hpa.mono hle1
  replace hpb := hpb.mono hle1
  replace hp1 := hp1.mono hle1
  replace hp2 := hp2.mono hle1
  refine WO.step rfl (OR.move rfl (WO.step rfl (OR.extract rfl rfl (WO.step rfl (OR.extract rfl rfl (WO.step rfl (OR.alloc hs T35 ?_)))))))
  clear hs; intro g3 w hg3 hs
  refine WO.stepN (OR.storeAll hs T35 rfl rfl rfl rfl rfl ?_)
  clear hs; intro w hs
  refine WO.step rfl (OR.assign rfl (WO.done (WX.seq (WC.seq (WC.region (WO.step rfl (OR.move rfl ?_)))))))
  refine WO.step rfl (OR.move rfl (WO.step rfl (OR.fieldAddr FA53_5 rfl (WO.step rfl (OR.load T5 rfl rfl (hs.cellM (i := 3) rfl rfl) ?_)))))
  refine WO.step rfl (OR.call hs body33 rfl rfl (addScaled_ok _ _ pa pb C _ _ hs.toSub hpa hpb (by omega)) ?_)
  clear hs; rintro _ H w hs hle1 ⟨r, rfl, hsum⟩; replace hle := hle.trans hle1; (try replace hlb := hlb.trans hle1)
  have hsuml : (addS C pa pb).length = D.g := by rw [addS_length _ _ _ (by omega)]; exact hpal
  replace hx2 := hx2.mono hle1
  replace hpa := hpa.mono hle1
  replace hpb := hpb.mono hle1
  replace hp1 := hp1.mono hle1
  replace hp2 := hp2.mono hle1
  replace hq1 := hq1.mono hle1
  replace hq2 := hq2.mono hle1
  refine WO.step rfl (OR.move rfl (WO.step rfl (OR.extract rfl rfl (WO.step rfl (OR.extract rfl rfl (WO.step rfl (OR.assign rfl ?_)))))))
  refine WO.step rfl (OR.assign rfl (WO.done (WX.seq (WC.seq (WC.region (WO.step rfl (OR.move rfl ?_)))))))
  refine WO.step rfl (OR.move rfl (WO.step rfl (OR.move rfl ?_)))
  replace hs := hs.front (i := 1) rfl
  refine WO.step rfl (OR.call hs body32 rfl rfl (srow_ok x gen _ (addS C pa pb) D o2 _ _ hs.toSub (hs.blk (i := 0) rfl) (hs.mem x _ true (List.mem_cons_self ..)).2.1 hx2 hok2 hsum (by omega)) ?_)
  clear hs; rintro _ H w hs hle1 ⟨r, rfl, hr⟩; replace hle := hle.trans hle1; (try replace hlb := hlb.trans hle1)
  rw [rowF, if_pos ⟨hgl, hsuml⟩] at hr
  rw [rowE, if_pos hgl, if_pos hsuml]
  obtain ⟨r1, r2, rfl, hr1, hr2⟩ := hr
  obtain ⟨br1, cr1, rfl⟩ := hr1.form
  obtain ⟨br2, cr2, rfl⟩ := hr2.form
  replace hx2 := hx2.mono hle1
  replace hpa := hpa.mono hle1
  replace hpb := hpb.mono hle1
  replace hp1 := hp1.mono hle1
  replace hp2 := hp2.mono hle1
  replace hq1 := hq1.mono hle1
  replace hq2 := hq2.mono hle1
  replace hsum := hsum.mono hle1
  have hcl1 := comb_length D.s (symF D gen) pa hY
  have hcl2 := comb_length D.s (symF D gen) pb hY
  refine WO.step rfl (OR.move rfl (WO.step rfl (OR.extract rfl rfl (WO.step rfl (OR.extract rfl rfl (WO.step rfl (OR.alloc hs T35 ?_)))))))
  clear hs; intro g4 w hg4 hs
  refine WO.stepN (OR.storeAll hs T35 rfl rfl rfl rfl rfl ?_)
  clear hs; intro w hs
  refine WO.step rfl (OR.assign rfl (WO.done (WX.seq (WC.seq (WC.region (WO.step rfl (OR.fieldAddr FA35_1 rfl ?_)))))))
  refine WO.step rfl (OR.load T23 rfl rfl (hs.cellM (i := 3) rfl rfl) (WO.step rfl (OR.fieldAddr FA35_1 rfl (WO.step rfl (OR.load T23 rfl rfl (hs.cellM (i := 2) rfl rfl) (WO.step rfl (OR.fieldAddr FA53_5 rfl ?_)))))))
  refine WO.step rfl (OR.load T5 rfl rfl (hs.cellM (i := 4) rfl rfl) ?_)
  refine WO.step rfl (OR.call hs body33 rfl rfl (addScaled_ok _ _ (comb D.s (symF D gen) pa) (comb D.s (symF D gen) pb) C _ _ hs.toSub hp2 hq2 (by omega)) ?_)
  clear hs; rintro _ H w hs hle1 ⟨r, rfl, hwant⟩; replace hle := hle.trans hle1; (try replace hlb := hlb.trans hle1)
  replace hx2 := hx2.mono hle1
  replace hr1 := hr1.mono hle1
  replace hr2 := hr2.mono hle1
  replace hsum := hsum.mono hle1
  obtain ⟨bw, cw, rfl⟩ := hwant.form
  obtain ⟨bs9, cs9, rfl⟩ := hsum.form
  refine WO.step rfl (OR.move rfl (WO.step rfl (OR.extract rfl rfl (WO.step rfl (OR.extract rfl rfl (WO.step rfl (OR.assign rfl ?_)))))))
  refine WO.step rfl (OR.assign rfl (WO.done (WX.seq (WC.seq (WC.seq (WC.region (WO.step rfl ?_)))))))
  refine OR.move rfl (WO.step rfl (OR.neq rfl rfl (WO.step rfl (OR.move rfl ?_))))
  refine WO.guardYes rfl rfl rfl rfl (OR.fieldAddr FA35_1 rfl (WO.guardYes rfl rfl rfl rfl (OR.load T23 rfl rfl (hs.cellM (i := 0) rfl rfl) (WO.guardYes rfl rfl rfl rfl (OR.move rfl ?_)))))
  refine WO.guardYes rfl rfl rfl rfl (OR.call hs body21 rfl rfl (equal_ok _ _ _ _ _ _ hs.toSub hr2 hwant) ?_)
  clear hs; rintro _ H w hs hle1 rfl; replace hle := hle.trans hle1; (try replace hlb := hlb.trans hle1)
  rw [comb_add _ pa pb C hY (by omega), decide_eq_true rfl]
  replace hr1 := hr1.mono hle1
  replace hsum := hsum.mono hle1
  replace hx2 := hx2.mono hle1
  refine WO.guardYes rfl rfl rfl rfl (OR.not rfl (WO.step rfl (OR.pickF rfl rfl rfl (WO.step rfl (OR.move rfl ?_)))))
  refine WO.guardYes rfl rfl rfl rfl (OR.fieldAddr FA35_0 rfl (WO.guardYes rfl rfl rfl rfl (OR.load T23 rfl rfl (hs.cellM (i := 0) rfl rfl) (WO.guardYes rfl rfl rfl rfl (OR.move rfl ?_)))))
  refine WO.guardYes rfl rfl rfl rfl (OR.call hs body21 rfl rfl (equal_ok _ _ _ _ _ _ hs.toSub hr1 hsum) ?_)
  clear hs; rintro _ H w hs hle1 rfl; replace hle := hle.trans hle1; (try replace hlb := hlb.trans hle1)
  rw [decide_eq_true rfl]
  replace hx2 := hx2.mono hle1
  refine WO.guardYes rfl rfl rfl rfl (OR.not rfl (WO.step rfl (OR.pickF rfl rfl rfl (WO.done (WX.seq ?_)))))
  refine WC.no rfl rfl ?_
  refine WC.skip (WX.seq (WC.seq (WC.region (WO.step rfl (OR.move rfl (WO.step rfl (OR.move rfl ?_)))))))
  replace hs := hs.front (i := 1) rfl
  refine WO.step rfl (OR.call hs body34 rfl rfl (symbols_ok x gen D o2 _ _ hs.toSub (hs.blk (i := 0) rfl) (hs.mem x _ true (List.mem_cons_self ..)).2.1 hx2 hok2) ?_)
  clear hs; rintro _ H w hs hle1 ⟨r, rfl, hsy⟩; replace hle := hle.trans hle1; (try replace hlb := hlb.trans hle1)
  replace hx2 := hx2.mono hle1
  obtain ⟨by1, cy1, rfl⟩ := hsy.form
  refine WO.step rfl (OR.move rfl (WO.step rfl (OR.extract rfl rfl (WO.step rfl (OR.extract rfl rfl (WO.step rfl (OR.assign rfl ?_)))))))
  refine WO.step rfl (OR.assign rfl (WO.done (WX.seq (WC.seq (WC.seq (WC.region (WO.step rfl ?_)))))))
  refine OR.move rfl (WO.step rfl (OR.move rfl (WO.done (WX.seq (WC.block ?_)))))
  replace hs := hs.drop (i := 1)
  replace hs := hs.drop (i := 1)
  replace hs := hs.drop (i := 1)
  refine WC.loop (ι := Nat) (fun i => [(1, ptr g1), (3, .int .i64 (D.g : Int)), (5, ptr x), (7, .int .u64 (gen : Int)), (20, .slice by1 (symF D gen).length cy1), (151, .int .i64 (D.g : Int)), (152, .int .i64 (i : Int))]) (fun i w => (i ≤ D.g ∧ ∃ H, Hp.le H0 H ∧ SrcIn H D o2 ∧ BytesL H (.slice by1 (symF D gen).length cy1) (symF D gen) ∧ HS [] H0 w0 H [(x, o2, true), (g1, .cells #[B G, B S, .slice bst st.length cst, .slice ba a.length ca, .slice bb b.length cb, B C, .int .u16 (Gen : Int), .int .u16 (Sent : Int)] 53, true)] w)) (fun i => D.g - i) 0 ⟨rfl, rfl, rfl, rfl, rfl, rfl, rfl,  trivial⟩ ?_ (fun i w hW => ?_)
  · exact ⟨by omega, H, hle, hx2, hsy, hs⟩
  clear hs hle hx2 hsy hlb hle3 hp1 hp2 hq1 hq2 hr1 hr2 hsum hwant hpa hpb hx0
  obtain ⟨hi, H, hle, hx2, hsy, hs⟩ := hW
  refine WC.seq (WC.region (WO.step rfl (OR.lss rfl rfl (WO.done (WX.seq (WC.seq ?_))))))
  refine WC.condD rfl (fun hlt => ?_) (fun hlt => ?_)
  · have hi' : i < D.g := by omega
    refine WC.skip (WX.seq (WC.seq (WC.block (WC.seq (WC.region (WO.step rfl (OR.move rfl ?_)))))))
    refine WO.step rfl (OR.assign rfl (WO.done (WX.seq (WC.seq (WC.region (WO.step rfl (OR.move rfl ?_)))))))
    refine WO.step rfl (OR.move rfl (WO.step rfl (OR.move rfl ?_)))
    refine WO.step rfl (OR.convI T3.und T58.und rfl ?_)
    rw [u64_wrap _ (by omega)]
    refine WO.step rfl (OR.fieldAddr FA53_3 rfl (WO.step rfl (OR.load T23 rfl rfl (hs.cellM (i := 1) rfl rfl) ?_)))
    refine WO.step rfl (OR.call hs body35 rfl rfl (ssend_ok x gen i _ a D o2 _ _ hs.toSub (hs.blk (i := 0) rfl) (hs.mem x _ true (List.mem_cons_self ..)).2.1 hx2 hok2 (ha.mono hle) (by omega)) ?_)
    clear hs; rintro _ H w hs hle1 ⟨r, rfl, hr⟩; replace hle := hle.trans hle1; (try replace hlb := hlb.trans hle1)
    rw [sendC_unit D i a hi', rowF, if_pos ⟨hgl, by rw [List.length_set, List.length_replicate]⟩, comb_unit _ _ _ hY hYl (by omega)] at hr
    rw [thereE, if_pos hgl]
    replace hx2 := hx2.mono hle1
    replace hsy := hsy.mono hle1
    obtain ⟨r1, r2, rfl, hr1, hr2⟩ := hr
    obtain ⟨b1, c1, rfl⟩ := hr1.form
    obtain ⟨b2, c2, rfl⟩ := hr2.form
    refine WO.step rfl (OR.move rfl (WO.step rfl (OR.extract rfl rfl (WO.step rfl (OR.extract rfl rfl (WO.step rfl (OR.alloc hs T35 ?_)))))))
    clear hs; intro g5 w hg5 hs
    refine WO.stepN (OR.storeAll hs T35 rfl rfl rfl rfl rfl ?_)
    clear hs; intro w hs
    refine WO.step rfl (OR.assign rfl (WO.done (WX.seq (WC.seq (WC.region (WO.step rfl (OR.move rfl ?_)))))))
    refine WO.step rfl (OR.move rfl ?_)
    refine WO.step rfl (OR.call hs body36 rfl rfl (unit_ok (D.g : Int) (i : Int) _ _ hs.toSub) ?_)
    clear hs; rintro _ H w hs hle1 ⟨r, rfl, hu⟩; replace hle := hle.trans hle1; (try replace hlb := hlb.trans hle1)
    have hcnd : 0 ≤ (D.g : Int) ∧ (D.g : Int) ≤ 70000 ∧ 0 ≤ (i : Int) ∧ (i : Int) < (D.g : Int) := by omega
    rw [if_pos hcnd] at hu ⊢
    replace hx2 := hx2.mono hle1
    replace hsy := hsy.mono hle1
    replace hr1 := hr1.mono hle1
    replace hr2 := hr2.mono hle1
    obtain ⟨b3, c3, rfl⟩ := hu.form
    refine WO.step rfl (OR.move rfl (WO.step rfl (OR.extract rfl rfl (WO.step rfl (OR.extract rfl rfl (WO.step rfl (OR.assign rfl ?_)))))))
    refine WO.step rfl (OR.assign rfl (WO.done (WX.seq (WC.seq ?_))))
    have hsy' := hsy
    obtain ⟨cs, hsl, hcl, hcs⟩ := hsy'
    obtain ⟨ob, oo, rfl, hco⟩ := hsl.pos (by omega)
    have hic : i < cs.length := by omega
    have hcell' := hco i cs[i] (List.getElem?_eq_getElem hic)
    have hcb := hcs i (by omega) hic
    obtain ⟨b4, c4, e4⟩ := hcb.form
    have hlb := Hp.le.refl H
    refine WC.draw 18 mixed hs (by kernel_rfl) ?_
    refine ⟨MF.eq _, by intro Mx H w hle hs; refine forVals_nil (ORg.plain (OR.move rfl ?_)); exact ⟨_, [], Hp.le.refl _, hs, rfl, rfl⟩, ?_⟩
    refine ⟨MF.eq _, by intro Mx H w hle hs; refine forVals_eq rfl rfl rfl ?_; refine forVals_nil (ORg.plain (OR.neq rfl rfl ?_)); exact ⟨_, [], Hp.le.refl _, hs, rfl, rfl⟩, ?_⟩
    refine ⟨MF.eq _, by intro Mx H w hle hs; refine forVals_eq rfl rfl rfl ?_; refine forVals_nil (ORg.plain (OR.move rfl ?_)); exact ⟨_, [], Hp.le.refl _, hs, rfl, rfl⟩, ?_⟩
    refine ⟨MF.eq _, by intro Mx H w hle hs; refine forVals_eq rfl rfl rfl ?_; refine forVals_nil (ORg.yes rfl rfl rfl (OR.fieldAddr FA35_0 rfl ?_)); exact ⟨_, [], Hp.le.refl _, hs, rfl, rfl⟩, ?_⟩
    refine ⟨MF.eq _, by intro Mx H w hle hs; refine forVals_eq rfl rfl rfl ?_; refine forVals_eq rfl rfl rfl ?_; refine forVals_nil (ORg.yes rfl rfl rfl (OR.load T23 rfl rfl (hs.right.cellM (i := 0) rfl rfl) ?_)); exact ⟨_, [], Hp.le.refl _, hs, rfl, rfl⟩, ?_⟩
    refine ⟨MF.eq _, by intro Mx H w hle hs; refine forVals_eq rfl rfl rfl ?_; refine forVals_nil (ORg.yes rfl rfl rfl (OR.move rfl ?_)); exact ⟨_, [], Hp.le.refl _, hs, rfl, rfl⟩, ?_⟩
    refine ⟨MF.eq (.bool true), ?_, ?_⟩
    · intro Mx H w hle2 hs; (try replace hle := hle.trans hle2); (try replace hlb := hlb.trans hle2); refine forVals_eq rfl rfl rfl ?_; refine forVals_eq rfl rfl rfl ?_; refine forVals_eq rfl rfl rfl ?_
      refine forVals_nil (ORg.yes rfl rfl rfl (OR.call hs body21 rfl rfl (equal_ok _ _ _ _ _ _ hs.toSub (hr1.mono hlb) (hu.mono hlb)) ?_))
      clear hs; rintro _ H w hs hle1 rfl
      exact ⟨_, [], hle1, hs, by rw [decide_eq_true (by simp)], rfl⟩
    refine ⟨MF.eq _, by intro Mx H w hle hs; refine forVals_eq rfl rfl rfl ?_; refine forVals_eq rfl rfl rfl ?_; refine forVals_nil (ORg.yes rfl rfl rfl (OR.not rfl ?_)); exact ⟨_, [], Hp.le.refl _, hs, rfl, rfl⟩, ?_⟩
    refine ⟨MF.eq _, by intro Mx H w hle hs; refine forVals_eq rfl rfl rfl ?_; refine forVals_eq rfl rfl rfl ?_; refine forVals_nil (ORg.plain (OR.pickF rfl rfl rfl ?_)); exact ⟨_, [], Hp.le.refl _, hs, rfl, rfl⟩, ?_⟩
    refine ⟨MF.eq _, by intro Mx H w hle hs; refine forVals_eq rfl rfl rfl ?_; refine forVals_nil (ORg.plain (OR.move rfl ?_)); exact ⟨_, [], Hp.le.refl _, hs, rfl, rfl⟩, ?_⟩
    refine ⟨MF.eq _, by intro Mx H w hle hs; refine forVals_eq rfl rfl rfl ?_; refine forVals_nil (ORg.yes rfl rfl rfl (OR.fieldAddr FA35_1 rfl ?_)); exact ⟨_, [], Hp.le.refl _, hs, rfl, rfl⟩, ?_⟩
    refine ⟨MF.eq _, by intro Mx H w hle hs; refine forVals_eq rfl rfl rfl ?_; refine forVals_eq rfl rfl rfl ?_; refine forVals_nil (ORg.yes rfl rfl rfl (OR.load T23 rfl rfl (hs.right.cellM (i := 0) rfl rfl) ?_)); exact ⟨_, [], Hp.le.refl _, hs, rfl, rfl⟩, ?_⟩
    refine ⟨MF.eq _, by intro Mx H w hle hs; refine forVals_eq rfl rfl rfl ?_; refine forVals_nil (ORg.yes rfl rfl rfl (OR.move rfl ?_)); exact ⟨_, [], Hp.le.refl _, hs, rfl, rfl⟩, ?_⟩
    refine ⟨MF.eq _, by intro Mx H w hle hs; refine forVals_eq rfl rfl rfl ?_; refine forVals_nil (ORg.yes rfl rfl rfl (OR.move rfl ?_)); exact ⟨_, [], Hp.le.refl _, hs, rfl, rfl⟩, ?_⟩
    refine ⟨MF.eq (.pointer (some ⟨ob, oo + i, none⟩)), ?_, ?_⟩
    · intro Mx H w hle2 hs; (try replace hle := hle.trans hle2); (try replace hlb := hlb.trans hle2); refine forVals_eq rfl rfl rfl ?_; refine forVals_eq rfl rfl rfl ?_; refine forVals_eq rfl rfl rfl ?_
      refine forVals_nil (ORg.yes rfl rfl rfl (OR.idx i T22.und T23 rfl rfl rfl (by omega) ?_))
      exact ⟨_, [], Hp.le.refl _, hs, rfl, rfl⟩
    refine ⟨MF.eq cs[i], ?_, ?_⟩
    · intro Mx H w hle2 hs; (try replace hle := hle.trans hle2); (try replace hlb := hlb.trans hle2); refine forVals_eq rfl rfl rfl ?_; refine forVals_eq rfl rfl rfl ?_
      refine forVals_nil (ORg.yes rfl rfl rfl (OR.load T23 rfl rfl (hs.cell (hcell.mono hlb hcell')) ?_))
      exact ⟨_, [], Hp.le.refl _, hs, rfl, rfl⟩
    refine ⟨MF.eq (.bool true), ?_, ?_⟩
    · intro Mx H w hle2 hs; (try replace hle := hle.trans hle2); (try replace hlb := hlb.trans hle2); refine forVals_eq rfl rfl rfl ?_; refine forVals_eq rfl rfl rfl ?_; refine forVals_eq rfl rfl rfl ?_
      refine forVals_nil (ORg.yes rfl rfl rfl (OR.call hs body21 rfl rfl (equal_ok _ _ _ _ _ _ hs.toSub (hr2.mono hlb) (hcb.mono hlb)) ?_))
      clear hs; rintro _ H w hs hle1 rfl
      exact ⟨_, [], hle1, hs, by rw [decide_eq_true rfl], rfl⟩
    refine ⟨MF.eq _, by intro Mx H w hle hs; refine forVals_eq rfl rfl rfl ?_; refine forVals_eq rfl rfl rfl ?_; refine forVals_nil (ORg.yes rfl rfl rfl (OR.not rfl ?_)); exact ⟨_, [], Hp.le.refl _, hs, rfl, rfl⟩, ?_⟩
    intro H w hle2; (try replace hle := hle.trans hle2); (try replace hlb := hlb.trans hle2)
    refine forAllVals_eq rfl ?_
    refine forAllVals_eq rfl ?_
    refine forAllVals_eq rfl ?_
    refine forAllVals_eq rfl ?_
    refine forAllVals_eq rfl ?_
    refine forAllVals_eq rfl ?_
    refine forAllVals_eq rfl ?_
    refine forAllVals_eq rfl ?_
    refine forAllVals_eq rfl ?_
    refine forAllVals_eq rfl ?_
    refine forAllVals_eq rfl ?_
    refine forAllVals_eq rfl ?_
    refine forAllVals_eq rfl ?_
    refine forAllVals_eq rfl ?_
    refine forAllVals_eq rfl ?_
    refine forAllVals_eq rfl ?_
    refine forAllVals_eq rfl ?_
    refine forAllVals_eq rfl ?_
    refine forAllVals_nil ?_; (try clear hs); intro hs
    refine WO.step rfl (OR.pickF rfl rfl rfl (WO.done (WX.seq ?_)))
    refine WC.no rfl rfl ?_
    refine WC.skip (WX.block (WX.seq (WC.region (WO.step rfl (OR.addI rfl rfl (by omega) (by omega) (WO.step rfl (OR.move rfl ?_)))))))
    refine WO.done ?_
    replace hs := hs.drop (i := 0)
    refine WX.again (i + 1) ⟨rfl, rfl, rfl, rfl, rfl, rfl, rfl,  trivial⟩ ?_ ?_
    · exact ⟨by omega, H, hle, hx2.mono hlb, hsy.mono hlb, hs⟩
    · omega
  · have e : i = D.g := by omega
    subst e
    refine WC.exit (WX.seq_exit (WX.loop_exit (WX.block_hit (WX.seq (WC.seq (WC.region (WO.step rfl ?_)))))))
    refine OR.move rfl (WO.step rfl (OR.move rfl (WO.step rfl (OR.move rfl ?_))))
    refine WO.step rfl (OR.convI T3.und T58.und rfl ?_)
    rw [u64_wrap _ (by omega)]
    refine WO.step rfl (OR.fieldAddr FA53_7 rfl (WO.step rfl (OR.load T51 rfl rfl (hs.cellM (i := 1) rfl rfl) ?_)))
    refine WO.step rfl (OR.convI T51.und T58.und rfl ?_)
    rw [u64_wrap _ (by omega)]
    refine WO.step rfl (OR.add rfl rfl ?_)
    have hadd : IntKind.u64.wrap ((D.g : Int) + (Sent : Int)) = ((D.g + Sent : Nat) : Int) := by
      have := u64_wrap (D.g + Sent) (by omega)
      rw [← this]; rfl
    rw [hadd]
    refine WO.step rfl (OR.fieldAddr FA53_3 rfl (WO.step rfl (OR.load T23 rfl rfl (hs.cellM (i := 1) rfl rfl) ?_)))
    refine WO.step rfl (OR.call hs body35 rfl rfl (ssend_ok x gen (D.g + Sent) _ a D o2 _ _ hs.toSub (hs.blk (i := 0) rfl) (hs.mem x _ true (List.mem_cons_self ..)).2.1 hx2 hok2 (ha.mono hle) (by omega)) ?_)
    clear hs; rintro _ H w hs hle1 ⟨r, rfl, hr⟩; replace hle := hle.trans hle1; (try replace hlb := hlb.trans hle1)
    have hzl : (sendC D (D.g + Sent) a).length = D.g := coefF_len _ _ _
    have hz0 : ¬ lead (sendC D (D.g + Sent) a) < 0 := coefF_lead _ _ _ (Nat.mod_lt _ hn1)
    generalize sendC D (D.g + Sent) a = zc at *
    rw [rowF, if_pos ⟨hgl, hzl⟩] at hr
    rw [thereE, if_pos hgl]
    replace hx2 := hx2.mono hle1
    obtain ⟨r1, r2, rfl, hr1, hr2⟩ := hr
    obtain ⟨b1, c1, rfl⟩ := hr1.form
    obtain ⟨b2, c2, rfl⟩ := hr2.form
    refine WO.step rfl (OR.move rfl (WO.step rfl (OR.extract rfl rfl (WO.step rfl (OR.extract rfl rfl (WO.step rfl (OR.alloc hs T35 ?_)))))))
    clear hs; intro g6 w hg6 hs
    refine WO.stepN (OR.storeAll hs T35 rfl rfl rfl rfl rfl ?_)
    clear hs; intro w hs
    refine WO.step rfl (OR.assign rfl (WO.done (WX.seq (WC.seq (WC.region (WO.step rfl (OR.move rfl ?_)))))))
    refine WO.step rfl (OR.move rfl (WO.step rfl (OR.fieldAddr FA35_0 rfl (WO.step rfl (OR.load T23 rfl rfl (hs.cellM (i := 0) rfl rfl) ?_)))))
    replace hs := hs.front (i := 1) rfl
    refine WO.step rfl (OR.call hs body32 rfl rfl (srow_ok x gen _ zc D o2 _ _ hs.toSub (hs.blk (i := 0) rfl) (hs.mem x _ true (List.mem_cons_self ..)).2.1 hx2 hok2 hr1 (by omega)) ?_)
    clear hs; rintro _ H w hs hle1 ⟨r, rfl, hr⟩; replace hle := hle.trans hle1; (try replace hlb := hlb.trans hle1)
    rw [rowF, if_pos ⟨hgl, hzl⟩] at hr
    rw [rowE, if_pos hgl, if_pos hzl]
    replace hr1 := hr1.mono hle1
    replace hr2 := hr2.mono hle1
    obtain ⟨r3, r4, rfl, hr3, hr4⟩ := hr
    obtain ⟨b3, c3, rfl⟩ := hr3.form
    obtain ⟨b4, c4, rfl⟩ := hr4.form
    refine WO.step rfl (OR.move rfl (WO.step rfl (OR.extract rfl rfl (WO.step rfl (OR.extract rfl rfl (WO.step rfl (OR.alloc hs T35 ?_)))))))
    clear hs; intro g7 w hg7 hs
    refine WO.stepN (OR.storeAll hs T35 rfl rfl rfl rfl rfl ?_)
    clear hs; intro w hs
    refine WO.step rfl (OR.assign rfl (WO.done (WX.seq (WC.seq (WC.region (WO.step rfl (OR.move rfl ?_)))))))
    refine WO.step rfl (OR.eql rfl rfl (WO.step rfl (OR.move rfl ?_)))
    refine WO.guardYes rfl rfl rfl rfl (OR.fieldAddr FA35_0 rfl (WO.guardYes rfl rfl rfl rfl (OR.load T23 rfl rfl (hs.cellM (i := 2) rfl rfl) ?_)))
    refine WO.guardYes rfl rfl rfl rfl (OR.call hs body37 rfl rfl (isZero_ok _ zc _ _ hs.toSub hr1 (by omega)) ?_)
    clear hs; rintro _ H w hs hle1 rfl; replace hle := hle.trans hle1; (try replace hlb := hlb.trans hle1)
    replace hr2 := hr2.mono hle1
    replace hr4 := hr4.mono hle1
    rw [decide_eq_false hz0]
    refine WO.guardYes rfl rfl rfl rfl (OR.not rfl (WO.step rfl (OR.pickT rfl rfl rfl (WO.step rfl (OR.move rfl ?_)))))
    refine WO.guardYes rfl rfl rfl rfl (OR.fieldAddr FA35_1 rfl (WO.guardYes rfl rfl rfl rfl (OR.load T23 rfl rfl (hs.cellM (i := 0) rfl rfl) (WO.guardYes rfl rfl rfl rfl (OR.fieldAddr FA35_1 rfl (WO.guardYes rfl rfl rfl rfl (OR.load T23 rfl rfl (hs.cellM (i := 2) rfl rfl) ?_)))))))
    refine WO.guardYes rfl rfl rfl rfl (OR.call hs body21 rfl rfl (equal_ok _ _ _ _ _ _ hs.toSub hr4 hr2) ?_)
    clear hs; rintro _ H w hs hle1 rfl; replace hle := hle.trans hle1; (try replace hlb := hlb.trans hle1)
    rw [decide_eq_true rfl]
    refine WO.step rfl (OR.pickT rfl rfl rfl (WO.step rfl (OR.assign rfl (WO.done (WX.seq (WC.ret ?_))))))
    refine WX.ret1 rfl rfl ?_
    exact .mk ((((hs.drop 0).drop 0).drop 0).drop 0) rfl

end Go.Bw
