/- Rows held against rows. -/
import Derived.Test.YtdibepkfgemddaaGreatInsert
namespace Go.Bw
set_option linter.unusedVariables false
set_option linter.unusedSimpArgs false
open Go.Proofs

set_option maxRecDepth 20000 in
set_option maxHeartbeats 2000000 in
theorem same1_ok (x y : RowD) (xc xp yc yp : Value) (H0 : Hp) (w0 : World) (h0 : Sub H0 w0) (h1 : Bytes H0 xc x.1) (h2 : Bytes H0 xp x.2) (h3 : Bytes H0 yc y.1) (h4 : Bytes H0 yp y.2) :
    Calls Tryz.prog 103 #[.agg #[xc, xp], .agg #[yc, yp]] w0 (Pure H0 w0 fun v _ => v = .bool (decide (x = y))) := by
  have hs := HS.init h0
  have hle := Hp.le.refl H0
  refine Calls.enter (args := [.agg #[xc, xp], .agg #[yc, yp]]) Tryz.func103 rfl Tryz.ntmps103 rfl ?_
  refine WC.seq (WC.region (WO.step rfl (OR.box hs rfl ?_)))
  clear hs; intro g1 w hg1 hs
  refine WO.step rfl (OR.box hs rfl ?_)
  clear hs; intro g2 w hg2 hs
  refine WO.step rfl (OR.assign rfl (WO.done (WX.seq (WC.seq (WC.region (WO.step rfl (OR.fieldAddr FA45_0 rfl ?_)))))))
  refine WO.step rfl (OR.load T43 rfl rfl (hs.cellM (i := 1) rfl rfl) (WO.step rfl (OR.fieldAddr FA45_0 rfl (WO.step rfl (OR.load T43 rfl rfl (hs.cellM (i := 0) rfl rfl) ?_)))))
  refine WO.step rfl (OR.call hs body51 rfl rfl (equal_ok _ _ _ _ _ _ hs.toSub h1 h3) ?_)
  clear hs; rintro _ H w hs hle1 rfl; replace hle := hle.trans hle1; (try replace hlb := hlb.trans hle1)
  refine WO.step rfl (OR.move rfl ?_)
  refine WO.guardSplit (j := 5) rfl (fun hq => ?_) (fun hq => ?_)
  · refine WO.guardYes rfl (decide_eq_true hq) rfl rfl (OR.fieldAddr FA45_1 rfl (WO.guardYes rfl (decide_eq_true hq) rfl rfl (OR.load T43 rfl rfl (hs.cellM (i := 1) rfl rfl) (WO.guardYes rfl (decide_eq_true hq) rfl rfl (OR.fieldAddr FA45_1 rfl (WO.guardYes rfl (decide_eq_true hq) rfl rfl (OR.load T43 rfl rfl (hs.cellM (i := 0) rfl rfl) ?_)))))))
    refine WO.guardYes rfl (decide_eq_true hq) rfl rfl (OR.call hs body51 rfl rfl (equal_ok _ _ _ _ _ _ hs.toSub (h2.mono hle) (h4.mono hle)) ?_)
    clear hs; rintro _ H w hs hle1 rfl; replace hle := hle.trans hle1; (try replace hlb := hlb.trans hle1)
    refine WO.step rfl (OR.pickT rfl (decide_eq_true hq) rfl (WO.step rfl (OR.assign rfl (WO.done (WX.seq (WC.ret ?_))))))
    replace hs := hs.drop (i := 1)
    replace hs := hs.drop (i := 0)
    refine WX.ret1 rfl rfl ?_
    refine .mk hs ?_
    congr 1
    rw [decide_eq_decide]
    exact ⟨fun h => Prod.ext hq h, fun h => by rw [h]⟩
  · refine WO.guardNo rfl (decide_eq_false hq) rfl rfl (WO.guardNo rfl (decide_eq_false hq) rfl rfl (WO.guardNo rfl (decide_eq_false hq) rfl rfl (WO.guardNo rfl (decide_eq_false hq) rfl rfl (WO.guardNo rfl (decide_eq_false hq) rfl rfl (WO.step rfl (OR.pickF rfl (decide_eq_false hq) rfl (WO.step rfl ?_)))))))
    refine OR.assign rfl (WO.done (WX.seq (WC.ret ?_)))
    replace hs := hs.drop (i := 1)
    replace hs := hs.drop (i := 0)
    refine WX.ret1 rfl rfl ?_
    refine .mk hs ?_
    congr 1
    symm
    rw [decide_eq_false_iff_not]
    exact fun h => hq (by rw [h])

set_option maxRecDepth 20000 in
set_option maxHeartbeats 2000000 in
theorem same_ok (a b : List RowD) (va vb : Value) (H0 : Hp) (w0 : World) (h0 : Sub H0 w0) (ha : Rws H0 va a) (hb : Rws H0 vb b) (hl : a.length ≤ 100000) :
    Calls Tryz.prog 102 #[va, vb, .func (.func 103) #[] #[]] w0 (Pure H0 w0 fun v _ => v = .bool (decide (a = b))) := by
  have hs := HS.init h0
  have hle := Hp.le.refl H0
  obtain ⟨ba, ca, rfl⟩ := ha.form
  obtain ⟨bb, cb, rfl⟩ := hb.form
  refine Calls.enter (args := [.slice ba a.length ca, .slice bb b.length cb, .func (.func 103) #[] #[]]) Tryz.func102 rfl Tryz.ntmps102 rfl ?_
  refine WC.seq (WC.region (WO.step rfl (OR.assign rfl (WO.done (WX.seq (WC.seq (WC.seq ?_)))))))
  refine WC.region (WO.step rfl (OR.move rfl (WO.step rfl (OR.lenSlice T97.und rfl (WO.step rfl (OR.move rfl (WO.step rfl ?_)))))))
  refine OR.lenSlice T97.und rfl (WO.step rfl (OR.neq rfl rfl (WO.done (WX.seq ?_))))
  refine WC.condD rfl (fun hne => ?_) (fun hne => ?_)
  · refine WC.seq (WC.region (WO.step rfl (OR.assign rfl (WO.done (WX.seq (WC.ret (WX.seq_ret ?_)))))))
    refine WX.ret1 rfl rfl ?_
    refine .mk hs ?_
    congr 1
    symm
    rw [decide_eq_false_iff_not]
    exact fun h => hne (by rw [h])
  · have hlen : a.length = b.length := by omega
    refine WC.skip (WX.seq (WC.seq (WC.seq (WC.region (WO.step rfl (OR.move rfl (WO.step rfl ?_)))))))
    refine OR.lenSlice T97.und rfl (WO.step rfl (OR.move rfl (WO.done (WX.seq (WC.block ?_)))))
    refine WC.loop (ι := Nat) (fun k => [(1, .slice bb b.length cb), (2, .func (.func 103) #[] #[]), (15, .slice ba a.length ca), (16, .int .i64 (a.length : Int)), (17, .int .i64 (k : Int))]) (fun k w => (k ≤ a.length ∧ a.take k = b.take k ∧ ∃ H, Hp.le H0 H ∧ HS [] H0 w0 H [] w)) (fun k => a.length - k) 0 ⟨rfl, rfl, rfl, rfl, rfl,  trivial⟩ ?_ (fun k w hW => ?_)
    · exact ⟨by omega, by simp, H0, hle, hs⟩
    obtain ⟨hk, hpre, H, hle, hs⟩ := hW
    refine WC.seq (WC.region (WO.step rfl (OR.lss rfl rfl (WO.done (WX.seq (WC.seq ?_))))))
    refine WC.condD rfl (fun hlt => ?_) (fun hlt => ?_)
    · have hk' : k < a.length := by omega
      have hkb : k < b.length := by omega
      obtain ⟨xb, xo, rfl, hcr⟩ := ha.pos (by omega)
      obtain ⟨yb, yo, rfl, hcs⟩ := hb.pos (by omega)
      obtain ⟨ec, ep, hcc, hec, hep⟩ := hcr k hk'
      obtain ⟨fc, fp, hcd, hfc, hfp⟩ := hcs k hkb
      obtain ⟨_, _, rfl⟩ := hec.form
      obtain ⟨_, _, rfl⟩ := hep.form
      obtain ⟨_, _, rfl⟩ := hfc.form
      obtain ⟨_, _, rfl⟩ := hfp.form
      refine WC.skip (WX.seq (WC.seq (WC.block (WC.seq (WC.region (WO.step rfl (OR.move rfl ?_)))))))
      refine WO.step rfl (OR.idxN k T97.und T45 rfl rfl rfl hk' ?_)
      refine WO.step rfl (OR.loadN (cs := [_, _]) T45 rfl rfl rfl (fun j u hj => hs.cell (hcell.mono hle (hcc j u hj))) ?_)
      refine WO.step rfl (OR.alloc hs T45 ?_)
      clear hs; intro g1 w hg1 hs
      refine WO.step rfl (OR.assign rfl (WO.stepN (OR.storeAll hs T45 rfl rfl rfl rfl rfl ?_)))
      clear hs; intro w hs
      refine WO.done (WX.seq (WC.seq (WC.region (WO.step rfl (OR.move rfl (WO.step rfl (OR.move rfl ?_)))))))
      refine WO.step rfl (OR.idxN k T97.und T45 rfl rfl rfl hkb ?_)
      refine WO.step rfl (OR.loadN (cs := [_, _]) T45 rfl rfl rfl (fun j u hj => hs.cell (hcell.mono hle (hcd j u hj))) ?_)
      refine WO.step rfl (OR.alloc hs T45 ?_)
      clear hs; intro g2 w hg2 hs
      refine WO.stepN (OR.storeAll hs T45 rfl rfl rfl rfl rfl ?_)
      clear hs; intro w hs
      refine WO.done (WX.seq (WC.seq (WC.region (WO.step rfl (OR.move rfl (WO.step rfl (OR.loadAll T45 rfl rfl (hs.blk (i := 1) rfl) rfl ?_)))))))
      refine WO.step rfl (OR.loadAll T45 rfl rfl (hs.blk (i := 0) rfl) rfl ?_)
      refine WO.step rfl (OR.call hs body103 rfl rfl (same1_ok a[k] b[k] _ _ _ _ _ _ hs.toSub (hec.mono hle) (hep.mono hle) (hfc.mono hle) (hfp.mono hle)) ?_)
      clear hs; rintro _ H w hs hle1 rfl; replace hle := hle.trans hle1; (try replace hlb := hlb.trans hle1)
      refine WO.step rfl (OR.not rfl (WO.done (WX.seq ?_)))
      replace hs := hs.drop (i := 1)
      replace hs := hs.drop (i := 0)
      refine WC.cond rfl (fun hq => ?_) (fun hq => ?_)
      · have hq : ¬ a[k] = b[k] := by simpa using hq
        refine WC.seq (WC.region (WO.step rfl (OR.assign rfl (WO.done (WX.seq (WC.ret (WX.block_ret ?_)))))))
        refine WX.seq_ret (WX.loop_ret (WX.block_ret (WX.seq_ret ?_)))
        refine WX.ret1 rfl rfl ?_
        refine .mk hs ?_
        congr 1
        symm
        rw [decide_eq_false_iff_not]
        exact fun h => hq (by simp [h])
      · have hq : a[k] = b[k] := by simpa using hq
        refine WC.skip (WX.block (WX.seq (WC.region (WO.step rfl (OR.addI rfl rfl (by omega) (by omega) (WO.step rfl (OR.move rfl ?_)))))))
        refine WO.done ?_
        refine WX.again (k + 1) ⟨rfl, rfl, rfl, rfl, rfl,  trivial⟩ ?_ ?_
        · refine ⟨hk', ?_, H, hle, hs⟩
          rw [List.take_succ_eq_append_getElem hk', List.take_succ_eq_append_getElem hkb, hpre, hq]
        · omega
    · have e : k = a.length := by omega
      subst e
      refine WC.exit (WX.seq_exit (WX.loop_exit (WX.block_hit (WX.seq (WC.seq (WC.region (WO.step rfl ?_)))))))
      refine OR.assign rfl (WO.done (WX.seq (WC.ret ?_)))
      refine WX.ret1 rfl rfl ?_
      refine .mk hs ?_
      congr 1
      symm
      rw [decide_eq_true_iff]
      rwa [List.take_of_length_le (Nat.le_refl _), List.take_of_length_le (by omega)] at hpre

set_option maxRecDepth 20000 in
set_option maxHeartbeats 2000000 in
theorem bsame_ok (a b : List RowD) (va vb : Value) (H0 : Hp) (w0 : World) (h0 : Sub H0 w0) (ha : Rws H0 va a) (hb : Rws H0 vb b) (hl : a.length ≤ 100000) :
    Calls Tryz.prog 46 #[va, vb] w0 (Pure H0 w0 fun v _ => v = .bool (decide (a = b))) := by
  have hs := HS.init h0
  have hle := Hp.le.refl H0
  refine Calls.enter (args := [va, vb]) Tryz.func46 rfl Tryz.ntmps46 rfl ?_
  refine WC.seq (WC.region (WO.step rfl (OR.assign rfl (WO.done (WX.seq (WC.seq (WC.region ?_)))))))
  refine WO.step rfl (OR.move rfl (WO.step rfl (OR.move rfl ?_)))
  refine WO.step rfl (OR.call hs body102 rfl rfl (same_ok _ _ _ _ _ _ hs.toSub ha hb hl) ?_)
  clear hs; rintro _ H w hs hle1 rfl; replace hle := hle.trans hle1; (try replace hlb := hlb.trans hle1)
  refine WO.step rfl (OR.assign rfl (WO.done (WX.seq (WC.ret ?_))))
  refine WX.ret1 rfl rfl ?_
  exact .mk hs rfl

end Go.Bw
