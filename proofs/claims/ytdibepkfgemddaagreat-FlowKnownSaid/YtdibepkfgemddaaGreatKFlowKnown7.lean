/- What law_FlowKnown needs: laid out of own texts. No condition. -/
import Derived.Test.YtdibepkfgemddaaGreatKFlowKnown6
namespace Go.Bw
set_option linter.unusedVariables false
set_option linter.unusedSimpArgs false
open Go.Proofs
section
variable (H0 : Hp) (w0 : World) (h0 : Sub H0 w0)
include h0
set_option maxRecDepth 20000 in
set_option maxHeartbeats 2000000 in
theorem fown_nil (f : Fn) (cp : Array Value) : Calls Tryz.prog 98 #[.pointer none, .func f #[] cp] w0 (Pure H0 w0 fun v _ => v = .int .i64 2) := by
  have hs := HS.init h0
  have hle := Hp.le.refl H0
  refine Calls.enter (args := [.pointer none, .func f #[] cp]) Tryz.func98 rfl Tryz.ntmps98 rfl ?_
  refine WC.seq (WC.region (WO.step rfl (OR.assign rfl (WO.done (WX.seq (WC.seq (WC.block ?_)))))))
  refine WC.seq (WC.region (WO.step rfl (OR.move rfl ?_)))
  refine WO.step rfl (OR.call hs body96 rfl rfl (fmade_nil _ _ hs.toSub) ?_)
  clear hs; rintro _ H w hs hle1 rfl; replace hle := hle.trans hle1; (try replace hlb := hlb.trans hle1)
  refine WO.step rfl (OR.not rfl (WO.step rfl (OR.assign rfl (WO.done (WX.seq ?_)))))
  refine WC.yes rfl rfl ?_
  refine WC.seq (WC.region (WO.step rfl (OR.assign rfl (WO.done (WX.seq (WC.ret (WX.block_ret ?_)))))))
  refine WX.seq_ret ?_
  refine WX.ret1 rfl rfl ?_
  exact .mk hs rfl
set_option maxRecDepth 20000 in
set_option maxHeartbeats 2000000 in
theorem ftake_nil : Calls Tryz.prog 43 #[.pointer none, .int .u64 0, .agg #[.slice none 0 0, .slice none 0 0]] w0 (Pure H0 w0 fun v _ => v = .tuple #[.bool false, .int .i64 2]) := by
  have hs := HS.init h0
  have hle := Hp.le.refl H0
  refine Calls.enter (args := [.pointer none, .int .u64 0, .agg #[.slice none 0 0, .slice none 0 0]]) Tryz.func43 rfl Tryz.ntmps43 rfl ?_
  refine WC.seq (WC.region (WO.step rfl (OR.box hs rfl ?_)))
  clear hs; intro g1 w hg1 hs
  refine WO.step rfl (OR.assign rfl (WO.step rfl (OR.assign rfl (WO.done (WX.seq (WC.seq (WC.block ?_)))))))
  refine WC.seq (WC.region (WO.step rfl (OR.move rfl ?_)))
  refine WO.step rfl (OR.call hs body96 rfl rfl (fmade_nil _ _ hs.toSub) ?_)
  clear hs; rintro _ H w hs hle1 rfl; replace hle := hle.trans hle1; (try replace hlb := hlb.trans hle1)
  refine WO.step rfl (OR.not rfl (WO.step rfl (OR.assign rfl (WO.done (WX.seq ?_)))))
  refine WC.yes rfl rfl ?_
  refine WC.seq (WC.region (WO.step rfl (OR.assign rfl (WO.step rfl (OR.assign rfl (WO.done (WX.seq ?_)))))))
  refine WC.ret (WX.block_ret (WX.seq_ret ?_))
  refine WX.ret2 rfl rfl rfl ?_
  exact .mk (hs.drop 0) rfl
set_option maxRecDepth 20000 in
set_option maxHeartbeats 2000000 in
theorem frel_nil : Calls Tryz.prog 54 #[.pointer none] w0 (Pure H0 w0 fun v _ => v = .tuple #[.slice none 0 0, .int .i64 2]) := by
  have hs := HS.init h0
  have hle := Hp.le.refl H0
  refine Calls.enter (args := [.pointer none]) Tryz.func54 rfl Tryz.ntmps54 rfl ?_
  refine WC.seq (WC.region (WO.step rfl (OR.assign rfl (WO.step rfl (OR.assign rfl (WO.done (WX.seq ?_)))))))
  refine WC.seq (WC.block (WC.seq (WC.region (WO.step rfl (OR.move rfl ?_)))))
  refine WO.step rfl (OR.call hs body96 rfl rfl (fmade_nil _ _ hs.toSub) ?_)
  clear hs; rintro _ H w hs hle1 rfl; replace hle := hle.trans hle1; (try replace hlb := hlb.trans hle1)
  refine WO.step rfl (OR.not rfl (WO.step rfl (OR.assign rfl (WO.done (WX.seq ?_)))))
  refine WC.yes rfl rfl ?_
  refine WC.seq (WC.region (WO.step rfl (OR.assign rfl (WO.step rfl (OR.assign rfl (WO.done (WX.seq ?_)))))))
  refine WC.ret (WX.block_ret (WX.seq_ret ?_))
  refine WX.ret2 rfl rfl rfl ?_
  exact .mk hs rfl
set_option maxRecDepth 20000 in
set_option maxHeartbeats 2000000 in
theorem fsend_nil : Calls Tryz.prog 45 #[.pointer none, .int .u64 0, .int .u64 0, .slice none 0 0] w0 (Pure H0 w0 fun v _ => v = .tuple #[.agg #[.slice none 0 0, .slice none 0 0], .int .i64 2]) := by
  have hs := HS.init h0
  have hle := Hp.le.refl H0
  refine Calls.enter (args := [.pointer none, .int .u64 0, .int .u64 0, .slice none 0 0]) Tryz.func45 rfl Tryz.ntmps45 rfl ?_
  refine WC.seq (WC.region (WO.step rfl (OR.alloc hs T45 ?_)))
  clear hs; intro g1 w hg1 hs
  refine WO.step rfl (OR.assign rfl (WO.done (WX.seq (WC.seq (WC.seq (WC.region (WO.step rfl ?_)))))))
  refine OR.move rfl ?_
  refine WO.step rfl (OR.call hs body96 rfl rfl (fmade_nil _ _ hs.toSub) ?_)
  clear hs; rintro _ H w hs hle1 rfl; replace hle := hle.trans hle1; (try replace hlb := hlb.trans hle1)
  refine WO.step rfl (OR.not rfl (WO.done (WX.seq ?_)))
  refine WC.yes rfl rfl ?_
  refine WC.seq (WC.region (WO.step rfl (OR.buildZero T45 PL45 (WO.stepN (OR.storeAll hs T45 rfl rfl rfl rfl rfl ?_)))))
  clear hs; intro w hs
  refine WO.step rfl (OR.assign rfl (WO.done (WX.seq (WC.ret (WX.seq_ret ?_)))))
  refine WX.retCT T45 rfl rfl rfl rfl rfl (hs.blk (i := 0) rfl) ?_
  exact .mk (hs.drop 0) rfl
set_option maxRecDepth 20000 in
set_option maxHeartbeats 2000000 in
theorem fbase_nil : Calls Tryz.prog 37 #[.pointer none] w0 (Pure H0 w0 fun v _ => v = .tuple #[.int .u64 0, .bool false]) := by
  have hs := HS.init h0
  have hle := Hp.le.refl H0
  refine Calls.enter (args := [.pointer none]) Tryz.func37 rfl Tryz.ntmps37 rfl ?_
  refine WC.seq (WC.region (WO.step rfl (OR.assign rfl (WO.step rfl (OR.assign rfl (WO.done (WX.seq ?_)))))))
  refine WC.seq (WC.seq (WC.region (WO.step rfl (OR.move rfl ?_))))
  refine WO.step rfl (OR.call hs body96 rfl rfl (fmade_nil _ _ hs.toSub) ?_)
  clear hs; rintro _ H w hs hle1 rfl; replace hle := hle.trans hle1; (try replace hlb := hlb.trans hle1)
  refine WO.step rfl (OR.not rfl (WO.done (WX.seq ?_)))
  refine WC.yes rfl rfl ?_
  refine WC.seq (WC.region (WO.step rfl (OR.assign rfl (WO.step rfl (OR.assign rfl (WO.done (WX.seq ?_)))))))
  refine WC.ret (WX.seq_ret ?_)
  refine WX.ret2 rfl rfl rfl ?_
  exact .mk hs rfl
set_option maxRecDepth 20000 in
set_option maxHeartbeats 2000000 in
theorem ftotal_nil : Calls Tryz.prog 60 #[.pointer none] w0 (Pure H0 w0 fun v _ => v = .tuple #[.int .u64 0, .bool false]) := by
  have hs := HS.init h0
  have hle := Hp.le.refl H0
  refine Calls.enter (args := [.pointer none]) Tryz.func60 rfl Tryz.ntmps60 rfl ?_
  refine WC.seq (WC.region (WO.step rfl (OR.assign rfl (WO.step rfl (OR.assign rfl (WO.done (WX.seq ?_)))))))
  refine WC.seq (WC.block (WC.seq (WC.region (WO.step rfl (OR.move rfl ?_)))))
  refine WO.step rfl (OR.call hs body96 rfl rfl (fmade_nil _ _ hs.toSub) ?_)
  clear hs; rintro _ H w hs hle1 rfl; replace hle := hle.trans hle1; (try replace hlb := hlb.trans hle1)
  refine WO.step rfl (OR.not rfl (WO.step rfl (OR.assign rfl (WO.done (WX.seq ?_)))))
  refine WC.yes rfl rfl ?_
  refine WC.seq (WC.region (WO.step rfl (OR.assign rfl (WO.step rfl (OR.assign rfl (WO.done (WX.seq ?_)))))))
  refine WC.ret (WX.block_ret (WX.seq_ret ?_))
  refine WX.ret2 rfl rfl rfl ?_
  exact .mk hs rfl
set_option maxRecDepth 20000 in
set_option maxHeartbeats 2000000 in
theorem ftold_nil : Calls Tryz.prog 58 #[.pointer none, .int .u64 0] w0 (Pure H0 w0 fun v _ => v = .int .i64 2) := by
  have hs := HS.init h0
  have hle := Hp.le.refl H0
  refine Calls.enter (args := [.pointer none, .int .u64 0]) Tryz.func58 rfl Tryz.ntmps58 rfl ?_
  refine WC.seq (WC.region (WO.step rfl (OR.assign rfl (WO.done (WX.seq (WC.seq (WC.block ?_)))))))
  refine WC.seq (WC.region (WO.step rfl (OR.move rfl ?_)))
  refine WO.step rfl (OR.call hs body96 rfl rfl (fmade_nil _ _ hs.toSub) ?_)
  clear hs; rintro _ H w hs hle1 rfl; replace hle := hle.trans hle1; (try replace hlb := hlb.trans hle1)
  refine WO.step rfl (OR.not rfl (WO.step rfl (OR.assign rfl (WO.done (WX.seq ?_)))))
  refine WC.yes rfl rfl ?_
  refine WC.seq (WC.region (WO.step rfl (OR.assign rfl (WO.done (WX.seq (WC.ret (WX.block_ret ?_)))))))
  refine WX.seq_ret ?_
  refine WX.ret1 rfl rfl ?_
  exact .mk hs rfl
set_option maxRecDepth 20000 in
set_option maxHeartbeats 2000000 in
theorem fepoch_nil : Calls Tryz.prog 38 #[.pointer none, .slice none 0 0] w0 (Pure H0 w0 fun v _ => v = .int .i64 2) := by
  have hs := HS.init h0
  have hle := Hp.le.refl H0
  refine Calls.enter (args := [.pointer none, .slice none 0 0]) Tryz.func38 rfl Tryz.ntmps38 rfl ?_
  refine WC.seq (WC.region (WO.step rfl (OR.assign rfl (WO.done (WX.seq (WC.seq (WC.seq ?_)))))))
  refine WC.region (WO.step rfl (OR.move rfl ?_))
  refine WO.step rfl (OR.call hs body96 rfl rfl (fmade_nil _ _ hs.toSub) ?_)
  clear hs; rintro _ H w hs hle1 rfl; replace hle := hle.trans hle1; (try replace hlb := hlb.trans hle1)
  refine WO.step rfl (OR.not rfl (WO.done (WX.seq ?_)))
  refine WC.yes rfl rfl ?_
  refine WC.seq (WC.region (WO.step rfl (OR.assign rfl (WO.done (WX.seq (WC.ret (WX.seq_ret ?_)))))))
  refine WX.ret1 rfl rfl ?_
  exact .mk hs rfl
set_option maxRecDepth 20000 in
set_option maxHeartbeats 2000000 in
theorem fhop_nil : Calls Tryz.prog 39 #[.pointer none, .int .i64 0, .int .u64 0] w0 (Pure H0 w0 fun v _ => v = .int .i64 2) := by
  have hs := HS.init h0
  have hle := Hp.le.refl H0
  refine Calls.enter (args := [.pointer none, .int .i64 0, .int .u64 0]) Tryz.func39 rfl Tryz.ntmps39 rfl ?_
  refine WC.seq (WC.region (WO.step rfl (OR.assign rfl (WO.done (WX.seq (WC.seq (WC.block ?_)))))))
  refine WC.seq (WC.region (WO.step rfl (OR.move rfl ?_)))
  refine WO.step rfl (OR.call hs body96 rfl rfl (fmade_nil _ _ hs.toSub) ?_)
  clear hs; rintro _ H w hs hle1 rfl; replace hle := hle.trans hle1; (try replace hlb := hlb.trans hle1)
  refine WO.step rfl (OR.not rfl (WO.step rfl (OR.assign rfl (WO.done (WX.seq ?_)))))
  refine WC.yes rfl rfl ?_
  refine WC.seq (WC.region (WO.step rfl (OR.assign rfl (WO.done (WX.seq (WC.ret (WX.block_ret ?_)))))))
  refine WX.seq_ret ?_
  refine WX.ret1 rfl rfl ?_
  exact .mk hs rfl
set_option maxRecDepth 20000 in
set_option maxHeartbeats 2000000 in
theorem frest_nil : Calls Tryz.prog 57 #[.pointer none, .slice none 0 0, .slice none 0 0, .bool false] w0 (Pure H0 w0 fun v _ => v = .int .i64 2) := by
  have hs := HS.init h0
  have hle := Hp.le.refl H0
  refine Calls.enter (args := [.pointer none, .slice none 0 0, .slice none 0 0, .bool false]) Tryz.func57 rfl Tryz.ntmps57 rfl ?_
  refine WC.seq (WC.region (WO.step rfl (OR.assign rfl (WO.done (WX.seq (WC.seq (WC.block ?_)))))))
  refine WC.seq (WC.region (WO.step rfl (OR.move rfl ?_)))
  refine WO.step rfl (OR.call hs body96 rfl rfl (fmade_nil _ _ hs.toSub) ?_)
  clear hs; rintro _ H w hs hle1 rfl; replace hle := hle.trans hle1; (try replace hlb := hlb.trans hle1)
  refine WO.step rfl (OR.not rfl (WO.step rfl (OR.assign rfl (WO.done (WX.seq ?_)))))
  refine WC.yes rfl rfl ?_
  refine WC.seq (WC.region (WO.step rfl (OR.assign rfl (WO.done (WX.seq (WC.ret (WX.block_ret ?_)))))))
  refine WX.seq_ret ?_
  refine WX.ret1 rfl rfl ?_
  exact .mk hs rfl
set_option maxRecDepth 20000 in
set_option maxHeartbeats 2000000 in
theorem franks_nil : Calls Tryz.prog 61 #[.pointer none] w0 (Pure H0 w0 fun v _ => v = .slice none 0 0) := by
  have hs := HS.init h0
  have hle := Hp.le.refl H0
  refine Calls.enter (args := [.pointer none]) Tryz.func61 rfl Tryz.ntmps61 rfl ?_
  refine WC.seq (WC.region (WO.step rfl (OR.assign rfl (WO.done (WX.seq (WC.seq (WC.region ?_)))))))
  refine WO.step rfl (OR.assign rfl (WO.done (WX.seq (WC.seq (WC.block (WC.seq (WC.region ?_)))))))
  refine WO.step rfl (OR.move rfl ?_)
  refine WO.step rfl (OR.call hs body96 rfl rfl (fmade_nil _ _ hs.toSub) ?_)
  clear hs; rintro _ H w hs hle1 rfl; replace hle := hle.trans hle1; (try replace hlb := hlb.trans hle1)
  refine WO.step rfl (OR.not rfl (WO.step rfl (OR.assign rfl (WO.done (WX.seq ?_)))))
  refine WC.yes rfl rfl ?_
  refine WC.skip (WX.block (WX.seq (WC.seq (WC.region (WO.step rfl (OR.move rfl (WO.step rfl ?_)))))))
  refine OR.assign rfl (WO.done (WX.seq (WC.ret ?_)))
  refine WX.ret1 rfl rfl ?_
  exact .mk hs rfl
set_option maxRecDepth 20000 in
set_option maxHeartbeats 2000000 in
theorem fin_nil : Calls Tryz.prog 55 #[.pointer none, .int .u64 0] w0 (Pure H0 w0 fun v _ => v = .bool false) := by
  have hs := HS.init h0
  have hle := Hp.le.refl H0
  refine Calls.enter (args := [.pointer none, .int .u64 0]) Tryz.func55 rfl Tryz.ntmps55 rfl ?_
  refine WC.seq (WC.region (WO.step rfl (OR.assign rfl (WO.done (WX.seq (WC.seq (WC.region ?_)))))))
  refine WO.step rfl (OR.move rfl ?_)
  refine WO.step rfl (OR.call hs body96 rfl rfl (fmade_nil _ _ hs.toSub) ?_)
  clear hs; rintro _ H w hs hle1 rfl; replace hle := hle.trans hle1; (try replace hlb := hlb.trans hle1)
  refine WO.step rfl (OR.move rfl ?_)
  refine WO.guardNo rfl rfl rfl rfl (WO.guardNo rfl rfl rfl rfl (WO.guardNo rfl rfl rfl rfl (WO.guardNo rfl rfl rfl rfl (WO.guardNo rfl rfl rfl rfl (WO.step rfl (OR.pickF rfl rfl rfl (WO.step rfl ?_)))))))
  refine OR.move rfl (WO.guardNo rfl rfl rfl rfl (WO.guardNo rfl rfl rfl rfl (WO.guardNo rfl rfl rfl rfl (WO.guardNo rfl rfl rfl rfl (WO.guardNo rfl rfl rfl rfl (WO.guardNo rfl rfl rfl rfl (WO.step rfl ?_)))))))
  refine OR.pickF rfl rfl rfl (WO.step rfl (OR.assign rfl (WO.done (WX.seq (WC.ret ?_)))))
  refine WX.ret1 rfl rfl ?_
  exact .mk hs rfl
set_option maxRecDepth 20000 in
set_option maxHeartbeats 2000000 in
theorem fdel_nil : Calls Tryz.prog 40 #[.pointer none] w0 (Pure H0 w0 fun v _ => v = .int .u64 0) := by
  have hs := HS.init h0
  have hle := Hp.le.refl H0
  refine Calls.enter (args := [.pointer none]) Tryz.func40 rfl Tryz.ntmps40 rfl ?_
  refine WC.seq (WC.region (WO.step rfl (OR.assign rfl (WO.done (WX.seq (WC.seq (WC.seq ?_)))))))
  refine WC.region (WO.step rfl (OR.move rfl ?_))
  refine WO.step rfl (OR.call hs body96 rfl rfl (fmade_nil _ _ hs.toSub) ?_)
  clear hs; rintro _ H w hs hle1 rfl; replace hle := hle.trans hle1; (try replace hlb := hlb.trans hle1)
  refine WO.step rfl (OR.not rfl (WO.done (WX.seq ?_)))
  refine WC.yes rfl rfl ?_
  refine WC.seq (WC.region (WO.step rfl (OR.assign rfl (WO.done (WX.seq (WC.ret (WX.seq_ret ?_)))))))
  refine WX.ret1 rfl rfl ?_
  exact .mk hs rfl
set_option maxRecDepth 20000 in
set_option maxHeartbeats 2000000 in
theorem fsrc_nil : Calls Tryz.prog 42 #[.pointer none] w0 (Pure H0 w0 fun v _ => v = .pointer none) := by
  have hs := HS.init h0
  have hle := Hp.le.refl H0
  refine Calls.enter (args := [.pointer none]) Tryz.func42 rfl Tryz.ntmps42 rfl ?_
  refine WC.seq (WC.region (WO.step rfl (OR.assign rfl (WO.done (WX.seq (WC.seq (WC.seq ?_)))))))
  refine WC.region (WO.step rfl (OR.move rfl ?_))
  refine WO.step rfl (OR.call hs body96 rfl rfl (fmade_nil _ _ hs.toSub) ?_)
  clear hs; rintro _ H w hs hle1 rfl; replace hle := hle.trans hle1; (try replace hlb := hlb.trans hle1)
  refine WO.step rfl (OR.not rfl (WO.done (WX.seq ?_)))
  refine WC.yes rfl rfl ?_
  refine WC.seq (WC.region (WO.step rfl (OR.assign rfl (WO.done (WX.seq (WC.ret (WX.seq_ret ?_)))))))
  refine WX.ret1 rfl rfl ?_
  exact .mk hs rfl
set_option maxRecDepth 20000 in
set_option maxHeartbeats 2000000 in
theorem fsub_nil : Calls Tryz.prog 41 #[.pointer none, .slice none 0 0] w0 (Pure H0 w0 fun v _ => v = .int .i64 2) := by
  have hs := HS.init h0
  have hle := Hp.le.refl H0
  refine Calls.enter (args := [.pointer none, .slice none 0 0]) Tryz.func41 rfl Tryz.ntmps41 rfl ?_
  refine WC.seq (WC.region (WO.step rfl (OR.box hs rfl ?_)))
  clear hs; intro g1 w hg1 hs
  refine WO.step rfl (OR.box hs rfl ?_)
  clear hs; intro g2 w hg2 hs
  refine WO.step rfl (OR.assign rfl (WO.done (WX.seq (WC.seq (WC.region (WO.step rfl (OR.load T82 rfl rfl (hs.cellM (i := 1) rfl rfl) ?_)))))))
  refine WO.step rfl (OR.makeFunc rfl rfl ?_)
  refine WO.step rfl (OR.call hs body98 rfl rfl (fown_nil _ _ hs.toSub _ _) ?_)
  clear hs; rintro _ H w hs hle1 rfl; replace hle := hle.trans hle1; (try replace hlb := hlb.trans hle1)
  refine WO.step rfl (OR.assign rfl (WO.done (WX.seq (WC.ret ?_))))
  refine WX.ret1 rfl rfl ?_
  exact .mk (hs.drop 0) rfl
set_option maxRecDepth 20000 in
set_option maxHeartbeats 2000000 in
theorem fflush_nil : Calls Tryz.prog 53 #[.pointer none] w0 (Pure H0 w0 fun v _ => v = .int .i64 2) := by
  have hs := HS.init h0
  have hle := Hp.le.refl H0
  refine Calls.enter (args := [.pointer none]) Tryz.func53 rfl Tryz.ntmps53 rfl ?_
  refine WC.seq (WC.region (WO.step rfl (OR.assign rfl (WO.done (WX.seq (WC.seq (WC.region ?_)))))))
  refine WO.step rfl (OR.move rfl ?_)
  refine WO.step rfl (OR.call hs body98 rfl rfl (fown_nil _ _ hs.toSub _ _) ?_)
  clear hs; rintro _ H w hs hle1 rfl; replace hle := hle.trans hle1; (try replace hlb := hlb.trans hle1)
  refine WO.step rfl (OR.assign rfl (WO.done (WX.seq (WC.ret ?_))))
  refine WX.ret1 rfl rfl ?_
  exact .mk hs rfl
set_option maxRecDepth 20000 in
set_option maxHeartbeats 2000000 in
theorem fclose_nil : Calls Tryz.prog 59 #[.pointer none] w0 (Pure H0 w0 fun v _ => v = .int .i64 2) := by
  have hs := HS.init h0
  have hle := Hp.le.refl H0
  refine Calls.enter (args := [.pointer none]) Tryz.func59 rfl Tryz.ntmps59 rfl ?_
  refine WC.seq (WC.region (WO.step rfl (OR.assign rfl (WO.done (WX.seq (WC.seq (WC.region ?_)))))))
  refine WO.step rfl (OR.move rfl ?_)
  refine WO.step rfl (OR.call hs body98 rfl rfl (fown_nil _ _ hs.toSub _ _) ?_)
  clear hs; rintro _ H w hs hle1 rfl; replace hle := hle.trans hle1; (try replace hlb := hlb.trans hle1)
  refine WO.step rfl (OR.assign rfl (WO.done (WX.seq (WC.ret ?_))))
  refine WX.ret1 rfl rfl ?_
  exact .mk hs rfl
set_option maxRecDepth 20000 in
set_option maxHeartbeats 2000000 in
theorem frows_nil : Calls Tryz.prog 44 #[.pointer none] w0 (Ret [] H0 w0 fun v _ M' => ∃ mb, v = .map (some mb) ∧ M' = [(mb, mObj .u64 [], true)]) := by
  have hs := HS.init h0
  have hle := Hp.le.refl H0
  refine Calls.enter (args := [.pointer none]) Tryz.func44 rfl Tryz.ntmps44 rfl ?_
  refine WC.seq (WC.region (WO.step rfl (OR.assign rfl (WO.done (WX.seq (WC.seq (WC.region ?_)))))))
  refine WO.step rfl (OR.makeMap hs ?_)
  clear hs; intro mb w hmb hs
  refine WO.step rfl (OR.assign rfl (WO.done (WX.seq (WC.seq (WC.seq (WC.region (WO.step rfl ?_)))))))
  refine OR.move rfl ?_
  refine WO.step rfl (OR.call hs body96 rfl rfl (fmade_nil _ _ hs.toSub) ?_)
  clear hs; rintro _ H w hs hle1 rfl; replace hle := hle.trans hle1; (try replace hlb := hlb.trans hle1)
  refine WO.step rfl (OR.not rfl (WO.step rfl (OR.move rfl ?_)))
  refine WO.guardNo rfl rfl rfl rfl (WO.guardNo rfl rfl rfl rfl (WO.guardNo rfl rfl rfl rfl (WO.guardNo rfl rfl rfl rfl (WO.guardNo rfl rfl rfl rfl (WO.step rfl (OR.pickT rfl rfl rfl (WO.done ?_)))))))
  refine WX.seq (WC.yes rfl rfl (WC.seq (WC.region (WO.step rfl (OR.move rfl (WO.step rfl (OR.assign rfl ?_)))))))
  refine WO.done (WX.seq (WC.ret (WX.seq_ret ?_)))
  refine WX.ret1 rfl rfl ?_
  exact ⟨_, H, _, rfl, hs, by simp, mb, rfl, rfl⟩
end
section
variable (c : CfgD) (d : FD) (xb tb : Nat) (vs vr vk : Value) (H0 : Hp) (w0 : World) (h0 : Sub H0 w0)
include h0
set_option maxRecDepth 20000 in
set_option maxHeartbeats 2000000 in
theorem ftake_none (hb : w0.heap[xb]? = some (fObj c d tb vs (.pointer none) vk)) (hn : H0 xb = none) : Calls Tryz.prog 43 #[ptr xb, .int .u64 0, .agg #[.slice none 0 0, .slice none 0 0]] w0 (Pure H0 w0 fun v _ => v = .tuple #[.bool false, .int .i64 6]) := by
  have hs := HS.startR h0 hb hn
  have hle := Hp.le.refl H0
  refine Calls.enter (args := [ptr xb, .int .u64 0, .agg #[.slice none 0 0, .slice none 0 0]]) Tryz.func43 rfl Tryz.ntmps43 rfl ?_
  refine WC.seq (WC.region (WO.step rfl (OR.box hs rfl ?_)))
  clear hs; intro g1 w hg1 hs
  refine WO.step rfl (OR.assign rfl (WO.step rfl (OR.assign rfl (WO.done (WX.seq (WC.seq (WC.block ?_)))))))
  refine WC.seq (WC.region (WO.step rfl (OR.move rfl ?_)))
  refine WO.step rfl (OR.call hs body96 rfl rfl (fmade_ok c d xb tb vs _ _ _ _ hs.toSub (hs.blk (i := 1) rfl) (hs.nh (i := 1) rfl)) ?_)
  clear hs; rintro _ H w hs hle1 rfl; replace hle := hle.trans hle1; (try replace hlb := hlb.trans hle1)
  refine WO.step rfl (OR.not rfl (WO.step rfl (OR.assign rfl (WO.done (WX.seq ?_)))))
  refine WC.no rfl rfl ?_
  refine WC.seq (WC.region (WO.step rfl (OR.move rfl (WO.step rfl (OR.nilCheck rfl (WO.step rfl (OR.fieldAddr FA172_4 rfl ?_)))))))
  refine WO.step rfl (OR.load T34 rfl rfl (hs.cellM (i := 1) rfl rfl) (WO.step rfl (OR.eqlNilP T34.und rfl rfl (WO.step rfl (OR.assign rfl (WO.done (WX.seq ?_)))))))
  refine WC.yes rfl rfl ?_
  refine WC.seq (WC.region (WO.step rfl (OR.assign rfl (WO.step rfl (OR.assign rfl (WO.done (WX.seq ?_)))))))
  refine WC.ret (WX.block_ret (WX.seq_ret ?_))
  refine WX.ret2 rfl rfl rfl ?_
  exact .mk ((hs.drop 0).drop 0) rfl
set_option maxRecDepth 20000 in
set_option maxHeartbeats 2000000 in
theorem fown_none (f : Fn) (cp : Array Value) (hb : w0.heap[xb]? = some (fObj c d tb (.pointer none) vr vk)) (hn : H0 xb = none) : Calls Tryz.prog 98 #[ptr xb, .func f #[] cp] w0 (Pure H0 w0 fun v _ => v = .int .i64 6) := by
  have hs := HS.startR h0 hb hn
  have hle := Hp.le.refl H0
  refine Calls.enter (args := [ptr xb, .func f #[] cp]) Tryz.func98 rfl Tryz.ntmps98 rfl ?_
  refine WC.seq (WC.region (WO.step rfl (OR.assign rfl (WO.done (WX.seq (WC.seq (WC.block ?_)))))))
  refine WC.seq (WC.region (WO.step rfl (OR.move rfl ?_)))
  refine WO.step rfl (OR.call hs body96 rfl rfl (fmade_ok c d xb tb _ _ _ _ _ hs.toSub (hs.blk (i := 0) rfl) (hs.nh (i := 0) rfl)) ?_)
  clear hs; rintro _ H w hs hle1 rfl; replace hle := hle.trans hle1; (try replace hlb := hlb.trans hle1)
  refine WO.step rfl (OR.not rfl (WO.step rfl (OR.assign rfl (WO.done (WX.seq ?_)))))
  refine WC.no rfl rfl ?_
  refine WC.seq (WC.region (WO.step rfl (OR.move rfl (WO.step rfl (OR.nilCheck rfl (WO.step rfl (OR.fieldAddr FA172_3 rfl ?_)))))))
  refine WO.step rfl (OR.load T66 rfl rfl (hs.cellM (i := 0) rfl rfl) (WO.step rfl (OR.eqlNilP T66.und rfl rfl (WO.step rfl (OR.assign rfl (WO.done (WX.seq ?_)))))))
  refine WC.yes rfl rfl ?_
  refine WC.seq (WC.region (WO.step rfl (OR.assign rfl (WO.done (WX.seq (WC.ret (WX.block_ret ?_)))))))
  refine WX.seq_ret ?_
  refine WX.ret1 rfl rfl ?_
  exact .mk (hs.drop 0) rfl
set_option maxRecDepth 20000 in
set_option maxHeartbeats 2000000 in
theorem fsub_none (hb : w0.heap[xb]? = some (fObj c d tb (.pointer none) vr vk)) (hn : H0 xb = none) : Calls Tryz.prog 41 #[ptr xb, .slice none 0 0] w0 (Pure H0 w0 fun v _ => v = .int .i64 6) := by
  have hs := HS.startR h0 hb hn
  have hle := Hp.le.refl H0
  refine Calls.enter (args := [ptr xb, .slice none 0 0]) Tryz.func41 rfl Tryz.ntmps41 rfl ?_
  refine WC.seq (WC.region (WO.step rfl (OR.box hs rfl ?_)))
  clear hs; intro g1 w hg1 hs
  refine WO.step rfl (OR.box hs rfl ?_)
  clear hs; intro g2 w hg2 hs
  refine WO.step rfl (OR.assign rfl (WO.done (WX.seq (WC.seq (WC.region (WO.step rfl (OR.load T82 rfl rfl (hs.cellM (i := 1) rfl rfl) ?_)))))))
  refine WO.step rfl (OR.makeFunc rfl rfl ?_)
  refine WO.step rfl (OR.call hs body98 rfl rfl (fown_none c d xb tb _ _ _ _ hs.toSub _ _ (hs.blk (i := 2) rfl) (hs.nh (i := 2) rfl)) ?_)
  clear hs; rintro _ H w hs hle1 rfl; replace hle := hle.trans hle1; (try replace hlb := hlb.trans hle1)
  refine WO.step rfl (OR.assign rfl (WO.done (WX.seq (WC.ret ?_))))
  refine WX.ret1 rfl rfl ?_
  exact .mk (hs.sublist (List.nil_sublist _)) rfl
set_option maxRecDepth 20000 in
set_option maxHeartbeats 2000000 in
theorem frest_none (hb : w0.heap[xb]? = some (fObj c d tb (.pointer none) vr vk)) (hn : H0 xb = none) : Calls Tryz.prog 57 #[ptr xb, .slice none 0 0, .slice none 0 0, .bool false] w0 (Pure H0 w0 fun v _ => v = .int .i64 6) := by
  have hs := HS.startR h0 hb hn
  have hle := Hp.le.refl H0
  refine Calls.enter (args := [ptr xb, .slice none 0 0, .slice none 0 0, .bool false]) Tryz.func57 rfl Tryz.ntmps57 rfl ?_
  refine WC.seq (WC.region (WO.step rfl (OR.assign rfl (WO.done (WX.seq (WC.seq (WC.block ?_)))))))
  refine WC.seq (WC.region (WO.step rfl (OR.move rfl ?_)))
  refine WO.step rfl (OR.call hs body96 rfl rfl (fmade_ok c d xb tb _ _ _ _ _ hs.toSub (hs.blk (i := 0) rfl) (hs.nh (i := 0) rfl)) ?_)
  clear hs; rintro _ H w hs hle1 rfl; replace hle := hle.trans hle1; (try replace hlb := hlb.trans hle1)
  refine WO.step rfl (OR.not rfl (WO.step rfl (OR.assign rfl (WO.done (WX.seq ?_)))))
  refine WC.no rfl rfl ?_
  refine WC.seq (WC.region (WO.step rfl (OR.move rfl (WO.step rfl (OR.nilCheck rfl (WO.step rfl (OR.fieldAddr FA172_3 rfl ?_)))))))
  refine WO.step rfl (OR.load T66 rfl rfl (hs.cellM (i := 0) rfl rfl) (WO.step rfl (OR.eqlNilP T66.und rfl rfl (WO.step rfl (OR.assign rfl (WO.done (WX.seq ?_)))))))
  refine WC.yes rfl rfl ?_
  refine WC.seq (WC.region (WO.step rfl (OR.assign rfl (WO.done (WX.seq (WC.ret (WX.block_ret ?_)))))))
  refine WX.seq_ret ?_
  refine WX.ret1 rfl rfl ?_
  exact .mk (hs.drop 0) rfl
set_option maxRecDepth 20000 in
set_option maxHeartbeats 2000000 in
theorem fhop_far (a : Int) (b : Nat) (hb : w0.heap[xb]? = some (fObj c d tb vs vr vk)) (hn : H0 xb = none) (hnx : Ints H0 d.nv d.next) (hdn : d.next.length ≤ 1000) (ha : a ∈ d.next) (hbm : 1099511627776 < b) :
    Calls Tryz.prog 39 #[ptr xb, .int .i64 a, .int .u64 (b : Int)] w0 (Pure H0 w0 fun u _ => u = .int .i64 1) := by
  have hs := HS.startR h0 hb hn
  have hle := Hp.le.refl H0
  refine Calls.enter (args := [ptr xb, .int .i64 a, .int .u64 (b : Int)]) Tryz.func39 rfl Tryz.ntmps39 rfl ?_
  refine WC.seq (WC.region (WO.step rfl (OR.assign rfl (WO.done (WX.seq (WC.seq (WC.block ?_)))))))
  refine WC.seq (WC.region (WO.step rfl (OR.move rfl ?_)))
  refine WO.step rfl (OR.call hs body96 rfl rfl (fmade_ok c d xb tb vs _ _ _ _ hs.toSub (hs.blk (i := 0) rfl) (hs.nh (i := 0) rfl)) ?_)
  clear hs; rintro _ H w hs hle1 rfl; replace hle := hle.trans hle1; (try replace hlb := hlb.trans hle1)
  refine WO.step rfl (OR.not rfl (WO.step rfl (OR.assign rfl (WO.done (WX.seq ?_)))))
  refine WC.no rfl rfl ?_
  refine WC.seq (WC.region (WO.step rfl (OR.move rfl (WO.step rfl (OR.nilCheck rfl (WO.step rfl (OR.fieldAddr FA172_6 rfl ?_)))))))
  refine WO.step rfl (OR.load T76 rfl rfl (hs.cellM (i := 0) rfl rfl) (WO.step rfl (OR.move rfl ?_)))
  refine WO.step rfl (OR.call hs body94 rfl rfl (contains_ok' d.nv d.next a _ _ hs.toSub (hnx.mono hle) (by omega)) ?_)
  clear hs; rintro _ H w hs hle1 rfl; replace hle := hle.trans hle1; (try replace hlb := hlb.trans hle1)
  rw [decide_eq_true ha]
  refine WO.step rfl (OR.not rfl (WO.step rfl (OR.assign rfl (WO.done (WX.seq ?_)))))
  refine WC.no rfl rfl ?_
  refine WC.seq (WC.region (WO.step rfl (OR.move rfl (WO.step rfl (OR.gtr rfl rfl (WO.step rfl (OR.assign rfl ?_)))))))
  refine WO.done (WX.seq ?_)
  refine WC.yes rfl (decide_eq_true (by omega)) ?_
  refine WC.seq (WC.region (WO.step rfl (OR.assign rfl (WO.done (WX.seq (WC.ret (WX.block_ret ?_)))))))
  refine WX.seq_ret ?_
  refine WX.ret1 rfl rfl ?_
  exact .mk (hs.drop 0) rfl
set_option maxRecDepth 20000 in
set_option maxHeartbeats 2000000 in
/-- An epoch with the node itself as its next hop. -/
theorem fepoch_self (v : Value) (k : Int) (hb : w0.heap[xb]? = some (fObj c d tb vs vr vk)) (hn : H0 xb = none) (hv : Ints H0 v [k]) (hk : 0 ≤ k ∧ k < (c.nodes : Int) ∧ k = d.node) :
    Calls Tryz.prog 38 #[ptr xb, v] w0 (Pure H0 w0 fun u _ => u = .int .i64 1) := by
  have hs := HS.startR h0 hb hn
  have hle := Hp.le.refl H0
  obtain ⟨bv, cv, rfl⟩ := hv.form
  obtain ⟨yb, yo, rfl, hcx⟩ := hv.pos (by simp)
  refine Calls.enter (args := [ptr xb, .slice (some ⟨yb, yo, none⟩) [k].length cv]) Tryz.func38 rfl Tryz.ntmps38 rfl ?_
  refine WC.seq (WC.region (WO.step rfl (OR.assign rfl (WO.done (WX.seq (WC.seq (WC.seq ?_)))))))
  refine WC.region (WO.step rfl (OR.move rfl ?_))
  refine WO.step rfl (OR.call hs body96 rfl rfl (fmade_ok c d xb tb vs _ _ _ _ hs.toSub (hs.blk (i := 0) rfl) (hs.nh (i := 0) rfl)) ?_)
  clear hs; rintro _ H w hs hle1 rfl; replace hle := hle.trans hle1; (try replace hlb := hlb.trans hle1)
  refine WO.step rfl (OR.not rfl (WO.done (WX.seq ?_)))
  refine WC.no rfl rfl ?_
  refine WC.skip (WX.seq (WC.seq (WC.seq (WC.region (WO.step rfl (OR.move rfl (WO.step rfl ?_)))))))
  refine OR.lenSlice T76.und rfl (WO.step rfl (OR.move rfl (WO.done (WX.seq (WC.block ?_)))))
  refine WC.loop (ι := Nat) (fun i => [(0, ptr xb), (1, .slice (some ⟨yb, yo, none⟩) [k].length cv), (10, .slice (some ⟨yb, yo, none⟩) [k].length cv), (11, .int .i64 1), (12, .int .i64 (i : Int))]) (fun i w => (i = 0 ∧ HS [] H0 w0 H [(xb, fObj c d tb vs vr vk, false)] w)) (fun i => 1 - i) 0 ⟨rfl, rfl, rfl, rfl, rfl,  trivial⟩ ?_ (fun i w hW => ?_)
  · exact ⟨rfl, hs⟩
  clear hs
  obtain ⟨hk0, hs⟩ := hW
  subst hk0
  refine WC.seq (WC.region (WO.step rfl (OR.lss rfl rfl (WO.done (WX.seq (WC.seq ?_))))))
  refine WC.yes rfl rfl ?_
  have hck := hcx 0 (by simp)
  refine WC.skip (WX.seq (WC.seq (WC.block (WC.seq (WC.region (WO.step rfl (OR.move rfl ?_)))))))
  refine WO.step rfl (OR.idx 0 T76.und T3 rfl rfl rfl (by simp) ?_)
  refine WO.step rfl (OR.load T3 rfl rfl (hs.cell (hcell.mono hle hck)) ?_)
  refine WO.step rfl (OR.assign rfl (WO.step rfl (OR.assign rfl (WO.done (WX.seq (WC.seq (WC.region ?_)))))))
  refine WO.step rfl (OR.move rfl (WO.step rfl (OR.lss rfl rfl (WO.step rfl (OR.move rfl ?_)))))
  refine WO.guardYes rfl (decide_eq_false (by show ¬ k < 0; omega)) rfl rfl (OR.move rfl (WO.guardYes rfl (decide_eq_false (by show ¬ k < 0; omega)) rfl rfl (OR.move rfl (WO.guardYes rfl (decide_eq_false (by show ¬ k < 0; omega)) rfl rfl (OR.nilCheck rfl (WO.guardYes rfl (decide_eq_false (by show ¬ k < 0; omega)) rfl rfl (OR.fieldAddr FA172_0 rfl ?_)))))))
  refine WO.guardYes rfl (decide_eq_false (by show ¬ k < 0; omega)) rfl rfl (OR.fieldAddr FA81_0 rfl (WO.guardYes rfl (decide_eq_false (by show ¬ k < 0; omega)) rfl rfl (OR.load T3 rfl rfl (hs.cellM (i := 0) rfl rfl) (WO.guardYes rfl (decide_eq_false (by show ¬ k < 0; omega)) rfl rfl (OR.geq rfl rfl (WO.step rfl (OR.pickF rfl (decide_eq_false (by show ¬ k < 0; omega)) rfl ?_)))))))
  refine WO.step rfl (OR.move rfl ?_)
  refine WO.guardYes rfl (decide_eq_false (by show ¬ k ≥ (c.nodes : Int); omega)) rfl rfl (OR.move rfl (WO.guardYes rfl (decide_eq_false (by show ¬ k ≥ (c.nodes : Int); omega)) rfl rfl (OR.move rfl (WO.guardYes rfl (decide_eq_false (by show ¬ k ≥ (c.nodes : Int); omega)) rfl rfl (OR.nilCheck rfl (WO.guardYes rfl (decide_eq_false (by show ¬ k ≥ (c.nodes : Int); omega)) rfl rfl (OR.fieldAddr FA172_2 rfl ?_)))))))
  refine WO.guardYes rfl (decide_eq_false (by show ¬ k ≥ (c.nodes : Int); omega)) rfl rfl (OR.load T3 rfl rfl (hs.cellM (i := 0) rfl rfl) (WO.guardYes rfl (decide_eq_false (by show ¬ k ≥ (c.nodes : Int); omega)) rfl rfl (OR.eql rfl rfl (WO.step rfl (OR.pickF rfl (decide_eq_false (by show ¬ k ≥ (c.nodes : Int); omega)) rfl (WO.step rfl (OR.move rfl ?_)))))))
  refine WO.guardNo rfl (decide_eq_true hk.2.2) rfl rfl (WO.guardNo rfl (decide_eq_true hk.2.2) rfl rfl (WO.guardNo rfl (decide_eq_true hk.2.2) rfl rfl (WO.guardGone rfl rfl rfl (WO.guardGone rfl rfl rfl (WO.guardGone rfl rfl rfl (WO.guardGone rfl rfl rfl (WO.guardGone rfl rfl rfl ?_)))))))
  refine WO.guardGone rfl rfl rfl (WO.guardGone rfl rfl rfl (WO.guardNo rfl (decide_eq_true hk.2.2) rfl rfl (WO.step rfl (OR.pickT rfl (decide_eq_true hk.2.2) rfl (WO.done (WX.seq (WC.yes rfl rfl ?_)))))))
  refine WC.seq (WC.region (WO.step rfl (OR.assign rfl (WO.done (WX.seq (WC.ret (WX.block_ret ?_)))))))
  refine WX.seq_ret (WX.loop_ret (WX.block_ret (WX.seq_ret ?_)))
  refine WX.ret1 rfl rfl ?_
  exact .mk (hs.drop 0) rfl
set_option maxRecDepth 20000 in
set_option maxHeartbeats 2000000 in
/-- An epoch whose next hops do not rise. -/
theorem fepoch_twice (v : Value) (k : Int) (hb : w0.heap[xb]? = some (fObj c d tb vs vr vk)) (hn : H0 xb = none) (hv : Ints H0 v [k, k]) (hk : 0 ≤ k ∧ k < (c.nodes : Int) ∧ k ≠ d.node) :
    Calls Tryz.prog 38 #[ptr xb, v] w0 (Pure H0 w0 fun u _ => u = .int .i64 1) := by
  have hs := HS.startR h0 hb hn
  have hle := Hp.le.refl H0
  obtain ⟨bv, cv, rfl⟩ := hv.form
  obtain ⟨yb, yo, rfl, hcx⟩ := hv.pos (by simp)
  refine Calls.enter (args := [ptr xb, .slice (some ⟨yb, yo, none⟩) [k, k].length cv]) Tryz.func38 rfl Tryz.ntmps38 rfl ?_
  refine WC.seq (WC.region (WO.step rfl (OR.assign rfl (WO.done (WX.seq (WC.seq (WC.seq ?_)))))))
  refine WC.region (WO.step rfl (OR.move rfl ?_))
  refine WO.step rfl (OR.call hs body96 rfl rfl (fmade_ok c d xb tb vs _ _ _ _ hs.toSub (hs.blk (i := 0) rfl) (hs.nh (i := 0) rfl)) ?_)
  clear hs; rintro _ H w hs hle1 rfl; replace hle := hle.trans hle1; (try replace hlb := hlb.trans hle1)
  refine WO.step rfl (OR.not rfl (WO.done (WX.seq ?_)))
  refine WC.no rfl rfl ?_
  refine WC.skip (WX.seq (WC.seq (WC.seq (WC.region (WO.step rfl (OR.move rfl (WO.step rfl ?_)))))))
  refine OR.lenSlice T76.und rfl (WO.step rfl (OR.move rfl (WO.done (WX.seq (WC.block ?_)))))
  refine WC.loop (ι := Nat) (fun i => [(0, ptr xb), (1, .slice (some ⟨yb, yo, none⟩) [k, k].length cv), (10, .slice (some ⟨yb, yo, none⟩) [k, k].length cv), (11, .int .i64 2), (12, .int .i64 (i : Int))]) (fun i w => (i < 2 ∧ HS [] H0 w0 H [(xb, fObj c d tb vs vr vk, false)] w)) (fun i => 2 - i) 0 ⟨rfl, rfl, rfl, rfl, rfl,  trivial⟩ ?_ (fun i w hW => ?_)
  · exact ⟨by omega, hs⟩
  clear hs
  obtain ⟨hi, hs⟩ := hW
  refine WC.seq (WC.region (WO.step rfl (OR.lss rfl rfl (WO.done (WX.seq (WC.seq ?_))))))
  refine WC.yes rfl (decide_eq_true (by omega)) ?_
  have hck := hcx i (by simpa using hi)
  have hki : [k, k][i]'(by simpa using hi) = k := by
    rcases (by omega : i = 0 ∨ i = 1) with rfl | rfl <;> rfl
  rw [hki] at hck
  refine WC.skip (WX.seq (WC.seq (WC.block (WC.seq (WC.region (WO.step rfl (OR.move rfl ?_)))))))
  refine WO.step rfl (OR.idx i T76.und T3 rfl rfl rfl (by simpa using hi) ?_)
  refine WO.step rfl (OR.load T3 rfl rfl (hs.cell (hcell.mono hle hck)) ?_)
  refine WO.step rfl (OR.assign rfl (WO.step rfl (OR.assign rfl (WO.done (WX.seq (WC.seq (WC.region ?_)))))))
  refine WO.step rfl (OR.move rfl (WO.step rfl (OR.lss rfl rfl (WO.step rfl (OR.move rfl ?_)))))
  refine WO.guardYes rfl (decide_eq_false (by omega : ¬ k < 0)) rfl rfl (OR.move rfl (WO.guardYes rfl (decide_eq_false (by omega : ¬ k < 0)) rfl rfl (OR.move rfl (WO.guardYes rfl (decide_eq_false (by omega : ¬ k < 0)) rfl rfl (OR.nilCheck rfl (WO.guardYes rfl (decide_eq_false (by omega : ¬ k < 0)) rfl rfl (OR.fieldAddr FA172_0 rfl ?_)))))))
  refine WO.guardYes rfl (decide_eq_false (by omega : ¬ k < 0)) rfl rfl (OR.fieldAddr FA81_0 rfl (WO.guardYes rfl (decide_eq_false (by omega : ¬ k < 0)) rfl rfl (OR.load T3 rfl rfl (hs.cellM (i := 0) rfl rfl) (WO.guardYes rfl (decide_eq_false (by omega : ¬ k < 0)) rfl rfl (OR.geq rfl rfl (WO.step rfl (OR.pickF rfl (decide_eq_false (by omega : ¬ k < 0)) rfl ?_)))))))
  refine WO.step rfl (OR.move rfl ?_)
  refine WO.guardYes rfl (decide_eq_false (by omega : ¬ k ≥ (c.nodes : Int))) rfl rfl (OR.move rfl (WO.guardYes rfl (decide_eq_false (by omega : ¬ k ≥ (c.nodes : Int))) rfl rfl (OR.move rfl (WO.guardYes rfl (decide_eq_false (by omega : ¬ k ≥ (c.nodes : Int))) rfl rfl (OR.nilCheck rfl (WO.guardYes rfl (decide_eq_false (by omega : ¬ k ≥ (c.nodes : Int))) rfl rfl (OR.fieldAddr FA172_2 rfl ?_)))))))
  refine WO.guardYes rfl (decide_eq_false (by omega : ¬ k ≥ (c.nodes : Int))) rfl rfl (OR.load T3 rfl rfl (hs.cellM (i := 0) rfl rfl) (WO.guardYes rfl (decide_eq_false (by omega : ¬ k ≥ (c.nodes : Int))) rfl rfl (OR.eql rfl rfl (WO.step rfl (OR.pickF rfl (decide_eq_false (by omega : ¬ k ≥ (c.nodes : Int))) rfl (WO.step rfl (OR.move rfl ?_)))))))
  refine WO.guardYes rfl (decide_eq_false hk.2.2) rfl rfl (OR.move rfl (WO.guardYes rfl (decide_eq_false hk.2.2) rfl rfl (OR.gtr rfl rfl (WO.guardYes rfl (decide_eq_false hk.2.2) rfl rfl (OR.move rfl ?_)))))
  refine WO.guardSplit (j := 22) rfl (fun hpos => ?_) (fun hpos => ?_)
  · have hi1 : i = 1 := by omega
    subst hi1
    have hc0 := hcx 0 (by simp)
    refine WO.guardYes rfl (decide_eq_true hpos) rfl rfl (OR.move rfl (WO.guardYes rfl (decide_eq_true hpos) rfl rfl (OR.move rfl (WO.guardYes rfl (decide_eq_true hpos) rfl rfl (OR.subI rfl rfl (by omega) (by omega) ?_)))))
    refine WO.guardYes rfl (decide_eq_true hpos) rfl rfl (OR.idx 0 T76.und T3 rfl rfl rfl (by simp) ?_)
    refine WO.guardYes rfl (decide_eq_true hpos) rfl rfl (OR.load T3 rfl rfl (hs.cell (hcell.mono hle hc0)) ?_)
    refine WO.guardYes rfl (decide_eq_true hpos) rfl rfl (OR.move rfl (WO.guardYes rfl (decide_eq_true hpos) rfl rfl (OR.geq rfl rfl (WO.guardYes rfl (decide_eq_false hk.2.2) rfl rfl (OR.pickT rfl (decide_eq_true hpos) rfl (WO.step rfl (OR.pickF rfl (decide_eq_false hk.2.2) rfl ?_)))))))
    refine WO.done (WX.seq ?_)
    refine WC.yes rfl (decide_eq_true (by show k ≥ k; omega)) ?_
    refine WC.seq (WC.region (WO.step rfl (OR.assign rfl (WO.done (WX.seq (WC.ret (WX.block_ret ?_)))))))
    refine WX.seq_ret (WX.loop_ret (WX.block_ret (WX.seq_ret ?_)))
    refine WX.ret1 rfl rfl ?_
    exact .mk (hs.drop 0) rfl
  · refine WO.guardNo rfl (decide_eq_false hpos) rfl rfl (WO.guardNo rfl (decide_eq_false hpos) rfl rfl (WO.guardNo rfl (decide_eq_false hpos) rfl rfl (WO.guardNo rfl (decide_eq_false hpos) rfl rfl (WO.guardNo rfl (decide_eq_false hpos) rfl rfl (WO.guardNo rfl (decide_eq_false hpos) rfl rfl (WO.guardNo rfl (decide_eq_false hpos) rfl rfl (WO.guardYes rfl (decide_eq_false hk.2.2) rfl rfl ?_)))))))
    refine OR.pickF rfl (decide_eq_false hpos) rfl (WO.step rfl (OR.pickF rfl (decide_eq_false hk.2.2) rfl (WO.done (WX.seq (WC.no rfl rfl (WC.skip (WX.block ?_)))))))
    refine WX.seq (WC.region (WO.step rfl (OR.addI rfl rfl (by omega) (by omega) (WO.step rfl (OR.move rfl (WO.done ?_))))))
    refine WX.again (i + 1) ⟨rfl, rfl, rfl, rfl, rfl,  trivial⟩ ?_ ?_
    · exact ⟨by omega, hs⟩
    · omega
end
section
variable (c : CfgD) (d : FD) (xb tb n : Nat) (vs vr vk : Value) (H0 : Hp) (w0 : World)
set_option maxRecDepth 20000 in
set_option maxHeartbeats 2000000 in
theorem ftold_src (sb : Nat) (h0 : Sub H0 w0) (hb : w0.heap[xb]? = some (fObj c d tb (ptr sb) vr vk)) (hn : H0 xb = none) : Calls Tryz.prog 58 #[ptr xb, .int .u64 (n : Int)] w0 (Pure H0 w0 fun v _ => v = .int .i64 6) := by
  have hs := HS.startR h0 hb hn
  have hle := Hp.le.refl H0
  refine Calls.enter (args := [ptr xb, .int .u64 (n : Int)]) Tryz.func58 rfl Tryz.ntmps58 rfl ?_
  refine WC.seq (WC.region (WO.step rfl (OR.assign rfl (WO.done (WX.seq (WC.seq (WC.block ?_)))))))
  refine WC.seq (WC.region (WO.step rfl (OR.move rfl ?_)))
  refine WO.step rfl (OR.call hs body96 rfl rfl (fmade_ok c d xb tb _ _ _ _ _ hs.toSub (hs.blk (i := 0) rfl) (hs.nh (i := 0) rfl)) ?_)
  clear hs; rintro _ H w hs hle1 rfl; replace hle := hle.trans hle1; (try replace hlb := hlb.trans hle1)
  refine WO.step rfl (OR.not rfl (WO.step rfl (OR.assign rfl (WO.done (WX.seq ?_)))))
  refine WC.no rfl rfl ?_
  refine WC.seq (WC.region (WO.step rfl (OR.move rfl (WO.step rfl (OR.nilCheck rfl (WO.step rfl (OR.fieldAddr FA172_3 rfl ?_)))))))
  refine WO.step rfl (OR.load T66 rfl rfl (hs.cellM (i := 0) rfl rfl) (WO.step rfl (OR.neqNilP T66.und rfl rfl (WO.step rfl (OR.assign rfl (WO.done (WX.seq ?_)))))))
  refine WC.yes rfl rfl ?_
  refine WC.seq (WC.region (WO.step rfl (OR.assign rfl (WO.done (WX.seq (WC.ret (WX.block_ret ?_)))))))
  refine WX.seq_ret ?_
  refine WX.ret1 rfl rfl ?_
  exact .mk (hs.drop 0) rfl
set_option maxRecDepth 20000 in
set_option maxHeartbeats 2000000 in
theorem ftold_far (h0 : Sub H0 w0) (hf : 1099511627776 < n) (hb : w0.heap[xb]? = some (fObj c d tb (.pointer none) vr vk)) (hn : H0 xb = none) : Calls Tryz.prog 58 #[ptr xb, .int .u64 (n : Int)] w0 (Pure H0 w0 fun v _ => v = .int .i64 1) := by
  have hs := HS.startR h0 hb hn
  have hle := Hp.le.refl H0
  refine Calls.enter (args := [ptr xb, .int .u64 (n : Int)]) Tryz.func58 rfl Tryz.ntmps58 rfl ?_
  refine WC.seq (WC.region (WO.step rfl (OR.assign rfl (WO.done (WX.seq (WC.seq (WC.block ?_)))))))
  refine WC.seq (WC.region (WO.step rfl (OR.move rfl ?_)))
  refine WO.step rfl (OR.call hs body96 rfl rfl (fmade_ok c d xb tb _ _ _ _ _ hs.toSub (hs.blk (i := 0) rfl) (hs.nh (i := 0) rfl)) ?_)
  clear hs; rintro _ H w hs hle1 rfl; replace hle := hle.trans hle1; (try replace hlb := hlb.trans hle1)
  refine WO.step rfl (OR.not rfl (WO.step rfl (OR.assign rfl (WO.done (WX.seq ?_)))))
  refine WC.no rfl rfl ?_
  refine WC.seq (WC.region (WO.step rfl (OR.move rfl (WO.step rfl (OR.nilCheck rfl (WO.step rfl (OR.fieldAddr FA172_3 rfl ?_)))))))
  refine WO.step rfl (OR.load T66 rfl rfl (hs.cellM (i := 0) rfl rfl) (WO.step rfl (OR.neqNilP T66.und rfl rfl (WO.step rfl (OR.assign rfl (WO.done (WX.seq ?_)))))))
  refine WC.no rfl rfl ?_
  refine WC.seq (WC.region (WO.step rfl (OR.move rfl (WO.step rfl (OR.gtr rfl rfl (WO.step rfl (OR.assign rfl ?_)))))))
  refine WO.done (WX.seq ?_)
  refine WC.yes rfl (decide_eq_true (by omega)) ?_
  refine WC.seq (WC.region (WO.step rfl (OR.assign rfl (WO.done (WX.seq (WC.ret (WX.block_ret ?_)))))))
  refine WX.seq_ret ?_
  refine WX.ret1 rfl rfl ?_
  exact .mk (hs.drop 0) rfl
set_option maxRecDepth 20000 in
set_option maxHeartbeats 2000000 in
theorem ftold_there (h0 : Sub H0 w0) (hf : n ≤ 1099511627776) (hk : d.known = true) (ht : d.total ≠ n) (hb : w0.heap[xb]? = some (fObj c d tb (.pointer none) vr vk)) (hn : H0 xb = none) : Calls Tryz.prog 58 #[ptr xb, .int .u64 (n : Int)] w0 (Pure H0 w0 fun v _ => v = .int .i64 9) := by
  have hs := HS.startR h0 hb hn
  have hle := Hp.le.refl H0
  refine Calls.enter (args := [ptr xb, .int .u64 (n : Int)]) Tryz.func58 rfl Tryz.ntmps58 rfl ?_
  refine WC.seq (WC.region (WO.step rfl (OR.assign rfl (WO.done (WX.seq (WC.seq (WC.block ?_)))))))
  refine WC.seq (WC.region (WO.step rfl (OR.move rfl ?_)))
  refine WO.step rfl (OR.call hs body96 rfl rfl (fmade_ok c d xb tb _ _ _ _ _ hs.toSub (hs.blk (i := 0) rfl) (hs.nh (i := 0) rfl)) ?_)
  clear hs; rintro _ H w hs hle1 rfl; replace hle := hle.trans hle1; (try replace hlb := hlb.trans hle1)
  refine WO.step rfl (OR.not rfl (WO.step rfl (OR.assign rfl (WO.done (WX.seq ?_)))))
  refine WC.no rfl rfl ?_
  refine WC.seq (WC.region (WO.step rfl (OR.move rfl (WO.step rfl (OR.nilCheck rfl (WO.step rfl (OR.fieldAddr FA172_3 rfl ?_)))))))
  refine WO.step rfl (OR.load T66 rfl rfl (hs.cellM (i := 0) rfl rfl) (WO.step rfl (OR.neqNilP T66.und rfl rfl (WO.step rfl (OR.assign rfl (WO.done (WX.seq ?_)))))))
  refine WC.no rfl rfl ?_
  refine WC.seq (WC.region (WO.step rfl (OR.move rfl (WO.step rfl (OR.gtr rfl rfl (WO.step rfl (OR.assign rfl ?_)))))))
  refine WO.done (WX.seq ?_)
  refine WC.no rfl (decide_eq_false (by omega)) ?_
  refine WC.seq (WC.region (WO.step rfl (OR.move rfl (WO.step rfl (OR.nilCheck rfl (WO.step rfl (OR.fieldAddr FA172_11 rfl ?_)))))))
  refine WO.step rfl (OR.load T4 rfl rfl (hs.cellM (i := 0) rfl rfl) (WO.step rfl (OR.move rfl ?_)))
  rw [hk]
  refine WO.guardYes rfl rfl rfl rfl (OR.move rfl (WO.guardYes rfl rfl rfl rfl (OR.nilCheck rfl (WO.guardYes rfl rfl rfl rfl (OR.fieldAddr FA172_10 rfl (WO.guardYes rfl rfl rfl rfl (OR.load T22 rfl rfl (hs.cellM (i := 0) rfl rfl) ?_)))))))
  refine WO.guardYes rfl rfl rfl rfl (OR.move rfl (WO.guardYes rfl rfl rfl rfl (OR.neq rfl rfl (WO.step rfl (OR.pickT rfl rfl rfl (WO.step rfl (OR.assign rfl ?_)))))))
  refine WO.done (WX.seq ?_)
  refine WC.yes rfl (decide_eq_true (by omega)) ?_
  refine WC.seq (WC.region (WO.step rfl (OR.assign rfl (WO.done (WX.seq (WC.ret (WX.block_ret ?_)))))))
  refine WX.seq_ret ?_
  refine WX.ret1 rfl rfl ?_
  exact .mk (hs.drop 0) rfl
set_option maxRecDepth 20000 in
set_option maxHeartbeats 2000000 in
/-- A total told to a sink that knows none yet. -/
theorem ftold_sink (kb : Nat) (q : SinkD) (hs : HS [xb, kb] H0 w0 H0 [(xb, fObj c d tb (.pointer none) vr (ptr kb), true), (kb, sinkObj q, true)] w0) (hf : n ≤ 1099511627776) (hk : d.known = false) (hg : 1 ≤ q.g) :
    Calls Tryz.prog 58 #[ptr xb, .int .u64 (n : Int)] w0 (Ret [xb, kb] H0 w0 fun v H' M' => v = .int .i64 (q.totE n) ∧ M' = [(xb, fObj c (if q.totE n = 0 then { d with total := n, known := true } else d) tb (.pointer none) vr (ptr kb), true), (kb, sinkObj (q.total n), true)]) := by
  have hle := Hp.le.refl H0
  refine Calls.enter (args := [ptr xb, .int .u64 (n : Int)]) Tryz.func58 rfl Tryz.ntmps58 rfl ?_
  refine WC.seq (WC.region (WO.step rfl (OR.assign rfl (WO.done (WX.seq (WC.seq (WC.block ?_)))))))
  refine WC.seq (WC.region (WO.step rfl (OR.move rfl ?_)))
  refine WO.step rfl (OR.call hs body96 rfl rfl (fmade_ok c d xb tb _ _ _ _ _ hs.toSub (hs.blk (i := 0) rfl) (hs.nh (i := 0) rfl)) ?_)
  clear hs; rintro _ H w hs hle1 rfl; replace hle := hle.trans hle1; (try replace hlb := hlb.trans hle1)
  refine WO.step rfl (OR.not rfl (WO.step rfl (OR.assign rfl (WO.done (WX.seq ?_)))))
  refine WC.no rfl rfl ?_
  refine WC.seq (WC.region (WO.step rfl (OR.move rfl (WO.step rfl (OR.nilCheck rfl (WO.step rfl (OR.fieldAddr FA172_3 rfl ?_)))))))
  refine WO.step rfl (OR.load T66 rfl rfl (hs.cellM (i := 0) rfl rfl) (WO.step rfl (OR.neqNilP T66.und rfl rfl (WO.step rfl (OR.assign rfl (WO.done (WX.seq ?_)))))))
  refine WC.no rfl rfl ?_
  refine WC.seq (WC.region (WO.step rfl (OR.move rfl (WO.step rfl (OR.gtr rfl rfl (WO.step rfl (OR.assign rfl ?_)))))))
  refine WO.done (WX.seq ?_)
  refine WC.no rfl (decide_eq_false (by omega)) ?_
  refine WC.seq (WC.region (WO.step rfl (OR.move rfl (WO.step rfl (OR.nilCheck rfl (WO.step rfl (OR.fieldAddr FA172_11 rfl ?_)))))))
  refine WO.step rfl (OR.load T4 rfl rfl (hs.cellM (i := 0) rfl rfl) (WO.step rfl (OR.move rfl ?_)))
  rw [hk]
  refine WO.guardNo rfl rfl rfl rfl (WO.guardNo rfl rfl rfl rfl (WO.guardNo rfl rfl rfl rfl (WO.guardNo rfl rfl rfl rfl (WO.guardNo rfl rfl rfl rfl (WO.guardNo rfl rfl rfl rfl (WO.step rfl (OR.pickF rfl rfl rfl ?_)))))))
  refine WO.step rfl (OR.assign rfl (WO.done (WX.seq (WC.no rfl rfl (WC.skip (WX.block (WX.seq ?_)))))))
  refine WC.seq (WC.seq (WC.region (WO.step rfl (OR.move rfl (WO.step rfl (OR.nilCheck rfl (WO.step rfl ?_)))))))
  refine OR.fieldAddr FA172_5 rfl (WO.step rfl (OR.load T27 rfl rfl (hs.cellM (i := 0) rfl rfl) (WO.step rfl (OR.neqNilP T27.und rfl rfl (WO.done (WX.seq ?_))))))
  refine WC.yes rfl rfl ?_
  refine WC.seq (WC.region (WO.step rfl (OR.move rfl (WO.step rfl (OR.nilCheck rfl (WO.step rfl (OR.fieldAddr FA172_5 rfl ?_)))))))
  refine WO.step rfl (OR.load T27 rfl rfl (hs.cellM (i := 0) rfl rfl) (WO.step rfl (OR.move rfl ?_)))
  have hs2 : HS [xb, kb] H0 w0 H ([(kb, sinkObj q, true)] ++ [(xb, fObj c d tb (.pointer none) vr (ptr kb), true)]) w := hs.perm (List.Perm.swap _ _ _)
  refine WO.step rfl (OR.callX (Mx := [(kb, sinkObj q, true)]) (Mr := [(xb, fObj c d tb (.pointer none) vr (ptr kb), true)]) hs2 body19 rfl rfl (ktotal_ok kb n q _ _ hs2.toSub (hs2.blk (i := 0) rfl) (hs2.nh (i := 0) rfl) hg) rfl rfl ?_)
  clear hs hs2; rintro v H2 M w hs hle1 hnew ⟨rfl, rfl⟩
  replace hs : HS [xb, kb] H0 w0 H2 [(xb, fObj c d tb (.pointer none) vr (ptr kb), true), (kb, sinkObj (q.total n), true)] w := hs.perm (List.Perm.swap _ _ _)
  refine WO.step rfl (OR.assign rfl (WO.done (WX.seq (WC.seq (WC.region (WO.step rfl (OR.move rfl ?_)))))))
  refine WO.step rfl (OR.neq rfl rfl (WO.done (WX.seq ?_)))
  refine WC.condD rfl (fun he => ?_) (fun he => ?_)
  · have he' : q.totE n ≠ 0 := he
    refine WC.seq (WC.region (WO.step rfl (OR.move rfl (WO.step rfl (OR.assign rfl (WO.done (WX.seq ?_)))))))
    refine WC.ret (WX.seq_ret ?_)
    refine WX.ret1 rfl rfl ?_
    refine ⟨_, H2, _, rfl, hs, by simp, rfl, ?_⟩
    rw [if_neg he']
  · have he' : q.totE n = 0 := Classical.byContradiction he
    refine WC.skip (WX.seq (WC.seq (WC.region (WO.step rfl (OR.move rfl (WO.step rfl (OR.move rfl ?_)))))))
    refine WO.step rfl (OR.move rfl (WO.step rfl (OR.nilCheck rfl (WO.step rfl (OR.fieldAddr FA172_10 rfl (WO.stepN (OR.store hs T22 rfl rfl rfl (Nat.le_of_ble_eq_true rfl) rfl ?_)))))))
    clear hs; intro w hs
    refine WO.step rfl (OR.nilCheck rfl (WO.step rfl (OR.fieldAddr FA172_11 rfl (WO.stepN (OR.store hs T4 rfl rfl rfl (Nat.le_of_ble_eq_true rfl) rfl ?_)))))
    clear hs; intro w hs
    refine WO.done (WX.seq (WC.seq (WC.region (WO.step rfl (OR.assign rfl (WO.done (WX.seq ?_)))))))
    refine WC.ret ?_
    refine WX.ret1 rfl rfl ?_
    refine ⟨_, H2, _, rfl, hs, by simp, by rw [he'], ?_⟩
    rw [if_pos he']
    rfl
set_option maxRecDepth 20000 in
set_option maxHeartbeats 2000000 in
theorem ftotal_src (sb : Nat) (D : SrcD) (o : Obj) (hs : HS [] H0 w0 H0 [(sb, o, false), (xb, fObj c d tb (ptr sb) vr vk, false)] w0) (hx : SrcIn H0 D o) (hcl : D.cl = true) (hl : D.chunks.length < 9223372036854775807) :
    Calls Tryz.prog 60 #[ptr xb] w0 (Pure H0 w0 fun v _ => v = .tuple #[.int .u64 (D.chunks.length : Int), .bool true]) := by
  have hle := Hp.le.refl H0
  refine Calls.enter (args := [ptr xb]) Tryz.func60 rfl Tryz.ntmps60 rfl ?_
  refine WC.seq (WC.region (WO.step rfl (OR.assign rfl (WO.step rfl (OR.assign rfl (WO.done (WX.seq ?_)))))))
  refine WC.seq (WC.block (WC.seq (WC.region (WO.step rfl (OR.move rfl ?_)))))
  refine WO.step rfl (OR.call hs body96 rfl rfl (fmade_ok c d xb tb _ _ _ _ _ hs.toSub (hs.blk (i := 1) rfl) (hs.nh (i := 1) rfl)) ?_)
  clear hs; rintro _ H w hs hle1 rfl; replace hle := hle.trans hle1; (try replace hlb := hlb.trans hle1)
  refine WO.step rfl (OR.not rfl (WO.step rfl (OR.assign rfl (WO.done (WX.seq ?_)))))
  refine WC.no rfl rfl ?_
  refine WC.seq (WC.region (WO.step rfl (OR.move rfl (WO.step rfl (OR.nilCheck rfl (WO.step rfl (OR.fieldAddr FA172_3 rfl ?_)))))))
  refine WO.step rfl (OR.load T66 rfl rfl (hs.cellM (i := 1) rfl rfl) (WO.step rfl (OR.eqlNilP T66.und rfl rfl (WO.step rfl (OR.assign rfl (WO.done (WX.seq ?_)))))))
  refine WC.no rfl rfl ?_
  have hx9 := hx
  obtain ⟨v1, v2, v3, v4, rfl, -⟩ := hx
  refine WC.seq (WC.region (WO.step rfl (OR.move rfl (WO.step rfl (OR.nilCheck rfl (WO.step rfl (OR.fieldAddr FA172_3 rfl ?_)))))))
  refine WO.step rfl (OR.load T66 rfl rfl (hs.cellM (i := 1) rfl rfl) ?_)
  refine WO.step rfl (OR.call hs body114 rfl rfl (sclosed_ok _ _ _ _ _ _ _ _ _ _ hs.toSub (hs.blk (i := 0) rfl) (hs.nh (i := 0) rfl)) ?_)
  clear hs; rintro _ H w hs hle1 rfl; replace hle := hle.trans hle1; (try replace hlb := hlb.trans hle1)
  rw [hcl]
  refine WO.step rfl (OR.assign rfl (WO.done (WX.seq ?_)))
  refine WC.yes rfl rfl ?_
  refine WC.seq (WC.region (WO.step rfl (OR.move rfl (WO.step rfl (OR.nilCheck rfl (WO.step rfl (OR.fieldAddr FA172_3 rfl ?_)))))))
  refine WO.step rfl (OR.load T66 rfl rfl (hs.cellM (i := 1) rfl rfl) ?_)
  refine WO.step rfl (OR.call hs body31 rfl rfl (gens_ok sb D _ _ _ hs.toSub (hs.blk (i := 0) rfl) (hs.nh (i := 0) rfl) (hx9.mono hle) hl) ?_)
  clear hs; rintro _ H w hs hle1 rfl; replace hle := hle.trans hle1; (try replace hlb := hlb.trans hle1)
  refine WO.step rfl (OR.assign rfl (WO.step rfl (OR.assign rfl (WO.done (WX.seq (WC.ret (WX.block_ret ?_)))))))
  refine WX.seq_ret ?_
  refine WX.ret2 rfl rfl rfl ?_
  exact .mk (hs.sublist (List.nil_sublist _)) rfl
end
set_option maxRecDepth 20000 in
set_option maxHeartbeats 2000000 in
theorem fnew_flow (c : CfgD) (hok : CfgOk c)  (H0 : Hp) (w0 : World) (h0 : Sub H0 w0) (hf : CfgIn H0 c) :
    Calls Tryz.prog 35 #[cfgV c, .int .i64 1, .int .i64 0, .int .u64 0] w0 (Pure H0 w0 fun v _ => v = .tuple #[.pointer none, .int .i64 1]) := by
  have hs := HS.init h0
  have hle := Hp.le.refl H0
  obtain ⟨nodes, g, s, win, que, sinks, vf, vs⟩ := c
  obtain ⟨fb, fo, cf, ef, hcf, hcc⟩ := hf.f
  replace ef : vf = .slice (some ⟨fb, fo, none⟩) 1 cf := ef
  subst ef
  have hk1 : 1 ≤ sinks.length ∧ sinks.length ≤ 8 := hok.k
  have hnn : 1 ≤ nodes ∧ nodes ≤ 64 := hok.n
  have hfs : Ints H0 vs sinks := hf.s
  obtain ⟨c, hcd⟩ : ∃ c : CfgD, c = ⟨nodes, g, s, win, que, sinks, .slice (some ⟨fb, fo, none⟩) 1 cf, vs⟩ := ⟨_, rfl⟩
  have hcn : c.nodes = nodes ∧ c.sinks = sinks := by rw [hcd]; exact ⟨rfl, rfl⟩
  rw [← hcd] at hok hf ⊢
  rw [show cfgV c = .agg #[.int .i64 (nodes : Int), .slice (some ⟨fb, fo, none⟩) 1 cf, .int .i64 (win : Int), .int .i64 (que : Int)] from by rw [hcd]; rfl]
  refine Calls.enter (args := [.agg #[.int .i64 (nodes : Int), .slice (some ⟨fb, fo, none⟩) 1 cf, .int .i64 (win : Int), .int .i64 (que : Int)], .int .i64 1, .int .i64 0, .int .u64 0]) Tryz.func35 rfl Tryz.ntmps35 rfl ?_
  refine WC.seq (WC.region (WO.step rfl (OR.box hs rfl ?_)))
  clear hs; intro g1 w hg1 hs
  refine WO.step rfl (OR.assign rfl (WO.step rfl (OR.assign rfl (WO.done (WX.seq (WC.seq (WC.seq ?_)))))))
  refine WC.region (WO.step rfl (OR.loadAll T81 rfl rfl (hs.blk (i := 0) rfl) rfl ?_))
  refine WO.step rfl (OR.call hs body47 rfl rfl (tconfig_ok ⟨nodes, g, s, win, que, sinks, .slice (some ⟨fb, fo, none⟩) 1 cf, vs⟩ (hcd ▸ hok) _ _ hs.toSub (hcd ▸ hf)) ?_)
  clear hs; rintro _ H w hs hle1 rfl; replace hle := hle.trans hle1; (try replace hlb := hlb.trans hle1)
  refine WO.step rfl (OR.not rfl (WO.step rfl (OR.move rfl ?_)))
  refine WO.guardYes rfl rfl rfl rfl (OR.move rfl (WO.guardYes rfl rfl rfl rfl (OR.lss rfl rfl (WO.step rfl (OR.pickF rfl rfl rfl (WO.step rfl (OR.move rfl ?_)))))))
  refine WO.guardYes rfl rfl rfl rfl (OR.move rfl (WO.guardYes rfl rfl rfl rfl (OR.fieldAddr FA81_1 rfl (WO.guardYes rfl rfl rfl rfl (OR.load T79 rfl rfl (hs.cellM (i := 0) rfl rfl) (WO.guardYes rfl rfl rfl rfl (OR.lenSlice T79.und rfl ?_)))))))
  refine WO.guardYes rfl rfl rfl rfl (OR.geq rfl rfl (WO.step rfl (OR.pickF rfl rfl rfl (WO.step rfl (OR.move rfl ?_)))))
  refine WO.guardNo rfl rfl rfl rfl (WO.guardNo rfl rfl rfl rfl (WO.step rfl (OR.pickT rfl rfl rfl (WO.step rfl (OR.move rfl (WO.guardNo rfl rfl rfl rfl (WO.guardNo rfl rfl rfl rfl ?_)))))))
  refine WO.guardNo rfl rfl rfl rfl (WO.guardNo rfl rfl rfl rfl (WO.step rfl (OR.pickT rfl rfl rfl (WO.step rfl (OR.move rfl (WO.guardNo rfl rfl rfl rfl (WO.guardNo rfl rfl rfl rfl ?_)))))))
  refine WO.step rfl (OR.pickT rfl rfl rfl (WO.done (WX.seq (WC.yes rfl rfl (WC.seq (WC.region (WO.step rfl ?_)))))))
  refine OR.assign rfl (WO.step rfl (OR.assign rfl (WO.done (WX.seq (WC.ret (WX.seq_ret ?_))))))
  refine WX.ret2 rfl rfl rfl ?_
  exact .mk (hs.drop 0) rfl
set_option maxRecDepth 20000 in
set_option maxHeartbeats 2000000 in
theorem fnew_node (c : CfgD) (hok : CfgOk c) (node : Int) (hnd : (c.nodes : Int) ≤ node) (H0 : Hp) (w0 : World) (h0 : Sub H0 w0) (hf : CfgIn H0 c) :
    Calls Tryz.prog 35 #[cfgV c, .int .i64 0, .int .i64 node, .int .u64 0] w0 (Pure H0 w0 fun v _ => v = .tuple #[.pointer none, .int .i64 1]) := by
  have hs := HS.init h0
  have hle := Hp.le.refl H0
  obtain ⟨nodes, g, s, win, que, sinks, vf, vs⟩ := c
  obtain ⟨fb, fo, cf, ef, hcf, hcc⟩ := hf.f
  replace ef : vf = .slice (some ⟨fb, fo, none⟩) 1 cf := ef
  subst ef
  have hk1 : 1 ≤ sinks.length ∧ sinks.length ≤ 8 := hok.k
  have hnn : 1 ≤ nodes ∧ nodes ≤ 64 := hok.n
  have hfs : Ints H0 vs sinks := hf.s
  obtain ⟨c, hcd⟩ : ∃ c : CfgD, c = ⟨nodes, g, s, win, que, sinks, .slice (some ⟨fb, fo, none⟩) 1 cf, vs⟩ := ⟨_, rfl⟩
  have hcn : c.nodes = nodes ∧ c.sinks = sinks := by rw [hcd]; exact ⟨rfl, rfl⟩
  rw [← hcd] at hok hf ⊢
  rw [show cfgV c = .agg #[.int .i64 (nodes : Int), .slice (some ⟨fb, fo, none⟩) 1 cf, .int .i64 (win : Int), .int .i64 (que : Int)] from by rw [hcd]; rfl]
  refine Calls.enter (args := [.agg #[.int .i64 (nodes : Int), .slice (some ⟨fb, fo, none⟩) 1 cf, .int .i64 (win : Int), .int .i64 (que : Int)], .int .i64 0, .int .i64 node, .int .u64 0]) Tryz.func35 rfl Tryz.ntmps35 rfl ?_
  refine WC.seq (WC.region (WO.step rfl (OR.box hs rfl ?_)))
  clear hs; intro g1 w hg1 hs
  refine WO.step rfl (OR.assign rfl (WO.step rfl (OR.assign rfl (WO.done (WX.seq (WC.seq (WC.seq ?_)))))))
  refine WC.region (WO.step rfl (OR.loadAll T81 rfl rfl (hs.blk (i := 0) rfl) rfl ?_))
  refine WO.step rfl (OR.call hs body47 rfl rfl (tconfig_ok ⟨nodes, g, s, win, que, sinks, .slice (some ⟨fb, fo, none⟩) 1 cf, vs⟩ (hcd ▸ hok) _ _ hs.toSub (hcd ▸ hf)) ?_)
  clear hs; rintro _ H w hs hle1 rfl; replace hle := hle.trans hle1; (try replace hlb := hlb.trans hle1)
  refine WO.step rfl (OR.not rfl (WO.step rfl (OR.move rfl ?_)))
  refine WO.guardYes rfl rfl rfl rfl (OR.move rfl (WO.guardYes rfl rfl rfl rfl (OR.lss rfl rfl (WO.step rfl (OR.pickF rfl rfl rfl (WO.step rfl (OR.move rfl ?_)))))))
  replace hnd : (nodes : Int) ≤ node := hnd
  refine WO.guardYes rfl rfl rfl rfl (OR.move rfl (WO.guardYes rfl rfl rfl rfl (OR.fieldAddr FA81_1 rfl (WO.guardYes rfl rfl rfl rfl (OR.load T79 rfl rfl (hs.cellM (i := 0) rfl rfl) (WO.guardYes rfl rfl rfl rfl (OR.lenSlice T79.und rfl ?_)))))))
  refine WO.guardYes rfl rfl rfl rfl (OR.geq rfl rfl (WO.step rfl (OR.pickF rfl rfl rfl (WO.step rfl (OR.move rfl ?_)))))
  refine WO.guardYes rfl rfl rfl rfl (OR.move rfl (WO.guardYes rfl rfl rfl rfl (OR.lss rfl rfl (WO.step rfl (OR.pickF rfl rfl rfl (WO.step rfl (OR.move rfl ?_)))))))
  refine WO.guardYes rfl (decide_eq_false (by omega : ¬ node < 0)) rfl rfl (OR.move rfl (WO.guardYes rfl (decide_eq_false (by omega : ¬ node < 0)) rfl rfl (OR.fieldAddr FA81_0 rfl (WO.guardYes rfl (decide_eq_false (by omega : ¬ node < 0)) rfl rfl (OR.load T3 rfl rfl (hs.cellM (i := 0) rfl rfl) (WO.guardYes rfl (decide_eq_false (by omega : ¬ node < 0)) rfl rfl (OR.geq rfl rfl ?_)))))))
  refine WO.step rfl (OR.pickF rfl (decide_eq_false (by omega : ¬ node < 0)) rfl (WO.step rfl (OR.move rfl ?_)))
  refine WO.guardNo rfl (decide_eq_true (by omega : node ≥ (nodes : Int))) rfl rfl (WO.guardNo rfl (decide_eq_true (by omega : node ≥ (nodes : Int))) rfl rfl (WO.step rfl (OR.pickT rfl (decide_eq_true (by omega : node ≥ (nodes : Int))) rfl (WO.done (WX.seq (WC.yes rfl rfl (WC.seq ?_)))))))
  refine WC.region (WO.step rfl (OR.assign rfl (WO.step rfl (OR.assign rfl (WO.done (WX.seq (WC.ret ?_)))))))
  refine WX.seq_ret ?_
  refine WX.ret2 rfl rfl rfl ?_
  exact .mk (hs.drop 0) rfl
set_option maxRecDepth 20000 in
set_option maxHeartbeats 2000000 in
theorem fnew_far (c : CfgD) (hok : CfgOk c) (node : Int) (n : Nat) (hnd : 0 ≤ node ∧ node < (c.nodes : Int)) (hn : 1099511627776 < n) (H0 : Hp) (w0 : World) (h0 : Sub H0 w0) (hf : CfgIn H0 c) :
    Calls Tryz.prog 35 #[cfgV c, .int .i64 0, .int .i64 node, .int .u64 (n : Int)] w0 (Pure H0 w0 fun v _ => v = .tuple #[.pointer none, .int .i64 1]) := by
  have hs := HS.init h0
  have hle := Hp.le.refl H0
  obtain ⟨nodes, g, s, win, que, sinks, vf, vs⟩ := c
  obtain ⟨fb, fo, cf, ef, hcf, hcc⟩ := hf.f
  replace ef : vf = .slice (some ⟨fb, fo, none⟩) 1 cf := ef
  subst ef
  have hk1 : 1 ≤ sinks.length ∧ sinks.length ≤ 8 := hok.k
  have hnn : 1 ≤ nodes ∧ nodes ≤ 64 := hok.n
  have hfs : Ints H0 vs sinks := hf.s
  obtain ⟨c, hcd⟩ : ∃ c : CfgD, c = ⟨nodes, g, s, win, que, sinks, .slice (some ⟨fb, fo, none⟩) 1 cf, vs⟩ := ⟨_, rfl⟩
  have hcn : c.nodes = nodes ∧ c.sinks = sinks := by rw [hcd]; exact ⟨rfl, rfl⟩
  rw [← hcd] at hok hf ⊢
  rw [show cfgV c = .agg #[.int .i64 (nodes : Int), .slice (some ⟨fb, fo, none⟩) 1 cf, .int .i64 (win : Int), .int .i64 (que : Int)] from by rw [hcd]; rfl]
  refine Calls.enter (args := [.agg #[.int .i64 (nodes : Int), .slice (some ⟨fb, fo, none⟩) 1 cf, .int .i64 (win : Int), .int .i64 (que : Int)], .int .i64 0, .int .i64 node, .int .u64 (n : Int)]) Tryz.func35 rfl Tryz.ntmps35 rfl ?_
  refine WC.seq (WC.region (WO.step rfl (OR.box hs rfl ?_)))
  clear hs; intro g1 w hg1 hs
  refine WO.step rfl (OR.assign rfl (WO.step rfl (OR.assign rfl (WO.done (WX.seq (WC.seq (WC.seq ?_)))))))
  refine WC.region (WO.step rfl (OR.loadAll T81 rfl rfl (hs.blk (i := 0) rfl) rfl ?_))
  refine WO.step rfl (OR.call hs body47 rfl rfl (tconfig_ok ⟨nodes, g, s, win, que, sinks, .slice (some ⟨fb, fo, none⟩) 1 cf, vs⟩ (hcd ▸ hok) _ _ hs.toSub (hcd ▸ hf)) ?_)
  clear hs; rintro _ H w hs hle1 rfl; replace hle := hle.trans hle1; (try replace hlb := hlb.trans hle1)
  refine WO.step rfl (OR.not rfl (WO.step rfl (OR.move rfl ?_)))
  refine WO.guardYes rfl rfl rfl rfl (OR.move rfl (WO.guardYes rfl rfl rfl rfl (OR.lss rfl rfl (WO.step rfl (OR.pickF rfl rfl rfl (WO.step rfl (OR.move rfl ?_)))))))
  replace hnd : 0 ≤ node ∧ node < (nodes : Int) := hnd
  refine WO.guardYes rfl rfl rfl rfl (OR.move rfl (WO.guardYes rfl rfl rfl rfl (OR.fieldAddr FA81_1 rfl (WO.guardYes rfl rfl rfl rfl (OR.load T79 rfl rfl (hs.cellM (i := 0) rfl rfl) (WO.guardYes rfl rfl rfl rfl (OR.lenSlice T79.und rfl ?_)))))))
  refine WO.guardYes rfl rfl rfl rfl (OR.geq rfl rfl (WO.step rfl (OR.pickF rfl rfl rfl (WO.step rfl (OR.move rfl ?_)))))
  refine WO.guardYes rfl rfl rfl rfl (OR.move rfl (WO.guardYes rfl rfl rfl rfl (OR.lss rfl rfl (WO.step rfl (OR.pickF rfl rfl rfl (WO.step rfl (OR.move rfl ?_)))))))
  refine WO.guardYes rfl (decide_eq_false (by omega : ¬ node < 0)) rfl rfl (OR.move rfl (WO.guardYes rfl (decide_eq_false (by omega : ¬ node < 0)) rfl rfl (OR.fieldAddr FA81_0 rfl (WO.guardYes rfl (decide_eq_false (by omega : ¬ node < 0)) rfl rfl (OR.load T3 rfl rfl (hs.cellM (i := 0) rfl rfl) (WO.guardYes rfl (decide_eq_false (by omega : ¬ node < 0)) rfl rfl (OR.geq rfl rfl ?_)))))))
  refine WO.step rfl (OR.pickF rfl (decide_eq_false (by omega : ¬ node < 0)) rfl (WO.step rfl (OR.move rfl ?_)))
  refine WO.guardYes rfl (decide_eq_false (by omega : ¬ node ≥ (nodes : Int))) rfl rfl (OR.move rfl (WO.guardYes rfl (decide_eq_false (by omega : ¬ node ≥ (nodes : Int))) rfl rfl (OR.gtr rfl rfl (WO.step rfl (OR.pickF rfl (decide_eq_false (by omega : ¬ node ≥ (nodes : Int))) rfl (WO.done (WX.seq ?_)))))))
  refine WC.yes rfl (decide_eq_true (by omega)) ?_
  refine WC.seq (WC.region (WO.step rfl (OR.assign rfl (WO.step rfl (OR.assign rfl (WO.done (WX.seq ?_)))))))
  refine WC.ret (WX.seq_ret ?_)
  refine WX.ret2 rfl rfl rfl ?_
  exact .mk (hs.drop 0) rfl
set_option maxRecDepth 20000 in
set_option maxHeartbeats 2000000 in
theorem fnew_not (c : CfgD) (hok : CfgOk c) (node : Int) (n : Nat) (hnd : 0 ≤ node ∧ node < (c.nodes : Int)) (hn : 1 ≤ n ∧ n ≤ 1099511627776) (hns : node ∉ c.sinks) (H0 : Hp) (w0 : World) (h0 : Sub H0 w0) (hf : CfgIn H0 c) :
    Calls Tryz.prog 35 #[cfgV c, .int .i64 0, .int .i64 node, .int .u64 (n : Int)] w0 (Pure H0 w0 fun v _ => v = .tuple #[.pointer none, .int .i64 1]) := by
  have hs := HS.init h0
  have hle := Hp.le.refl H0
  obtain ⟨nodes, g, s, win, que, sinks, vf, vs⟩ := c
  obtain ⟨fb, fo, cf, ef, hcf, hcc⟩ := hf.f
  replace ef : vf = .slice (some ⟨fb, fo, none⟩) 1 cf := ef
  subst ef
  have hk1 : 1 ≤ sinks.length ∧ sinks.length ≤ 8 := hok.k
  have hnn : 1 ≤ nodes ∧ nodes ≤ 64 := hok.n
  have hfs : Ints H0 vs sinks := hf.s
  obtain ⟨c, hcd⟩ : ∃ c : CfgD, c = ⟨nodes, g, s, win, que, sinks, .slice (some ⟨fb, fo, none⟩) 1 cf, vs⟩ := ⟨_, rfl⟩
  have hcn : c.nodes = nodes ∧ c.sinks = sinks := by rw [hcd]; exact ⟨rfl, rfl⟩
  rw [← hcd] at hok hf ⊢
  rw [show cfgV c = .agg #[.int .i64 (nodes : Int), .slice (some ⟨fb, fo, none⟩) 1 cf, .int .i64 (win : Int), .int .i64 (que : Int)] from by rw [hcd]; rfl]
  refine Calls.enter (args := [.agg #[.int .i64 (nodes : Int), .slice (some ⟨fb, fo, none⟩) 1 cf, .int .i64 (win : Int), .int .i64 (que : Int)], .int .i64 0, .int .i64 node, .int .u64 (n : Int)]) Tryz.func35 rfl Tryz.ntmps35 rfl ?_
  refine WC.seq (WC.region (WO.step rfl (OR.box hs rfl ?_)))
  clear hs; intro g1 w hg1 hs
  refine WO.step rfl (OR.assign rfl (WO.step rfl (OR.assign rfl (WO.done (WX.seq (WC.seq (WC.seq ?_)))))))
  refine WC.region (WO.step rfl (OR.loadAll T81 rfl rfl (hs.blk (i := 0) rfl) rfl ?_))
  refine WO.step rfl (OR.call hs body47 rfl rfl (tconfig_ok ⟨nodes, g, s, win, que, sinks, .slice (some ⟨fb, fo, none⟩) 1 cf, vs⟩ (hcd ▸ hok) _ _ hs.toSub (hcd ▸ hf)) ?_)
  clear hs; rintro _ H w hs hle1 rfl; replace hle := hle.trans hle1; (try replace hlb := hlb.trans hle1)
  refine WO.step rfl (OR.not rfl (WO.step rfl (OR.move rfl ?_)))
  refine WO.guardYes rfl rfl rfl rfl (OR.move rfl (WO.guardYes rfl rfl rfl rfl (OR.lss rfl rfl (WO.step rfl (OR.pickF rfl rfl rfl (WO.step rfl (OR.move rfl ?_)))))))
  replace hnd : 0 ≤ node ∧ node < (nodes : Int) := hnd
  refine WO.guardYes rfl rfl rfl rfl (OR.move rfl (WO.guardYes rfl rfl rfl rfl (OR.fieldAddr FA81_1 rfl (WO.guardYes rfl rfl rfl rfl (OR.load T79 rfl rfl (hs.cellM (i := 0) rfl rfl) (WO.guardYes rfl rfl rfl rfl (OR.lenSlice T79.und rfl ?_)))))))
  refine WO.guardYes rfl rfl rfl rfl (OR.geq rfl rfl (WO.step rfl (OR.pickF rfl rfl rfl (WO.step rfl (OR.move rfl ?_)))))
  refine WO.guardYes rfl rfl rfl rfl (OR.move rfl (WO.guardYes rfl rfl rfl rfl (OR.lss rfl rfl (WO.step rfl (OR.pickF rfl rfl rfl (WO.step rfl (OR.move rfl ?_)))))))
  refine WO.guardYes rfl (decide_eq_false (by omega : ¬ node < 0)) rfl rfl (OR.move rfl (WO.guardYes rfl (decide_eq_false (by omega : ¬ node < 0)) rfl rfl (OR.fieldAddr FA81_0 rfl (WO.guardYes rfl (decide_eq_false (by omega : ¬ node < 0)) rfl rfl (OR.load T3 rfl rfl (hs.cellM (i := 0) rfl rfl) (WO.guardYes rfl (decide_eq_false (by omega : ¬ node < 0)) rfl rfl (OR.geq rfl rfl ?_)))))))
  refine WO.step rfl (OR.pickF rfl (decide_eq_false (by omega : ¬ node < 0)) rfl (WO.step rfl (OR.move rfl ?_)))
  refine WO.guardYes rfl (decide_eq_false (by omega : ¬ node ≥ (nodes : Int))) rfl rfl (OR.move rfl (WO.guardYes rfl (decide_eq_false (by omega : ¬ node ≥ (nodes : Int))) rfl rfl (OR.gtr rfl rfl (WO.step rfl (OR.pickF rfl (decide_eq_false (by omega : ¬ node ≥ (nodes : Int))) rfl (WO.done (WX.seq ?_)))))))
  refine WC.no rfl (decide_eq_false (by omega)) ?_
  refine WC.skip (WX.seq (WC.seq (WC.region (WO.step rfl (OR.fieldAddr FA81_1 rfl (WO.step rfl (OR.load T79 rfl rfl (hs.cellM (i := 0) rfl rfl) ?_)))))))
  refine WO.step rfl (OR.move rfl ?_)
  refine WO.step rfl (OR.idxN 0 T79.und T78 rfl rfl rfl (by omega) ?_)
  obtain ⟨bs, cz, hvs⟩ := hfs.form
  replace hcc : ∀ j u, [Value.int .i64 (g : Int), .int .i64 (s : Int), .int .i64 0, vs][j]? = some u → hcell H0 ((⟨fb, fo, none⟩ : Addr).add j) = some u := hcc
  subst hvs
  refine WO.step rfl (OR.loadN (cs := [.int .i64 (g : Int), .int .i64 (s : Int), .int .i64 0, .slice bs sinks.length cz]) T78 rfl rfl rfl (fun j u hj => hs.cell (hcell.mono hle (by rw [Nat.zero_mul, Nat.add_zero]; exact hcc j u hj))) ?_)
  refine WO.step rfl (OR.alloc hs T78 ?_)
  clear hs; intro g2 w hg2 hs
  refine WO.stepN (OR.storeAll hs T78 rfl rfl rfl rfl rfl ?_)
  clear hs; intro w hs
  refine WO.done (WX.seq (WC.seq (WC.region (WO.step rfl (OR.fieldAddr FA78_3 rfl (WO.step rfl (OR.load T76 rfl rfl (hs.cellM (i := 0) rfl rfl) ?_)))))))
  refine WO.step rfl (OR.move rfl ?_)
  refine WO.step rfl (OR.call hs body94 rfl rfl (contains_ok' (.slice bs sinks.length cz) sinks node _ _ hs.toSub (hfs.mono hle) (by omega)) ?_)
  clear hs; rintro _ H w hs hle1 rfl; replace hle := hle.trans hle1; (try replace hlb := hlb.trans hle1)
  replace hns : node ∉ sinks := hns
  rw [decide_eq_false hns]
  refine WO.step rfl (OR.assign rfl (WO.done (WX.seq (WC.seq (WC.seq (WC.region (WO.step rfl ?_)))))))
  refine OR.move rfl (WO.step rfl (OR.gtr rfl rfl (WO.step rfl (OR.move rfl ?_))))
  refine WO.guardYes rfl (decide_eq_true (by omega : (n : Int) > 0)) rfl rfl (OR.move rfl (WO.guardYes rfl (decide_eq_true (by omega : (n : Int) > 0)) rfl rfl (OR.not rfl (WO.step rfl (OR.pickT rfl (decide_eq_true (by omega : (n : Int) > 0)) rfl (WO.done (WX.seq ?_)))))))
  refine WC.yes rfl rfl ?_
  refine WC.seq (WC.region (WO.step rfl (OR.assign rfl (WO.step rfl (OR.assign rfl (WO.done (WX.seq ?_)))))))
  refine WC.ret (WX.seq_ret ?_)
  refine WX.ret2 rfl rfl rfl ?_
  exact .mk ((hs.drop 0).drop 0) rfl
set_option maxRecDepth 20000 in
set_option maxHeartbeats 2000000 in
/-- The configuration that is none. -/
theorem tconfig_zero (H0 : Hp) (w0 : World) (h0 : Sub H0 w0) :
    Calls Tryz.prog 47 #[.agg #[.int .i64 0, .slice none 0 0, .int .i64 0, .int .i64 0]] w0 (Pure H0 w0 fun v _ => v = .bool false) := by
  have hs := HS.init h0
  have hle := Hp.le.refl H0
  refine Calls.enter (args := [.agg #[.int .i64 0, .slice none 0 0, .int .i64 0, .int .i64 0]]) Tryz.func47 rfl Tryz.ntmps47 rfl ?_
  refine WC.seq (WC.region (WO.step rfl (OR.box hs rfl ?_)))
  clear hs; intro g1 w hg1 hs
  refine WO.step rfl (OR.assign rfl (WO.done (WX.seq (WC.seq (WC.region (WO.step rfl (OR.makeFunc rfl rfl ?_)))))))
  refine WO.step rfl (OR.assign rfl (WO.done (WX.seq (WC.seq (WC.region (WO.step rfl (OR.fieldAddr FA81_0 rfl ?_)))))))
  refine WO.step rfl (OR.load T3 rfl rfl (hs.cellM (i := 0) rfl rfl) ?_)
  obtain ⟨H, hle1, hp_g1, hs9⟩ := hs.pub1 hg1; clear hs; have hs := hs9; clear hs9; replace hle := hle.trans hle1; (try replace hlb := hlb.trans hle1)
  refine WO.step rfl (OR.call hs body106 rfl rfl (within_ok 0 1 64 _ _ hs.toSub) ?_)
  clear hs; rintro _ H w hs hle1 rfl; replace hle := hle.trans hle1; (try replace hlb := hlb.trans hle1)
  refine WO.step rfl (OR.move rfl ?_)
  refine WO.guardNo rfl rfl rfl rfl (WO.guardNo rfl rfl rfl rfl (WO.guardNo rfl rfl rfl rfl (WO.guardNo rfl rfl rfl rfl (WO.step rfl (OR.pickF rfl rfl rfl (WO.step rfl (OR.move rfl ?_)))))))
  refine WO.guardNo rfl rfl rfl rfl (WO.guardNo rfl rfl rfl rfl (WO.guardNo rfl rfl rfl rfl (WO.step rfl (OR.pickF rfl rfl rfl (WO.step rfl (OR.move rfl (WO.guardNo rfl rfl rfl rfl ?_)))))))
  refine WO.guardNo rfl rfl rfl rfl (WO.guardNo rfl rfl rfl rfl (WO.step rfl (OR.pickF rfl rfl rfl (WO.step rfl (OR.move rfl (WO.guardNo rfl rfl rfl rfl (WO.guardNo rfl rfl rfl rfl ?_)))))))
  refine WO.guardNo rfl rfl rfl rfl (WO.guardNo rfl rfl rfl rfl (WO.guardNo rfl rfl rfl rfl (WO.step rfl (OR.pickF rfl rfl rfl (WO.step rfl (OR.assign rfl (WO.done ?_)))))))
  refine WX.seq (WC.ret ?_)
  refine WX.ret1 rfl rfl ?_
  exact .mk hs rfl
set_option maxRecDepth 20000 in
set_option maxHeartbeats 2000000 in
theorem fnew_zero (H0 : Hp) (w0 : World) (h0 : Sub H0 w0) :
    Calls Tryz.prog 35 #[.agg #[.int .i64 0, .slice none 0 0, .int .i64 0, .int .i64 0], .int .i64 0, .int .i64 0, .int .u64 0] w0 (Pure H0 w0 fun v _ => v = .tuple #[.pointer none, .int .i64 1]) := by
  have hs := HS.init h0
  have hle := Hp.le.refl H0
  refine Calls.enter (args := [.agg #[.int .i64 0, .slice none 0 0, .int .i64 0, .int .i64 0], .int .i64 0, .int .i64 0, .int .u64 0]) Tryz.func35 rfl Tryz.ntmps35 rfl ?_
  refine WC.seq (WC.region (WO.step rfl (OR.box hs rfl ?_)))
  clear hs; intro g1 w hg1 hs
  refine WO.step rfl (OR.assign rfl (WO.step rfl (OR.assign rfl (WO.done (WX.seq (WC.seq (WC.seq ?_)))))))
  refine WC.region (WO.step rfl (OR.loadAll T81 rfl rfl (hs.blk (i := 0) rfl) rfl ?_))
  refine WO.step rfl (OR.call hs body47 rfl rfl (tconfig_zero _ _ hs.toSub) ?_)
  clear hs; rintro _ H w hs hle1 rfl; replace hle := hle.trans hle1; (try replace hlb := hlb.trans hle1)
  refine WO.step rfl (OR.not rfl (WO.step rfl (OR.move rfl ?_)))
  refine WO.guardNo rfl rfl rfl rfl (WO.guardNo rfl rfl rfl rfl (WO.step rfl (OR.pickT rfl rfl rfl (WO.step rfl (OR.move rfl (WO.guardNo rfl rfl rfl rfl (WO.guardNo rfl rfl rfl rfl ?_)))))))
  refine WO.guardNo rfl rfl rfl rfl (WO.guardNo rfl rfl rfl rfl (WO.guardNo rfl rfl rfl rfl (WO.step rfl (OR.pickT rfl rfl rfl (WO.step rfl (OR.move rfl (WO.guardNo rfl rfl rfl rfl ?_)))))))
  refine WO.guardNo rfl rfl rfl rfl (WO.step rfl (OR.pickT rfl rfl rfl (WO.step rfl (OR.move rfl (WO.guardNo rfl rfl rfl rfl (WO.guardNo rfl rfl rfl rfl (WO.guardNo rfl rfl rfl rfl ?_)))))))
  refine WO.guardNo rfl rfl rfl rfl (WO.step rfl (OR.pickT rfl rfl rfl (WO.step rfl (OR.move rfl (WO.guardNo rfl rfl rfl rfl (WO.guardNo rfl rfl rfl rfl (WO.step rfl ?_)))))))
  refine OR.pickT rfl rfl rfl (WO.done (WX.seq (WC.yes rfl rfl (WC.seq (WC.region (WO.step rfl (OR.assign rfl ?_)))))))
  refine WO.step rfl (OR.assign rfl (WO.done (WX.seq (WC.ret (WX.seq_ret ?_)))))
  refine WX.ret2 rfl rfl rfl ?_
  exact .mk (hs.drop 0) rfl
section
variable {c : CfgD} {d : FD} {xb tb : Nat} {vs : Value} {rl : Option RelS} {sk : SinkS} {A B : Mem} {H0 H : Hp} {w0 w : World}
theorem fk_epoch {v : Value} {next : List Int} (hs : HS [] H0 w0 H (A ++ (fMem c d xb tb vs rl sk ++ B)) w) (hok : RlOk H rl) (hb : skBase sk ≤ 1099511627776)
    (hv : Ints H v next) (hn : next.length ≤ 1000) (hr : ∀ i (h : i < next.length), 0 ≤ next[i] ∧ next[i] < (c.nodes : Int) ∧ next[i] ≠ d.node) (hup : ∀ i (h : i < next.length), 0 < i → next[i - 1]'(by omega) < next[i]) :
    Calls Tryz.prog 38 #[ptr xb, v] w (fun e w' => ∃ H' nv tb' l', e = .returned (.int .i64 0) ∧ Hp.le H H' ∧ Ints H' nv next ∧ RlOk H' (workR (d.epoch next nv) (skBase sk) l' rl) ∧ HS [] H0 w0 H' (A ++ (fMem c ((d.epoch next nv).work (skBase sk)) xb tb' vs (workR (d.epoch next nv) (skBase sk) l' rl) sk ++ B)) w') := by
  have hs2 := HS.mid hs
  refine Calls.lift hs2 (fepoch_ok c d xb tb vs rl sk v next H w (HS.part hs2) hok hb hv hn hr hup) rfl (List.all_eq_true.1 (fMem_flags _ _ _ _ _ _ _)) ?_
  rintro v H' M' w' hs' hle ⟨nv, tb', l', rfl, rfl, hnv, hro⟩
  exact ⟨H', nv, tb', l', rfl, hle, hnv, hro, HS.mid hs'⟩
theorem fk_hop {a : Int} {b : Nat} (hs : HS [] H0 w0 H (A ++ (fMem c d xb tb vs rl sk ++ B)) w) (hok : RlOk H rl) (hb : skBase sk ≤ 1099511627776)
    (hnx : Ints H d.nv d.next) (hd : d.told.length ≤ 900) (hdn : d.next.length ≤ 1000) (ht : ∀ p ∈ d.told, p.2 ≤ 1099511627776) (ha : a ∈ d.next) (hbm : b ≤ 1099511627776) :
    Calls Tryz.prog 39 #[ptr xb, .int .i64 a, .int .u64 (b : Int)] w (fun e w' => ∃ H' l', e = .returned (.int .i64 0) ∧ Hp.le H H' ∧ RlOk H' (workR (d.hop a b) (skBase sk) l' rl) ∧ HS [] H0 w0 H' (A ++ (fMem c ((d.hop a b).work (skBase sk)) xb tb vs (workR (d.hop a b) (skBase sk) l' rl) sk ++ B)) w') := by
  have hs2 := HS.mid hs
  refine Calls.lift hs2 (fhop_ok c d xb tb vs rl sk a b H w (HS.part hs2) hok hb hnx hd hdn ht ha hbm) rfl (List.all_eq_true.1 (fMem_flags _ _ _ _ _ _ _)) ?_
  rintro v H' M' w' hs' hle ⟨l', rfl, rfl, hro⟩
  exact ⟨H', l', rfl, hle, hro, HS.mid hs'⟩
theorem fk_take {R : RelS} {vr : Value} {r : RowD} {gen : Nat} (hs : HS [] H0 w0 H (A ++ (fMem c d xb tb vs (some R) none ++ B)) w) (hok : RlOk H (some R)) (hg : gen < 18446744073709551616) (hr : RowV H vr r) :
    Calls Tryz.prog 43 #[ptr xb, .int .u64 (gen : Int), vr] w (fun e w' => ∃ H' R', e = .returned (.tuple #[.bool (R.y.takeI gen r), .int .i64 (R.y.takeE gen r)]) ∧ Hp.le H H' ∧ R'.y = R.y.take gen r ∧ RlOk H' (some R') ∧ HS [] H0 w0 H' (A ++ (fMem c d xb tb vs (some R') none ++ B)) w') := by
  have hs1 := HS.mid hs
  have hs2 : HS [] H0 w0 H ([(xb, fObj c d tb vs (ptr R.rb) (.pointer none), true), (tb, toldObj d.told, true)] ++ (relMem true R.y R.rb R.wb R.l ++ (A ++ B))) w := hs1
  have hs3 := HS.mid hs2
  have hs4 := HS.mtail hs3
  refine Calls.lift hs3 (ftake_ok c d xb tb R.rb R.wb gen vs (.pointer none) vr R.y R.l r H w (HS.relVm (t := true) hs4 (List.mem_append_left _ (List.mem_cons_self ..))) hok.1 hok.2 hg hr) rfl (List.all_eq_true.1 (relMem_flags _ _ _ _)) ?_
  rintro v H' M' w' hs' hle ⟨rfl, l', rfl, hso⟩
  have hs4 := HS.mid hs'
  have hs5 : HS [] H0 w0 H' (fMem c d xb tb vs (some ⟨R.y.take gen r, R.rb, R.wb, l'⟩) none ++ (A ++ B)) w' := hs4
  exact ⟨H', ⟨R.y.take gen r, R.rb, R.wb, l'⟩, rfl, hle, rfl, ⟨hso, hok.2.take gen r⟩, HS.mid hs5⟩
theorem fk_told {n kb : Nat} {vr : Value} {q : SinkD} (hs : HS [] H0 w0 H (A ++ ([(xb, fObj c d tb (.pointer none) vr (ptr kb), true), (kb, sinkObj q, true)] ++ B)) w) (hf : n ≤ 1099511627776) (hk : d.known = false) (hg : 1 ≤ q.g) :
    Calls Tryz.prog 58 #[ptr xb, .int .u64 (n : Int)] w (fun e w' => ∃ H', e = .returned (.int .i64 (q.totE n)) ∧ Hp.le H H' ∧ HS [] H0 w0 H' (A ++ ([(xb, fObj c (if q.totE n = 0 then { d with total := n, known := true } else d) tb (.pointer none) vr (ptr kb), true), (kb, sinkObj (q.total n), true)] ++ B)) w') := by
  have hs2 := HS.mid hs
  refine Calls.lift hs2 (ftold_sink c d xb tb n vr H w kb q (HS.part hs2) hf hk hg) rfl (by simp) ?_
  rintro v H' M' w' hs' hle ⟨rfl, rfl⟩
  exact ⟨H', rfl, hle, HS.mid hs'⟩
theorem fk_submit {bv : Value} {D : SrcD} {o : Obj} {l : List UInt8} {sb : Nat} (hs : HS [] H0 w0 H ([(sb, o, true)] ++ (fMem c d xb tb (ptr sb) none none ++ B)) w)
    (hx : SrcIn H D o) (hok : SrcOk D) (hl : Bytes H bv l) (hll : l.length ≤ 9223372036854775807) (hcl : D.cuts.length ≤ 1000000000) (hw : c.win ≤ 16) (hb : d.base ≤ 1099511627776) :
    Calls Tryz.prog 41 #[ptr xb, bv] w (fun e w' => ∃ H' o', e = .returned (.int .i64 (subE D l (d.base + 2 * c.win))) ∧ Hp.le H H' ∧ SrcIn H' (subD D l (d.base + 2 * c.win)) o' ∧ HS [] H0 w0 H' ([(sb, o', true)] ++ (fMem c d xb tb (ptr sb) none none ++ B)) w') := by
  refine Calls.lift hs (fsubmit_ok c d xb tb sb _ _ bv D o l H w (hs.view [(sb, o, true), (xb, fObj c d tb (ptr sb) (.pointer none) (.pointer none), false)] (by simp [fMem, rlV, skV]) (.cons_cons _ (.cons_cons _ (List.nil_sublist _)))) hx hok hl hll hcl hw hb) rfl (by simp) ?_
  rintro v H' M' w' hs' hle ⟨rfl, o', rfl, hx'⟩
  exact ⟨H', o', rfl, hle, hx', hs'⟩
theorem fk_close {D : SrcD} {o : Obj} {sb : Nat} (hs : HS [] H0 w0 H ([(sb, o, true)] ++ (fMem c d xb tb (ptr sb) none none ++ B)) w)
    (hx : SrcIn H D o) (hok : SrcOk D) (hcl : D.cuts.length ≤ 1000000000) :
    Calls Tryz.prog 59 #[ptr xb] w (fun e w' => ∃ H' o', e = .returned (.int .i64 (if D.cl = true then 27 else 0)) ∧ Hp.le H H' ∧ SrcIn H' (closeD D) o' ∧ HS [] H0 w0 H' ([(sb, o', true)] ++ (fMem c d xb tb (ptr sb) none none ++ B)) w') := by
  refine Calls.lift hs (fclose_ok c d xb tb sb _ _ D o H w (hs.view [(sb, o, true), (xb, fObj c d tb (ptr sb) (.pointer none) (.pointer none), false)] (by simp [fMem, rlV, skV]) (.cons_cons _ (.cons_cons _ (List.nil_sublist _)))) hx hok hcl) rfl (by simp) ?_
  rintro v H' M' w' hs' hle ⟨rfl, o', rfl, hx'⟩
  exact ⟨H', o', rfl, hle, hx', hs'⟩
theorem fk_total {D : SrcD} {o : Obj} {sb : Nat} (hs : HS [] H0 w0 H ([(sb, o, true)] ++ (fMem c d xb tb (ptr sb) none none ++ B)) w)
    (hx : SrcIn H D o) (hcl : D.cl = true) (hl : D.chunks.length < 9223372036854775807) :
    Calls Tryz.prog 60 #[ptr xb] w (Pure H w fun v _ => v = .tuple #[.int .u64 (D.chunks.length : Int), .bool true]) :=
  ftotal_src c d xb tb (.pointer none) (.pointer none) H w sb D o (hs.view [(sb, o, false), (xb, fObj c d tb (ptr sb) (.pointer none) (.pointer none), false)] (by simp [fMem, rlV, skV]) (.cons_cons _ (.cons_cons _ (List.nil_sublist _)))) hx hcl hl
structure FkS where
  dx : FD
  dy : FD
  txb : Nat
  tyb : Nat
  o : Obj
  R : RelS
  Z : Mem
def fkMem (cx cy : CfgD) (sb xb yb : Nat) (q : FkS) : Mem := [(sb, q.o, true)] ++ (fMem cx q.dx xb q.txb (ptr sb) none none ++ (fMem cy q.dy yb q.tyb (.pointer none) (some q.R) none ++ q.Z))
variable {cx cy : CfgD} {sb yb : Nat} {q : FkS}
theorem fkMem_y : fkMem cx cy sb xb yb q = ([(sb, q.o, true)] ++ fMem cx q.dx xb q.txb (ptr sb) none none) ++ (fMem cy q.dy yb q.tyb (.pointer none) (some q.R) none ++ q.Z) := by simp [fkMem]
theorem fkx_at {xs : List Nat} (hs : HS xs H0 w0 H (fkMem cx cy sb xb yb q) w) : w.heap[xb]? = some (fObj cx q.dx q.txb (ptr sb) (.pointer none) (.pointer none)) ∧ H xb = none := by
  have h := hs.mem xb (fObj cx q.dx q.txb (ptr sb) (.pointer none) (.pointer none)) true (by simp [fkMem, fMem, rlV, skV])
  exact ⟨h.1, h.2.1⟩
theorem fky_at {xs : List Nat} (hs : HS xs H0 w0 H (fkMem cx cy sb xb yb q) w) : w.heap[yb]? = some (fObj cy q.dy q.tyb (.pointer none) (ptr q.R.rb) (.pointer none)) ∧ H yb = none := by
  have h := hs.mem yb (fObj cy q.dy q.tyb (.pointer none) (ptr q.R.rb) (.pointer none)) true (by simp [fkMem, fMem, rlV, skV])
  exact ⟨h.1, h.2.1⟩
theorem fkz_at {xs : List Nat} {zb : Nat} {o : Obj} {t : Bool} (hs : HS xs H0 w0 H (fkMem cx cy sb xb yb q) w) (hm : (zb, o, t) ∈ q.Z) : w.heap[zb]? = some o ∧ H zb = none := by
  have h := hs.mem zb o t (by simp [fkMem, hm])
  exact ⟨h.1, h.2.1⟩
theorem fkx_epoch {v : Value} {k : Int} (hs : HS [] H0 w0 H (fkMem cx cy sb xb yb q) w) (hv : Ints H v [k]) (hr : 0 ≤ k ∧ k < (cx.nodes : Int) ∧ k ≠ q.dx.node) :
    Calls Tryz.prog 38 #[ptr xb, v] w (fun e w' => ∃ H' nv tb', e = .returned (.int .i64 0) ∧ Hp.le H H' ∧ Ints H' nv [k] ∧ HS [] H0 w0 H' (fkMem cx cy sb xb yb { q with dx := (q.dx.epoch [k] nv).work 1099511627776, txb := tb' }) w') := by
  refine (fk_epoch (A := [(sb, q.o, true)]) hs trivial (Nat.le_refl _) hv (by simp) (next1 hr) (up1 _)).mono ?_
  rintro e w' ⟨H', nv, tb', l', rfl, hle, hnv, -, hs'⟩
  exact ⟨H', nv, tb', rfl, hle, hnv, hs'⟩
theorem fkx_hop {a : Int} {b : Nat} (hs : HS [] H0 w0 H (fkMem cx cy sb xb yb q) w) (hnx : Ints H q.dx.nv q.dx.next) (hd : q.dx.told.length ≤ 900) (hdn : q.dx.next.length ≤ 1000) (ht : ∀ p ∈ q.dx.told, p.2 ≤ 1099511627776) (ha : a ∈ q.dx.next) (hbm : b ≤ 1099511627776) :
    Calls Tryz.prog 39 #[ptr xb, .int .i64 a, .int .u64 (b : Int)] w (fun e w' => ∃ H', e = .returned (.int .i64 0) ∧ Hp.le H H' ∧ HS [] H0 w0 H' (fkMem cx cy sb xb yb { q with dx := (q.dx.hop a b).work 1099511627776 }) w') := by
  refine (fk_hop (A := [(sb, q.o, true)]) hs trivial (Nat.le_refl _) hnx hd hdn ht ha hbm).mono ?_
  rintro e w' ⟨H', l', rfl, hle, -, hs'⟩
  exact ⟨H', rfl, hle, hs'⟩
theorem fky_epoch {v : Value} {k : Int} (hs : HS [] H0 w0 H (fkMem cx cy sb xb yb q) w) (hok : RlOk H (some q.R)) (hv : Ints H v [k]) (hr : 0 ≤ k ∧ k < (cy.nodes : Int) ∧ k ≠ q.dy.node) :
    Calls Tryz.prog 38 #[ptr yb, v] w (fun e w' => ∃ H' nv tb' R', e = .returned (.int .i64 0) ∧ Hp.le H H' ∧ Ints H' nv [k] ∧ RlOk H' (some R') ∧ R'.y = q.R.y ∧ HS [] H0 w0 H' (fkMem cx cy sb xb yb { q with dy := (q.dy.epoch [k] nv).work 1099511627776, tyb := tb', R := R' }) w') := by
  rw [fkMem_y] at hs
  refine (fk_epoch hs hok (Nat.le_refl _) hv (by simp) (next1 hr) (up1 _)).mono ?_
  rintro e w' ⟨H', nv, tb', l', rfl, hle, hnv, hro, hs'⟩
  refine ⟨H', nv, tb', q.R.work (q.dy.epoch [k] nv) 1099511627776 l', rfl, hle, hnv, hro, ?_, ?_⟩
  · unfold RelS.work
    rw [if_pos (show (q.dy.epoch [k] nv).idle = true from rfl)]
  · rw [fkMem_y]; exact hs'
theorem fky_hop {a : Int} {b : Nat} (hs : HS [] H0 w0 H (fkMem cx cy sb xb yb q) w) (hok : RlOk H (some q.R)) (hnx : Ints H q.dy.nv q.dy.next) (hd : q.dy.told.length ≤ 900) (hdn : q.dy.next.length ≤ 1000) (ht : ∀ p ∈ q.dy.told, p.2 ≤ 1099511627776) (ha : a ∈ q.dy.next) (hbm : b ≤ 1099511627776)
    (hi : ¬ ((q.dy.hop a b).idle = true)) (hl : leastN 1099511627776 (q.dy.hop a b).told = b) :
    Calls Tryz.prog 39 #[ptr yb, .int .i64 a, .int .u64 (b : Int)] w (fun e w' => ∃ H' R', e = .returned (.int .i64 0) ∧ Hp.le H H' ∧ RlOk H' (some R') ∧ R'.y = q.R.y.moveTo b ∧ HS [] H0 w0 H' (fkMem cx cy sb xb yb { q with dy := (q.dy.hop a b).work 1099511627776, R := R' }) w') := by
  rw [fkMem_y] at hs
  refine (fk_hop hs hok (Nat.le_refl _) hnx hd hdn ht ha hbm).mono ?_
  rintro e w' ⟨H', l', rfl, hle, hro, hs'⟩
  refine ⟨H', q.R.work (q.dy.hop a b) 1099511627776 l', rfl, hle, hro, ?_, ?_⟩
  · rw [(work_y hi).1, hl]
  · rw [fkMem_y]; exact hs'
theorem fky_take {vr : Value} {r : RowD} {gen : Nat} (hs : HS [] H0 w0 H (fkMem cx cy sb xb yb q) w) (hok : RlOk H (some q.R)) (hg : gen < 18446744073709551616) (hr : RowV H vr r) :
    Calls Tryz.prog 43 #[ptr yb, .int .u64 (gen : Int), vr] w (fun e w' => ∃ H' R', e = .returned (.tuple #[.bool (q.R.y.takeI gen r), .int .i64 (q.R.y.takeE gen r)]) ∧ Hp.le H H' ∧ R'.y = q.R.y.take gen r ∧ RlOk H' (some R') ∧ HS [] H0 w0 H' (fkMem cx cy sb xb yb { q with R := R' }) w') := by
  rw [fkMem_y] at hs
  refine (fk_take hs hok hg hr).mono ?_
  rintro e w' ⟨H', R', rfl, hle, hy, hro, hs'⟩
  exact ⟨H', R', rfl, hle, hy, hro, by rw [fkMem_y]; exact hs'⟩
theorem fkz_told {n zb tzb kb : Nat} {cz : CfgD} {dz : FD} {vr : Value} {k : SinkD} {B : Mem} (hs : HS [] H0 w0 H (fkMem cx cy sb xb yb q) w) (hz : q.Z = [(zb, fObj cz dz tzb (.pointer none) vr (ptr kb), true), (kb, sinkObj k, true)] ++ B) (hf : n ≤ 1099511627776) (hk : dz.known = false) (hg : 1 ≤ k.g) :
    Calls Tryz.prog 58 #[ptr zb, .int .u64 (n : Int)] w (fun e w' => ∃ H', e = .returned (.int .i64 (k.totE n)) ∧ Hp.le H H' ∧ HS [] H0 w0 H' (fkMem cx cy sb xb yb { q with Z := [(zb, fObj cz (if k.totE n = 0 then { dz with total := n, known := true } else dz) tzb (.pointer none) vr (ptr kb), true), (kb, sinkObj (k.total n), true)] ++ B }) w') := by
  have hs2 : HS [] H0 w0 H (([(sb, q.o, true)] ++ (fMem cx q.dx xb q.txb (ptr sb) none none ++ fMem cy q.dy yb q.tyb (.pointer none) (some q.R) none)) ++ ([(zb, fObj cz dz tzb (.pointer none) vr (ptr kb), true), (kb, sinkObj k, true)] ++ B)) w := by
    rw [← hz]
    simpa [fkMem] using hs
  refine (fk_told hs2 hf hk hg).mono ?_
  rintro e w' ⟨H', rfl, hle, hs'⟩
  refine ⟨H', rfl, hle, ?_⟩
  simpa [fkMem] using hs'
end
end Go.Bw
namespace Go.Bw
set_option linter.unusedVariables false
set_option linter.unusedSimpArgs false
open Go.Proofs
def fkM : Nat := 1099511627776
abbrev fkC (vf vs : Value) : CfgD := ⟨3, 2, 3, 4, 4, [2], vf, vs⟩
def fkD0 : SrcD := newD 2 3 [] [] false
def fkD1 : SrcD := subD fkD0 (List.replicate 17 0) 8
def fkD2 : SrcD := subD fkD1 (List.replicate 16 0) 8
def fkD3 : SrcD := closeD fkD2
def fkD4 : SrcD := subD fkD3 [] 8
theorem fkD_ok : subE fkD0 (List.replicate 17 0) 8 = 7 ∧ subE fkD1 (List.replicate 16 0) 8 = 0 ∧ subE fkD3 [] 8 = 27 ∧ fkD4.cl = true ∧ fkD4.chunks.length = 8 ∧ fkD1.cuts.length = 0 ∧ fkD2.cuts.length = 0 ∧ fkD3.cuts.length ≤ 8 := by decide +kernel
def fkR : RelD := (newR 2 3 4).moveTo fkM
theorem fkR_out : fkR.takeE 0 (List.replicate 2 0, List.replicate 3 0) = 23 ∧ fkR.takeI 0 (List.replicate 2 0, List.replicate 3 0) = false ∧ fkR.take 0 (List.replicate 2 0, List.replicate 3 0) = fkR := by
  have hn : ¬ inWin fkR.base fkR.width 0 := by decide +kernel
  refine ⟨by rw [RelD.takeE, if_neg hn], by rw [RelD.takeI, decide_eq_false hn]; rfl, by rw [RelD.take, if_neg hn]⟩
def fkA : RelD := fkR.moveTo 0
theorem fkA_in : fkA.takeE 0 ([], []) = 21 := by decide +kernel
theorem fk_sink : (⟨2, 3, 7, 0, false, false⟩ : SinkD).totE 6 = 1 ∧ (⟨2, 3, 7, 0, false, false⟩ : SinkD).totE 9 = 0 ∧ (⟨2, 3, 7, 0, false, false⟩ : SinkD).total 6 = ⟨2, 3, 7, 0, false, false⟩ := by
  refine ⟨by decide +kernel, by decide +kernel, rfl⟩
set_option maxHeartbeats 16000000 in
set_option maxRecDepth 20000 in
set_option maxHeartbeats 2000000 in
theorem flknown_ok (H0 : Hp) (w0 : World) (h0 : Sub H0 w0) :
    Calls Tryz.prog 8 #[] w0 (Pure H0 w0 fun v _ => v = .bool true) := by
  have hs := HS.init h0
  have hle := Hp.le.refl H0
  refine Calls.enter (args := []) Tryz.func8 rfl Tryz.ntmps8 rfl ?_
  refine WC.seq (WC.region (WO.step rfl (OR.assign rfl (WO.done (WX.seq (WC.seq (WC.seq ?_)))))))
  refine WC.region (WO.step rfl (OR.move rfl ?_))
  refine WO.guardYes rfl rfl rfl rfl (OR.call hs body36 rfl rfl (fawake_ok _ _ hs.toSub) ?_)
  clear hs; rintro _ H w hs hle1 rfl; replace hle := hle.trans hle1; (try replace hlb := hlb.trans hle1)
  refine WO.guardYes rfl rfl rfl rfl (OR.not rfl (WO.step rfl (OR.pickF rfl rfl rfl (WO.done (WX.seq ?_)))))
  refine WC.no rfl rfl ?_
  refine WC.skip (WX.seq (WC.seq (WC.region ?_)))
  refine WO.step rfl (OR.call hs body56 rfl rfl (fconfig_ok _ _ hs.toSub) ?_)
  clear hs; rintro _ H w hs hle1 ⟨vf, vs, rfl, hf⟩; replace hle := hle.trans hle1; (try replace hlb := hlb.trans hle1)
  refine WO.step rfl (OR.call hs body35 rfl rfl (fnew_flow (fkC vf vs) (cfg24_ok _ _) _ _ hs.toSub hf) ?_)
  clear hs; rintro _ H w hs hle1 rfl; replace hle := hle.trans hle1; (try replace hlb := hlb.trans hle1)
  clear hf
  refine WO.step rfl (OR.move rfl (WO.step rfl (OR.extract rfl rfl (WO.step rfl (OR.extract rfl rfl (WO.step rfl (OR.assign rfl ?_)))))))
  refine WO.step rfl (OR.assign rfl (WO.done (WX.seq (WC.seq (WC.region ?_)))))
  refine WO.step rfl (OR.call hs body56 rfl rfl (fconfig_ok _ _ hs.toSub) ?_)
  clear hs; rintro _ H w hs hle1 ⟨vf, vs, rfl, hf⟩; replace hle := hle.trans hle1; (try replace hlb := hlb.trans hle1)
  refine WO.step rfl (OR.call hs body35 rfl rfl (fnew_node (fkC vf vs) (cfg24_ok _ _) 3 (by show ((3 : Nat) : Int) ≤ 3; decide) _ _ hs.toSub hf) ?_)
  clear hs; rintro _ H w hs hle1 rfl; replace hle := hle.trans hle1; (try replace hlb := hlb.trans hle1)
  clear hf
  refine WO.step rfl (OR.move rfl (WO.step rfl (OR.extract rfl rfl (WO.step rfl (OR.extract rfl rfl (WO.step rfl (OR.assign rfl ?_)))))))
  refine WO.step rfl (OR.assign rfl (WO.done (WX.seq (WC.seq (WC.region ?_)))))
  refine WO.step rfl (OR.call hs body56 rfl rfl (fconfig_ok _ _ hs.toSub) ?_)
  clear hs; rintro _ H w hs hle1 ⟨vf, vs, rfl, hf⟩; replace hle := hle.trans hle1; (try replace hlb := hlb.trans hle1)
  refine WO.step rfl (OR.call hs body35 rfl rfl (fnew_not (fkC vf vs) (cfg24_ok _ _) 1 1 (by show (0 : Int) ≤ 1 ∧ (1 : Int) < ((3 : Nat) : Int); decide) (by decide) (by show ¬ (1 : Int) ∈ [2]; decide) _ _ hs.toSub hf) ?_)
  clear hs; rintro _ H w hs hle1 rfl; replace hle := hle.trans hle1; (try replace hlb := hlb.trans hle1)
  clear hf
  refine WO.step rfl (OR.move rfl (WO.step rfl (OR.extract rfl rfl (WO.step rfl (OR.extract rfl rfl (WO.step rfl (OR.assign rfl ?_)))))))
  refine WO.step rfl (OR.assign rfl (WO.done (WX.seq (WC.seq (WC.region ?_)))))
  refine WO.step rfl (OR.call hs body56 rfl rfl (fconfig_ok _ _ hs.toSub) ?_)
  clear hs; rintro _ H w hs hle1 ⟨vf, vs, rfl, hf⟩; replace hle := hle.trans hle1; (try replace hlb := hlb.trans hle1)
  refine WO.step rfl (OR.call hs body35 rfl rfl (fnew_far (fkC vf vs) (cfg24_ok _ _) 2 1099511627777 (by show (0 : Int) ≤ 2 ∧ (2 : Int) < ((3 : Nat) : Int); decide) (by decide) _ _ hs.toSub hf) ?_)
  clear hs; rintro _ H w hs hle1 rfl; replace hle := hle.trans hle1; (try replace hlb := hlb.trans hle1)
  clear hf
  refine WO.step rfl (OR.move rfl (WO.step rfl (OR.extract rfl rfl (WO.step rfl (OR.extract rfl rfl (WO.step rfl (OR.assign rfl ?_)))))))
  refine WO.step rfl (OR.assign rfl (WO.done (WX.seq (WC.seq (WC.region (WO.step rfl (OR.buildZero T81 PL81 ?_)))))))
  refine WO.step rfl (OR.call hs body35 rfl rfl (fnew_zero _ _ hs.toSub) ?_)
  clear hs; rintro _ H w hs hle1 rfl; replace hle := hle.trans hle1; (try replace hlb := hlb.trans hle1)
  refine WO.step rfl (OR.move rfl (WO.step rfl (OR.extract rfl rfl (WO.step rfl (OR.extract rfl rfl (WO.step rfl (OR.assign rfl ?_)))))))
  refine WO.step rfl (OR.assign rfl (WO.done (WX.seq (WC.seq (WC.region ?_)))))
  refine WO.step rfl (OR.call hs body56 rfl rfl (fconfig_ok _ _ hs.toSub) ?_)
  clear hs; rintro _ H w hs hle1 ⟨vfx, vsx, rfl, hf⟩; replace hle := hle.trans hle1; (try replace hlb := hlb.trans hle1)
  refine WO.step rfl (OR.callX (Mx := []) hs body35 rfl rfl (fnew_src (fkC vfx vsx) (cfg24_ok _ _) _ _ hs.toSub hf) rfl rfl ?_)
  clear hs; rintro _ H M w hs hle1 hnew ⟨xb, txb, sb, o, rfl, rfl, hx⟩; replace hle := hle.trans hle1; (try replace hlb := hlb.trans hle1)
  clear hf
  rw [List.append_nil] at hs
  replace hs := HS.mtail hs
  refine WO.step rfl (OR.move rfl (WO.step rfl (OR.extract rfl rfl (WO.step rfl (OR.extract rfl rfl (WO.step rfl (OR.assign rfl ?_)))))))
  refine WO.step rfl (OR.assign rfl (WO.done (WX.seq (WC.seq (WC.region ?_)))))
  refine WO.step rfl (OR.call hs body56 rfl rfl (fconfig_ok _ _ hs.toSub) ?_)
  clear hs; rintro _ H w hs hle1 ⟨vfy, vsy, rfl, hf⟩; replace hle := hle.trans hle1; (try replace hlb := hlb.trans hle1)
  replace hx := hx.mono hle1
  refine WO.step rfl (OR.callX (Mx := []) hs body35 rfl rfl (fnew_rel (fkC vfy vsy) (cfg24_ok _ _) 1 _ _ hs.toSub hf (by show (1 : Int) ≤ 1 ∧ (1 : Int) < ((3 : Nat) : Int); decide) (by show ¬ (1 : Int) ∈ [2]; decide)) rfl rfl ?_)
  clear hs; rintro _ H M w hs hle1 hnew ⟨yb, tyb, ryb, wyb, ly, rfl, rfl, hry⟩; replace hle := hle.trans hle1; (try replace hlb := hlb.trans hle1)
  clear hf
  replace hx := hx.mono hle1
  replace hs := HS.mtail hs
  refine WO.step rfl (OR.move rfl (WO.step rfl (OR.extract rfl rfl (WO.step rfl (OR.extract rfl rfl (WO.step rfl (OR.assign rfl ?_)))))))
  refine WO.step rfl (OR.assign rfl (WO.done (WX.seq (WC.seq (WC.region ?_)))))
  refine WO.step rfl (OR.call hs body56 rfl rfl (fconfig_ok _ _ hs.toSub) ?_)
  clear hs; rintro _ H w hs hle1 ⟨vfz, vsz, rfl, hf⟩; replace hle := hle.trans hle1; (try replace hlb := hlb.trans hle1)
  replace hx := hx.mono hle1
  replace hry := hry.mono hle1
  refine WO.step rfl (OR.callX (Mx := []) hs body35 rfl rfl (fnew_sink (fkC vfz vsz) (cfg24_ok _ _) 2 7 _ _ hs.toSub hf (by show (1 : Int) ≤ 2 ∧ (2 : Int) < ((3 : Nat) : Int); decide) (by show (2 : Int) ∈ [2]; decide) (by decide)) rfl rfl ?_)
  clear hs; rintro _ H M w hs hle1 hnew ⟨zb, tzb, rzb, wzb, lz, kzb, rfl, rfl, hrz⟩; replace hle := hle.trans hle1; (try replace hlb := hlb.trans hle1)
  clear hf hrz
  replace hx := hx.mono hle1
  replace hry := hry.mono hle1
  replace hs := HS.mtail hs
  obtain ⟨Zr, hZr⟩ : ∃ Zr : Mem, Zr = (tzb, toldObj [], true) :: relMem true ((newR 2 3 4).moveTo 7) rzb wzb lz := ⟨_, rfl⟩
  obtain ⟨cx, hcx⟩ : ∃ c : CfgD, c = fkC vfx vsx := ⟨_, rfl⟩
  obtain ⟨cy, hcy⟩ : ∃ c : CfgD, c = fkC vfy vsy := ⟨_, rfl⟩
  obtain ⟨cz, hcz⟩ : ∃ c : CfgD, c = fkC vfz vsz := ⟨_, rfl⟩
  have hx4 : cx.win = 4 ∧ cx.nodes = 3 := by rw [hcx]; exact ⟨rfl, rfl⟩
  have hy4 : cy.win = 4 ∧ cy.nodes = 3 := by rw [hcy]; exact ⟨rfl, rfl⟩
  obtain ⟨q, hq⟩ : ∃ q : FkS, q = ⟨fN 0 1099511627776, fN 1 1099511627776, txb, tyb, o, ⟨fkR, ryb, wyb, ly⟩, [(zb, fObj cz (fN 2 7) tzb (.pointer none) (ptr rzb) (ptr kzb), true), (kzb, sinkObj ⟨2, 3, 7, 0, false, false⟩, true)] ++ Zr⟩ := ⟨_, rfl⟩
  replace hs : HS [] H0 w0 H (fkMem cx cy sb xb yb q) w := by
    rw [hcx, hcy, hq, hcz, hZr]
    simp only [fkMem, List.append_eq, List.nil_append, List.cons_append, List.append_assoc] at hs ⊢
    refine hs.perm ?_
    refine List.Perm.cons _ (List.Perm.append_left _ (List.Perm.append_left _ (List.Perm.cons _ (List.Perm.swap _ _ _))))
  have hq1 : q.dx = fN 0 1099511627776 ∧ q.dy = fN 1 1099511627776 ∧ q.R.y = fkR ∧ q.o = o ∧ q.Z = [(zb, fObj cz (fN 2 7) tzb (.pointer none) (ptr rzb) (ptr kzb), true), (kzb, sinkObj ⟨2, 3, 7, 0, false, false⟩, true)] ++ Zr := by rw [hq]; exact ⟨rfl, rfl, rfl, rfl, rfl⟩
  replace hry : RlOk H (some q.R) := by rw [hq]; exact hry
  replace hx : SrcIn H fkD0 q.o := by rw [hq]; exact hx
  clear hcx hcy hcz hZr hq
  obtain ⟨hqx, hqy, hqR, hqo, hqz⟩ := hq1
  have hm := fkx_at hs
  refine WO.step rfl (OR.move rfl (WO.step rfl (OR.extract rfl rfl (WO.step rfl (OR.extract rfl rfl (WO.step rfl (OR.assign rfl ?_)))))))
  refine WO.step rfl (OR.assign rfl (WO.done (WX.seq (WC.seq (WC.region (WO.step rfl (OR.move rfl ?_)))))))
  refine WO.step rfl (OR.buildZero T45 PL45 ?_)
  refine WO.step rfl (OR.call hs body43 rfl rfl (ftake_none cx _ xb _ _ _ _ _ hs.toSub hm.1 hm.2) ?_)
  clear hs; rintro _ H w hs hle1 rfl; replace hle := hle.trans hle1; (try replace hlb := hlb.trans hle1)
  replace hx := hx.mono hle1
  replace hry := hry.mono hle1
  replace hm := fky_at hs
  refine WO.step rfl (OR.move rfl (WO.step rfl (OR.extract rfl rfl (WO.step rfl (OR.extract rfl rfl (WO.step rfl (OR.assign rfl ?_)))))))
  refine WO.step rfl (OR.assign rfl (WO.done (WX.seq (WC.seq (WC.region (WO.step rfl (OR.move rfl ?_)))))))
  refine WO.step rfl (OR.call hs body41 rfl rfl (fsub_none cy _ yb _ _ _ _ _ hs.toSub hm.1 hm.2) ?_)
  clear hs; rintro _ H w hs hle1 rfl; replace hle := hle.trans hle1; (try replace hlb := hlb.trans hle1)
  replace hx := hx.mono hle1
  replace hry := hry.mono hle1
  replace hm := fky_at hs
  refine WO.step rfl (OR.move rfl ?_)
  refine WO.step rfl (OR.call hs body57 rfl rfl (frest_none cy _ yb _ _ _ _ _ hs.toSub hm.1 hm.2) ?_)
  clear hs; rintro _ H w hs hle1 rfl; replace hle := hle.trans hle1; (try replace hlb := hlb.trans hle1)
  replace hx := hx.mono hle1
  replace hry := hry.mono hle1
  clear hm
  refine WO.step rfl (OR.assign rfl (WO.step rfl (OR.assign rfl (WO.done (WX.seq (WC.seq ?_))))))
  refine WC.sub [(2, .int .i64 1), (4, .int .i64 1), (6, .int .i64 1), (8, .int .i64 1), (10, .int .i64 1), (11, ptr xb), (13, ptr yb), (15, ptr zb), (16, .int .i64 0), (18, .int .i64 6), (19, .int .i64 6), (20, .int .i64 6)] ⟨rfl, rfl, rfl, rfl, rfl, rfl, rfl, rfl, rfl, rfl, rfl, rfl,  trivial⟩ ?_
  refine WA.enter mixed ?_
  replace hs := hs.drew
  refine WA.draw 4 hs (by kernel_rfl) ?_
  refine ⟨MF.eq _, by intro Mx H w hle hs; refine forVals_nil (ORg.plain (OR.move rfl ?_)); exact ⟨_, [], Hp.le.refl _, hs, rfl, rfl⟩, ?_⟩
  refine ⟨MF.bytes (List.replicate 2 0), ?_, ?_⟩
  · intro Mx H w hle2 hs; (try replace hle := hle.trans hle2); (try replace hlb := hlb.trans hle2)
    refine forVals_nil (ORg.plain (OR.make1 (m := 2) hs T43.und T5 rfl rfl rfl (by omega) (by omega) ?_))
    intro q1 w hq1 hs
    obtain ⟨H, hle1, hp, hs⟩ := hs.pub1 hq1
    exact ⟨_, [], hle1, hs, (Bytes.block (l := List.replicate 2 0) (cap := 2) hp (by simp) (by simp)), rfl⟩
  refine ⟨MF.bytes (List.replicate 3 0), ?_, ?_⟩
  · intro Mx H w hle2 hs; (try replace hle := hle.trans hle2); (try replace hlb := hlb.trans hle2)
    refine forVals_nil (ORg.plain (OR.make1 (m := 3) hs T43.und T5 rfl rfl rfl (by omega) (by omega) ?_))
    intro q1 w hq1 hs
    obtain ⟨H, hle1, hp, hs⟩ := hs.pub1 hq1
    exact ⟨_, [], hle1, hs, (Bytes.block (l := List.replicate 3 0) (cap := 3) hp (by simp) (by simp)), rfl⟩
  refine ⟨MF.row (List.replicate 2 0, List.replicate 3 0), ?_, ?_⟩
  · intro Mx H w hle2 hs; (try replace hle := hle.trans hle2); (try replace hlb := hlb.trans hle2); refine forVals_of rfl rfl rfl ?_; intro v1 h1; refine forVals_of rfl rfl rfl ?_; intro v2 h2
    obtain ⟨_, _, rfl⟩ := h1.form
    obtain ⟨_, _, rfl⟩ := h2.form
    refine forVals_nil (ORg.plain (OR.buildAll T45 rfl rfl PL45 rfl rfl ?_))
    exact ⟨_, [], Hp.le.refl _, hs, ⟨_, _, rfl, h1, h2⟩, rfl⟩
  intro H w hle2; (try replace hle := hle.trans hle2); (try replace hlb := hlb.trans hle2)
  refine forAllVals_eq rfl ?_
  refine forAllVals_of rfl ?_; intro v1 h1
  refine forAllVals_of rfl ?_; intro v2 h2
  refine forAllVals_of rfl ?_; intro v3 h3
  refine forAllVals_nil ?_; (try clear hs); intro hs
  have hT := fky_take (gen := 0) hs (hry.mono hle2) (by omega) h3
  rw [hqR, fkR_out.1, fkR_out.2.1, fkR_out.2.2] at hT
  refine WA.step (by kernel_rfl) rfl rfl rfl (ORg.plain (OR.callW body43 rfl rfl hT ?_))
  clear hs hT; rintro e w ⟨H5, R1, rfl, hle5, hR1, hro1, hs⟩; refine ⟨_, rfl, ?_⟩
  replace hx := hx.mono (hle2.trans hle5)
  refine WA.sub [(2, .int .i64 1), (4, .int .i64 1), (6, .int .i64 1), (8, .int .i64 1), (10, .int .i64 1), (11, ptr xb), (13, ptr yb), (15, ptr zb), (16, .int .i64 0), (18, .int .i64 6), (19, .int .i64 6), (20, .int .i64 6), (111, .tuple #[.bool false, .int .i64 23])] ⟨rfl, rfl, rfl, rfl, rfl, rfl, rfl, rfl, rfl, rfl, rfl, rfl, rfl,  trivial⟩ ?_
  replace hle := hle.trans hle5
  refine WA.step (by kernel_rfl) rfl rfl rfl (ORg.plain (OR.move rfl ?_))
  refine WA.draw 9 hs (by kernel_rfl) ?_
  refine ⟨MF.eq _, by intro Mx H w hle hs; refine forVals_nil (ORg.plain (OR.extract rfl rfl ?_)); exact ⟨_, [], Hp.le.refl _, hs, rfl, rfl⟩, ?_⟩
  refine ⟨MF.eq _, by intro Mx H w hle hs; refine forVals_nil (ORg.plain (OR.extract rfl rfl ?_)); exact ⟨_, [], Hp.le.refl _, hs, rfl, rfl⟩, ?_⟩
  refine ⟨MF.eq _, by intro Mx H w hle hs; refine forVals_eq rfl rfl rfl ?_; refine forVals_nil (ORg.plain (OR.assign rfl ?_)); exact ⟨_, [], Hp.le.refl _, hs, rfl, rfl⟩, ?_⟩
  intro H w hle2; (try replace hle := hle.trans hle2); (try replace hlb := hlb.trans hle2)
  refine forAllVals_eq rfl ?_
  refine forAllVals_eq rfl ?_
  refine forAllVals_eq rfl ?_
  refine forAllVals_nil ?_; (try clear hs); intro hs
  refine WA.rest (by kernel_rfl) ?_
  replace hx := hx.mono hle2
  replace hro1 := hro1.mono hle2
  obtain ⟨qa, hqa⟩ : ∃ qa : FkS, qa = { q with R := R1 } := ⟨_, rfl⟩
  rw [← hqa] at hs
  have hax : qa.dx = fN 0 1099511627776 ∧ qa.dy = fN 1 1099511627776 ∧ qa.R.y = fkR ∧ qa.Z = q.Z ∧ qa.o = q.o := by rw [hqa]; exact ⟨hqx, hqy, hR1, rfl, rfl⟩
  replace hro1 : RlOk H (some qa.R) := by rw [hqa]; exact hro1
  refine WO.step rfl (OR.assign rfl (WO.done (WX.seq (WC.seq (WC.region (WO.step rfl (OR.move rfl ?_)))))))
  refine WO.step rfl (OR.buildSlice (vs := [.int .i64 2]) hs T76.und T3 rfl rfl rfl rfl (by simp) ?_)
  clear hs; intro q5 w hq5 hs
  obtain ⟨H, hle1, hp_q5, hs9⟩ := hs.pub1 hq5; clear hs; have hs := hs9; clear hs9; replace hle := hle.trans hle1; (try replace hlb := hlb.trans hle1)
  replace hx := hx.mono hle1
  have hi5 : Ints H (.slice (some ⟨q5, 0, none⟩) 1 1) [2] := Sl.block hp_q5 rfl rfl (by simp)
  have hE := fky_epoch hs (hro1.mono hle1) (k := 2) hi5 (by rw [hy4.2, hax.2.1]; exact ⟨by decide, by decide, by show (2 : Int) ≠ 1; decide⟩)
  refine WO.step rfl (OR.callW body38 rfl rfl hE ?_)
  clear hs hE; rintro e w ⟨H6, nvy, tyb2, R2, rfl, hle6, hny, hro2, hR2, hs⟩; refine ⟨_, rfl, ?_⟩
  replace hx := hx.mono hle6
  replace hle := hle.trans hle6
  obtain ⟨qb, hqb⟩ : ∃ qb : FkS, qb = { qa with dy := ⟨1, [2], nvy, [], 1099511627776, false, 0, false⟩, tyb := tyb2, R := R2 } := ⟨_, rfl⟩
  replace hs : HS [] H0 w0 H6 (fkMem cx cy sb xb yb qb) w := by rw [hqb]; rw [hax.2.1] at hs; exact hs
  have hbx : qb.dx = fN 0 1099511627776 ∧ qb.dy = ⟨1, [2], nvy, [], 1099511627776, false, 0, false⟩ ∧ qb.R.y = fkR ∧ qb.Z = q.Z ∧ qb.o = q.o := by rw [hqb]; exact ⟨hax.1, rfl, hR2.trans hax.2.2.1, hax.2.2.2⟩
  replace hro2 : RlOk H6 (some qb.R) := by rw [hqb]; exact hro2
  have hH := fky_hop (a := 2) (b := 0) hs hro2 (by rw [hbx.2.1]; exact hny) (by rw [hbx.2.1]; show 0 ≤ 900; omega) (by rw [hbx.2.1]; show 1 ≤ 1000; omega) (by rw [hbx.2.1]; intro p hp; cases hp) (by rw [hbx.2.1]; exact List.mem_singleton.2 rfl) (by decide) (by rw [hbx.2.1]; intro h; exact Nat.lt_irrefl 1 (of_decide_eq_true h)) (by rw [hbx.2.1]; rfl)
  refine WO.done (WX.seq (WC.seq (WC.region (WO.step rfl (OR.move rfl ?_)))))
  refine WO.step rfl (OR.callW body39 rfl rfl hH ?_)
  clear hs hH; rintro e w ⟨H7, R3, rfl, hle7, hro3, hR3, hs⟩; refine ⟨_, rfl, ?_⟩
  replace hx := hx.mono hle7
  replace hny := hny.mono hle7
  replace hle := hle.trans hle7
  obtain ⟨qc, hqc⟩ : ∃ qc : FkS, qc = { qb with dy := ⟨1, [2], nvy, [(2, 0)], 0, true, 0, false⟩, R := R3 } := ⟨_, rfl⟩
  replace hs : HS [] H0 w0 H7 (fkMem cx cy sb xb yb qc) w := by rw [hqc]; rw [hbx.2.1] at hs; exact hs
  have hcx : qc.dx = fN 0 1099511627776 ∧ qc.dy = ⟨1, [2], nvy, [(2, 0)], 0, true, 0, false⟩ ∧ qc.R.y = fkA ∧ qc.Z = q.Z ∧ qc.o = q.o := by rw [hqc]; exact ⟨hbx.1, rfl, by rw [hR3, hbx.2.2.1]; rfl, hbx.2.2.2⟩
  replace hro3 : RlOk H7 (some qc.R) := by rw [hqc]; exact hro3
  refine WO.done (WX.seq (WC.seq (WC.region (WO.step rfl (OR.move rfl (WO.step rfl (OR.buildZero T45 PL45 ?_)))))))
  have hT := fky_take (gen := 0) (r := ([], [])) (vr := .agg #[.slice none 0 0, .slice none 0 0]) hs hro3 (by omega) ⟨_, _, rfl, Bytes.nil _, Bytes.nil _⟩
  rw [hcx.2.2.1, fkA_in] at hT
  refine WO.step rfl (OR.callW body43 rfl rfl hT ?_)
  clear hs hT; rintro e w ⟨H8, R4, rfl, hle8, hR4, hro4, hs⟩; refine ⟨_, rfl, ?_⟩
  replace hx := hx.mono hle8
  replace hny := hny.mono hle8
  replace hle := hle.trans hle8
  obtain ⟨qd, hqd⟩ : ∃ qd : FkS, qd = { qc with R := R4 } := ⟨_, rfl⟩
  rw [← hqd] at hs
  have hdx : qd.dx = fN 0 1099511627776 ∧ qd.dy = ⟨1, [2], nvy, [(2, 0)], 0, true, 0, false⟩ ∧ qd.Z = q.Z ∧ qd.o = q.o := by rw [hqd]; exact ⟨hcx.1, hcx.2.1, hcx.2.2.2⟩
  clear hqa hqb hqc hqd hax hbx hcx hro1 hro2 hro3 hro4 hR1 hR2 hR3 hR4 hry hqR
  refine WO.step rfl (OR.move rfl (WO.step rfl (OR.extract rfl rfl (WO.step rfl (OR.extract rfl rfl (WO.step rfl (OR.assign rfl ?_)))))))
  refine WO.step rfl (OR.assign rfl (WO.done (WX.seq (WC.seq (WC.region (WO.step rfl (OR.move rfl ?_)))))))
  refine WO.step rfl (OR.buildSlice (vs := [.int .i64 1]) hs T76.und T3 rfl rfl rfl rfl (by simp) ?_)
  clear hs; intro q6 w hq6 hs
  obtain ⟨H, hle1, hp_q6, hs9⟩ := hs.pub1 hq6; clear hs; have hs := hs9; clear hs9; replace hle := hle.trans hle1; (try replace hlb := hlb.trans hle1)
  replace hx := hx.mono hle1
  replace hny := hny.mono hle1
  have hi6 : Ints H (.slice (some ⟨q6, 0, none⟩) 1 1) [1] := Sl.block hp_q6 rfl rfl (by simp)
  obtain ⟨hm1, hm2⟩ := fky_at hs
  refine WO.step rfl (OR.call hs body38 rfl rfl (fepoch_self cy _ yb _ _ _ _ _ _ hs.toSub _ 1 hm1 hm2 hi6 (by rw [hy4.2, hdx.2.1]; exact ⟨by decide, by decide, rfl⟩)) ?_)
  clear hs; rintro _ H w hs hle1 rfl; replace hle := hle.trans hle1; (try replace hlb := hlb.trans hle1)
  clear hm1 hm2
  replace hx := hx.mono hle1
  replace hny := hny.mono hle1
  refine WO.step rfl (OR.move rfl ?_)
  refine WO.step rfl (OR.buildSlice (vs := [.int .i64 2, .int .i64 2]) hs T76.und T3 rfl rfl rfl rfl (by simp) ?_)
  clear hs; intro q7 w hq7 hs
  obtain ⟨H, hle1, hp_q7, hs9⟩ := hs.pub1 hq7; clear hs; have hs := hs9; clear hs9; replace hle := hle.trans hle1; (try replace hlb := hlb.trans hle1)
  replace hx := hx.mono hle1
  replace hny := hny.mono hle1
  have hi7 : Ints H (.slice (some ⟨q7, 0, none⟩) 2 2) [2, 2] := Sl.block hp_q7 rfl rfl (by simp)
  obtain ⟨hm1, hm2⟩ := fky_at hs
  refine WO.step rfl (OR.call hs body38 rfl rfl (fepoch_twice cy _ yb _ _ _ _ _ _ hs.toSub _ 2 hm1 hm2 hi7 (by rw [hy4.2, hdx.2.1]; exact ⟨by decide, by decide, by show (2 : Int) ≠ 1; decide⟩)) ?_)
  clear hs; rintro _ H w hs hle1 rfl; replace hle := hle.trans hle1; (try replace hlb := hlb.trans hle1)
  clear hm1 hm2
  replace hx := hx.mono hle1
  replace hny := hny.mono hle1
  obtain ⟨hm1, hm2⟩ := fky_at hs
  rw [hdx.2.1] at hm1
  refine WO.step rfl (OR.assign rfl (WO.step rfl (OR.assign rfl (WO.done (WX.seq (WC.seq (WC.region ?_)))))))
  refine WO.step rfl (OR.move rfl ?_)
  refine WO.step rfl (OR.call hs body39 rfl rfl (fhop_none cy _ yb _ _ _ _ 0 1 _ _ hs.toSub hm1 hm2 hny (by show 1 ≤ 1000; omega) (by show ¬ (0 : Int) ∈ [2]; decide)) ?_)
  clear hs; rintro _ H w hs hle1 rfl; replace hle := hle.trans hle1; (try replace hlb := hlb.trans hle1)
  clear hm1 hm2
  replace hx := hx.mono hle1
  replace hny := hny.mono hle1
  obtain ⟨hm1, hm2⟩ := fky_at hs
  rw [hdx.2.1] at hm1
  refine WO.step rfl (OR.move rfl ?_)
  refine WO.step rfl (OR.call hs body39 rfl rfl (fhop_far cy _ yb _ _ _ _ _ _ hs.toSub 2 1099511627777 hm1 hm2 hny (by show 1 ≤ 1000; omega) (by show (2 : Int) ∈ [2]; decide) (by omega)) ?_)
  clear hs; rintro _ H w hs hle1 rfl; replace hle := hle.trans hle1; (try replace hlb := hlb.trans hle1)
  clear hm1 hm2
  replace hx := hx.mono hle1
  have hz1 : (zb, fObj cz (fN 2 7) tzb (.pointer none) (ptr rzb) (ptr kzb), true) ∈ qd.Z := by rw [hdx.2.2.1, hqz]; exact List.mem_cons_self ..
  obtain ⟨hm1, hm2⟩ := fkz_at hs hz1
  refine WO.step rfl (OR.assign rfl (WO.step rfl (OR.assign rfl (WO.done (WX.seq (WC.seq (WC.region ?_)))))))
  refine WO.step rfl (OR.move rfl ?_)
  refine WO.step rfl (OR.call hs body37 rfl rfl (fbase_ok cz _ zb _ _ _ _ _ _ hs.toSub hm1 hm2) ?_)
  clear hs; rintro _ H w hs hle1 rfl; replace hle := hle.trans hle1; (try replace hlb := hlb.trans hle1)
  clear hm1 hm2 hz1
  replace hx := hx.mono hle1
  refine WO.step rfl (OR.move rfl (WO.step rfl (OR.extract rfl rfl (WO.step rfl (OR.extract rfl rfl (WO.step rfl (OR.assign rfl ?_)))))))
  refine WO.step rfl (OR.assign rfl (WO.done (WX.seq (WC.seq (WC.region (WO.step rfl (OR.move rfl ?_)))))))
  have hT := fkz_told (n := 6) hs (hdx.2.2.1.trans hqz) (by omega) rfl (by decide)
  rw [fk_sink.1, if_neg (by decide), fk_sink.2.2] at hT
  refine WO.step rfl (OR.callW body58 rfl rfl hT ?_)
  clear hs hT; rintro e w ⟨H9, rfl, hle9, hs⟩; refine ⟨_, rfl, ?_⟩
  replace hx := hx.mono hle9
  replace hle := hle.trans hle9
  have hT := fkz_told (n := 9) hs rfl (by omega) rfl (by decide)
  rw [fk_sink.2.1, if_pos rfl] at hT
  refine WO.step rfl (OR.move rfl ?_)
  refine WO.step rfl (OR.callW body58 rfl rfl hT ?_)
  clear hs hT; rintro e w ⟨H10, rfl, hle10, hs⟩; refine ⟨_, rfl, ?_⟩
  replace hx := hx.mono hle10
  replace hle := hle.trans hle10
  obtain ⟨hm1, hm2⟩ := fkz_at (zb := zb) (t := true) hs (List.mem_cons_self ..)
  refine WO.step rfl (OR.move rfl ?_)
  refine WO.step rfl (OR.call hs body58 rfl rfl (ftold_there cz _ zb _ 8 _ _ _ _ hs.toSub (by omega) rfl (by show 9 ≠ 8; decide) hm1 hm2) ?_)
  clear hs; rintro _ H w hs hle1 rfl; replace hle := hle.trans hle1; (try replace hlb := hlb.trans hle1)
  clear hm1 hm2
  replace hx := hx.mono hle1
  obtain ⟨qe, hqe⟩ : ∃ qe : FkS, qe = { qd with Z := [(zb, fObj cz { fN 2 7 with total := 9, known := true } tzb (.pointer none) (ptr rzb) (ptr kzb), true), (kzb, sinkObj ((⟨2, 3, 7, 0, false, false⟩ : SinkD).total 9), true)] ++ Zr } := ⟨_, rfl⟩
  replace hs : HS [] H0 w0 H (fkMem cx cy sb xb yb qe) w := by rw [hqe]; exact hs
  have hex : qe.dx = fN 0 1099511627776 ∧ qe.o = o := by rw [hqe]; exact ⟨hdx.1, hdx.2.2.2.trans hqo⟩
  replace hx : SrcIn H fkD0 qe.o := by rw [hex.2, ← hqo]; exact hx
  clear hqe hdx hqz hqo hny
  obtain ⟨hm1, hm2⟩ := fkx_at hs
  refine WO.step rfl (OR.assign rfl (WO.step rfl (OR.assign rfl (WO.step rfl (OR.assign rfl (WO.done (WX.seq ?_)))))))
  refine WC.seq (WC.region (WO.step rfl (OR.move rfl ?_)))
  refine WO.step rfl (OR.call hs body58 rfl rfl (ftold_src cx _ xb _ 1 _ _ _ _ sb hs.toSub hm1 hm2) ?_)
  clear hs; rintro _ H w hs hle1 rfl; replace hle := hle.trans hle1; (try replace hlb := hlb.trans hle1)
  clear hm1 hm2
  replace hx := hx.mono hle1
  obtain ⟨hm1, hm2⟩ := fky_at hs
  refine WO.step rfl (OR.move rfl ?_)
  refine WO.step rfl (OR.call hs body58 rfl rfl (ftold_far cy _ yb _ 1099511627777 _ _ _ _ hs.toSub (by omega) hm1 hm2) ?_)
  clear hs; rintro _ H w hs hle1 rfl; replace hle := hle.trans hle1; (try replace hlb := hlb.trans hle1)
  clear hm1 hm2
  replace hx := hx.mono hle1
  refine WO.step rfl (OR.assign rfl (WO.step rfl (OR.assign rfl (WO.done (WX.seq (WC.seq (WC.region ?_)))))))
  refine WO.step rfl (OR.move rfl ?_)
  refine WO.step rfl (OR.buildSlice (vs := [.int .i64 1]) hs T76.und T3 rfl rfl rfl rfl (by simp) ?_)
  clear hs; intro q8 w hq8 hs
  obtain ⟨H, hle1, hp_q8, hs9⟩ := hs.pub1 hq8; clear hs; have hs := hs9; clear hs9; replace hle := hle.trans hle1; (try replace hlb := hlb.trans hle1)
  replace hx := hx.mono hle1
  have hi8 : Ints H (.slice (some ⟨q8, 0, none⟩) 1 1) [1] := Sl.block hp_q8 rfl rfl (by simp)
  have hE := fkx_epoch hs hi8 (by rw [hx4.2, hex.1]; exact ⟨by decide, by decide, by show (1 : Int) ≠ 0; decide⟩)
  refine WO.step rfl (OR.callW body38 rfl rfl hE ?_)
  clear hs hE; rintro e w ⟨H11, nvx, txb2, rfl, hle11, hnx, hs⟩; refine ⟨_, rfl, ?_⟩
  replace hx := hx.mono hle11
  replace hle := hle.trans hle11
  rw [hex.1] at hs
  obtain ⟨qf, hqf⟩ : ∃ qf : FkS, qf = { qe with dx := ⟨0, [1], nvx, [], 1099511627776, false, 0, false⟩, txb := txb2 } := ⟨_, rfl⟩
  replace hs : HS [] H0 w0 H11 (fkMem cx cy sb xb yb qf) w := by rw [hqf]; exact hs
  have hfx : qf.dx = ⟨0, [1], nvx, [], 1099511627776, false, 0, false⟩ ∧ qf.o = qe.o := by rw [hqf]; exact ⟨rfl, rfl⟩
  have hH := fkx_hop (a := 1) (b := 0) hs (by rw [hfx.1]; exact hnx) (by rw [hfx.1]; show 0 ≤ 900; omega) (by rw [hfx.1]; show 1 ≤ 1000; omega) (by rw [hfx.1]; intro p hp; cases hp) (by rw [hfx.1]; exact List.mem_singleton.2 rfl) (by decide)
  refine WO.done (WX.seq (WC.seq (WC.region (WO.step rfl (OR.move rfl ?_)))))
  refine WO.step rfl (OR.callW body39 rfl rfl hH ?_)
  clear hs hH; rintro e w ⟨H12, rfl, hle12, hs⟩; refine ⟨_, rfl, ?_⟩
  replace hx := hx.mono hle12
  replace hle := hle.trans hle12
  rw [hfx.1] at hs
  rw [← hfx.2] at hx
  obtain ⟨dX, hdX⟩ : ∃ dX : FD, dX = ⟨0, [1], nvx, [(1, 0)], 0, true, 0, false⟩ := ⟨_, rfl⟩
  obtain ⟨Bf, hBf⟩ : ∃ Bf : Mem, Bf = fMem cy qf.dy yb qf.tyb (.pointer none) (some qf.R) none ++ qf.Z := ⟨_, rfl⟩
  replace hs : HS [] H0 w0 H12 ([(sb, qf.o, true)] ++ (fMem cx dX xb qf.txb (ptr sb) none none ++ Bf)) w := by rw [hdX, hBf]; exact hs
  have hbX : dX.base = 0 := by rw [hdX]
  obtain ⟨txc, htxc⟩ : ∃ t, t = qf.txb := ⟨_, rfl⟩
  rw [← htxc] at hs
  generalize qf.o = o at hs hx
  clear hqf hfx hBf hdX htxc hex hnx
  have hk0 : SrcOk fkD0 := newD_ok gs23
  have hk1 : SrcOk fkD1 := hk0.sub _ _
  have hk2 : SrcOk fkD2 := hk1.sub _ _
  have hk3 : SrcOk fkD3 := hk2.close
  obtain ⟨f1, f2, f3, f4, f5, f6, f7, f8⟩ := fkD_ok
  refine WO.done (WX.seq (WC.seq (WC.region (WO.step rfl (OR.move rfl ?_)))))
  refine WO.step rfl (OR.make1 (m := 17) hs T43.und T5 rfl rfl rfl (by omega) (by omega) ?_)
  clear hs; intro q9 w hq9 hs
  obtain ⟨H, hle1, hp_q9, hs9⟩ := hs.pub1 hq9; clear hs; have hs := hs9; clear hs9; replace hle := hle.trans hle1; (try replace hlb := hlb.trans hle1)
  replace hx := hx.mono hle1
  have hb9 : Bytes H (.slice (some ⟨q9, 0, none⟩) 17 17) (List.replicate 17 0) := Bytes.block (l := List.replicate 17 0) (cap := 17) hp_q9 (by simp) (by simp)
  have hS := fk_submit hs hx hk0 hb9 (by simp) (by decide) (by omega) (by omega)
  rw [hbX, hx4.1, show 0 + 2 * 4 = 8 from rfl, f1] at hS
  refine WO.step rfl (OR.callW body41 rfl rfl hS ?_)
  clear hs hS; rintro e w ⟨H13, o2, rfl, hle13, hx, hs⟩; refine ⟨_, rfl, ?_⟩
  replace hle := hle.trans hle13
  refine WO.step rfl (OR.assign rfl (WO.done (WX.seq (WC.seq (WC.region (WO.step rfl (OR.move rfl ?_)))))))
  refine WO.step rfl (OR.make1 (m := 16) hs T43.und T5 rfl rfl rfl (by omega) (by omega) ?_)
  clear hs; intro q10 w hq10 hs
  obtain ⟨H, hle1, hp_q10, hs9⟩ := hs.pub1 hq10; clear hs; have hs := hs9; clear hs9; replace hle := hle.trans hle1; (try replace hlb := hlb.trans hle1)
  replace hx : SrcIn H fkD1 o2 := hx.mono hle1
  have hb10 : Bytes H (.slice (some ⟨q10, 0, none⟩) 16 16) (List.replicate 16 0) := Bytes.block (l := List.replicate 16 0) (cap := 16) hp_q10 (by simp) (by simp)
  have hS := fk_submit hs hx hk1 hb10 (by simp) (by omega) (by omega) (by omega)
  rw [hbX, hx4.1, show 0 + 2 * 4 = 8 from rfl, f2] at hS
  refine WO.step rfl (OR.callW body41 rfl rfl hS ?_)
  clear hs hS; rintro e w ⟨H14, o3, rfl, hle14, hx, hs⟩; refine ⟨_, rfl, ?_⟩
  replace hle := hle.trans hle14
  replace hx : SrcIn H14 fkD2 o3 := hx
  refine WO.step rfl (OR.assign rfl (WO.done (WX.seq (WC.seq (WC.region (WO.step rfl (OR.move rfl ?_)))))))
  have hS := fk_close hs hx hk2 (by omega)
  refine WO.step rfl (OR.callW body59 rfl rfl hS ?_)
  clear hs hS; rintro e w ⟨H15, o4, rfl, hle15, hx, hs⟩; refine ⟨_, rfl, ?_⟩
  replace hle := hle.trans hle15
  replace hx : SrcIn H15 fkD3 o4 := hx
  refine WO.done (WX.seq (WC.seq (WC.region (WO.step rfl (OR.move rfl ?_)))))
  have hS := fk_submit hs hx hk3 (Bytes.nil _) (by decide) (by omega) (by omega) (by omega)
  rw [hbX, hx4.1, show 0 + 2 * 4 = 8 from rfl, f3] at hS
  refine WO.step rfl (OR.callW body41 rfl rfl hS ?_)
  clear hs hS; rintro e w ⟨H16, o5, rfl, hle16, hx, hs⟩; refine ⟨_, rfl, ?_⟩
  replace hle := hle.trans hle16
  replace hx : SrcIn H16 fkD4 o5 := hx
  have hT := fk_total hs hx f4 (by omega)
  rw [f5] at hT
  refine WO.step rfl (OR.assign rfl (WO.done (WX.seq (WC.seq (WC.region (WO.step rfl (OR.move rfl ?_)))))))
  refine WO.step rfl (OR.call hs body60 rfl rfl (hT) ?_)
  clear hs; rintro _ H w hs hle1 rfl; replace hle := hle.trans hle1; (try replace hlb := hlb.trans hle1)
  clear hT
  refine WO.step rfl (OR.move rfl (WO.step rfl (OR.extract rfl rfl (WO.step rfl (OR.extract rfl rfl (WO.step rfl (OR.assign rfl ?_)))))))
  refine WO.step rfl (OR.assign rfl (WO.done (WX.seq (WC.seq (WC.region (WO.step rfl (OR.assign rfl ?_)))))))
  refine WO.done (WX.seq (WC.seq (WC.region (WO.step rfl (OR.move rfl (WO.step rfl (OR.buildZero T45 PL45 ?_)))))))
  refine WO.step rfl (OR.call hs body43 rfl rfl (ftake_nil _ _ hs.toSub) ?_)
  clear hs; rintro _ H w hs hle1 rfl; replace hle := hle.trans hle1; (try replace hlb := hlb.trans hle1)
  refine WO.step rfl (OR.move rfl (WO.step rfl (OR.extract rfl rfl (WO.step rfl (OR.extract rfl rfl (WO.step rfl (OR.assign rfl ?_)))))))
  refine WO.step rfl (OR.assign rfl (WO.done (WX.seq (WC.seq (WC.region (WO.step rfl (OR.move rfl ?_)))))))
  refine WO.step rfl (OR.call hs body54 rfl rfl (frel_nil _ _ hs.toSub) ?_)
  clear hs; rintro _ H w hs hle1 rfl; replace hle := hle.trans hle1; (try replace hlb := hlb.trans hle1)
  refine WO.step rfl (OR.move rfl (WO.step rfl (OR.extract rfl rfl (WO.step rfl (OR.extract rfl rfl (WO.step rfl (OR.assign rfl ?_)))))))
  refine WO.step rfl (OR.assign rfl (WO.done (WX.seq (WC.seq (WC.region (WO.step rfl (OR.move rfl ?_)))))))
  refine WO.step rfl (OR.call hs body45 rfl rfl (fsend_nil _ _ hs.toSub) ?_)
  clear hs; rintro _ H w hs hle1 rfl; replace hle := hle.trans hle1; (try replace hlb := hlb.trans hle1)
  refine WO.step rfl (OR.move rfl (WO.step rfl (OR.extract rfl rfl (WO.step rfl (OR.extract rfl rfl (WO.step rfl (OR.alloc hs T45 ?_)))))))
  clear hs; intro g1 w hg1 hs
  refine WO.stepN (OR.storeAll hs T45 rfl rfl rfl rfl rfl ?_)
  clear hs; intro w hs
  refine WO.step rfl (OR.assign rfl (WO.done (WX.seq (WC.seq (WC.region (WO.step rfl (OR.move rfl ?_)))))))
  refine WO.step rfl (OR.call hs body37 rfl rfl (fbase_nil _ _ hs.toSub) ?_)
  clear hs; rintro _ H w hs hle1 rfl; replace hle := hle.trans hle1; (try replace hlb := hlb.trans hle1)
  refine WO.step rfl (OR.move rfl (WO.step rfl (OR.extract rfl rfl (WO.step rfl (OR.extract rfl rfl (WO.step rfl (OR.assign rfl ?_)))))))
  refine WO.step rfl (OR.assign rfl (WO.done (WX.seq (WC.seq (WC.region (WO.step rfl (OR.move rfl ?_)))))))
  refine WO.step rfl (OR.call hs body60 rfl rfl (ftotal_nil _ _ hs.toSub) ?_)
  clear hs; rintro _ H w hs hle1 rfl; replace hle := hle.trans hle1; (try replace hlb := hlb.trans hle1)
  refine WO.step rfl (OR.move rfl (WO.step rfl (OR.extract rfl rfl (WO.step rfl (OR.extract rfl rfl (WO.step rfl (OR.assign rfl ?_)))))))
  refine WO.step rfl (OR.assign rfl (WO.done (WX.seq (WC.seq (WC.region (WO.step rfl (OR.move rfl ?_)))))))
  refine WO.step rfl (OR.eql rfl rfl (WO.step rfl (OR.move rfl ?_)))
  refine WO.guardYes rfl rfl rfl rfl (OR.move rfl (WO.guardYes rfl rfl rfl rfl (OR.eql rfl rfl (WO.step rfl (OR.pickT rfl rfl rfl (WO.step rfl (OR.move rfl ?_)))))))
  refine WO.guardYes rfl rfl rfl rfl (OR.move rfl (WO.guardYes rfl rfl rfl rfl (OR.eql rfl rfl (WO.step rfl (OR.pickT rfl rfl rfl (WO.step rfl (OR.move rfl ?_)))))))
  refine WO.guardYes rfl rfl rfl rfl (OR.move rfl (WO.guardYes rfl rfl rfl rfl (OR.eql rfl rfl (WO.step rfl (OR.pickT rfl rfl rfl (WO.step rfl (OR.move rfl ?_)))))))
  refine WO.guardYes rfl rfl rfl rfl (OR.move rfl (WO.guardYes rfl rfl rfl rfl (OR.eql rfl rfl (WO.step rfl (OR.pickT rfl rfl rfl (WO.step rfl (OR.move rfl ?_)))))))
  refine WO.guardYes rfl rfl rfl rfl (OR.move rfl (WO.guardYes rfl rfl rfl rfl (OR.eql rfl rfl (WO.step rfl (OR.pickT rfl rfl rfl (WO.step rfl (OR.move rfl ?_)))))))
  refine WO.guardYes rfl rfl rfl rfl (OR.move rfl (WO.guardYes rfl rfl rfl rfl (OR.eql rfl rfl (WO.step rfl (OR.pickT rfl rfl rfl (WO.step rfl (OR.move rfl ?_)))))))
  refine WO.guardYes rfl rfl rfl rfl (OR.move rfl (WO.guardYes rfl rfl rfl rfl (OR.eql rfl rfl (WO.step rfl (OR.pickT rfl rfl rfl (WO.step rfl (OR.move rfl ?_)))))))
  refine WO.guardYes rfl rfl rfl rfl (OR.move rfl (WO.guardYes rfl rfl rfl rfl (OR.eql rfl rfl (WO.step rfl (OR.pickT rfl rfl rfl (WO.step rfl (OR.move rfl ?_)))))))
  refine WO.guardYes rfl rfl rfl rfl (OR.move rfl (WO.guardYes rfl rfl rfl rfl (OR.eql rfl rfl (WO.step rfl (OR.pickT rfl rfl rfl (WO.step rfl (OR.move rfl ?_)))))))
  refine WO.guardYes rfl rfl rfl rfl (OR.move rfl (WO.guardYes rfl rfl rfl rfl (OR.eql rfl rfl (WO.step rfl (OR.pickT rfl rfl rfl (WO.step rfl (OR.move rfl ?_)))))))
  refine WO.guardYes rfl rfl rfl rfl (OR.move rfl (WO.guardYes rfl rfl rfl rfl (OR.eql rfl rfl (WO.step rfl (OR.pickT rfl rfl rfl (WO.step rfl (OR.move rfl ?_)))))))
  refine WO.guardYes rfl rfl rfl rfl (OR.move rfl (WO.guardYes rfl rfl rfl rfl (OR.eql rfl rfl (WO.step rfl (OR.pickT rfl rfl rfl (WO.step rfl (OR.move rfl ?_)))))))
  refine WO.guardYes rfl rfl rfl rfl (OR.move rfl (WO.guardYes rfl rfl rfl rfl (OR.eql rfl rfl (WO.step rfl (OR.pickT rfl rfl rfl (WO.step rfl (OR.move rfl ?_)))))))
  refine WO.guardYes rfl rfl rfl rfl (OR.move rfl (WO.guardYes rfl rfl rfl rfl (OR.eql rfl rfl (WO.step rfl (OR.pickT rfl rfl rfl (WO.step rfl (OR.move rfl ?_)))))))
  refine WO.guardYes rfl rfl rfl rfl (OR.move rfl (WO.guardYes rfl rfl rfl rfl (OR.eql rfl rfl (WO.step rfl (OR.pickT rfl rfl rfl (WO.step rfl (OR.move rfl ?_)))))))
  refine WO.guardYes rfl rfl rfl rfl (OR.move rfl (WO.step rfl (OR.pickT rfl rfl rfl (WO.step rfl (OR.move rfl ?_)))))
  refine WO.guardYes rfl rfl rfl rfl (OR.move rfl (WO.guardYes rfl rfl rfl rfl (OR.eql rfl rfl (WO.step rfl (OR.pickT rfl rfl rfl (WO.step rfl (OR.move rfl ?_)))))))
  refine WO.guardYes rfl rfl rfl rfl (OR.move rfl (WO.guardYes rfl rfl rfl rfl (OR.eql rfl rfl (WO.step rfl (OR.pickT rfl rfl rfl (WO.step rfl (OR.move rfl ?_)))))))
  refine WO.guardYes rfl rfl rfl rfl (OR.move rfl (WO.guardYes rfl rfl rfl rfl (OR.eql rfl rfl (WO.step rfl (OR.pickT rfl rfl rfl (WO.step rfl (OR.move rfl ?_)))))))
  refine WO.guardYes rfl rfl rfl rfl (OR.move rfl (WO.guardYes rfl rfl rfl rfl (OR.eql rfl rfl (WO.step rfl (OR.pickT rfl rfl rfl (WO.step rfl (OR.move rfl ?_)))))))
  refine WO.guardYes rfl rfl rfl rfl (OR.move rfl (WO.guardYes rfl rfl rfl rfl (OR.eql rfl rfl (WO.step rfl (OR.pickT rfl rfl rfl (WO.step rfl (OR.move rfl ?_)))))))
  refine WO.guardYes rfl rfl rfl rfl (OR.move rfl (WO.guardYes rfl rfl rfl rfl (OR.eql rfl rfl (WO.step rfl (OR.pickT rfl rfl rfl (WO.step rfl (OR.move rfl ?_)))))))
  refine WO.guardYes rfl rfl rfl rfl (OR.move rfl (WO.guardYes rfl rfl rfl rfl (OR.eql rfl rfl (WO.step rfl (OR.pickT rfl rfl rfl (WO.step rfl (OR.move rfl ?_)))))))
  refine WO.guardYes rfl rfl rfl rfl (OR.move rfl (WO.guardYes rfl rfl rfl rfl (OR.eql rfl rfl (WO.step rfl (OR.pickT rfl rfl rfl (WO.step rfl (OR.move rfl ?_)))))))
  refine WO.guardYes rfl rfl rfl rfl (OR.move rfl (WO.guardYes rfl rfl rfl rfl (OR.eql rfl rfl (WO.step rfl (OR.pickT rfl rfl rfl (WO.step rfl (OR.move rfl ?_)))))))
  refine WO.guardYes rfl rfl rfl rfl (OR.move rfl (WO.step rfl (OR.pickT rfl rfl rfl (WO.step rfl (OR.move rfl ?_)))))
  refine WO.guardYes rfl rfl rfl rfl (OR.move rfl (WO.guardYes rfl rfl rfl rfl (OR.eql rfl rfl (WO.step rfl (OR.pickT rfl rfl rfl (WO.step rfl (OR.move rfl ?_)))))))
  refine WO.guardYes rfl rfl rfl rfl (OR.move rfl (WO.guardYes rfl rfl rfl rfl (OR.eql rfl rfl (WO.step rfl (OR.pickT rfl rfl rfl (WO.step rfl (OR.move rfl ?_)))))))
  refine WO.guardYes rfl rfl rfl rfl (OR.move rfl (WO.guardYes rfl rfl rfl rfl (OR.eql rfl rfl (WO.step rfl (OR.pickT rfl rfl rfl (WO.step rfl (OR.move rfl ?_)))))))
  refine WO.guardYes rfl rfl rfl rfl (OR.move rfl (WO.guardYes rfl rfl rfl rfl (OR.not rfl (WO.step rfl (OR.pickT rfl rfl rfl (WO.step rfl (OR.move rfl ?_)))))))
  refine WO.guardYes rfl rfl rfl rfl (OR.move rfl (WO.guardYes rfl rfl rfl rfl (OR.not rfl (WO.step rfl (OR.pickT rfl rfl rfl (WO.step rfl (OR.move rfl ?_)))))))
  refine WO.guardYes rfl rfl rfl rfl (OR.move rfl ?_)
  refine WO.guardYes rfl rfl rfl rfl (OR.call hs body41 rfl rfl (fsub_nil _ _ hs.toSub) ?_)
  clear hs; rintro _ H w hs hle1 rfl; replace hle := hle.trans hle1; (try replace hlb := hlb.trans hle1)
  refine WO.guardYes rfl rfl rfl rfl (OR.eql rfl rfl (WO.step rfl (OR.pickT rfl rfl rfl (WO.step rfl (OR.move rfl ?_)))))
  refine WO.guardYes rfl rfl rfl rfl (OR.move rfl ?_)
  refine WO.guardYes rfl rfl rfl rfl (OR.call hs body53 rfl rfl (fflush_nil _ _ hs.toSub) ?_)
  clear hs; rintro _ H w hs hle1 rfl; replace hle := hle.trans hle1; (try replace hlb := hlb.trans hle1)
  refine WO.guardYes rfl rfl rfl rfl (OR.eql rfl rfl (WO.step rfl (OR.pickT rfl rfl rfl (WO.step rfl (OR.move rfl ?_)))))
  refine WO.guardYes rfl rfl rfl rfl (OR.move rfl ?_)
  refine WO.guardYes rfl rfl rfl rfl (OR.call hs body59 rfl rfl (fclose_nil _ _ hs.toSub) ?_)
  clear hs; rintro _ H w hs hle1 rfl; replace hle := hle.trans hle1; (try replace hlb := hlb.trans hle1)
  refine WO.guardYes rfl rfl rfl rfl (OR.eql rfl rfl (WO.step rfl (OR.pickT rfl rfl rfl (WO.step rfl (OR.move rfl ?_)))))
  refine WO.guardYes rfl rfl rfl rfl (OR.move rfl ?_)
  refine WO.guardYes rfl rfl rfl rfl (OR.call hs body58 rfl rfl (ftold_nil _ _ hs.toSub) ?_)
  clear hs; rintro _ H w hs hle1 rfl; replace hle := hle.trans hle1; (try replace hlb := hlb.trans hle1)
  refine WO.guardYes rfl rfl rfl rfl (OR.eql rfl rfl (WO.step rfl (OR.pickT rfl rfl rfl (WO.step rfl (OR.move rfl ?_)))))
  refine WO.guardYes rfl rfl rfl rfl (OR.move rfl ?_)
  refine WO.guardYes rfl rfl rfl rfl (OR.call hs body38 rfl rfl (fepoch_nil _ _ hs.toSub) ?_)
  clear hs; rintro _ H w hs hle1 rfl; replace hle := hle.trans hle1; (try replace hlb := hlb.trans hle1)
  refine WO.guardYes rfl rfl rfl rfl (OR.eql rfl rfl (WO.step rfl (OR.pickT rfl rfl rfl (WO.step rfl (OR.move rfl ?_)))))
  refine WO.guardYes rfl rfl rfl rfl (OR.move rfl ?_)
  refine WO.guardYes rfl rfl rfl rfl (OR.call hs body39 rfl rfl (fhop_nil _ _ hs.toSub) ?_)
  clear hs; rintro _ H w hs hle1 rfl; replace hle := hle.trans hle1; (try replace hlb := hlb.trans hle1)
  refine WO.guardYes rfl rfl rfl rfl (OR.eql rfl rfl (WO.step rfl (OR.pickT rfl rfl rfl (WO.step rfl (OR.move rfl ?_)))))
  refine WO.guardYes rfl rfl rfl rfl (OR.move rfl ?_)
  refine WO.guardYes rfl rfl rfl rfl (OR.call hs body57 rfl rfl (frest_nil _ _ hs.toSub) ?_)
  clear hs; rintro _ H w hs hle1 rfl; replace hle := hle.trans hle1; (try replace hlb := hlb.trans hle1)
  refine WO.guardYes rfl rfl rfl rfl (OR.eql rfl rfl (WO.step rfl (OR.pickT rfl rfl rfl (WO.step rfl (OR.move rfl ?_)))))
  refine WO.guardYes rfl rfl rfl rfl (OR.move rfl ?_)
  refine WO.guardYes rfl rfl rfl rfl (OR.call hs body61 rfl rfl (franks_nil _ _ hs.toSub) ?_)
  clear hs; rintro _ H w hs hle1 rfl; replace hle := hle.trans hle1; (try replace hlb := hlb.trans hle1)
  refine WO.guardYes rfl rfl rfl rfl (OR.lenSlice T115.und rfl (WO.guardYes rfl rfl rfl rfl (OR.eql rfl rfl (WO.step rfl (OR.pickT rfl rfl rfl (WO.step rfl (OR.move rfl ?_)))))))
  refine WO.guardYes rfl rfl rfl rfl (OR.move rfl ?_)
  refine WO.guardYes rfl rfl rfl rfl (OR.call hs body55 rfl rfl (fin_nil _ _ hs.toSub) ?_)
  clear hs; rintro _ H w hs hle1 rfl; replace hle := hle.trans hle1; (try replace hlb := hlb.trans hle1)
  refine WO.guardYes rfl rfl rfl rfl (OR.not rfl (WO.step rfl (OR.pickT rfl rfl rfl (WO.step rfl (OR.move rfl ?_)))))
  refine WO.guardYes rfl rfl rfl rfl (OR.move rfl ?_)
  refine WO.guardYes rfl rfl rfl rfl (OR.call hs body40 rfl rfl (fdel_nil _ _ hs.toSub) ?_)
  clear hs; rintro _ H w hs hle1 rfl; replace hle := hle.trans hle1; (try replace hlb := hlb.trans hle1)
  refine WO.guardYes rfl rfl rfl rfl (OR.eql rfl rfl (WO.step rfl (OR.pickT rfl rfl rfl (WO.step rfl (OR.move rfl ?_)))))
  refine WO.guardYes rfl rfl rfl rfl (OR.move rfl ?_)
  refine WO.guardYes rfl rfl rfl rfl (OR.call hs body42 rfl rfl (fsrc_nil _ _ hs.toSub) ?_)
  clear hs; rintro _ H w hs hle1 rfl; replace hle := hle.trans hle1; (try replace hlb := hlb.trans hle1)
  refine WO.guardYes rfl rfl rfl rfl (OR.eqlNilP T66.und rfl rfl (WO.step rfl (OR.pickT rfl rfl rfl (WO.step rfl (OR.move rfl ?_)))))
  refine WO.guardYes rfl rfl rfl rfl (OR.move rfl ?_)
  refine WO.guardYes rfl rfl rfl rfl (OR.callX (Mx := []) hs body44 rfl rfl (frows_nil _ _ hs.toSub) rfl rfl ?_)
  clear hs; rintro _ H M w hs hle1 hnew ⟨mb, rfl, rfl⟩; replace hle := hle.trans hle1; (try replace hlb := hlb.trans hle1)
  have hkt := hs.blk (i := 0) rfl
  rw [show mObj .u64 [] = .map #[] 0 from rfl] at hkt
  refine WO.guardYes rfl rfl rfl rfl (OR.lenMap hkt T98.und rfl ?_)
  refine WO.guardYes rfl rfl rfl rfl (OR.eql rfl rfl (WO.step rfl (OR.pickT rfl rfl rfl (WO.step rfl (OR.assign rfl (WO.done (WX.seq ?_)))))))
  refine WC.ret ?_
  refine WX.ret1 rfl rfl ?_
  exact .mk (hs.sublist (List.nil_sublist _)) rfl
end Go.Bw
namespace Go.Bw
set_option linter.unusedVariables false
set_option linter.unusedSimpArgs false
open Go.Proofs
theorem law_FlowKnown (W : World) : Calls Tryz.prog 8 #[] W fun e w' => e = .returned (.bool true) ∧ Go.RowKit.Below W.heap.size W w' :=
  (flknown_ok _ W (heapOf.sub W)).mono fun e w' h => h.law fun _ _ h => h
end Go.Bw
