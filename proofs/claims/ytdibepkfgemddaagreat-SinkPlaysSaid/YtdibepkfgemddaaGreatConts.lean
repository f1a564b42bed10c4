/- Lists of slices of bytes: a question asked of each. -/
import Derived.Test.YtdibepkfgemddaaGreatVector
namespace Go.Bw
set_option linter.unusedVariables false
set_option linter.unusedSimpArgs false
open Go.Proofs

set_option maxRecDepth 20000 in
set_option maxHeartbeats 2000000 in
theorem indexL_ok (v : Value) (ll : List (List UInt8)) (f : FuncId) (cap : List Value) (H0 : Hp) (w0 : World) (h0 : Sub H0 w0) (hv : BytesL H0 v ll) (hll : ll.length < 9223372036854775807) (hbf : Body Tryz.prog f)
    (hf : ∀ i (h : i < ll.length) vx H w, Hp.le H0 H → Sub H w → Bytes H vx ll[i] → Calls Tryz.prog f ([vx] ++ cap).toArray w (Pure H w fun v _ => v = .bool false)) :
    Calls Tryz.prog 176 #[v, .func (.func f) #[] cap.toArray] w0 (Pure H0 w0 fun v _ => v = .int .i64 (-1)) := by
  have hs := HS.init h0
  have hv0 := hv
  obtain ⟨base, cp, rfl⟩ := hv0.form
  refine Calls.enter (args := [.slice base ll.length cp, .func (.func f) #[] cap.toArray]) Tryz.func176 rfl Tryz.ntmps176 rfl ?_
  refine WC.seq (WC.region (WO.step rfl (OR.assign rfl (WO.done (WX.seq (WC.seq (WC.seq ?_)))))))
  refine WC.region (WO.step rfl (OR.move rfl (WO.step rfl (OR.lenSlice T40.und rfl (WO.step rfl (OR.move rfl (WO.done ?_)))))))
  refine WX.seq (WC.block ?_)
  refine WC.loop (ι := Nat) (fun k => [(0, .slice base ll.length cp), (1, .func (.func f) #[] cap.toArray), (7, .int .i64 (ll.length : Int)), (8, .int .i64 (k : Int))]) (fun k w => (k ≤ ll.length ∧ ∃ H, Hp.le H0 H ∧ HS [] H0 w0 H [] w)) (fun k => ll.length - k) 0 ⟨rfl, rfl, rfl, rfl,  trivial⟩ ?_ (fun k w hW => ?_)
  · exact ⟨by omega, H0, .refl H0, hs⟩
  obtain ⟨hk, H, hle, hs⟩ := hW
  refine WC.seq (WC.region (WO.step rfl (OR.lss rfl rfl (WO.done (WX.seq (WC.seq ?_))))))
  refine WC.condD rfl (fun hlt => ?_) (fun hlt => ?_)
  · have hlt' : k < ll.length := by omega
    obtain ⟨b, o, rfl, hc⟩ := hv.pos (by omega)
    obtain ⟨e, hce, hbe⟩ := hc k hlt'
    refine WC.skip (WX.seq (WC.seq (WC.block (WC.seq (WC.region (WO.step rfl (OR.move rfl ?_)))))))
    refine WO.step rfl (OR.assign rfl (WO.done (WX.seq (WC.seq (WC.region (WO.step rfl (OR.move rfl ?_)))))))
    refine WO.step rfl (OR.move rfl (WO.step rfl (OR.move rfl ?_)))
    refine WO.step rfl (OR.idx k T40.und T43 rfl rfl rfl hlt' ?_)
    refine WO.step rfl (OR.load T43 rfl rfl (hs.cell (hcell.mono hle hce)) ?_)
    refine WO.step rfl (OR.call hs (hbf) rfl rfl (hf k hlt' e _ _ hle hs.toSub (hbe.mono hle)) ?_)
    clear hs; rintro _ H w hs hle1 rfl; replace hle := hle.trans hle1; (try replace hlb := hlb.trans hle1)
    refine WO.done (WX.seq ?_)
    refine WC.no rfl rfl ?_
    refine WC.skip (WX.block (WX.seq (WC.region (WO.step rfl (OR.addI rfl rfl (by omega) (by omega) (WO.step rfl (OR.move rfl ?_)))))))
    refine WO.done ?_
    refine WX.again (k + 1) ⟨rfl, rfl, rfl, rfl,  trivial⟩ ?_ ?_
    · exact ⟨hlt', H, hle, hs⟩
    · omega
  · refine WC.exit (WX.seq_exit (WX.loop_exit (WX.block_hit (WX.seq (WC.seq (WC.region (WO.step rfl ?_)))))))
    refine OR.assign rfl (WO.done (WX.seq (WC.ret ?_)))
    refine WX.ret1 rfl rfl ?_
    exact .mk hs rfl

set_option maxRecDepth 20000 in
set_option maxHeartbeats 2000000 in
theorem containsL_ok (v : Value) (ll : List (List UInt8)) (f : FuncId) (cap : List Value) (H0 : Hp) (w0 : World) (h0 : Sub H0 w0) (hv : BytesL H0 v ll) (hll : ll.length < 9223372036854775807) (hbf : Body Tryz.prog f)
    (hf : ∀ i (h : i < ll.length) vx H w, Hp.le H0 H → Sub H w → Bytes H vx ll[i] → Calls Tryz.prog f ([vx] ++ cap).toArray w (Pure H w fun v _ => v = .bool false)) :
    Calls Tryz.prog 153 #[v, .func (.func f) #[] cap.toArray] w0 (Pure H0 w0 fun v _ => v = .bool false) := by
  have hs := HS.init h0
  have hle := Hp.le.refl H0
  refine Calls.enter (args := [v, .func (.func f) #[] cap.toArray]) Tryz.func153 rfl Tryz.ntmps153 rfl ?_
  refine WC.seq (WC.region (WO.step rfl (OR.assign rfl (WO.done (WX.seq (WC.seq (WC.region ?_)))))))
  refine WO.step rfl (OR.move rfl (WO.step rfl (OR.move rfl ?_)))
  refine WO.step rfl (OR.call hs body176 rfl rfl (indexL_ok v ll f cap _ _ hs.toSub hv hll hbf hf) ?_)
  clear hs; rintro _ H w hs hle1 rfl; replace hle := hle.trans hle1; (try replace hlb := hlb.trans hle1)
  refine WO.step rfl (OR.geq rfl rfl (WO.step rfl (OR.assign rfl (WO.done (WX.seq (WC.ret ?_))))))
  refine WX.ret1 rfl rfl ?_
  exact .mk hs rfl

end Go.Bw
