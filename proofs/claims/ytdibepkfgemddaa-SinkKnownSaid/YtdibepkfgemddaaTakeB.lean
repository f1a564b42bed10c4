/- pad.Take: its closures, and what it asks. -/
import Derived.Test.YtdibepkfgemddaaJoin
import Derived.Test.YtdibepkfgemddaaConts
namespace Go.Bw
set_option linter.unusedVariables false
set_option linter.unusedSimpArgs false
open Go.Proofs

set_option maxRecDepth 20000 in
set_option maxHeartbeats 2000000 in
theorem ptake1_ok (gs : Nat) (s : Nat) (vx : Value) (l : List UInt8) (H0 : Hp) (w0 : World) (h0 : Sub H0 w0) (hc : hcell H0 ⟨gs, 0, none⟩ = some (.int .i64 (s : Int))) (hx : Bytes H0 vx l) :
    Calls Try.prog 92 #[vx, ptr gs] w0 (Pure H0 w0 fun v _ => v = .bool (decide (l.length ≠ s))) := by
  have hs := HS.init h0
  obtain ⟨b1, c1, rfl⟩ := hx.form
  refine Calls.enter (args := [.slice b1 l.length c1, ptr gs]) Try.func92 rfl Try.ntmps92 rfl ?_
  refine WC.seq (WC.region (WO.step rfl (OR.assign rfl (WO.done (WX.seq (WC.seq (WC.region ?_)))))))
  refine WO.step rfl (OR.move rfl (WO.step rfl (OR.lenSlice T37.und rfl ?_)))
  refine WO.step rfl (OR.load T3 rfl rfl (hs.cell hc) ?_)
  refine WO.step rfl (OR.neq rfl rfl (WO.step rfl (OR.assign rfl (WO.done (WX.seq (WC.ret ?_))))))
  refine WX.ret1 rfl rfl ?_
  refine .mk hs ?_
  congr 1
  rw [decide_eq_decide]
  omega
set_option maxRecDepth 20000 in
set_option maxHeartbeats 2000000 in
theorem ptake2_ok (x : UInt8) (H0 : Hp) (w0 : World) (h0 : Sub H0 w0) : Calls Try.prog 99 #[B x] w0 (Pure H0 w0 fun v _ => v = .bool (decide (x ≠ 0))) := by
  have hs := HS.init h0
  refine Calls.enter (args := [B x]) Try.func99 rfl Try.ntmps99 rfl ?_
  refine WC.seq (WC.region (WO.step rfl (OR.assign rfl (WO.done (WX.seq (WC.seq (WC.region ?_)))))))
  refine WO.step rfl (OR.move rfl (WO.step rfl (OR.neq rfl rfl (WO.step rfl (OR.assign rfl (WO.done (WX.seq ?_)))))))
  refine WC.ret ?_
  refine WX.ret1 rfl rfl ?_
  refine .mk hs ?_
  congr 1
  rw [decide_eq_decide]
  constructor
  · intro h e; apply h; rw [e]; rfl
  · intro h e; apply h; exact UInt8.toNat.inj (by simpa using e)

set_option maxRecDepth 20000 in
set_option maxHeartbeats 2000000 in
theorem containsB_ok (v : Value) (l : List UInt8) (p : UInt8 → Bool) (f : FuncId) (cap : List Value) (H0 : Hp) (w0 : World) (h0 : Sub H0 w0) (hv : Bytes H0 v l) (hl : l.length < 9223372036854775807) (hbf : Body Try.prog f)
    (hf : ∀ (x : UInt8) H w, Hp.le H0 H → Sub H w → Calls Try.prog f ([B x] ++ cap).toArray w (Pure H w fun v _ => v = .bool (p x))) :
    Calls Try.prog 98 #[v, .func (.func f) #[] cap.toArray] w0 (Pure H0 w0 fun v _ => v = .bool (decide (idxFrom p l 0 ≥ 0))) := by
  have hs := HS.init h0
  have hle := Hp.le.refl H0
  refine Calls.enter (args := [v, .func (.func f) #[] cap.toArray]) Try.func98 rfl Try.ntmps98 rfl ?_
  refine WC.seq (WC.region (WO.step rfl (OR.assign rfl (WO.done (WX.seq (WC.seq (WC.region ?_)))))))
  refine WO.step rfl (OR.move rfl (WO.step rfl (OR.move rfl ?_)))
  refine WO.step rfl (OR.call hs body89 rfl rfl (indexFunc_ok v l p f cap _ _ hs.toSub hv hl hbf hf) ?_)
  clear hs; rintro _ H w hs hle1 rfl; replace hle := hle.trans hle1; (try replace hlb := hlb.trans hle1)
  refine WO.step rfl (OR.geq rfl rfl (WO.step rfl (OR.assign rfl (WO.done (WX.seq (WC.ret ?_))))))
  refine WX.ret1 rfl rfl ?_
  exact .mk hs rfl
end Go.Bw
