/- Lists of bytes are the same. -/
import Derived.Test.YtdibepkfgemddaaSmall
namespace Go.Bw
set_option linter.unusedVariables false
set_option linter.unusedSimpArgs false
open Go.Proofs

set_option maxRecDepth 20000 in
set_option maxHeartbeats 2000000 in
theorem same05_ok (va vb : Value) (a b : List (List UInt8)) (H0 : Hp) (w0 : World) (h0 : Sub H0 w0) (ha : BytesL H0 va a) (hb : BytesL H0 vb b) (he : a = b) (hl : a.length < 1000000000) :
    Calls Try.prog 29 #[va, vb] w0 (Pure H0 w0 fun v _ => v = .bool true) := by
  have hs := HS.init h0
  subst he
  have ha0 := ha
  have hb0 := hb
  obtain ⟨b1, c1, rfl⟩ := ha0.form
  obtain ⟨b2, c2, rfl⟩ := hb0.form
  refine Calls.enter (args := [.slice b1 a.length c1, .slice b2 a.length c2]) Try.func29 rfl Try.ntmps29 rfl ?_
  refine WC.seq (WC.region (WO.step rfl (OR.assign rfl (WO.done (WX.seq (WC.seq (WC.seq ?_)))))))
  refine WC.region (WO.step rfl (OR.move rfl (WO.step rfl (OR.lenSlice T31.und rfl (WO.step rfl (OR.move rfl (WO.step rfl ?_)))))))
  refine OR.lenSlice T31.und rfl (WO.step rfl (OR.neq rfl rfl (WO.done (WX.seq ?_))))
  refine WC.no rfl (decide_eq_false (by omega)) ?_
  refine WC.skip (WX.seq (WC.seq (WC.seq (WC.region (WO.step rfl (OR.assign rfl (WO.done ?_)))))))
  refine WX.seq (WC.block ?_)
  refine WC.loop (ι := Nat) (fun k => [(0, .slice b1 a.length c1), (1, .slice b2 a.length c2), (5, .int .i64 (k : Int))]) (fun k w => (k ≤ a.length ∧ ∃ H, Hp.le H0 H ∧ HS [] H0 w0 H [] w)) (fun k => a.length - k) 0 ⟨rfl, rfl, rfl,  trivial⟩ ?_ (fun k w hW => ?_)
  · exact ⟨by omega, H0, .refl H0, hs⟩
  clear hs
  obtain ⟨hk, H, hle, hs⟩ := hW
  refine WC.seq (WC.seq (WC.region (WO.step rfl (OR.move rfl (WO.step rfl (OR.move rfl (WO.step rfl ?_)))))))
  refine OR.lenSlice T31.und rfl (WO.step rfl (OR.lss rfl rfl (WO.done (WX.seq ?_))))
  refine WC.condD rfl (fun hlt => ?_) (fun hlt => ?_)
  · have hk' : k < a.length := by omega
    obtain ⟨ob1, oo1, rfl, hc1⟩ := ha.pos (by omega)
    obtain ⟨ob2, oo2, rfl, hc2⟩ := hb.pos (by omega)
    obtain ⟨e1, he1, hbe1⟩ := hc1 k hk'
    obtain ⟨e2, he2, hbe2⟩ := hc2 k hk'
    have hlb := Hp.le.refl H
    refine WC.skip (WX.seq (WC.seq (WC.block (WC.seq ?_))))
    refine WC.draw 11 mixed hs (by kernel_rfl) ?_
    refine ⟨MF.eq _, by intro Mx H w hle hs; refine forVals_nil (ORg.plain (OR.move rfl ?_)); exact ⟨_, [], Hp.le.refl _, hs, rfl, rfl⟩, ?_⟩
    refine ⟨MF.eq _, by intro Mx H w hle hs; refine forVals_nil (ORg.plain (OR.move rfl ?_)); exact ⟨_, [], Hp.le.refl _, hs, rfl, rfl⟩, ?_⟩
    refine ⟨MF.eq (.pointer (some ⟨ob1, oo1 + k, none⟩)), ?_, ?_⟩
    · intro Mx H w hle2 hs; (try replace hle := hle.trans hle2); (try replace hlb := hlb.trans hle2); refine forVals_eq rfl rfl rfl ?_; refine forVals_eq rfl rfl rfl ?_
      refine forVals_nil (ORg.plain (OR.idx k T31.und T37 rfl rfl rfl hk' ?_))
      exact ⟨_, [], Hp.le.refl _, hs, rfl, rfl⟩
    refine ⟨MF.eq e1, ?_, ?_⟩
    · intro Mx H w hle2 hs; (try replace hle := hle.trans hle2); (try replace hlb := hlb.trans hle2); refine forVals_eq rfl rfl rfl ?_
      refine forVals_nil (ORg.plain (OR.load T37 rfl rfl (hs.cell (hcell.mono hle he1)) ?_))
      exact ⟨_, [], Hp.le.refl _, hs, rfl, rfl⟩
    refine ⟨MF.eq (.string (str a[k])), ?_, ?_⟩
    · intro Mx H w hle2 hs; (try replace hle := hle.trans hle2); (try replace hlb := hlb.trans hle2); refine forVals_eq rfl rfl rfl ?_
      refine forVals_nil (ORg.plain (OR.toStr hs T37.und T9.und T5.und rfl (hbe1.mono hle) ?_))
      exact ⟨_, [], Hp.le.refl _, hs, rfl, rfl⟩
    refine ⟨MF.eq _, by intro Mx H w hle hs; refine forVals_nil (ORg.plain (OR.move rfl ?_)); exact ⟨_, [], Hp.le.refl _, hs, rfl, rfl⟩, ?_⟩
    refine ⟨MF.eq _, by intro Mx H w hle hs; refine forVals_nil (ORg.plain (OR.move rfl ?_)); exact ⟨_, [], Hp.le.refl _, hs, rfl, rfl⟩, ?_⟩
    refine ⟨MF.eq (.pointer (some ⟨ob2, oo2 + k, none⟩)), ?_, ?_⟩
    · intro Mx H w hle2 hs; (try replace hle := hle.trans hle2); (try replace hlb := hlb.trans hle2); refine forVals_eq rfl rfl rfl ?_; refine forVals_eq rfl rfl rfl ?_
      refine forVals_nil (ORg.plain (OR.idx k T31.und T37 rfl rfl rfl hk' ?_))
      exact ⟨_, [], Hp.le.refl _, hs, rfl, rfl⟩
    refine ⟨MF.eq e2, ?_, ?_⟩
    · intro Mx H w hle2 hs; (try replace hle := hle.trans hle2); (try replace hlb := hlb.trans hle2); refine forVals_eq rfl rfl rfl ?_
      refine forVals_nil (ORg.plain (OR.load T37 rfl rfl (hs.cell (hcell.mono hle he2)) ?_))
      exact ⟨_, [], Hp.le.refl _, hs, rfl, rfl⟩
    refine ⟨MF.eq (.string (str a[k])), ?_, ?_⟩
    · intro Mx H w hle2 hs; (try replace hle := hle.trans hle2); (try replace hlb := hlb.trans hle2); refine forVals_eq rfl rfl rfl ?_
      refine forVals_nil (ORg.plain (OR.toStr hs T37.und T9.und T5.und rfl (hbe2.mono hle) ?_))
      exact ⟨_, [], Hp.le.refl _, hs, rfl, rfl⟩
    refine ⟨MF.eq _, by intro Mx H w hle hs; refine forVals_eq rfl rfl rfl ?_; refine forVals_eq rfl rfl rfl ?_; refine forVals_nil (ORg.plain (OR.neqStr rfl rfl ?_)); exact ⟨_, [], Hp.le.refl _, hs, rfl, rfl⟩, ?_⟩
    intro H w hle2; (try replace hle := hle.trans hle2); (try replace hlb := hlb.trans hle2)
    refine forAllVals_eq rfl ?_
    refine forAllVals_eq rfl ?_
    refine forAllVals_eq rfl ?_
    refine forAllVals_eq rfl ?_
    refine forAllVals_eq rfl ?_
    refine forAllVals_eq rfl ?_
    refine forAllVals_eq rfl ?_
    refine forAllVals_eq rfl ?_
    refine forAllVals_eq rfl ?_
    refine forAllVals_eq rfl ?_
    refine forAllVals_eq rfl ?_
    refine forAllVals_nil ?_; (try clear hs); intro hs
    refine WO.done (WX.seq ?_)
    refine WC.no rfl (by simp) ?_
    refine WC.skip (WX.block (WX.seq (WC.region (WO.step rfl (OR.move rfl (WO.step rfl (OR.addI rfl rfl (by omega) (by omega) ?_)))))))
    refine WO.step rfl (OR.assign rfl (WO.done ?_))
    refine WX.again (k + 1) ⟨rfl, rfl, rfl,  trivial⟩ ?_ ?_
    · exact ⟨hk', H, hle, hs⟩
    · omega
  · refine WC.exit (WX.seq_exit (WX.loop_exit (WX.block_hit (WX.seq (WC.seq (WC.region (WO.step rfl ?_)))))))
    refine OR.assign rfl (WO.done (WX.seq (WC.ret ?_)))
    refine WX.ret1 rfl rfl ?_
    exact .mk hs rfl
end Go.Bw
