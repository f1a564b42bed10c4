/- A sink: made, read. -/
import Derived.Test.YtdibepkfgemddaaGreatRel1
import Derived.Test.YtdibepkfgemddaaGreatTake2
import Derived.Test.YtdibepkfgemddaaGreatSmall
namespace Go.Bw
set_option linter.unusedVariables false
set_option linter.unusedSimpArgs false
open Go.Proofs

structure SinkD where
  g : Nat
  s : Nat
  dl : Nat
  tot : Nat
  kn : Bool
  br : Bool
def sinkObj (x : SinkD) : Obj := .cells #[.int .i64 (x.g : Int), .int .i64 (x.s : Int), .int .u64 (x.dl : Int), .int .u64 (x.tot : Int), .bool x.kn, .bool x.br] 120
section
variable (kb : Nat) (x : SinkD) (H0 : Hp) (w0 : World)
set_option maxRecDepth 20000 in
set_option maxHeartbeats 2000000 in
theorem kmade_ok (h0 : Sub H0 w0) (hb : w0.heap[kb]? = some (sinkObj x)) (hn : H0 kb = none) (hg : 1 ≤ x.g) : Calls Tryz.prog 68 #[ptr kb] w0 (Pure H0 w0 fun v _ => v = .bool true) := by
  have hs := HS.startR h0 hb hn
  refine Calls.enter (args := [ptr kb]) Tryz.func68 rfl Tryz.ntmps68 rfl ?_
  refine WC.seq (WC.region (WO.step rfl (OR.assign rfl (WO.done (WX.seq (WC.seq (WC.region ?_)))))))
  refine WO.step rfl (OR.move rfl (WO.step rfl (OR.neqNilP T27.und rfl rfl (WO.step rfl (OR.move rfl (WO.guardYes rfl rfl rfl rfl (OR.move rfl ?_)))))))
  refine WO.guardYes rfl rfl rfl rfl (OR.nilCheck rfl (WO.guardYes rfl rfl rfl rfl (OR.fieldAddr FA120_0 rfl (WO.guardYes rfl rfl rfl rfl (OR.load T3 rfl rfl (hs.cellM (i := 0) rfl rfl) (WO.guardYes rfl rfl rfl rfl (OR.gtr rfl rfl ?_)))))))
  refine WO.step rfl (OR.pickT rfl rfl rfl (WO.step rfl (OR.assign rfl (WO.done (WX.seq (WC.ret ?_))))))
  refine WX.ret1 rfl rfl ?_
  exact .mk (hs.drop 0) (by rw [decide_eq_true (by omega)])
set_option maxRecDepth 20000 in
set_option maxHeartbeats 2000000 in
theorem kmade_nil (h0 : Sub H0 w0) : Calls Tryz.prog 68 #[.pointer none] w0 (Pure H0 w0 fun v _ => v = .bool false) := by
  have hs := HS.init h0
  refine Calls.enter (args := [.pointer none]) Tryz.func68 rfl Tryz.ntmps68 rfl ?_
  refine WC.seq (WC.region (WO.step rfl (OR.assign rfl (WO.done (WX.seq (WC.seq (WC.region ?_)))))))
  refine WO.step rfl (OR.move rfl (WO.step rfl (OR.neqNilP T27.und rfl rfl (WO.step rfl (OR.move rfl ?_)))))
  refine WO.guardNo rfl rfl rfl rfl (WO.guardNo rfl rfl rfl rfl (WO.guardNo rfl rfl rfl rfl (WO.guardNo rfl rfl rfl rfl (WO.guardNo rfl rfl rfl rfl (WO.step rfl (OR.pickF rfl rfl rfl (WO.step rfl ?_)))))))
  refine OR.assign rfl (WO.done (WX.seq (WC.ret ?_)))
  refine WX.ret1 rfl rfl ?_
  exact .mk hs rfl
set_option maxRecDepth 20000 in
set_option maxHeartbeats 2000000 in
theorem kdel_ok (h0 : Sub H0 w0) (hb : w0.heap[kb]? = some (sinkObj x)) (hn : H0 kb = none) : Calls Tryz.prog 24 #[ptr kb] w0 (Pure H0 w0 fun v _ => v = .int .u64 (x.dl : Int)) := by
  have hs := HS.startR h0 hb hn
  refine Calls.enter (args := [ptr kb]) Tryz.func24 rfl Tryz.ntmps24 rfl ?_
  refine WC.seq (WC.region (WO.step rfl (OR.assign rfl (WO.done (WX.seq (WC.seq (WC.seq ?_)))))))
  refine WC.region (WO.step rfl (OR.move rfl (WO.step rfl (OR.eqlNilP T27.und rfl rfl (WO.done (WX.seq (WC.no rfl rfl ?_)))))))
  refine WC.skip (WX.seq (WC.seq (WC.region (WO.step rfl (OR.move rfl (WO.step rfl (OR.nilCheck rfl ?_)))))))
  refine WO.step rfl (OR.fieldAddr FA120_2 rfl (WO.step rfl (OR.load T22 rfl rfl (hs.cellM (i := 0) rfl rfl) (WO.step rfl (OR.assign rfl (WO.done (WX.seq ?_)))))))
  refine WC.ret ?_
  refine WX.ret1 rfl rfl ?_
  exact .mk (hs.drop 0) rfl
set_option maxRecDepth 20000 in
set_option maxHeartbeats 2000000 in
theorem kdel_nil (h0 : Sub H0 w0) : Calls Tryz.prog 24 #[.pointer none] w0 (Pure H0 w0 fun v _ => v = .int .u64 0) := by
  have hs := HS.init h0
  refine Calls.enter (args := [.pointer none]) Tryz.func24 rfl Tryz.ntmps24 rfl ?_
  refine WC.seq (WC.region (WO.step rfl (OR.assign rfl (WO.done (WX.seq (WC.seq (WC.seq ?_)))))))
  refine WC.region (WO.step rfl (OR.move rfl (WO.step rfl (OR.eqlNilP T27.und rfl rfl (WO.done (WX.seq ?_))))))
  refine WC.yes rfl rfl ?_
  refine WC.seq (WC.region (WO.step rfl (OR.assign rfl (WO.done (WX.seq (WC.ret (WX.seq_ret ?_)))))))
  refine WX.ret1 rfl rfl ?_
  exact .mk hs rfl
set_option maxRecDepth 20000 in
set_option maxHeartbeats 2000000 in
theorem kknown_ok (h0 : Sub H0 w0) (hb : w0.heap[kb]? = some (sinkObj x)) (hn : H0 kb = none) : Calls Tryz.prog 23 #[ptr kb] w0 (Pure H0 w0 fun v _ => v = .tuple #[.int .u64 (x.tot : Int), .bool x.kn]) := by
  have hs := HS.startR h0 hb hn
  have hle := Hp.le.refl H0
  refine Calls.enter (args := [ptr kb]) Tryz.func23 rfl Tryz.ntmps23 rfl ?_
  refine WC.seq (WC.region (WO.step rfl (OR.assign rfl (WO.step rfl (OR.assign rfl (WO.done (WX.seq ?_)))))))
  refine WC.seq (WC.seq (WC.region (WO.step rfl (OR.move rfl (WO.step rfl (OR.eqlNilP T27.und rfl rfl (WO.done ?_)))))))
  refine WX.seq (WC.no rfl rfl (WC.skip (WX.seq (WC.seq ?_))))
  refine WC.sub [(0, ptr kb)] ⟨rfl,  trivial⟩ ?_
  refine WC.draw 9 mixed hs (by kernel_rfl) ?_
  refine ⟨MF.eq _, by intro Mx H w hle hs; refine forVals_nil (ORg.plain (OR.move rfl ?_)); exact ⟨_, [], Hp.le.refl _, hs, rfl, rfl⟩, ?_⟩
  refine ⟨MF.eq _, by intro Mx H w hle hs; refine forVals_eq rfl rfl rfl ?_; refine forVals_nil (ORg.plain (OR.nilCheck rfl ?_)); exact ⟨_, [], Hp.le.refl _, hs, rfl, rfl⟩, ?_⟩
  refine ⟨MF.eq _, by intro Mx H w hle hs; refine forVals_eq rfl rfl rfl ?_; refine forVals_nil (ORg.plain (OR.fieldAddr FA120_3 rfl ?_)); exact ⟨_, [], Hp.le.refl _, hs, rfl, rfl⟩, ?_⟩
  refine ⟨MF.eq _, by intro Mx H w hle hs; refine forVals_eq rfl rfl rfl ?_; refine forVals_nil (ORg.plain (OR.load T22 rfl rfl (hs.right.cellM (i := 0) rfl rfl) ?_)); exact ⟨_, [], Hp.le.refl _, hs, rfl, rfl⟩, ?_⟩
  refine ⟨MF.eq _, by intro Mx H w hle hs; refine forVals_nil (ORg.plain (OR.move rfl ?_)); exact ⟨_, [], Hp.le.refl _, hs, rfl, rfl⟩, ?_⟩
  refine ⟨MF.eq _, by intro Mx H w hle hs; refine forVals_eq rfl rfl rfl ?_; refine forVals_nil (ORg.plain (OR.nilCheck rfl ?_)); exact ⟨_, [], Hp.le.refl _, hs, rfl, rfl⟩, ?_⟩
  refine ⟨MF.eq _, by intro Mx H w hle hs; refine forVals_eq rfl rfl rfl ?_; refine forVals_nil (ORg.plain (OR.fieldAddr FA120_4 rfl ?_)); exact ⟨_, [], Hp.le.refl _, hs, rfl, rfl⟩, ?_⟩
  refine ⟨MF.eq _, by intro Mx H w hle hs; refine forVals_eq rfl rfl rfl ?_; refine forVals_nil (ORg.plain (OR.load T4 rfl rfl (hs.right.cellM (i := 0) rfl rfl) ?_)); exact ⟨_, [], Hp.le.refl _, hs, rfl, rfl⟩, ?_⟩
  refine ⟨MF.eq (.int .u64 (x.tot : Int)), ?_, ?_⟩
  · intro Mx H w hle2 hs; (try replace hle := hle.trans hle2); (try replace hlb := hlb.trans hle2); refine forVals_eq rfl rfl rfl ?_
    refine forVals_nil (ORg.plain (OR.assign rfl ?_))
    exact ⟨_, [], Hp.le.refl _, hs, rfl, rfl⟩
  intro H w hle2; (try replace hle := hle.trans hle2); (try replace hlb := hlb.trans hle2)
  refine forAllVals_eq rfl ?_
  refine forAllVals_eq rfl ?_
  refine forAllVals_eq rfl ?_
  refine forAllVals_eq rfl ?_
  refine forAllVals_eq rfl ?_
  refine forAllVals_eq rfl ?_
  refine forAllVals_eq rfl ?_
  refine forAllVals_eq rfl ?_
  refine forAllVals_eq rfl ?_
  refine forAllVals_nil ?_; (try clear hs); intro hs
  refine WO.step rfl (OR.assign rfl (WO.done (WX.seq (WC.ret ?_))))
  refine WX.ret2 rfl rfl rfl ?_
  exact .mk (hs.drop 0) rfl
set_option maxRecDepth 20000 in
set_option maxHeartbeats 2000000 in
theorem kknown_nil (h0 : Sub H0 w0) : Calls Tryz.prog 23 #[.pointer none] w0 (Pure H0 w0 fun v _ => v = .tuple #[.int .u64 0, .bool false]) := by
  have hs := HS.init h0
  refine Calls.enter (args := [.pointer none]) Tryz.func23 rfl Tryz.ntmps23 rfl ?_
  refine WC.seq (WC.region (WO.step rfl (OR.assign rfl (WO.step rfl (OR.assign rfl (WO.done (WX.seq ?_)))))))
  refine WC.seq (WC.seq (WC.region (WO.step rfl (OR.move rfl (WO.step rfl (OR.eqlNilP T27.und rfl rfl (WO.done ?_)))))))
  refine WX.seq ?_
  refine WC.yes rfl rfl ?_
  refine WC.seq (WC.region (WO.step rfl (OR.assign rfl (WO.step rfl (OR.assign rfl (WO.done (WX.seq ?_)))))))
  refine WC.ret (WX.seq_ret ?_)
  refine WX.ret2 rfl rfl rfl ?_
  exact .mk hs rfl
set_option maxRecDepth 20000 in
set_option maxHeartbeats 2000000 in
theorem kbroken_ok (h0 : Sub H0 w0) (hb : w0.heap[kb]? = some (sinkObj x)) (hn : H0 kb = none) : Calls Tryz.prog 27 #[ptr kb] w0 (Pure H0 w0 fun v _ => v = .bool x.br) := by
  have hs := HS.startR h0 hb hn
  refine Calls.enter (args := [ptr kb]) Tryz.func27 rfl Tryz.ntmps27 rfl ?_
  refine WC.seq (WC.region (WO.step rfl (OR.assign rfl (WO.done (WX.seq (WC.seq (WC.region ?_)))))))
  refine WO.step rfl (OR.move rfl (WO.step rfl (OR.neqNilP T27.und rfl rfl (WO.step rfl (OR.move rfl (WO.guardYes rfl rfl rfl rfl (OR.move rfl ?_)))))))
  refine WO.guardYes rfl rfl rfl rfl (OR.nilCheck rfl (WO.guardYes rfl rfl rfl rfl (OR.fieldAddr FA120_5 rfl (WO.guardYes rfl rfl rfl rfl (OR.load T4 rfl rfl (hs.cellM (i := 0) rfl rfl) (WO.step rfl (OR.pickT rfl rfl rfl ?_)))))))
  refine WO.step rfl (OR.assign rfl (WO.done (WX.seq (WC.ret ?_))))
  refine WX.ret1 rfl rfl ?_
  exact .mk (hs.drop 0) rfl
set_option maxRecDepth 20000 in
set_option maxHeartbeats 2000000 in
theorem kbroken_nil (h0 : Sub H0 w0) : Calls Tryz.prog 27 #[.pointer none] w0 (Pure H0 w0 fun v _ => v = .bool false) := by
  have hs := HS.init h0
  refine Calls.enter (args := [.pointer none]) Tryz.func27 rfl Tryz.ntmps27 rfl ?_
  refine WC.seq (WC.region (WO.step rfl (OR.assign rfl (WO.done (WX.seq (WC.seq (WC.region ?_)))))))
  refine WO.step rfl (OR.move rfl (WO.step rfl (OR.neqNilP T27.und rfl rfl (WO.step rfl (OR.move rfl ?_)))))
  refine WO.guardNo rfl rfl rfl rfl (WO.guardNo rfl rfl rfl rfl (WO.guardNo rfl rfl rfl rfl (WO.guardNo rfl rfl rfl rfl (WO.step rfl (OR.pickF rfl rfl rfl (WO.step rfl (OR.assign rfl ?_)))))))
  refine WO.done (WX.seq (WC.ret ?_))
  refine WX.ret1 rfl rfl ?_
  exact .mk hs rfl
set_option maxRecDepth 20000 in
set_option maxHeartbeats 2000000 in
theorem kdone_ok (h0 : Sub H0 w0) (hb : w0.heap[kb]? = some (sinkObj x)) (hn : H0 kb = none) : Calls Tryz.prog 25 #[ptr kb] w0 (Pure H0 w0 fun v _ => v = .bool (x.kn && decide (x.tot = x.dl))) := by
  have hs := HS.startR h0 hb hn
  have hle := Hp.le.refl H0
  refine Calls.enter (args := [ptr kb]) Tryz.func25 rfl Tryz.ntmps25 rfl ?_
  refine WC.seq (WC.region (WO.step rfl (OR.assign rfl (WO.done (WX.seq (WC.seq (WC.region ?_)))))))
  refine WO.step rfl (OR.move rfl ?_)
  refine WO.step rfl (OR.call hs body23 rfl rfl (kknown_ok kb x _ _ hs.toSub (hs.blk (i := 0) rfl) (hs.nh (i := 0) rfl)) ?_)
  clear hs; rintro _ H w hs hle1 rfl; replace hle := hle.trans hle1; (try replace hlb := hlb.trans hle1)
  refine WO.step rfl (OR.move rfl (WO.step rfl (OR.extract rfl rfl (WO.step rfl (OR.extract rfl rfl (WO.step rfl (OR.assign rfl ?_)))))))
  refine WO.step rfl (OR.assign rfl (WO.done (WX.seq (WC.seq (WC.region (WO.step rfl (OR.move rfl ?_)))))))
  refine WO.step rfl (OR.move rfl ?_)
  obtain ⟨kn, hk⟩ : ∃ b, b = x.kn := ⟨_, rfl⟩
  rw [← hk]
  cases kn with
  | true =>
    refine WO.guardYes rfl rfl rfl rfl (OR.move rfl (WO.guardYes rfl rfl rfl rfl (OR.move rfl (WO.guardYes rfl rfl rfl rfl (OR.nilCheck rfl (WO.guardYes rfl rfl rfl rfl (OR.fieldAddr FA120_2 rfl ?_)))))))
    refine WO.guardYes rfl rfl rfl rfl (OR.load T22 rfl rfl (hs.cellM (i := 0) rfl rfl) (WO.guardYes rfl rfl rfl rfl (OR.eql rfl rfl (WO.step rfl (OR.pickT rfl rfl rfl (WO.step rfl (OR.assign rfl ?_)))))))
    refine WO.done (WX.seq (WC.ret ?_))
    refine WX.ret1 rfl rfl ?_
    refine .mk (hs.drop 0) ?_
    rw [Bool.true_and]
    congr 1
    rw [decide_eq_decide]
    omega
  | false =>
    refine WO.guardNo rfl rfl rfl rfl (WO.guardNo rfl rfl rfl rfl (WO.guardNo rfl rfl rfl rfl (WO.guardNo rfl rfl rfl rfl (WO.guardNo rfl rfl rfl rfl (WO.guardNo rfl rfl rfl rfl (WO.step rfl (OR.pickF rfl rfl rfl ?_)))))))
    refine WO.step rfl (OR.assign rfl (WO.done (WX.seq (WC.ret ?_))))
    refine WX.ret1 rfl rfl ?_
    exact .mk (hs.drop 0) rfl
set_option maxRecDepth 20000 in
set_option maxHeartbeats 2000000 in
theorem kdone_nil (h0 : Sub H0 w0) : Calls Tryz.prog 25 #[.pointer none] w0 (Pure H0 w0 fun v _ => v = .bool false) := by
  have hs := HS.init h0
  have hle := Hp.le.refl H0
  refine Calls.enter (args := [.pointer none]) Tryz.func25 rfl Tryz.ntmps25 rfl ?_
  refine WC.seq (WC.region (WO.step rfl (OR.assign rfl (WO.done (WX.seq (WC.seq (WC.region ?_)))))))
  refine WO.step rfl (OR.move rfl ?_)
  refine WO.step rfl (OR.call hs body23 rfl rfl (kknown_nil _ _ hs.toSub) ?_)
  clear hs; rintro _ H w hs hle1 rfl; replace hle := hle.trans hle1; (try replace hlb := hlb.trans hle1)
  refine WO.step rfl (OR.move rfl (WO.step rfl (OR.extract rfl rfl (WO.step rfl (OR.extract rfl rfl (WO.step rfl (OR.assign rfl ?_)))))))
  refine WO.step rfl (OR.assign rfl (WO.done (WX.seq (WC.seq (WC.region (WO.step rfl (OR.move rfl ?_)))))))
  refine WO.step rfl (OR.move rfl ?_)
  refine WO.guardNo rfl rfl rfl rfl (WO.guardNo rfl rfl rfl rfl (WO.guardNo rfl rfl rfl rfl (WO.guardNo rfl rfl rfl rfl (WO.guardNo rfl rfl rfl rfl (WO.guardNo rfl rfl rfl rfl (WO.step rfl (OR.pickF rfl rfl rfl ?_)))))))
  refine WO.step rfl (OR.assign rfl (WO.done (WX.seq (WC.ret ?_))))
  refine WX.ret1 rfl rfl ?_
  exact .mk hs rfl
end
def SinkD.totE (x : SinkD) (n : Nat) : Int := if n < x.dl ∨ 1099511627776 < n then 1 else if x.kn = true ∧ x.tot ≠ n then 9 else 0
def SinkD.total (x : SinkD) (n : Nat) : SinkD := if x.totE n = 0 then { x with tot := n, kn := true } else x
set_option maxRecDepth 20000 in
set_option maxHeartbeats 2000000 in
theorem ktotal_ok (kb n : Nat) (x : SinkD) (H0 : Hp) (w0 : World) (h0 : Sub H0 w0) (hb : w0.heap[kb]? = some (sinkObj x)) (hn : H0 kb = none) (hg : 1 ≤ x.g) :
    Calls Tryz.prog 19 #[ptr kb, .int .u64 (n : Int)] w0 (Ret [kb] H0 w0 fun v H' M' => v = .int .i64 (x.totE n) ∧ M' = [(kb, sinkObj (x.total n), true)]) := by
  have hs := HS.start1 h0 hb hn
  have hle := Hp.le.refl H0
  have fin : ∀ (e : Int) H w, x.totE n = e → e ≠ 0 → Hp.le H0 H → HS [kb] H0 w0 H [(kb, sinkObj x, true)] w → Ret [kb] H0 w0 (fun v H' M' => v = .int .i64 (x.totE n) ∧ M' = [(kb, sinkObj (x.total n), true)]) (.returned (.int .i64 e)) w := by
    intro e H w he h1 _ hs
    refine ⟨_, _, _, rfl, hs, by simp, by rw [he], ?_⟩
    rw [SinkD.total, if_neg (by rw [he]; exact h1)]
  refine Calls.enter (args := [ptr kb, .int .u64 (n : Int)]) Tryz.func19 rfl Tryz.ntmps19 rfl ?_
  refine WC.seq (WC.region (WO.step rfl (OR.assign rfl (WO.done (WX.seq (WC.seq (WC.block ?_)))))))
  refine WC.seq (WC.region (WO.step rfl (OR.move rfl ?_)))
  refine WO.step rfl (OR.call hs body68 rfl rfl (kmade_ok kb x _ _ hs.toSub (hs.blk (i := 0) rfl) (hs.nh (i := 0) rfl) hg) ?_)
  clear hs; rintro _ H w hs hle1 rfl; replace hle := hle.trans hle1; (try replace hlb := hlb.trans hle1)
  refine WO.step rfl (OR.not rfl (WO.step rfl (OR.assign rfl (WO.done (WX.seq ?_)))))
  refine WC.no rfl rfl ?_
  refine WC.seq (WC.region (WO.step rfl (OR.move rfl (WO.step rfl (OR.move rfl (WO.step rfl (OR.nilCheck rfl ?_)))))))
  refine WO.step rfl (OR.fieldAddr FA120_2 rfl (WO.step rfl (OR.load T22 rfl rfl (hs.cellM (i := 0) rfl rfl) (WO.step rfl (OR.lss rfl rfl (WO.step rfl (OR.move rfl ?_)))))))
  refine WO.guardSplit (j := 6) rfl (fun h1 => ?_) (fun h1 => ?_)
  · refine WO.guardNo rfl (decide_eq_true h1) rfl rfl (WO.guardNo rfl (decide_eq_true h1) rfl rfl (WO.step rfl (OR.pickT rfl (decide_eq_true h1) rfl (WO.step rfl (OR.assign rfl (WO.done (WX.seq ?_)))))))
    refine WC.yes rfl rfl (WC.seq (WC.region (WO.step rfl (OR.assign rfl (WO.done (WX.seq (WC.ret ?_)))))))
    refine WX.block_ret (WX.seq_ret ?_)
    refine WX.ret1 rfl rfl ?_
    exact fin 1 _ _ (by rw [SinkD.totE, if_pos (by omega)]) (by decide) hle hs
  · refine WO.guardYes rfl (decide_eq_false h1) rfl rfl (OR.move rfl (WO.guardYes rfl (decide_eq_false h1) rfl rfl (OR.gtr rfl rfl (WO.step rfl (OR.pickF rfl (decide_eq_false h1) rfl (WO.step rfl (OR.assign rfl ?_)))))))
    refine WO.done (WX.seq ?_)
    refine WC.condD rfl (fun h2 => ?_) (fun h2 => ?_)
    · refine WC.seq (WC.region (WO.step rfl (OR.assign rfl (WO.done (WX.seq (WC.ret (WX.block_ret ?_)))))))
      refine WX.seq_ret ?_
      refine WX.ret1 rfl rfl ?_
      exact fin 1 _ _ (by rw [SinkD.totE, if_pos (by omega)]) (by decide) hle hs
    · refine WC.seq (WC.region (WO.step rfl (OR.move rfl (WO.step rfl (OR.nilCheck rfl (WO.step rfl (OR.fieldAddr FA120_4 rfl ?_)))))))
      refine WO.step rfl (OR.load T4 rfl rfl (hs.cellM (i := 0) rfl rfl) (WO.step rfl (OR.move rfl ?_)))
      obtain ⟨kn, hk⟩ : ∃ b, b = x.kn := ⟨_, rfl⟩
      rw [← hk]
      cases kn with
      | false =>
        refine WO.guardNo rfl rfl rfl rfl (WO.guardNo rfl rfl rfl rfl (WO.guardNo rfl rfl rfl rfl (WO.guardNo rfl rfl rfl rfl (WO.guardNo rfl rfl rfl rfl (WO.guardNo rfl rfl rfl rfl (WO.step rfl (OR.pickF rfl rfl rfl ?_)))))))
        refine WO.step rfl (OR.assign rfl (WO.done (WX.seq (WC.no rfl rfl (WC.skip (WX.block (WX.seq ?_)))))))
        refine WC.seq (WC.region (WO.step rfl (OR.move rfl (WO.step rfl (OR.move rfl (WO.step rfl (OR.move rfl ?_)))))))
        refine WO.step rfl (OR.nilCheck rfl (WO.step rfl (OR.fieldAddr FA120_3 rfl (WO.stepN (OR.store hs T22 rfl rfl rfl (Nat.le_of_ble_eq_true rfl) rfl ?_)))))
        clear hs; intro w hs
        refine WO.step rfl (OR.nilCheck rfl (WO.step rfl (OR.fieldAddr FA120_4 rfl (WO.stepN (OR.store hs T4 rfl rfl rfl (Nat.le_of_ble_eq_true rfl) rfl ?_)))))
        clear hs; intro w hs
        refine WO.done (WX.seq (WC.seq (WC.region (WO.step rfl (OR.assign rfl (WO.done (WX.seq ?_)))))))
        refine WC.ret ?_
        refine WX.ret1 rfl rfl ?_
        refine ⟨_, _, _, rfl, hs, by simp, ?_, ?_⟩
        · rw [SinkD.totE, if_neg (by omega), if_neg (by rw [← hk]; simp)]
        · rw [SinkD.total, if_pos (by rw [SinkD.totE, if_neg (by omega), if_neg (by rw [← hk]; simp)])]
          rfl
      | true =>
        refine WO.guardYes rfl rfl rfl rfl (OR.move rfl (WO.guardYes rfl rfl rfl rfl (OR.nilCheck rfl (WO.guardYes rfl rfl rfl rfl (OR.fieldAddr FA120_3 rfl (WO.guardYes rfl rfl rfl rfl (OR.load T22 rfl rfl (hs.cellM (i := 0) rfl rfl) ?_)))))))
        refine WO.guardYes rfl rfl rfl rfl (OR.move rfl (WO.guardYes rfl rfl rfl rfl (OR.neq rfl rfl (WO.step rfl (OR.pickT rfl rfl rfl (WO.step rfl (OR.assign rfl ?_)))))))
        refine WO.done (WX.seq ?_)
        refine WC.condD rfl (fun h3 => ?_) (fun h3 => ?_)
        · refine WC.seq (WC.region (WO.step rfl (OR.assign rfl (WO.done (WX.seq (WC.ret (WX.block_ret ?_)))))))
          refine WX.seq_ret ?_
          refine WX.ret1 rfl rfl ?_
          exact fin 9 _ _ (by rw [SinkD.totE, if_neg (by omega), if_pos ⟨hk.symm, by omega⟩]) (by decide) hle hs
        · refine WC.skip (WX.block (WX.seq (WC.seq (WC.region (WO.step rfl (OR.move rfl (WO.step rfl ?_)))))))
          refine OR.move rfl (WO.step rfl (OR.move rfl (WO.step rfl (OR.nilCheck rfl (WO.step rfl (OR.fieldAddr FA120_3 rfl (WO.stepN ?_)))))))
          refine OR.store hs T22 rfl rfl rfl (Nat.le_of_ble_eq_true rfl) rfl ?_
          clear hs; intro w hs
          refine WO.step rfl (OR.nilCheck rfl (WO.step rfl (OR.fieldAddr FA120_4 rfl (WO.stepN (OR.store hs T4 rfl rfl rfl (Nat.le_of_ble_eq_true rfl) rfl ?_)))))
          clear hs; intro w hs
          refine WO.done (WX.seq (WC.seq (WC.region (WO.step rfl (OR.assign rfl (WO.done (WX.seq ?_)))))))
          refine WC.ret ?_
          refine WX.ret1 rfl rfl ?_
          have e : x.totE n = 0 := by rw [SinkD.totE, if_neg (by omega), if_neg (by rintro ⟨_, h⟩; omega)]
          refine ⟨_, _, _, rfl, hs, by simp, by rw [e], ?_⟩
          rw [SinkD.total, if_pos e]
          rfl
set_option maxRecDepth 20000 in
set_option maxHeartbeats 2000000 in
theorem ktotal_nil (n : Nat) (H0 : Hp) (w0 : World) (h0 : Sub H0 w0) : Calls Tryz.prog 19 #[.pointer none, .int .u64 (n : Int)] w0 (Pure H0 w0 fun v _ => v = .int .i64 2) := by
  have hs := HS.init h0
  have hle := Hp.le.refl H0
  refine Calls.enter (args := [.pointer none, .int .u64 (n : Int)]) Tryz.func19 rfl Tryz.ntmps19 rfl ?_
  refine WC.seq (WC.region (WO.step rfl (OR.assign rfl (WO.done (WX.seq (WC.seq (WC.block ?_)))))))
  refine WC.seq (WC.region (WO.step rfl (OR.move rfl ?_)))
  refine WO.step rfl (OR.call hs body68 rfl rfl (kmade_nil _ _ hs.toSub) ?_)
  clear hs; rintro _ H w hs hle1 rfl; replace hle := hle.trans hle1; (try replace hlb := hlb.trans hle1)
  refine WO.step rfl (OR.not rfl (WO.step rfl (OR.assign rfl (WO.done (WX.seq ?_)))))
  refine WC.yes rfl rfl ?_
  refine WC.seq (WC.region (WO.step rfl (OR.assign rfl (WO.done (WX.seq (WC.ret (WX.block_ret ?_)))))))
  refine WX.seq_ret ?_
  refine WX.ret1 rfl rfl ?_
  exact .mk hs rfl
set_option maxRecDepth 20000 in
set_option maxHeartbeats 2000000 in
theorem knew_ok (g s dl : Nat) (H0 : Hp) (w0 : World) (h0 : Sub H0 w0) :
    Calls Tryz.prog 10 #[.int .i64 (g : Int), .int .i64 (s : Int), .int .u64 (dl : Int)] w0 (Ret [] H0 w0 fun v H' M' => if (1 ≤ g ∧ g ≤ 255 ∧ 1 ≤ s ∧ s ≤ 65535 ∧ 4 < g * s) ∧ dl ≤ 1099511627776 then ∃ kb, v = .tuple #[ptr kb, .int .i64 0] ∧ M' = [(kb, sinkObj ⟨g, s, dl, 0, false, false⟩, true)] else v = .tuple #[.pointer none, .int .i64 1] ∧ M' = []) := by
  have hs := HS.init h0
  have hle := Hp.le.refl H0
  have hgs : ((g : Int) * (s : Int)) = ((g * s : Nat) : Int) := by simp
  refine Calls.enter (args := [.int .i64 (g : Int), .int .i64 (s : Int), .int .u64 (dl : Int)]) Tryz.func10 rfl Tryz.ntmps10 rfl ?_
  refine WC.seq (WC.region (WO.step rfl (OR.assign rfl (WO.step rfl (OR.assign rfl (WO.done (WX.seq ?_)))))))
  refine WC.seq (WC.seq (WC.region (WO.step rfl (OR.move rfl (WO.step rfl (OR.move rfl ?_))))))
  refine WO.step rfl (OR.call hs body62 rfl rfl (room_ok (g : Int) (s : Int) _ _ hs.toSub) ?_)
  clear hs; rintro _ H1 w hs hle1 hv
  rw [hgs] at hv
  by_cases hall : 1 ≤ g ∧ g ≤ 255 ∧ 1 ≤ s ∧ s ≤ 65535 ∧ 4 < g * s
  · rw [if_pos (by omega)] at hv
    subst hv
    refine WO.step rfl (OR.move rfl (WO.step rfl (OR.extract rfl rfl (WO.step rfl (OR.extract rfl rfl (WO.step rfl (OR.assign rfl ?_)))))))
    refine WO.step rfl (OR.assign rfl (WO.done (WX.seq (WC.seq (WC.region (WO.step rfl (OR.move rfl ?_)))))))
    refine WO.step rfl (OR.neq rfl rfl (WO.step rfl (OR.move rfl ?_)))
    refine WO.guardYes rfl rfl rfl rfl (OR.move rfl (WO.guardYes rfl rfl rfl rfl (OR.gtr rfl rfl (WO.step rfl (OR.pickF rfl rfl rfl (WO.done (WX.seq ?_)))))))
    refine WC.condD rfl (fun hd => ?_) (fun hd => ?_)
    · refine WC.seq (WC.region (WO.step rfl (OR.assign rfl (WO.step rfl (OR.assign rfl (WO.done (WX.seq ?_)))))))
      refine WC.ret (WX.seq_ret ?_)
      refine WX.ret2 rfl rfl rfl ?_
      refine ⟨_, _, [], rfl, hs, by simp, ?_⟩
      show ite _ _ _
      rw [if_neg (fun h => by have := h.2; omega)]
      exact ⟨rfl, rfl⟩
    · refine WC.skip (WX.seq (WC.seq (WC.region (WO.step rfl (OR.move rfl (WO.step rfl (OR.move rfl ?_)))))))
      refine WO.step rfl (OR.move rfl ?_)
      refine WO.step rfl (OR.build (cs := #[.int .i64 (g : Int), .int .i64 (s : Int), .int .u64 (dl : Int), .int .u64 0, .bool false, .bool false]) rfl (by intro w; kernel_rfl) ?_)
      refine WO.step rfl (OR.box hs rfl ?_)
      clear hs; intro g1 w hg1 hs
      refine WO.step rfl (OR.assign rfl (WO.step rfl (OR.assign rfl (WO.done (WX.seq (WC.ret ?_))))))
      refine WX.ret2 rfl rfl rfl ?_
      refine ⟨_, _, [_], rfl, hs, by simp, ?_⟩
      show ite _ _ _
      rw [if_pos ⟨hall, by omega⟩]
      exact ⟨g1, rfl, rfl⟩
  · rw [if_neg (by omega)] at hv
    subst hv
    refine WO.step rfl (OR.move rfl (WO.step rfl (OR.extract rfl rfl (WO.step rfl (OR.extract rfl rfl (WO.step rfl (OR.assign rfl ?_)))))))
    refine WO.step rfl (OR.assign rfl (WO.done (WX.seq (WC.seq (WC.region (WO.step rfl (OR.move rfl ?_)))))))
    refine WO.step rfl (OR.neq rfl rfl (WO.step rfl (OR.move rfl ?_)))
    refine WO.guardNo rfl rfl rfl rfl (WO.guardNo rfl rfl rfl rfl (WO.step rfl (OR.pickT rfl rfl rfl (WO.done (WX.seq (WC.yes rfl rfl (WC.seq ?_)))))))
    refine WC.region (WO.step rfl (OR.assign rfl (WO.step rfl (OR.assign rfl (WO.done (WX.seq (WC.ret ?_)))))))
    refine WX.seq_ret ?_
    refine WX.ret2 rfl rfl rfl ?_
    refine ⟨_, _, [], rfl, hs, by simp, ?_⟩
    show ite _ _ _
    rw [if_neg (fun h => hall h.1)]
    exact ⟨rfl, rfl⟩
end Go.Bw
namespace Go.Bw
set_option linter.unusedVariables false
set_option linter.unusedSimpArgs false
open Go.Proofs

theorem relMem_false {x : RelD} {rb wb : Nat} {l : Slots} {b : Nat} {o : Obj} {t : Bool} (h : (b, o, t) ∈ relMem false x rb wb l) : t = false := by
  rcases List.mem_cons.1 h with e | h
  · cases e; rfl
  · rcases List.mem_cons.1 h with e | h
    · cases e; rfl
    · exact (slotMem_ro h).1
theorem HS.relRO2 {xs : List Nat} {H0 H : Hp} {w0 w : World} {x : RelD} {rb wb : Nat} {l : Slots} {Mr : Mem} (hs : HS xs H0 w0 H (relMem false x rb wb l ++ Mr) w) : HS [] H w H (relMem false x rb wb l) w := by
  refine HS.start [] hs.sub (fun b o t h => ?_) ?_
  · have h1 := hs.mem b o t (List.mem_append_left _ h)
    exact ⟨h1.1, h1.2.1, fun ht => by rw [relMem_false h] at ht; cases ht⟩
  · have h1 := hs.nd
    simp only [Mem.keys, List.map_append, List.nodup_append] at h1
    exact h1.1
def MF.tupLL (ll : List (List UInt8)) (e : Int) : MF := MF.of (fun v H => ∃ r, v = .tuple #[r, .int .i64 e] ∧ BytesL H r ll) fun _ _ _ hle ⟨r, h1, h2⟩ => ⟨r, h1, h2.mono hle⟩

/-- What a relay's generation comes to. -/
def rdyF (x : RelD) (d : Nat) : List UInt8 := padF (x.g * x.s - 4) (x.solF d).flatten
def rdyE (x : RelD) (d : Nat) : Int := padE (x.g * x.s - 4) (x.solF d).flatten
theorem RelD.sol_in {x : RelD} {d : Nat} (h : x.solE d = 0) : inWin x.base x.width d := by
  unfold RelD.solE at h
  split at h
  · assumption
  · cases h
theorem RelD.sol_full {x : RelD} {d : Nat} (hok : RelOk x) (h : x.solE d = 0) : (x.solF d).length = x.g ∧ ∀ r ∈ x.solF d, r.length = x.s := by
  have hin := x.sol_in h
  have hr := hok.red (d % x.width)
  rw [RelD.solE, if_pos hin] at h
  have hl : ¬ (x.rows (d % x.width)).length < x.g := fun hl => by rw [if_pos hl] at h; cases h
  rw [RelD.solF, if_pos hin, if_neg hl]
  have h2 := hr.len
  refine ⟨by rw [List.length_map]; omega, fun r hr' => ?_⟩
  obtain ⟨y, hy, rfl⟩ := List.mem_map.1 hr'
  exact (hr.gs y hy).2
abbrev skD (x : RelD) (tot : Nat) (kn br : Bool) (d : Nat) : SinkD := ⟨x.g, x.s, d, tot, kn, br⟩
set_option maxRecDepth 20000 in
set_option maxHeartbeats 2000000 in
theorem ready1_ok (kb rb wb lp K R d0 tot : Nat) (kn br : Bool) (x : RelD) (l : Slots) (xs : List Nat) (H0 : Hp) (w0 : World) (H9 : Hp) (hx : SlotsOk H9 x l) (hok : RelOk x) (hgs4 : 4 < x.g * x.s) (hd0 : d0 ≤ 1099511627776) (hK : hcell H9 ⟨K, 0, none⟩ = some (ptr kb)) (hR : hcell H9 ⟨R, 0, none⟩ = some (ptr rb))
    (I : Nat → Hp → Mem → Prop) (hI : ∀ k H H' M, Hp.le H H' → I k H M → I k H' M) (hI9 : ∀ k H M, I k H M → Hp.le H9 H) (Cx : World → Prop)
    (hround : ∀ n H M w v, d0 + n < 1099511627776 → x.solE (d0 + n) = 0 → rdyE x (d0 + n) = 0 → HS xs H0 w0 H ((kb, sinkObj (skD x tot kn br (d0 + n)), true) :: (relMem false x rb wb l ++ M)) w → I n H M → Bytes H v (rdyF x (d0 + n)) → YieldAt (fen none) 0 Tryz.prog lp #[v, .int .i64 0] w (fun e w' =>
      e = .returned (.bool true) ∧ ∃ H' M', HS xs H0 w0 H' ((kb, sinkObj (skD x tot kn br (d0 + n + 1)), true) :: (relMem false x rb wb l ++ M')) w' ∧ I (n + 1) H' M'))
    (hbad : ∀ n H M w, d0 + n < 1099511627776 → x.solE (d0 + n) = 0 → rdyE x (d0 + n) ≠ 0 → HS xs H0 w0 H ((kb, sinkObj (skD x tot kn br (d0 + n)), true) :: (relMem false x rb wb l ++ M)) w → I n H M → YieldAt (fen none) 0 Tryz.prog lp #[.slice none 0 0, .int .i64 5] w (fun e w' => (∃ b, e = .returned (.bool b)) ∧ Cx w'))
    (H1 : Hp) (M1 : Mem) (w1 : World) (hs : HS xs H0 w0 H1 ((kb, sinkObj (skD x tot kn br d0), true) :: (relMem false x rb wb l ++ M1)) w1) (h0 : I 0 H1 M1) :
    Calls Tryz.prog 115 #[.func (.yield lp) #[] #[], ptr K, ptr R] w1 (fun e w' => e = .returned (.tuple #[]) ∧ ((∃ n H' M', (d0 + n = 1099511627776 ∨ x.solE (d0 + n) ≠ 0) ∧ HS xs H0 w0 H' ((kb, sinkObj (skD x tot kn br (d0 + n)), true) :: (relMem false x rb wb l ++ M')) w' ∧ I n H' M') ∨ Cx w')) := by
  have hle := Hp.le.refl H1
  have hgs : 1 ≤ x.g ∧ x.g ≤ 255 ∧ 1 ≤ x.s ∧ x.s ≤ 65535 ∧ 4 < x.g * x.s := ⟨hok.g1, hok.g2, hok.s1, hok.s2, hgs4⟩
  refine Calls.enter (args := [.func (.yield lp) #[] #[], ptr K, ptr R]) Tryz.func115 rfl Tryz.ntmps115 rfl ?_
  refine WC.block ?_
  refine WC.loop (ι := Nat) (fun n => [(0, .func (.yield lp) #[] #[]), (1, ptr K), (2, ptr R)]) (fun n w => (d0 + n ≤ 1099511627776 ∧ ∃ H M, HS xs H0 w0 H ((kb, sinkObj (skD x tot kn br (d0 + n)), true) :: (relMem false x rb wb l ++ M)) w ∧ I n H M)) (fun n => 1099511627777 - (d0 + n)) 0 ⟨rfl, rfl, rfl,  trivial⟩ ?_ (fun n w hW => ?_)
  · exact ⟨by omega, H1, M1, hs, h0⟩
  clear hs hle
  obtain ⟨hdn, H, M, hs, hinv⟩ := hW
  have hle := Hp.le.refl H
  have hl9 := hI9 _ _ _ hinv
  refine WC.seq (WC.seq (WC.region ?_))
  refine WO.step rfl (OR.load T27 rfl rfl (hs.cell (hcell.mono hl9 hK)) ?_)
  refine WO.step rfl (OR.nilCheck rfl (WO.step rfl (OR.fieldAddr FA120_2 rfl (WO.step rfl (OR.load T22 rfl rfl (hs.cellM (i := 0) rfl rfl) (WO.step rfl (OR.lss rfl rfl ?_)))))))
  refine WO.done (WX.seq ?_)
  refine WC.condD rfl (fun hlt => ?_) (fun hlt => ?_)
  · have hlt2 : d0 + n < 1099511627776 := by have h : ((d0 + n : Nat) : Int) < 1099511627776 := hlt; omega
    refine WC.skip (WX.seq (WC.block (WC.seq ?_)))
    refine WC.drawL 9 8 mixed hs (by kernel_rfl) ?_
    refine ⟨MF.eq (ptr rb), ?_, ?_⟩
    · intro Mx H w hle2 hs; (try replace hle := hle.trans hle2); (try replace hlb := hlb.trans hle2)
      refine forVals_nil (ORg.plain (OR.load T34 rfl rfl (hs.cell (hcell.mono (hl9.trans hle) hR)) ?_))
      exact ⟨_, [], Hp.le.refl _, hs, rfl, rfl⟩
    refine ⟨MF.eq (ptr kb), ?_, ?_⟩
    · intro Mx H w hle2 hs; (try replace hle := hle.trans hle2); (try replace hlb := hlb.trans hle2)
      refine forVals_nil (ORg.plain (OR.load T27 rfl rfl (hs.cell (hcell.mono (hl9.trans hle) hK)) ?_))
      exact ⟨_, [], Hp.le.refl _, hs, rfl, rfl⟩
    refine ⟨MF.eq _, by intro Mx H w hle hs; refine forVals_eq rfl rfl rfl ?_; refine forVals_nil (ORg.plain (OR.nilCheck rfl ?_)); exact ⟨_, [], Hp.le.refl _, hs, rfl, rfl⟩, ?_⟩
    refine ⟨MF.eq _, by intro Mx H w hle hs; refine forVals_eq rfl rfl rfl ?_; refine forVals_nil (ORg.plain (OR.fieldAddr FA120_2 rfl ?_)); exact ⟨_, [], Hp.le.refl _, hs, rfl, rfl⟩, ?_⟩
    refine ⟨MF.eq (.int .u64 ((d0 + n : Nat) : Int)), ?_, ?_⟩
    · intro Mx H w hle2 hs; (try replace hle := hle.trans hle2); (try replace hlb := hlb.trans hle2); refine forVals_eq rfl rfl rfl ?_
      refine forVals_nil (ORg.plain (OR.load T22 rfl rfl (hs.right.cellM (i := 0) rfl rfl) ?_))
      exact ⟨_, [], Hp.le.refl _, hs, rfl, rfl⟩
    refine ⟨MF.tupLL (x.solF (d0 + n)) (x.solE (d0 + n)), ?_, ?_⟩
    · intro Mx H w hle2 hs; (try replace hle := hle.trans hle2); (try replace hlb := hlb.trans hle2); refine forVals_eq rfl rfl rfl ?_; refine forVals_eq rfl rfl rfl ?_
      refine forVals_nil (ORg.plain (OR.call hs body116 rfl rfl (rsolve_ok rb wb (d0 + n) x l _ _ (HS.relRO2 (hs.right.drop 0)) (hx.mono (hl9.trans hle)) hok (by omega)) ?_))
      clear hs; rintro _ H w hs hle1 ⟨r, rfl, hr⟩
      exact ⟨_, [], hle1, hs, ⟨r, rfl, hr⟩, rfl⟩
    refine ⟨MF.tupLL (x.solF (d0 + n)) (x.solE (d0 + n)), ?_, ?_⟩
    · intro Mx H w hle2 hs; (try replace hle := hle.trans hle2); (try replace hlb := hlb.trans hle2); refine forVals_of rfl rfl rfl ?_; intro v5 h5
      refine forVals_nil (ORg.plain (OR.move rfl ?_))
      exact ⟨_, [], Hp.le.refl _, hs, h5, rfl⟩
    refine ⟨MF.bytesL (x.solF (d0 + n)), ?_, ?_⟩
    · intro Mx H w hle2 hs; (try replace hle := hle.trans hle2); (try replace hlb := hlb.trans hle2); refine forVals_of rfl rfl rfl ?_; intro v6 h6
      obtain ⟨r, rfl, hr⟩ := h6
      refine forVals_nil (ORg.plain (OR.extract rfl rfl ?_))
      exact ⟨_, [], Hp.le.refl _, hs, hr, rfl⟩
    refine ⟨MF.eq (.int .i64 (x.solE (d0 + n))), ?_, ?_⟩
    · intro Mx H w hle2 hs; (try replace hle := hle.trans hle2); (try replace hlb := hlb.trans hle2); refine forVals_of rfl rfl rfl ?_; intro v6 h6
      obtain ⟨r, rfl, hr⟩ := h6
      refine forVals_nil (ORg.plain (OR.extract rfl rfl ?_))
      exact ⟨_, [], Hp.le.refl _, hs, rfl, rfl⟩
    intro H w hle2; (try replace hle := hle.trans hle2); (try replace hlb := hlb.trans hle2)
    refine forAllVals_eq rfl ?_
    refine forAllVals_eq rfl ?_
    refine forAllVals_eq rfl ?_
    refine forAllVals_eq rfl ?_
    refine forAllVals_eq rfl ?_
    refine forAllVals_of rfl ?_; intro v5 h5
    refine forAllVals_of rfl ?_; intro v6 h6
    refine forAllVals_of rfl ?_; intro v7 h7
    refine forAllVals_eq rfl ?_
    refine forAllVals_nil ?_; (try clear hs); intro hs
    refine WO.step rfl (OR.assign rfl (WO.step rfl (OR.assign rfl (WO.done (WX.seq (WC.seq (WC.seq ?_)))))))
    refine WC.region (WO.step rfl (OR.move rfl (WO.step rfl (OR.neq rfl rfl (WO.done (WX.seq ?_))))))
    refine WC.condD rfl (fun hsol => ?_) (fun hsol => ?_)
    · refine WC.ret (WX.seq_ret (WX.block_ret (WX.loop_ret (WX.block_ret ?_))))
      refine WX.ret0 rfl ?_
      exact ⟨rfl, .inl ⟨n, _, _, .inr hsol, hs, hI _ _ _ _ hle hinv⟩⟩
    · have hsol0 : x.solE (d0 + n) = 0 := by omega
      have hin := x.sol_in hsol0
      have hfull := x.sol_full hok hsol0
      obtain ⟨b7, c7, rfl⟩ := h7.form
      refine WC.skip (WX.seq (WC.seq ?_))
      refine WC.sub [(0, .func (.yield lp) #[] #[]), (1, ptr K), (2, ptr R), (4, .slice b7 (x.solF (d0 + n)).length c7)] ⟨rfl, rfl, rfl, rfl,  trivial⟩ ?_
      have hlb := Hp.le.refl H
      have hr7 := h7
      clear h7
      refine WC.drawL 13 12 mixed hs (by kernel_rfl) ?_
      refine ⟨MF.eq _, by intro Mx H w hle hs; refine forVals_nil (ORg.plain (OR.move rfl ?_)); exact ⟨_, [], Hp.le.refl _, hs, rfl, rfl⟩, ?_⟩
      refine ⟨MF.eq (ptr kb), ?_, ?_⟩
      · intro Mx H w hle2 hs; (try replace hle := hle.trans hle2); (try replace hlb := hlb.trans hle2)
        refine forVals_nil (ORg.plain (OR.load T27 rfl rfl (hs.cell (hcell.mono (hl9.trans hle) hK)) ?_))
        exact ⟨_, [], Hp.le.refl _, hs, rfl, rfl⟩
      refine ⟨MF.eq _, by intro Mx H w hle hs; refine forVals_eq rfl rfl rfl ?_; refine forVals_nil (ORg.plain (OR.nilCheck rfl ?_)); exact ⟨_, [], Hp.le.refl _, hs, rfl, rfl⟩, ?_⟩
      refine ⟨MF.eq _, by intro Mx H w hle hs; refine forVals_eq rfl rfl rfl ?_; refine forVals_nil (ORg.plain (OR.fieldAddr FA120_0 rfl ?_)); exact ⟨_, [], Hp.le.refl _, hs, rfl, rfl⟩, ?_⟩
      refine ⟨MF.eq (.int .i64 (x.g : Int)), ?_, ?_⟩
      · intro Mx H w hle2 hs; (try replace hle := hle.trans hle2); (try replace hlb := hlb.trans hle2); refine forVals_eq rfl rfl rfl ?_
        refine forVals_nil (ORg.plain (OR.load T3 rfl rfl (hs.right.cellM (i := 0) rfl rfl) ?_))
        exact ⟨_, [], Hp.le.refl _, hs, rfl, rfl⟩
      refine ⟨MF.eq (ptr kb), ?_, ?_⟩
      · intro Mx H w hle2 hs; (try replace hle := hle.trans hle2); (try replace hlb := hlb.trans hle2)
        refine forVals_nil (ORg.plain (OR.load T27 rfl rfl (hs.cell (hcell.mono (hl9.trans hle) hK)) ?_))
        exact ⟨_, [], Hp.le.refl _, hs, rfl, rfl⟩
      refine ⟨MF.eq _, by intro Mx H w hle hs; refine forVals_eq rfl rfl rfl ?_; refine forVals_nil (ORg.plain (OR.nilCheck rfl ?_)); exact ⟨_, [], Hp.le.refl _, hs, rfl, rfl⟩, ?_⟩
      refine ⟨MF.eq _, by intro Mx H w hle hs; refine forVals_eq rfl rfl rfl ?_; refine forVals_nil (ORg.plain (OR.fieldAddr FA120_1 rfl ?_)); exact ⟨_, [], Hp.le.refl _, hs, rfl, rfl⟩, ?_⟩
      refine ⟨MF.eq (.int .i64 (x.s : Int)), ?_, ?_⟩
      · intro Mx H w hle2 hs; (try replace hle := hle.trans hle2); (try replace hlb := hlb.trans hle2); refine forVals_eq rfl rfl rfl ?_
        refine forVals_nil (ORg.plain (OR.load T3 rfl rfl (hs.right.cellM (i := 0) rfl rfl) ?_))
        exact ⟨_, [], Hp.le.refl _, hs, rfl, rfl⟩
      refine ⟨MF.tupB (rdyF x (d0 + n)) (rdyE x (d0 + n)), ?_, ?_⟩
      · intro Mx H w hle2 hs; (try replace hle := hle.trans hle2); (try replace hlb := hlb.trans hle2); refine forVals_eq rfl rfl rfl ?_; refine forVals_eq rfl rfl rfl ?_; refine forVals_eq rfl rfl rfl ?_
        refine forVals_nil (ORg.plain (OR.call hs body117 rfl rfl (ptakeG_ok x.g x.s _ (x.solF (d0 + n)) _ _ hs.toSub hgs (hr7.mono hlb) hfull.1 hfull.2) ?_))
        clear hs; rintro _ H w hs hle1 ⟨r, rfl, hr⟩
        exact ⟨_, [], hle1, hs, ⟨r, rfl, hr⟩, rfl⟩
      refine ⟨MF.tupB (rdyF x (d0 + n)) (rdyE x (d0 + n)), ?_, ?_⟩
      · intro Mx H w hle2 hs; (try replace hle := hle.trans hle2); (try replace hlb := hlb.trans hle2); refine forVals_of rfl rfl rfl ?_; intro v9 h9
        refine forVals_nil (ORg.plain (OR.move rfl ?_))
        exact ⟨_, [], Hp.le.refl _, hs, h9, rfl⟩
      refine ⟨MF.bytes (rdyF x (d0 + n)), ?_, ?_⟩
      · intro Mx H w hle2 hs; (try replace hle := hle.trans hle2); (try replace hlb := hlb.trans hle2); refine forVals_of rfl rfl rfl ?_; intro v10 h10
        obtain ⟨r, rfl, hr⟩ := h10
        refine forVals_nil (ORg.plain (OR.extract rfl rfl ?_))
        exact ⟨_, [], Hp.le.refl _, hs, hr, rfl⟩
      refine ⟨MF.eq (.int .i64 (rdyE x (d0 + n))), ?_, ?_⟩
      · intro Mx H w hle2 hs; (try replace hle := hle.trans hle2); (try replace hlb := hlb.trans hle2); refine forVals_of rfl rfl rfl ?_; intro v10 h10
        obtain ⟨r, rfl, hr⟩ := h10
        refine forVals_nil (ORg.plain (OR.extract rfl rfl ?_))
        exact ⟨_, [], Hp.le.refl _, hs, rfl, rfl⟩
      intro H w hle2; (try replace hle := hle.trans hle2); (try replace hlb := hlb.trans hle2)
      refine forAllVals_eq rfl ?_
      refine forAllVals_eq rfl ?_
      refine forAllVals_eq rfl ?_
      refine forAllVals_eq rfl ?_
      refine forAllVals_eq rfl ?_
      refine forAllVals_eq rfl ?_
      refine forAllVals_eq rfl ?_
      refine forAllVals_eq rfl ?_
      refine forAllVals_eq rfl ?_
      refine forAllVals_of rfl ?_; intro v9 h9
      refine forAllVals_of rfl ?_; intro v10 h10
      refine forAllVals_of rfl ?_; intro v11 h11
      refine forAllVals_eq rfl ?_
      refine forAllVals_nil ?_; (try clear hs); intro hs
      have hinv2 := hI _ _ _ _ hle hinv
      have hch := h11
      refine WO.step rfl (OR.assign rfl (WO.step rfl (OR.assign rfl (WO.done (WX.seq (WC.seq (WC.seq ?_)))))))
      refine WC.region (WO.step rfl (OR.move rfl (WO.step rfl (OR.neq rfl rfl (WO.done (WX.seq ?_))))))
      refine WC.condD rfl (fun hbd => ?_) (fun hbd => ?_)
      · refine WC.seq ?_
        refine WC.regionR ?_
        refine RO.step rfl rfl (OR.move rfl ?_)
        refine RO.yield rfl rfl rfl (hbad n _ _ _ hlt2 hsol0 hbd hs hinv2) ?_
        rintro e w hC
        obtain ⟨⟨b, rfl⟩, hC⟩ := hC
        refine ⟨_, rfl, ?_⟩
        refine RO.doneW ?_
        refine WX.seq (WC.ret (WX.seq_ret (WX.block_ret (WX.loop_ret (WX.block_ret ?_)))))
        refine WX.ret0 rfl ?_
        exact ⟨rfl, .inr hC⟩
      · have hrd : rdyE x (d0 + n) = 0 := by omega
        refine WC.skip (WX.seq (WC.seq ?_))
        refine WC.regionR ?_
        refine RO.step rfl rfl (OR.move rfl (RO.step rfl rfl (OR.move rfl ?_)))
        refine RO.yield rfl rfl rfl (hround n _ _ _ _ hlt2 hsol0 hrd hs hinv2 hch) ?_
        rintro e w hC
        obtain ⟨rfl, H2, M2, hs, hinv3⟩ := hC
        refine ⟨_, rfl, ?_⟩
        refine RO.step rfl rfl (OR.not rfl ?_)
        refine RO.doneW ?_
        refine WX.seq ?_
        refine WC.no rfl rfl ?_
        refine WC.skip (WX.block ?_)
        refine WX.again (n + 1) ⟨rfl, rfl, rfl,  trivial⟩ ?_ ?_
        · exact ⟨by omega, H2, M2, hs, hinv3⟩
        · omega
  · refine WC.exit (WX.seq_exit (WX.loop_exit (WX.block_hit ?_)))
    refine WX.end0 rfl ?_
    exact ⟨rfl, .inl ⟨n, _, _, .inl (by have h : ¬ ((d0 + n : Nat) : Int) < 1099511627776 := hlt; omega), hs, hI _ _ _ _ hle hinv⟩⟩
end Go.Bw
namespace Go.Bw
set_option linter.unusedVariables false
set_option linter.unusedSimpArgs false
open Go.Proofs

set_option maxRecDepth 20000 in
set_option maxHeartbeats 2000000 in
theorem kready_ok (kb rb : Nat) (H0 : Hp) (w0 : World) (h0 : Sub H0 w0) :
    Calls Tryz.prog 69 #[ptr kb, ptr rb] w0 (Pure H0 w0 fun v H' => ∃ K R, v = .func (.func 115) #[] #[ptr K, ptr R] ∧ hcell H' ⟨K, 0, none⟩ = some (ptr kb) ∧ hcell H' ⟨R, 0, none⟩ = some (ptr rb)) := by
  have hs := HS.init h0
  have hle := Hp.le.refl H0
  refine Calls.enter (args := [ptr kb, ptr rb]) Tryz.func69 rfl Tryz.ntmps69 rfl ?_
  refine WC.seq (WC.region (WO.step rfl (OR.box hs rfl ?_)))
  clear hs; intro g1 w hg1 hs
  refine WO.step rfl (OR.box hs rfl ?_)
  clear hs; intro g2 w hg2 hs
  refine WO.step rfl (OR.assign rfl (WO.done (WX.seq (WC.seq (WC.region (WO.step rfl (OR.makeFunc rfl rfl ?_)))))))
  refine WO.step rfl (OR.assign rfl (WO.done (WX.seq (WC.ret ?_))))
  refine WX.ret1 rfl rfl ?_
  obtain ⟨H1, hle1, hp1, hs⟩ := HS.pub1 hs hg2
  obtain ⟨H2, hle2, hp2, hs⟩ := HS.pub1 hs hg1
  exact .mk hs ⟨g1, g2, rfl, hcell_of hp2 rfl, hcell.mono hle2 (hcell_of hp1 rfl)⟩

theorem perA {A R Mo : Mem} {p : Nat × Obj × Bool} : (A ++ (p :: (R ++ Mo))).Perm (p :: (R ++ (A ++ Mo))) := by
  refine List.perm_middle.trans (List.Perm.cons p ?_)
  rw [← List.append_assoc, ← List.append_assoc]
  exact List.perm_append_comm.append_right Mo
theorem perB {A R Mo : Mem} {p : Nat × Obj × Bool} : (Mo ++ (A ++ (p :: R))).Perm (A ++ (p :: (R ++ Mo))) := by
  refine List.perm_append_comm.trans ?_
  rw [List.append_assoc, List.cons_append]
theorem perC {A R : Mem} {p : Nat × Obj × Bool} : (p :: (R ++ A)).Perm (A ++ (p :: R)) :=
  ((List.Perm.cons p List.perm_append_comm).trans List.perm_middle.symm)

def goodTo (x : RelD) (d0 n : Nat) : Prop := ∀ i < n, x.solE (d0 + i) = 0 ∧ rdyE x (d0 + i) = 0
theorem goodTo.few {x : RelD} {d0 n : Nat} (h : goodTo x d0 n) (hok : RelOk x) : n ≤ 16 := by
  have hw := hok.w2
  cases n with
  | zero => omega
  | succ n =>
    have h1 := x.sol_in (h 0 (by omega)).1
    have h2 := x.sol_in (h n (by omega)).1
    have h3 : winEnd x.base x.width ≤ x.base + x.width := Nat.min_le_left _ _
    have h4 := h1.1
    have h5 := h2.2
    omega
theorem goodTo.succ {x : RelD} {d0 n : Nat} (h : goodTo x d0 n) (h1 : x.solE (d0 + n) = 0) (h2 : rdyE x (d0 + n) = 0) : goodTo x d0 (n + 1) := by
  intro i hi
  rcases Nat.lt_or_ge i n with h3 | h3
  · exact h i h3
  · obtain rfl : i = n := by omega
    exact ⟨h1, h2⟩
def rdyL (x : RelD) (d0 n : Nat) : List (List UInt8) := (List.range n).map fun i => rdyF x (d0 + i)
def ChIn (H : Hp) (x : RelD) (d0 n : Nat) (cs : List Value) : Prop := cs.length = n ∧ ∀ i (_ : i < n) (h' : i < cs.length), Bytes H cs[i] (rdyF x (d0 + i))
theorem ChIn.mono {H H' : Hp} {x : RelD} {d0 n : Nat} {cs : List Value} (h : ChIn H x d0 n cs) (hle : Hp.le H H') : ChIn H' x d0 n cs := ⟨h.1, fun i h1 h2 => (h.2 i h1 h2).mono hle⟩
theorem ChIn.snoc {H : Hp} {x : RelD} {d0 n : Nat} {cs : List Value} {v : Value} (h : ChIn H x d0 n cs) (hv : Bytes H v (rdyF x (d0 + n))) : ChIn H x d0 (n + 1) (cs ++ [v]) := by
  refine ⟨by rw [List.length_append, h.1]; rfl, fun i h1 h2 => ?_⟩
  rcases Nat.lt_or_ge i n with h3 | h3
  · rw [List.getElem_append_left (by rw [h.1]; exact h3)]
    exact h.2 i h3 _
  · obtain rfl : i = n := by omega
    rw [List.getElem_append_right (by rw [h.1]; omega)]
    simpa using hv
theorem ChIn.bytesL {H : Hp} {x : RelD} {d0 n : Nat} {cs : List Value} {v : Value} (h : ChIn H x d0 n cs) (hs : Sl H 1 v n cs) : BytesL H v (rdyL x d0 n) := by
  have hl : (rdyL x d0 n).length = n := by simp [rdyL]
  refine ⟨cs, by rw [hl]; exact hs, by rw [hl, h.1], fun i h1 h2 => ?_⟩
  have : (rdyL x d0 n)[i] = rdyF x (d0 + i) := by simp [rdyL]
  rw [this]
  exact h.2 i (by omega) h2

set_option maxRecDepth 20000 in
set_option maxHeartbeats 2000000 in
theorem krel_nil (v : Value) (H0 : Hp) (w0 : World) (h0 : Sub H0 w0) :
    Calls Tryz.prog 14 #[.pointer none, v] w0 (Pure H0 w0 fun u _ => u = .tuple #[.slice none 0 0, .int .i64 2]) := by
  have hs := HS.init h0
  have hle := Hp.le.refl H0
  refine Calls.enterM (args := [.pointer none, v]) Tryz.func14 rfl Tryz.ntmps14 rfl ?_
  refine WC.seq (WC.region (WO.step rfl (OR.box hs rfl ?_)))
  clear hs; intro g1 w hg1 hs
  refine WO.step rfl (OR.alloc hs T40 ?_)
  clear hs; intro g2 w hg2 hs
  refine WO.step rfl (OR.alloc hs T28 ?_)
  clear hs; intro g3 w hg3 hs
  refine WO.done (WX.seq (WC.seq (WC.block (WC.seq (WC.region (WO.step rfl (OR.load T27 rfl rfl (hs.cellM (i := 2) rfl rfl) ?_)))))))
  refine WO.step rfl (OR.call hs body68 rfl rfl (kmade_nil _ _ hs.toSub) ?_)
  clear hs; rintro _ H w hs hle1 rfl; replace hle := hle.trans hle1; (try replace hlb := hlb.trans hle1)
  refine WO.step rfl (OR.not rfl (WO.step rfl (OR.move rfl ?_)))
  refine WO.guardNo rfl rfl rfl rfl (WO.guardNo rfl rfl rfl rfl (WO.step rfl (OR.pickT rfl rfl rfl (WO.step rfl (OR.assign rfl (WO.done (WX.seq ?_)))))))
  refine WC.yes rfl rfl (WC.seq (WC.region ?_))
  replace hs := hs.front (i := 1) rfl
  refine WO.stepN (OR.storeAll hs T40 rfl rfl rfl rfl rfl ?_)
  clear hs; intro w hs
  replace hs := hs.front (i := 1) rfl
  refine WO.stepN (OR.storeAll hs T28 rfl rfl rfl rfl rfl ?_)
  clear hs; intro w hs
  refine WO.done (WX.seq (WC.ret (WX.block_ret (WX.seq_ret ?_))))
  refine WX.retM0 fun a ha => ⟨_, results_CC T40 rfl T28 rfl rfl (ha 4 _ rfl) (hs.cellM (i := 1) rfl rfl) (ha 5 _ rfl) (hs.cellM (i := 0) rfl rfl), ?_⟩
  exact .mk (((hs.drop 0).drop 0).drop 0) rfl
set_option maxRecDepth 20000 in
set_option maxHeartbeats 2000000 in
theorem krel_nilr (kb : Nat) (x : SinkD) (H0 : Hp) (w0 : World) (h0 : Sub H0 w0) (hb : w0.heap[kb]? = some (sinkObj x)) (hn : H0 kb = none) (hg : 1 ≤ x.g) :
    Calls Tryz.prog 14 #[ptr kb, .pointer none] w0 (Pure H0 w0 fun u _ => u = .tuple #[.slice none 0 0, .int .i64 2]) := by
  have hs := HS.startR h0 hb hn
  have hle := Hp.le.refl H0
  refine Calls.enterM (args := [ptr kb, .pointer none]) Tryz.func14 rfl Tryz.ntmps14 rfl ?_
  refine WC.seq (WC.region (WO.step rfl (OR.box hs rfl ?_)))
  clear hs; intro g1 w hg1 hs
  refine WO.step rfl (OR.alloc hs T40 ?_)
  clear hs; intro g2 w hg2 hs
  refine WO.step rfl (OR.alloc hs T28 ?_)
  clear hs; intro g3 w hg3 hs
  refine WO.done (WX.seq (WC.seq (WC.block (WC.seq (WC.region (WO.step rfl (OR.load T27 rfl rfl (hs.cellM (i := 2) rfl rfl) ?_)))))))
  refine WO.step rfl (OR.call hs body68 rfl rfl (kmade_ok kb x _ _ hs.toSub (hs.blk (i := 3) rfl) (hs.nh (i := 3) rfl) hg) ?_)
  clear hs; rintro _ H w hs hle1 rfl; replace hle := hle.trans hle1; (try replace hlb := hlb.trans hle1)
  refine WO.step rfl (OR.not rfl (WO.step rfl (OR.move rfl ?_)))
  refine WO.guardYes rfl rfl rfl rfl (OR.move rfl (WO.guardYes rfl rfl rfl rfl (OR.eqlNilP T34.und rfl rfl (WO.step rfl (OR.pickF rfl rfl rfl (WO.step rfl (OR.assign rfl ?_)))))))
  refine WO.done (WX.seq ?_)
  refine WC.yes rfl rfl ?_
  refine WC.seq (WC.region ?_)
  replace hs := hs.front (i := 1) rfl
  refine WO.stepN (OR.storeAll hs T40 rfl rfl rfl rfl rfl ?_)
  clear hs; intro w hs
  replace hs := hs.front (i := 1) rfl
  refine WO.stepN (OR.storeAll hs T28 rfl rfl rfl rfl rfl ?_)
  clear hs; intro w hs
  refine WO.done (WX.seq (WC.ret (WX.block_ret (WX.seq_ret ?_))))
  refine WX.retM0 fun a ha => ⟨_, results_CC T40 rfl T28 rfl rfl (ha 4 _ rfl) (hs.cellM (i := 1) rfl rfl) (ha 5 _ rfl) (hs.cellM (i := 0) rfl rfl), ?_⟩
  exact .mk ((((hs.drop 0).drop 0).drop 0).drop 0) rfl
set_option maxRecDepth 20000 in
set_option maxHeartbeats 2000000 in
theorem krel_broken (kb rb : Nat) (x : SinkD) (H0 : Hp) (w0 : World) (h0 : Sub H0 w0) (hb : w0.heap[kb]? = some (sinkObj x)) (hn : H0 kb = none) (hg : 1 ≤ x.g) (hbr : x.br = true) :
    Calls Tryz.prog 14 #[ptr kb, ptr rb] w0 (Pure H0 w0 fun u _ => u = .tuple #[.slice none 0 0, .int .i64 5]) := by
  have hs := HS.startR h0 hb hn
  have hle := Hp.le.refl H0
  refine Calls.enterM (args := [ptr kb, ptr rb]) Tryz.func14 rfl Tryz.ntmps14 rfl ?_
  refine WC.seq (WC.region (WO.step rfl (OR.box hs rfl ?_)))
  clear hs; intro g1 w hg1 hs
  refine WO.step rfl (OR.alloc hs T40 ?_)
  clear hs; intro g2 w hg2 hs
  refine WO.step rfl (OR.alloc hs T28 ?_)
  clear hs; intro g3 w hg3 hs
  refine WO.done (WX.seq (WC.seq (WC.block (WC.seq (WC.region (WO.step rfl (OR.load T27 rfl rfl (hs.cellM (i := 2) rfl rfl) ?_)))))))
  refine WO.step rfl (OR.call hs body68 rfl rfl (kmade_ok kb x _ _ hs.toSub (hs.blk (i := 3) rfl) (hs.nh (i := 3) rfl) hg) ?_)
  clear hs; rintro _ H w hs hle1 rfl; replace hle := hle.trans hle1; (try replace hlb := hlb.trans hle1)
  refine WO.step rfl (OR.not rfl (WO.step rfl (OR.move rfl ?_)))
  refine WO.guardYes rfl rfl rfl rfl (OR.move rfl (WO.guardYes rfl rfl rfl rfl (OR.eqlNilP T34.und rfl rfl (WO.step rfl (OR.pickF rfl rfl rfl (WO.step rfl (OR.assign rfl ?_)))))))
  refine WO.done (WX.seq ?_)
  refine WC.no rfl rfl ?_
  refine WC.seq (WC.region (WO.step rfl (OR.load T27 rfl rfl (hs.cellM (i := 2) rfl rfl) (WO.step rfl (OR.nilCheck rfl (WO.step rfl (OR.fieldAddr FA120_5 rfl ?_)))))))
  refine WO.step rfl (OR.load T4 rfl rfl (hs.cellM (i := 3) rfl rfl) (WO.step rfl (OR.assign rfl (WO.done (WX.seq ?_)))))
  refine WC.yes rfl hbr ?_
  refine WC.seq (WC.region ?_)
  replace hs := hs.front (i := 1) rfl
  refine WO.stepN (OR.storeAll hs T40 rfl rfl rfl rfl rfl ?_)
  clear hs; intro w hs
  replace hs := hs.front (i := 1) rfl
  refine WO.stepN (OR.storeAll hs T28 rfl rfl rfl rfl rfl ?_)
  clear hs; intro w hs
  refine WO.done (WX.seq (WC.ret (WX.block_ret (WX.seq_ret ?_))))
  refine WX.retM0 fun a ha => ⟨_, results_CC T40 rfl T28 rfl rfl (ha 4 _ rfl) (hs.cellM (i := 1) rfl rfl) (ha 5 _ rfl) (hs.cellM (i := 0) rfl rfl), ?_⟩
  exact .mk ((((hs.drop 0).drop 0).drop 0).drop 0) rfl
theorem withLoop {xs : List Nat} {H0 H : Hp} {w0 w : World} {M : Mem} {lp D : Nat} {fn : FuncId} {tmps : Array Value} {ps : Array Tmp} {assign body : Code} {G : Prop} (_ : HS xs H0 w0 H ((lp, loopObj .ready none fn tmps ps assign body D, true) :: M) w)
    (k : ∀ LO : LoopState → Option Code → Obj, (∀ st pe, LO st pe = loopObj st pe fn tmps ps assign body D) → G) : G := k _ fun _ _ => rfl
end Go.Bw
namespace Go.Bw
set_option linter.unusedVariables false
set_option linter.unusedSimpArgs false
open Go.Proofs

set_option maxRecDepth 20000 in
set_option maxHeartbeats 2000000 in
theorem krel_ok (kb rb wb d0 tot : Nat) (kn : Bool) (x : RelD) (l : Slots) (H0 : Hp) (w0 : World) (hs : HS [kb] H0 w0 H0 ((kb, sinkObj (skD x tot kn false d0), true) :: relMem false x rb wb l) w0) (hx : SlotsOk H0 x l) (hok : RelOk x) (hgs4 : 4 < x.g * x.s) (hd0 : d0 ≤ 1099511627776) :
    Calls Tryz.prog 14 #[ptr kb, ptr rb] w0 (Ret [kb] H0 w0 fun v H' M' => ∃ n r e br, v = .tuple #[r, .int .i64 e] ∧ BytesL H' r (rdyL x d0 n) ∧ goodTo x d0 n ∧ d0 + n ≤ 1099511627776 ∧ M' = [(kb, sinkObj (skD x tot kn br (d0 + n)), true)] ∧
      ((e = 0 ∧ br = false ∧ (d0 + n = 1099511627776 ∨ x.solE (d0 + n) ≠ 0)) ∨ (e = 5 ∧ br = true ∧ d0 + n < 1099511627776 ∧ x.solE (d0 + n) = 0 ∧ rdyE x (d0 + n) ≠ 0))) := by
  have hle := Hp.le.refl H0
  refine Calls.enterM (args := [ptr kb, ptr rb]) Tryz.func14 rfl Tryz.ntmps14 rfl ?_
  refine WC.seq (WC.region (WO.step rfl (OR.box hs rfl ?_)))
  clear hs; intro g1 w hg1 hs
  refine WO.step rfl (OR.alloc hs T40 ?_)
  clear hs; intro g2 w hg2 hs
  refine WO.step rfl (OR.alloc hs T28 ?_)
  clear hs; intro g3 w hg3 hs
  refine WO.done (WX.seq (WC.seq (WC.block (WC.seq (WC.region (WO.step rfl (OR.load T27 rfl rfl (hs.cellM (i := 2) rfl rfl) ?_)))))))
  replace hs := hs.front (i := 2) rfl
  obtain ⟨H, hle1, hp_g1, hs9⟩ := hs.pub1 hg1; clear hs; have hs := hs9; clear hs9; replace hle := hle.trans hle1; (try replace hlb := hlb.trans hle1)
  have hlb := Hp.le.refl H
  have hg1 : hcell H ⟨g1, 0, none⟩ = some (ptr kb) := hcell_of hp_g1 rfl
  refine WO.step rfl (OR.call hs body68 rfl rfl (kmade_ok kb _ _ _ hs.toSub (hs.blk (i := 2) rfl) (hs.nh (i := 2) rfl) hok.g1) ?_)
  clear hs; rintro _ H w hs hle1 rfl; replace hle := hle.trans hle1; (try replace hlb := hlb.trans hle1)
  refine WO.step rfl (OR.not rfl (WO.step rfl (OR.move rfl ?_)))
  refine WO.guardYes rfl rfl rfl rfl (OR.move rfl (WO.guardYes rfl rfl rfl rfl (OR.eqlNilP T34.und rfl rfl (WO.step rfl (OR.pickF rfl rfl rfl (WO.step rfl (OR.assign rfl ?_)))))))
  refine WO.done (WX.seq ?_)
  refine WC.no rfl rfl ?_
  refine WC.seq (WC.region ?_)
  refine WO.step rfl (OR.load T27 rfl rfl (hs.cell (hcell.mono hlb hg1)) ?_)
  refine WO.step rfl (OR.nilCheck rfl (WO.step rfl (OR.fieldAddr FA120_5 rfl (WO.step rfl (OR.load T4 rfl rfl (hs.cellM (i := 2) rfl rfl) (WO.step rfl (OR.assign rfl ?_)))))))
  refine WO.done (WX.seq ?_)
  refine WC.no rfl rfl ?_
  refine WC.skip (WX.block (WX.seq (WC.seq (WC.region (WO.step rfl (OR.alloc hs T40 ?_))))))
  clear hs; intro g4 w hg4 hs
  refine WO.done (WX.seq (WC.seq (WC.seq (WC.region ?_))))
  refine WO.step rfl (OR.load T27 rfl rfl (hs.cell (hcell.mono hlb hg1)) ?_)
  refine WO.step rfl (OR.move rfl ?_)
  refine WO.step rfl (OR.call hs body69 rfl rfl (kready_ok kb rb _ _ hs.toSub) ?_)
  clear hs; rintro _ H w hs hle1 ⟨K, R, rfl, hK, hR⟩
  have hg9 := hcell.mono (hlb.trans hle1) hg1
  have hl0 := hle.trans hle1
  refine WO.done (WX.seq (WC.block ?_))
  refine WC.rangeFunc (fl := []) (lb := [ptr K, ptr R]) hs rfl body115 ?_
  clear hs; intro fn tmps D lp w hD hlp hst hs
  refine withLoop hs fun LO hLO => ?_
  refine (ready1_ok kb rb wb lp K R d0 tot kn false x l [kb] H0 w0 H (hx.mono hl0) hok hgs4 hd0 hK hR
    (fun n H2 M => Hp.le H H2 ∧ goodTo x d0 n ∧ d0 + n ≤ 1099511627776 ∧ ∃ v cs Mo, M = (lp, LO .ready none, true) :: (D, .deferred (some []), true) :: (g4, .cells #[v] 40, true) :: (g3, .cells #[.int .i64 0] 28, true) :: (g2, .cells #[.slice none 0 0] 40, true) :: Mo ∧ Own w0.heap.size 43 1 v n cs Mo ∧ ChIn H2 x d0 n cs)
    (fun n H2 H3 M h ⟨h1, h2, h3, v, cs, Mo, h4, h5, h6⟩ => ⟨h1.trans h, h2, h3, v, cs, Mo, h4, h5, h6.mono h⟩) (fun n H2 M h => h.1)
    (fun w' => ∃ n H2 v cs Mo, Hp.le H H2 ∧ goodTo x d0 n ∧ d0 + n < 1099511627776 ∧ x.solE (d0 + n) = 0 ∧ rdyE x (d0 + n) ≠ 0 ∧ Own w0.heap.size 43 1 v n cs Mo ∧ ChIn H2 x d0 n cs ∧
      HS [kb] H0 w0 H2 ((lp, LO .done (some .ret), true) :: (D, .deferred (some []), true) :: (g4, .cells #[v] 40, true) :: (g3, .cells #[.int .i64 5] 28, true) :: (g2, .cells #[v] 40, true) :: (kb, sinkObj (skD x tot kn true (d0 + n)), true) :: (relMem false x rb wb l ++ Mo)) w')
    ?_ ?_ H _ w (HS.perm (by rw [hLO]; exact hs) (perC (A := [_, _, _, _, _]))) ⟨Hp.le.refl _, fun i hi => by omega, hd0, _, [], [], rfl, Own.nil _ _ _, rfl, fun i hi => by omega⟩).mono ?_
  · clear hs
    rintro n H2 M w u hlt hsol hrd hs ⟨hlH, hgood, hdn, v, cs, Mo, rfl, ho, hch⟩ hu
    replace hs := hs.perm (perA (A := [_, _, _, _, _]) (R := relMem false x rb wb l) (Mo := Mo))
    rw [hLO] at hs
    refine yieldAt hs rfl (hst.param2 rfl rfl _ _) ?_
    have hle := Hp.le.refl H2
    have hfew := hgood.few hok
    obtain ⟨b1, c1, rfl⟩ := hu.form
    obtain ⟨b2, c2, rfl⟩ := ho.form
    refine RC.seq (RC.region (RO.step rfl rfl (OR.assign rfl (RO.done (RX.seq (RC.region (RO.step rfl rfl ?_)))))))
    refine OR.assign rfl (RO.done ?_)
    refine RC.assigned hs ?_; clear hs; intro w hs
    refine RC.block (RC.seq (RC.seq (RC.region (RO.step rfl rfl (OR.move rfl (RO.step rfl rfl (OR.neq rfl rfl ?_)))))))
    refine RO.done (RX.seq ?_)
    refine RC.no rfl (decide_eq_false (by decide)) ?_
    refine RC.skip (RX.seq (RC.seq (RC.region (RO.step rfl rfl (OR.load T40 rfl rfl (hs.cellM (i := 2) rfl rfl) (RO.step rfl rfl (OR.move rfl ?_)))))))
    refine RO.step rfl rfl (OR.buildSlice (vs := [_]) hs T40.und T43 rfl rfl rfl rfl (by simp) ?_)
    clear hs; intro q1 w hq1 hs
    obtain ⟨H, hle1, hp_q1, hs9⟩ := hs.pub1 hq1; clear hs; have hs := hs9; clear hs9; replace hle := hle.trans hle1; (try replace hlb := hlb.trans hle1)
    have hl1 := hle1
    have hone : Sl H 1 (.slice (some ⟨q1, 0, none⟩) 1 1) 1 [.slice b1 (rdyF x (d0 + n)).length c1] := Sl.block hp_q1 rfl rfl (by simp)
    refine RO.step rfl rfl (OR.append (m := 1) (news := [.slice b1 (rdyF x (d0 + n)).length c1]) (Mo := Mo) (hs.perm (perB (A := [_, _, _, _, _]))) ho T40.und T43 rfl (by omega) rfl rfl rfl (Sl.src hone hs) (Sl.src0 hone) rfl (by omega) (by omega) ?_)
    clear hs; intro v' w Mo' hs ho2 hge
    replace hs := hs.perm (perB (A := [_, _, _, _, _]) (R := relMem false x rb wb l) (Mo := Mo')).symm
    obtain ⟨b3, c3, rfl⟩ := ho2.form
    replace hs := hs.front (i := 2) rfl
    refine RO.stepN rfl (OR.storeAll hs T40 rfl rfl rfl rfl rfl ?_)
    clear hs; intro w hs
    refine RO.done (RX.seq (RC.region ?_))
    refine RO.step rfl rfl (OR.load T27 rfl rfl (hs.cell (hcell.mono (hlH.trans hl1) hg9)) ?_)
    refine RO.step rfl rfl (OR.nilCheck rfl (RO.step rfl rfl (OR.fieldAddr FA120_2 rfl (RO.step rfl rfl (OR.load T22 rfl rfl (hs.cellM (i := 5) rfl rfl) ?_)))))
    refine RO.step rfl rfl (OR.add rfl rfl ?_)
    rw [show IntKind.u64.wrap (((d0 + n : Nat) : Int) + 1) = ((d0 + n + 1 : Nat) : Int) from u64_wrap (d0 + n + 1) (by omega)]
    refine RO.step rfl rfl (OR.nilCheck rfl (RO.step rfl rfl (OR.fieldAddr FA120_2 rfl ?_)))
    replace hs := hs.front (i := 5) rfl
    refine RO.stepN rfl (OR.store hs T22 rfl rfl rfl (Nat.le_of_ble_eq_true rfl) rfl ?_)
    clear hs; intro w hs
    refine RO.done (RX.block ?_)
    replace hs := hs.front (i := 0) rfl
    replace hs := hs.front (i := 5) rfl
    replace hs := hs.front (i := 5) rfl
    replace hs := hs.front (i := 3) rfl
    replace hs := hs.front (i := 5) rfl
    replace hs := hs.front (i := 5) rfl
    refine RX.on hs fun w hs => ⟨rfl, H, _, hs.perm (perA (A := [_, _, _, _, _]) (R := relMem false x rb wb l) (Mo := Mo')).symm, ?_⟩
    refine ⟨hlH.trans hl1, hgood.succ hsol hrd, by omega, _, _, Mo', ?_, ho2, (hch.mono hl1).snoc (hu.mono hl1)⟩
    rw [hLO]
    rfl
  · clear hs
    rintro n H2 M w hlt hsol hrd hs ⟨hlH, hgood, hdn, v, cs, Mo, rfl, ho, hch⟩
    replace hs := hs.perm (perA (A := [_, _, _, _, _]) (R := relMem false x rb wb l) (Mo := Mo))
    rw [hLO] at hs
    refine yieldAt hs rfl (hst.param2 rfl rfl _ _) ?_
    have hle := Hp.le.refl H2
    obtain ⟨b2, c2, rfl⟩ := ho.form
    refine RC.seq (RC.region (RO.step rfl rfl (OR.assign rfl (RO.done (RX.seq (RC.region (RO.step rfl rfl ?_)))))))
    refine OR.assign rfl (RO.done ?_)
    refine RC.assigned hs ?_; clear hs; intro w hs
    refine RC.block (RC.seq (RC.seq (RC.region (RO.step rfl rfl (OR.move rfl (RO.step rfl rfl (OR.neq rfl rfl ?_)))))))
    refine RO.done (RX.seq ?_)
    refine RC.yes rfl (decide_eq_true (by decide)) ?_
    refine RC.seq (RC.region ?_)
    refine RO.step rfl rfl (OR.load T27 rfl rfl (hs.cell (hcell.mono hlH hg9)) ?_)
    refine RO.step rfl rfl (OR.nilCheck rfl (RO.step rfl rfl (OR.fieldAddr FA120_5 rfl ?_)))
    replace hs := hs.front (i := 5) rfl
    refine RO.stepN rfl (OR.store hs T4 rfl rfl rfl (Nat.le_of_ble_eq_true rfl) rfl ?_)
    clear hs; intro w hs
    refine RO.done (RX.seq (RC.seq (RC.region (RO.step rfl rfl (OR.load T40 rfl rfl (hs.cellM (i := 3) rfl rfl) (RO.step rfl rfl (OR.move rfl ?_)))))))
    replace hs := hs.front (i := 5) rfl
    refine RO.stepN rfl (OR.storeAll hs T40 rfl rfl rfl rfl rfl ?_)
    clear hs; intro w hs
    replace hs := hs.front (i := 5) rfl
    refine RO.stepN rfl (OR.storeAll hs T28 rfl rfl rfl rfl rfl ?_)
    clear hs; intro w hs
    refine RO.done (RX.seq (RC.ret (RX.seq_ret (RX.block_ret ?_))))
    replace hs := hs.front (i := 2) rfl
    replace hs := hs.front (i := 2) rfl
    replace hs := hs.front (i := 2) rfl
    replace hs := hs.front (i := 5) rfl
    replace hs := hs.front (i := 5) rfl
    replace hs := hs.front (i := 5) rfl
    refine RX.out hs fun w hs => ⟨⟨_, rfl⟩, ?_⟩
    refine ⟨n, _, _, cs, Mo, hlH, hgood, hlt, hsol, hrd, ho, hch, ?_⟩
    rw [hLO]
    exact hs
  · rintro e w3 ⟨rfl, (⟨n, H3, M3, hstop, hs, hlH, hgood, hdn, v, cs, Mo, rfl, ho, hch⟩ | ⟨n, H3, v, cs, Mo, hlH, hgood, hlt, hsol, hrd, ho, hch, hs⟩)⟩
    · replace hs := hs.perm (perA (A := [_, _, _, _, _]) (R := relMem false x rb wb l) (Mo := Mo))
      rw [hLO] at hs
      refine ⟨⟨_, rfl⟩, H3, _, .ready, none, by decide, hs, fun w hs => ⟨fun _ => ?_, fun c h => by cases h⟩⟩
      obtain ⟨b2, c2, rfl⟩ := ho.form
      have hle := Hp.le.refl H3
      refine WX.block (WX.seq (WC.seq (WC.region (WO.step rfl (OR.load T40 rfl rfl (hs.cellM (i := 2) rfl rfl) ?_)))))
      replace hs := hs.front (i := 4) rfl
      refine WO.stepN (OR.storeAll hs T40 rfl rfl rfl rfl rfl ?_)
      clear hs; intro w hs
      replace hs := hs.front (i := 4) rfl
      refine WO.stepN (OR.storeAll hs T28 rfl rfl rfl rfl rfl ?_)
      clear hs; intro w hs
      refine WO.done (WX.seq (WC.ret ?_))
      replace hs := hs.front (i := 5) rfl
      replace hs := hs.front (i := 2) rfl
      replace hs := hs.front (i := 2) rfl
      replace hs := hs.front (i := 5) rfl
      replace hs := hs.front (i := 4) rfl
      replace hs := hs.front (i := 5) rfl
      refine WX.retM hs fun w hs a ha => ⟨_, results_CC T40 rfl T28 rfl rfl (ha 4 _ rfl) (hs.cellM (i := 4) rfl rfl) (ha 5 _ rfl) (hs.cellM (i := 3) rfl rfl), ?_⟩
      obtain ⟨H4, hle4, hs, hsl, _⟩ := HS.pub (hs.perm (perB (A := [_, _, _, _, _]) (R := relMem false x rb wb l) (Mo := Mo))) ho
      refine ⟨_, H4, [(kb, sinkObj (skD x tot kn false (d0 + n)), true)], rfl, hs.sublist (List.singleton_sublist.2 (by simp)), by simp, n, _, 0, false, rfl, (hch.mono hle4).bytesL hsl, hgood, hdn, rfl, .inl ⟨rfl, rfl, hstop⟩⟩
    · rw [hLO] at hs
      refine ⟨⟨_, rfl⟩, H3, _, .done, some .ret, by decide, hs, fun w hs => ⟨fun h => (by cases h), fun c h => ?_⟩⟩
      cases h
      obtain ⟨b2, c2, rfl⟩ := ho.form
      have hle := Hp.le.refl H3
      refine WC.ret (WX.block_ret (WX.seq_ret ?_))
      replace hs := hs.front (i := 5) rfl
      replace hs := hs.front (i := 5) rfl
      replace hs := hs.front (i := 5) rfl
      replace hs := hs.front (i := 5) rfl
      replace hs := hs.front (i := 4) rfl
      replace hs := hs.front (i := 5) rfl
      refine WX.retM hs fun w hs a ha => ⟨_, results_CC T40 rfl T28 rfl rfl (ha 4 _ rfl) (hs.cellM (i := 4) rfl rfl) (ha 5 _ rfl) (hs.cellM (i := 3) rfl rfl), ?_⟩
      obtain ⟨H4, hle4, hs, hsl, _⟩ := HS.pub (hs.perm (perB (A := [_, _, _, _, _]) (R := relMem false x rb wb l) (Mo := Mo))) ho
      refine ⟨_, H4, [(kb, sinkObj (skD x tot kn true (d0 + n)), true)], rfl, hs.sublist (List.singleton_sublist.2 (by simp)), by simp, n, _, 5, true, rfl, (hch.mono hle4).bytesL hsl, hgood, by omega, rfl, .inr ⟨rfl, rfl, hlt, hsol, hrd⟩⟩
end Go.Bw
namespace Go.Bw
set_option linter.unusedVariables false
set_option linter.unusedSimpArgs false
open Go.Proofs

set_option maxRecDepth 20000 in
set_option maxHeartbeats 2000000 in
theorem same05_ok (va vb : Value) (a b : List (List UInt8)) (H0 : Hp) (w0 : World) (h0 : Sub H0 w0) (ha : BytesL H0 va a) (hb : BytesL H0 vb b) (he : a = b) (hl : a.length < 1000000000) :
    Calls Tryz.prog 18 #[va, vb] w0 (Pure H0 w0 fun v _ => v = .bool true) := by
  have hs := HS.init h0
  subst he
  have ha0 := ha
  have hb0 := hb
  obtain ⟨b1, c1, rfl⟩ := ha0.form
  obtain ⟨b2, c2, rfl⟩ := hb0.form
  refine Calls.enter (args := [.slice b1 a.length c1, .slice b2 a.length c2]) Tryz.func18 rfl Tryz.ntmps18 rfl ?_
  refine WC.seq (WC.region (WO.step rfl (OR.assign rfl (WO.done (WX.seq (WC.seq (WC.seq ?_)))))))
  refine WC.region (WO.step rfl (OR.move rfl (WO.step rfl (OR.lenSlice T40.und rfl (WO.step rfl (OR.move rfl (WO.step rfl ?_)))))))
  refine OR.lenSlice T40.und rfl (WO.step rfl (OR.neq rfl rfl (WO.done (WX.seq ?_))))
  refine WC.no rfl (decide_eq_false (by omega)) ?_
  refine WC.skip (WX.seq (WC.seq (WC.seq (WC.region (WO.step rfl (OR.assign rfl (WO.done ?_)))))))
  refine WX.seq (WC.block ?_)
  refine WC.loop (ι := Nat) (fun k => [(0, .slice b1 a.length c1), (1, .slice b2 a.length c2), (5, .int .i64 (k : Int))]) (fun k w => (k ≤ a.length ∧ ∃ H, Hp.le H0 H ∧ HS [] H0 w0 H [] w)) (fun k => a.length - k) 0 ⟨rfl, rfl, rfl,  trivial⟩ ?_ (fun k w hW => ?_)
  · exact ⟨by omega, H0, .refl H0, hs⟩
  clear hs
  obtain ⟨hk, H, hle, hs⟩ := hW
  refine WC.seq (WC.seq (WC.region (WO.step rfl (OR.move rfl (WO.step rfl (OR.move rfl (WO.step rfl ?_)))))))
  refine OR.lenSlice T40.und rfl (WO.step rfl (OR.lss rfl rfl (WO.done (WX.seq ?_))))
  refine WC.condD rfl (fun hlt => ?_) (fun hlt => ?_)
  · have hk' : k < a.length := by omega
    obtain ⟨ob1, oo1, rfl, hc1⟩ := ha.pos (by omega)
    obtain ⟨ob2, oo2, rfl, hc2⟩ := hb.pos (by omega)
    obtain ⟨e1, he1, hbe1⟩ := hc1 k hk'
    obtain ⟨e2, he2, hbe2⟩ := hc2 k hk'
    have hlb := Hp.le.refl H
    refine WC.skip (WX.seq (WC.seq (WC.block (WC.seq ?_))))
    refine WC.draw 11 mixed hs (by kernel_rfl) ?_
    refine ⟨MF.eq _, by intro Mx H w hle hs; refine forVals_nil (ORg.plain (OR.move rfl ?_)); exact ⟨_, [], Hp.le.refl _, hs, rfl, rfl⟩, ?_⟩
    refine ⟨MF.eq _, by intro Mx H w hle hs; refine forVals_nil (ORg.plain (OR.move rfl ?_)); exact ⟨_, [], Hp.le.refl _, hs, rfl, rfl⟩, ?_⟩
    refine ⟨MF.eq (.pointer (some ⟨ob1, oo1 + k, none⟩)), ?_, ?_⟩
    · intro Mx H w hle2 hs; (try replace hle := hle.trans hle2); (try replace hlb := hlb.trans hle2); refine forVals_eq rfl rfl rfl ?_; refine forVals_eq rfl rfl rfl ?_
      refine forVals_nil (ORg.plain (OR.idx k T40.und T43 rfl rfl rfl hk' ?_))
      exact ⟨_, [], Hp.le.refl _, hs, rfl, rfl⟩
    refine ⟨MF.eq e1, ?_, ?_⟩
    · intro Mx H w hle2 hs; (try replace hle := hle.trans hle2); (try replace hlb := hlb.trans hle2); refine forVals_eq rfl rfl rfl ?_
      refine forVals_nil (ORg.plain (OR.load T43 rfl rfl (hs.cell (hcell.mono hle he1)) ?_))
      exact ⟨_, [], Hp.le.refl _, hs, rfl, rfl⟩
    refine ⟨MF.eq (.string (str a[k])), ?_, ?_⟩
    · intro Mx H w hle2 hs; (try replace hle := hle.trans hle2); (try replace hlb := hlb.trans hle2); refine forVals_eq rfl rfl rfl ?_
      refine forVals_nil (ORg.plain (OR.toStr hs T43.und T9.und T5.und rfl (hbe1.mono hle) ?_))
      exact ⟨_, [], Hp.le.refl _, hs, rfl, rfl⟩
    refine ⟨MF.eq _, by intro Mx H w hle hs; refine forVals_nil (ORg.plain (OR.move rfl ?_)); exact ⟨_, [], Hp.le.refl _, hs, rfl, rfl⟩, ?_⟩
    refine ⟨MF.eq _, by intro Mx H w hle hs; refine forVals_nil (ORg.plain (OR.move rfl ?_)); exact ⟨_, [], Hp.le.refl _, hs, rfl, rfl⟩, ?_⟩
    refine ⟨MF.eq (.pointer (some ⟨ob2, oo2 + k, none⟩)), ?_, ?_⟩
    · intro Mx H w hle2 hs; (try replace hle := hle.trans hle2); (try replace hlb := hlb.trans hle2); refine forVals_eq rfl rfl rfl ?_; refine forVals_eq rfl rfl rfl ?_
      refine forVals_nil (ORg.plain (OR.idx k T40.und T43 rfl rfl rfl hk' ?_))
      exact ⟨_, [], Hp.le.refl _, hs, rfl, rfl⟩
    refine ⟨MF.eq e2, ?_, ?_⟩
    · intro Mx H w hle2 hs; (try replace hle := hle.trans hle2); (try replace hlb := hlb.trans hle2); refine forVals_eq rfl rfl rfl ?_
      refine forVals_nil (ORg.plain (OR.load T43 rfl rfl (hs.cell (hcell.mono hle he2)) ?_))
      exact ⟨_, [], Hp.le.refl _, hs, rfl, rfl⟩
    refine ⟨MF.eq (.string (str a[k])), ?_, ?_⟩
    · intro Mx H w hle2 hs; (try replace hle := hle.trans hle2); (try replace hlb := hlb.trans hle2); refine forVals_eq rfl rfl rfl ?_
      refine forVals_nil (ORg.plain (OR.toStr hs T43.und T9.und T5.und rfl (hbe2.mono hle) ?_))
      exact ⟨_, [], Hp.le.refl _, hs, rfl, rfl⟩
    refine ⟨MF.eq _, by intro Mx H w hle hs; refine forVals_eq rfl rfl rfl ?_; refine forVals_eq rfl rfl rfl ?_; refine forVals_nil (ORg.plain (OR.neqStr rfl rfl ?_)); exact ⟨_, [], Hp.le.refl _, hs, rfl, rfl⟩, ?_⟩
    intro H w hle2; (try replace hle := hle.trans hle2); (try replace hlb := hlb.trans hle2)
    refine forAllVals_eq rfl ?_
    refine forAllVals_eq rfl ?_
    refine forAllVals_eq rfl ?_
    refine forAllVals_eq rfl ?_
    refine forAllVals_eq rfl ?_
    refine forAllVals_eq rfl ?_
    refine forAllVals_eq rfl ?_
    refine forAllVals_eq rfl ?_
    refine forAllVals_eq rfl ?_
    refine forAllVals_eq rfl ?_
    refine forAllVals_eq rfl ?_
    refine forAllVals_nil ?_; (try clear hs); intro hs
    refine WO.done (WX.seq ?_)
    refine WC.no rfl (by simp) ?_
    refine WC.skip (WX.block (WX.seq (WC.region (WO.step rfl (OR.move rfl (WO.step rfl (OR.addI rfl rfl (by omega) (by omega) ?_)))))))
    refine WO.step rfl (OR.assign rfl (WO.done ?_))
    refine WX.again (k + 1) ⟨rfl, rfl, rfl,  trivial⟩ ?_ ?_
    · exact ⟨hk', H, hle, hs⟩
    · omega
  · refine WC.exit (WX.seq_exit (WX.loop_exit (WX.block_hit (WX.seq (WC.seq (WC.region (WO.step rfl ?_)))))))
    refine OR.assign rfl (WO.done (WX.seq (WC.ret ?_)))
    refine WX.ret1 rfl rfl ?_
    exact .mk hs rfl
end Go.Bw
namespace Go.Bw
set_option linter.unusedVariables false
set_option linter.unusedSimpArgs false
open Go.Proofs

theorem HS.relKB {xs : List Nat} {H0 H : Hp} {w0 w : World} {x : RelD} {rb wb kb : Nat} {l : Slots} {A : Mem} {o : Obj} (hs : HS xs H0 w0 H ((kb, o, true) :: (A ++ relMem true x rb wb l)) w) : HS [kb] H w H ((kb, o, true) :: relMem false x rb wb l) w := by
  have hs2 : HS xs H0 w0 H ((kb, o, true) :: (relMem true x rb wb l ++ A)) w := hs.perm (List.Perm.cons _ List.perm_append_comm)
  have hro := HS.relRO (hs2.drop 0)
  refine HS.start [kb] hs.sub (fun b o' t h => ?_) ?_
  · rcases List.mem_cons.1 h with e | h
    · cases e
      have h1 := hs.mem kb o true (by simp)
      exact ⟨h1.1, h1.2.1, fun _ => by simp⟩
    · have h1 := hro.mem b o' t h
      exact ⟨h1.1, h1.2.1, fun ht => by rw [relMem_false h] at ht; cases ht⟩
  · have h1 := hs2.nd
    have e : Mem.keys (relMem false x rb wb l) = Mem.keys (relMem true x rb wb l) := by
      have := slotMem_keys x.g x.s false l
      simp only [Mem.keys] at this
      simp [Mem.keys, relMem, this]
    simp only [Mem.keys, List.map_cons, List.map_append, List.nodup_cons, List.nodup_append, List.mem_append, not_or] at h1 e ⊢
    rw [e]
    exact ⟨h1.1.1, h1.2.1⟩
def relEnd (x : RelD) (d0 n : Nat) (e : Int) (br : Bool) : Prop := (e = 0 ∧ br = false ∧ (d0 + n = 1099511627776 ∨ x.solE (d0 + n) ≠ 0)) ∨ (e = 5 ∧ br = true ∧ d0 + n < 1099511627776 ∧ x.solE (d0 + n) = 0 ∧ rdyE x (d0 + n) ≠ 0)
theorem rel_stop {x : RelD} {d0 n m : Nat} {e : Int} {br : Bool} (hg : goodTo x d0 n) (h : relEnd x d0 n e br) (hm : goodTo x d0 m) (h1 : d0 + m < 1099511627776) (h2 : x.solE (d0 + m) ≠ 0) : n = m ∧ e = 0 ∧ br = false := by
  have e1 : n = m := by
    rcases Nat.lt_trichotomy n m with h3 | h3 | h3
    · have h4 := hm n h3
      rcases h with ⟨_, _, h5 | h5⟩ | ⟨_, _, _, _, h5⟩
      · omega
      · exact absurd h4.1 h5
      · exact absurd h4.2 h5
    · exact h3
    · exact absurd (hg m h3).1 h2
  subst e1
  rcases h with ⟨h3, h4, _⟩ | ⟨_, _, _, h3, _⟩
  · exact ⟨rfl, h3, h4⟩
  · exact absurd h3 h2
theorem rel_bad {x : RelD} {d0 n m : Nat} {e : Int} {br : Bool} (hg : goodTo x d0 n) (h : relEnd x d0 n e br) (hm : goodTo x d0 m) (h1 : d0 + m < 1099511627776) (h2 : x.solE (d0 + m) = 0) (h9 : rdyE x (d0 + m) ≠ 0) : n = m ∧ e = 5 ∧ br = true := by
  have e1 : n = m := by
    rcases Nat.lt_trichotomy n m with h3 | h3 | h3
    · have h4 := hm n h3
      rcases h with ⟨_, _, h5 | h5⟩ | ⟨_, _, _, _, h5⟩
      · omega
      · exact absurd h4.1 h5
      · exact absurd h4.2 h5
    · exact h3
    · exact absurd (hg m h3).2 h9
  subst e1
  rcases h with ⟨h3, h4, h5 | h5⟩ | ⟨h3, h4, _⟩
  · omega
  · exact absurd h2 h5
  · exact ⟨rfl, h3, h4⟩
theorem rel_end {x : RelD} {n : Nat} {e : Int} {br : Bool} (hn : 1099511627776 + n ≤ 1099511627776) (h : relEnd x 1099511627776 n e br) : n = 0 ∧ e = 0 ∧ br = false := by
  have : n = 0 := by omega
  subst this
  rcases h with ⟨h3, h4, _⟩ | ⟨_, _, h3, _⟩
  · exact ⟨rfl, h3, h4⟩
  · omega
end Go.Bw
namespace Go.Bw
set_option linter.unusedVariables false
set_option linter.unusedSimpArgs false
open Go.Proofs

theorem slots_new (H : Hp) (g s width : Nat) : SlotsOk H (newR g s width) (List.replicate 16 none) := by
  refine ⟨by simp, fun i y hy => ?_⟩
  rw [List.getElem?_replicate] at hy
  split at hy
  · obtain rfl := Option.some.inj hy
    rfl
  · cases hy
theorem good1 {x : RelD} {d0 : Nat} (h1 : x.solE (d0 + 0) = 0) (h2 : rdyE x (d0 + 0) = 0) : goodTo x d0 1 := by
  intro i hi
  obtain rfl : i = 0 := by omega
  exact ⟨h1, h2⟩
def awA : RelD := (newR 2 3 4).take 0 ([1, 0], [0, 0, 0])
def awB : RelD := awA.take 0 ([0, 1], [1, 97, 0])
def awC : RelD := awB.take 1 ([1, 0], [0, 0, 0])
theorem awC_0 : awC.solE 0 = 0 ∧ rdyE awC 0 = 0 ∧ rdyF awC 0 = [97] ∧ awC.solE 1 ≠ 0 := by decide +kernel
theorem awC_g : awC.g = 2 ∧ awC.s = 3 := by decide +kernel
theorem awA_g : awA.g = 2 ∧ awA.s = 3 := by decide +kernel
theorem awB_g : awB.g = 2 ∧ awB.s = 3 := by decide +kernel
set_option maxRecDepth 20000 in
set_option maxHeartbeats 2000000 in
theorem kawake_ok (H0 : Hp) (w0 : World) (h0 : Sub H0 w0) :
    Calls Tryz.prog 9 #[] w0 (Pure H0 w0 fun v _ => v = .bool true) := by
  have hs := HS.init h0
  have hle := Hp.le.refl H0
  have hok0 := newR_ok (g := 2) (s := 3) (width := 4) (by omega) (by omega)
  have hokA : RelOk awA := hok0.take _ _
  have hokB : RelOk awB := hokA.take _ _
  have hokC : RelOk awC := hokB.take _ _
  refine Calls.enter (args := []) Tryz.func9 rfl Tryz.ntmps9 rfl ?_
  refine WC.seq (WC.region (WO.step rfl (OR.assign rfl (WO.done (WX.seq (WC.seq (WC.region ?_)))))))
  refine WO.step rfl (OR.callX (Mx := []) hs body12 rfl rfl (rnew_ok 2 3 4 _ _ hs.toSub (by omega) (by omega)) rfl rfl ?_)
  clear hs; rintro v H M w hs hle1 hnew ⟨hH, rb, wb, rfl, rfl⟩
  replace hs : HS [] H0 w0 H (relMem true (newR 2 3 4) rb wb (List.replicate 16 none)) w := by rw [List.append_nil] at hs; exact hs
  replace hle := hle.trans hle1
  refine WO.step rfl (OR.move rfl (WO.step rfl (OR.extract rfl rfl (WO.step rfl (OR.extract rfl rfl (WO.step rfl (OR.assign rfl ?_)))))))
  refine WO.step rfl (OR.assign rfl (WO.done (WX.seq (WC.seq (WC.region (WO.step rfl (OR.move rfl ?_)))))))
  refine WO.step rfl (OR.buildSlice (vs := [B 1, B 0]) hs T43.und T5 rfl rfl rfl rfl (by simp) ?_)
  clear hs; intro qac w hqac hs
  obtain ⟨H, hle1, hp_qac, hs9⟩ := hs.pub1 hqac; clear hs; have hs := hs9; clear hs9; replace hle := hle.trans hle1; (try replace hlb := hlb.trans hle1)
  have hrc1 : Bytes H (.slice (some ⟨qac, 0, none⟩) 2 2) [1, 0] := Bytes.block (l := [1, 0]) hp_qac rfl (by simp)
  refine WO.step rfl (OR.buildSlice (vs := [B 0, B 0, B 0]) hs T43.und T5 rfl rfl rfl rfl (by simp) ?_)
  clear hs; intro qap w hqap hs
  refine WO.step rfl (OR.buildAll T45 rfl rfl PL45 rfl rfl ?_)
  obtain ⟨H, hle1, hp_qap, hs9⟩ := hs.pub1 hqap; clear hs; have hs := hs9; clear hs9; replace hle := hle.trans hle1; (try replace hlb := hlb.trans hle1)
  replace hrc1 := hrc1.mono hle1
  have hrp1 : Bytes H (.slice (some ⟨qap, 0, none⟩) 3 3) [0, 0, 0] := Bytes.block (l := [0, 0, 0]) hp_qap rfl (by simp)
  refine WO.step rfl (OR.callX (Mx := relMem true (newR 2 3 4) rb wb (List.replicate 16 none)) (Mr := ([] : Mem)) (HS.mtail (A := ([] : Mem)) hs) body15 rfl rfl (rtake_ok' rb wb 0 _ _ (newR 2 3 4) (List.replicate 16 none) ([1, 0], [0, 0, 0]) _ _ (HS.relRW (Mr := ([] : Mem)) (HS.mtail (A := ([] : Mem)) hs)) (slots_new _ 2 3 4) hok0 (by omega) hrc1 hrp1) rfl (relMem_flags _ _ _ _) ?_)
  clear hs; rintro v H M w hs hle1 hnew ⟨rfl, l1, rfl, hx1⟩
  replace hs := HS.mtail (A := relMem true _ rb wb l1) (B := ([] : Mem)) hs
  replace hle := hle.trans hle1
  have hlb := Hp.le.refl H
  refine WO.done (WX.seq (WC.seq (WC.region (WO.step rfl (OR.move rfl ?_)))))
  refine WO.step rfl (OR.buildSlice (vs := [B 0, B 1]) hs T43.und T5 rfl rfl rfl rfl (by simp) ?_)
  clear hs; intro qbc w hqbc hs
  obtain ⟨H, hle1, hp_qbc, hs9⟩ := hs.pub1 hqbc; clear hs; have hs := hs9; clear hs9; replace hle := hle.trans hle1; (try replace hlb := hlb.trans hle1)
  have hrc2 : Bytes H (.slice (some ⟨qbc, 0, none⟩) 2 2) [0, 1] := Bytes.block (l := [0, 1]) hp_qbc rfl (by simp)
  refine WO.step rfl (OR.buildSlice (vs := [B 1, B 97, B 0]) hs T43.und T5 rfl rfl rfl rfl (by simp) ?_)
  clear hs; intro qbp w hqbp hs
  refine WO.step rfl (OR.buildAll T45 rfl rfl PL45 rfl rfl ?_)
  obtain ⟨H, hle1, hp_qbp, hs9⟩ := hs.pub1 hqbp; clear hs; have hs := hs9; clear hs9; replace hle := hle.trans hle1; (try replace hlb := hlb.trans hle1)
  replace hrc2 := hrc2.mono hle1
  have hrp2 : Bytes H (.slice (some ⟨qbp, 0, none⟩) 3 3) [1, 97, 0] := Bytes.block (l := [1, 97, 0]) hp_qbp rfl (by simp)
  refine WO.step rfl (OR.callX (Mx := relMem true awA rb wb l1) (Mr := ([] : Mem)) (HS.mtail (A := ([] : Mem)) hs) body15 rfl rfl (rtake_ok' rb wb 0 _ _ awA l1 ([0, 1], [1, 97, 0]) _ _ (HS.relRW (Mr := ([] : Mem)) (HS.mtail (A := ([] : Mem)) hs)) (hx1.mono hlb) hokA (by omega) hrc2 hrp2) rfl (relMem_flags _ _ _ _) ?_)
  clear hs; rintro v H M w hs hle1 hnew ⟨rfl, l2, rfl, hx2⟩
  replace hs := HS.mtail (A := relMem true _ rb wb l2) (B := ([] : Mem)) hs
  replace hle := hle.trans hle1
  have hlb := Hp.le.refl H
  refine WO.done (WX.seq (WC.seq (WC.region (WO.step rfl (OR.move rfl ?_)))))
  refine WO.step rfl (OR.buildSlice (vs := [B 1, B 0]) hs T43.und T5 rfl rfl rfl rfl (by simp) ?_)
  clear hs; intro qcc w hqcc hs
  obtain ⟨H, hle1, hp_qcc, hs9⟩ := hs.pub1 hqcc; clear hs; have hs := hs9; clear hs9; replace hle := hle.trans hle1; (try replace hlb := hlb.trans hle1)
  have hrc3 : Bytes H (.slice (some ⟨qcc, 0, none⟩) 2 2) [1, 0] := Bytes.block (l := [1, 0]) hp_qcc rfl (by simp)
  refine WO.step rfl (OR.buildSlice (vs := [B 0, B 0, B 0]) hs T43.und T5 rfl rfl rfl rfl (by simp) ?_)
  clear hs; intro qcp w hqcp hs
  refine WO.step rfl (OR.buildAll T45 rfl rfl PL45 rfl rfl ?_)
  obtain ⟨H, hle1, hp_qcp, hs9⟩ := hs.pub1 hqcp; clear hs; have hs := hs9; clear hs9; replace hle := hle.trans hle1; (try replace hlb := hlb.trans hle1)
  replace hrc3 := hrc3.mono hle1
  have hrp3 : Bytes H (.slice (some ⟨qcp, 0, none⟩) 3 3) [0, 0, 0] := Bytes.block (l := [0, 0, 0]) hp_qcp rfl (by simp)
  refine WO.step rfl (OR.callX (Mx := relMem true awB rb wb l2) (Mr := ([] : Mem)) (HS.mtail (A := ([] : Mem)) hs) body15 rfl rfl (rtake_ok' rb wb 1 _ _ awB l2 ([1, 0], [0, 0, 0]) _ _ (HS.relRW (Mr := ([] : Mem)) (HS.mtail (A := ([] : Mem)) hs)) (hx2.mono hlb) hokB (by omega) hrc3 hrp3) rfl (relMem_flags _ _ _ _) ?_)
  clear hs; rintro v H M w hs hle1 hnew ⟨rfl, l3, rfl, hx3⟩
  replace hs := HS.mtail (A := relMem true _ rb wb l3) (B := ([] : Mem)) hs
  replace hle := hle.trans hle1
  have hlb := Hp.le.refl H
  refine WO.done (WX.seq (WC.seq (WC.region ?_)))
  have hgC := awC_g
  refine WO.step rfl (OR.callX (Mx := []) (Mr := relMem true awC rb wb l3) hs body10 rfl rfl (knew_ok 2 3 0 _ _ hs.toSub) rfl rfl ?_)
  clear hs; rintro v H M w hs hle1 hnew hres
  replace hres : if (1 ≤ 2 ∧ 2 ≤ 255 ∧ 1 ≤ 3 ∧ 3 ≤ 65535 ∧ 4 < 2 * 3) ∧ 0 ≤ 1099511627776 then ∃ kb, v = .tuple #[ptr kb, .int .i64 0] ∧ M = [(kb, sinkObj ⟨2, 3, 0, 0, false, false⟩, true)] else v = .tuple #[.pointer none, .int .i64 1] ∧ M = [] := hres
  rw [if_pos (by decide)] at hres
  obtain ⟨kb, rfl, rfl⟩ := hres
  replace hle := hle.trans hle1
  replace hlb := hlb.trans hle1
  rw [show (⟨2, 3, 0, 0, false, false⟩ : SinkD) = skD awC 0 false false 0 by rw [skD, hgC.1, hgC.2]] at hs
  refine WO.step rfl (OR.move rfl (WO.step rfl (OR.extract rfl rfl (WO.step rfl (OR.extract rfl rfl (WO.step rfl (OR.assign rfl ?_)))))))
  refine WO.step rfl (OR.assign rfl (WO.done (WX.seq (WC.seq (WC.seq (WC.region (WO.step rfl ?_)))))))
  refine OR.move rfl (WO.step rfl (OR.neq rfl rfl (WO.done (WX.seq ?_))))
  refine WC.no rfl (decide_eq_false (by decide)) ?_
  refine WC.skip (WX.seq (WC.seq (WC.region (WO.step rfl (OR.move rfl (WO.step rfl (OR.move rfl ?_)))))))
  refine WO.step rfl (OR.callX (Mx := [(kb, _, true)]) (Mr := relMem true awC rb wb l3) hs body14 rfl rfl (krel_ok kb rb wb 0 0 false awC l3 _ _ (HS.relKB (A := ([] : Mem)) hs) (hx3.mono hlb) hokC (by rw [hgC.1, hgC.2]; decide) (by decide)) rfl rfl ?_)
  clear hs; rintro v H M w hs hle1 hnew ⟨n, r, e, br, rfl, hr, hgood, hdn, rfl, hend⟩
  replace hle := hle.trans hle1
  replace hlb := hlb.trans hle1
  obtain ⟨rfl, rfl, rfl⟩ := rel_stop (m := 1) hgood hend (good1 awC_0.1 awC_0.2.1) (by decide) awC_0.2.2.2
  rw [show rdyL awC 0 1 = [[97]] by rw [← awC_0.2.2.1]; rfl] at hr
  have hlc := Hp.le.refl H
  refine WO.step rfl (OR.move rfl (WO.step rfl (OR.extract rfl rfl (WO.step rfl (OR.extract rfl rfl (WO.step rfl (OR.assign rfl ?_)))))))
  refine WO.step rfl (OR.assign rfl (WO.done (WX.seq (WC.seq (WC.region (WO.step rfl (OR.move rfl ?_)))))))
  refine WO.step rfl (OR.move rfl ?_)
  refine WO.step rfl (OR.callX (Mx := [(kb, _, true)]) (Mr := relMem true awC rb wb l3) hs body14 rfl rfl (krel_ok kb rb wb (0 + 1) 0 false awC l3 _ _ (HS.relKB (A := ([] : Mem)) hs) (hx3.mono hlb) hokC (by rw [hgC.1, hgC.2]; decide) (by decide)) rfl rfl ?_)
  clear hs; rintro v H M w hs hle1 hnew ⟨n, r2, e, br, rfl, hr2, hgood2, hdn2, rfl, hend2⟩
  replace hle := hle.trans hle1
  replace hlc := hlc.trans hle1
  obtain ⟨rfl, rfl, rfl⟩ := rel_stop (m := 0) hgood2 hend2 (fun i hi => by omega) (by decide) awC_0.2.2.2
  obtain ⟨b2, c2, rfl⟩ := hr2.form
  refine WO.step rfl (OR.move rfl (WO.step rfl (OR.extract rfl rfl (WO.step rfl (OR.extract rfl rfl (WO.step rfl (OR.assign rfl ?_)))))))
  refine WO.step rfl (OR.assign rfl (WO.done (WX.seq (WC.seq (WC.region (WO.step rfl (OR.move rfl ?_)))))))
  refine WO.step rfl (OR.eql rfl rfl (WO.step rfl (OR.move rfl ?_)))
  refine WO.guardYes rfl rfl rfl rfl (OR.move rfl ?_)
  refine WO.guardYes rfl rfl rfl rfl (OR.buildSlice (vs := [B 97]) hs T43.und T5 rfl rfl rfl rfl (by simp) ?_)
  clear hs; intro qe w hqe hs
  refine WO.guardYes rfl rfl rfl rfl (OR.convText hs T43.und T5.und rfl ?_)
  clear hs; intro w hs
  obtain ⟨H, hle1, hp_qe, hs9⟩ := hs.pub1 hqe; clear hs; have hs := hs9; clear hs9; replace hle := hle.trans hle1; (try replace hlb := hlb.trans hle1)
  have he97 : Bytes H (.slice (some ⟨qe, 0, none⟩) 1 1) [97] := Bytes.block (l := [97]) (cap := 1) hp_qe rfl (by simp)
  replace hlc := hlc.trans hle1
  refine WO.guardYes rfl rfl rfl rfl (OR.buildSlice (vs := [_]) hs T40.und T43 rfl rfl rfl rfl (by simp) ?_)
  clear hs; intro qf w hqf hs
  obtain ⟨H, hle1, hp_qf, hs9⟩ := hs.pub1 hqf; clear hs; have hs := hs9; clear hs9; replace hle := hle.trans hle1; (try replace hlb := hlb.trans hle1)
  have hf97 : BytesL H (.slice (some ⟨qf, 0, none⟩) 1 1) [[97]] := BytesL.single (Sl.block hp_qf rfl rfl (by simp)) (he97.mono hle1)
  replace hlc := hlc.trans hle1
  refine WO.guardYes rfl rfl rfl rfl (OR.call hs body18 rfl rfl (same05_ok _ _ [[97]] [[97]] _ _ hs.toSub (hr.mono hlc) hf97 rfl (by decide)) ?_)
  clear hs; rintro _ H w hs hle1 rfl; replace hle := hle.trans hle1; (try replace hlb := hlb.trans hle1)
  refine WO.step rfl (OR.pickT rfl rfl rfl (WO.step rfl (OR.move rfl ?_)))
  refine WO.guardYes rfl rfl rfl rfl (OR.move rfl (WO.guardYes rfl rfl rfl rfl (OR.eql rfl rfl (WO.step rfl (OR.pickT rfl rfl rfl (WO.step rfl (OR.move rfl ?_)))))))
  refine WO.guardYes rfl rfl rfl rfl (OR.move rfl (WO.guardYes rfl rfl rfl rfl (OR.lenSlice T40.und rfl (WO.guardYes rfl rfl rfl rfl (OR.eql rfl rfl (WO.step rfl (OR.pickT rfl rfl rfl ?_)))))))
  refine WO.step rfl (OR.move rfl ?_)
  refine WO.guardYes rfl rfl rfl rfl (OR.move rfl ?_)
  refine WO.guardYes rfl rfl rfl rfl (OR.call hs body24 rfl rfl (kdel_ok kb (skD awC 0 false false (0 + 1 + 0)) _ _ hs.toSub (hs.blk (i := 0) rfl) (hs.nh (i := 0) rfl)) ?_)
  clear hs; rintro _ H w hs hle1 rfl; replace hle := hle.trans hle1; (try replace hlb := hlb.trans hle1)
  refine WO.guardYes rfl rfl rfl rfl (OR.eql rfl rfl (WO.step rfl (OR.pickT rfl rfl rfl (WO.step rfl (OR.assign rfl (WO.done (WX.seq ?_)))))))
  refine WC.ret ?_
  refine WX.ret1 rfl rfl ?_
  exact .mk (hs.sublist (List.nil_sublist _)) rfl
end Go.Bw
namespace Go.Bw
set_option linter.unusedVariables false
set_option linter.unusedSimpArgs false
open Go.Proofs

theorem knew_yes {g s dl : Nat} {v : Value} {M : Mem} (h : (1 ≤ g ∧ g ≤ 255 ∧ 1 ≤ s ∧ s ≤ 65535 ∧ 4 < g * s) ∧ dl ≤ 1099511627776) (hr : if (1 ≤ g ∧ g ≤ 255 ∧ 1 ≤ s ∧ s ≤ 65535 ∧ 4 < g * s) ∧ dl ≤ 1099511627776 then ∃ kb, v = .tuple #[ptr kb, .int .i64 0] ∧ M = [(kb, sinkObj ⟨g, s, dl, 0, false, false⟩, true)] else v = .tuple #[.pointer none, .int .i64 1] ∧ M = []) :
    ∃ kb, v = .tuple #[ptr kb, .int .i64 0] ∧ M = [(kb, sinkObj ⟨g, s, dl, 0, false, false⟩, true)] := by rwa [if_pos h] at hr
theorem knew_no {g s dl : Nat} {v : Value} {M : Mem} (h : ¬ ((1 ≤ g ∧ g ≤ 255 ∧ 1 ≤ s ∧ s ≤ 65535 ∧ 4 < g * s) ∧ dl ≤ 1099511627776)) (hr : if (1 ≤ g ∧ g ≤ 255 ∧ 1 ≤ s ∧ s ≤ 65535 ∧ 4 < g * s) ∧ dl ≤ 1099511627776 then ∃ kb, v = .tuple #[ptr kb, .int .i64 0] ∧ M = [(kb, sinkObj ⟨g, s, dl, 0, false, false⟩, true)] else v = .tuple #[.pointer none, .int .i64 1] ∧ M = []) :
    v = .tuple #[.pointer none, .int .i64 1] ∧ M = [] := by rwa [if_neg h] at hr
theorem SinkD.total_eq {x : SinkD} {n : Nat} (h : x.totE n = 0) : x.total n = { x with tot := n, kn := true } := if_pos h
theorem SinkD.total_ne {x : SinkD} {n : Nat} (h : x.totE n ≠ 0) : x.total n = x := if_neg h
def skA : RelD := (newR 1 5 2).take 0 ([1], [0, 0, 0, 1, 120])
def skB : RelD := skA.take 1 ([1], [0, 0, 0, 2, 120])
theorem skB_f : skB.solE 0 = 0 ∧ rdyE skB 0 = 0 ∧ rdyF skB 0 = [120] ∧ skB.solE 1 = 0 ∧ rdyE skB 1 ≠ 0 := by decide +kernel
theorem skB_g : skB.g = 1 ∧ skB.s = 5 := by decide +kernel
-- left out, for this seat has no braidwork/braidworklaw15.SinkKnown: theorem known15_ok (H0
end Go.Bw
