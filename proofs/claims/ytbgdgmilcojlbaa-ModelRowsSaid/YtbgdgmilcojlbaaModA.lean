/- A model: its configuration. -/
import Derived.Test.YtbgdgmilcojlbaaLinear
import Derived.Test.YtbgdgmilcojlbaaOpsM
namespace Go.Bw
set_option linter.unusedVariables false
set_option linter.unusedSimpArgs false
open Go.Proofs

set_option maxRecDepth 20000 in
set_option maxHeartbeats 2000000 in
theorem within_ok (a lo hi : Int) (H0 : Hp) (w0 : World) (h0 : Sub H0 w0) : Calls Try.prog 166 #[.int .i64 a, .int .i64 lo, .int .i64 hi] w0 (Pure H0 w0 fun v _ => v = .bool (decide (lo ≤ a ∧ a ≤ hi))) := by
  have hs := HS.init h0
  refine Calls.enter (args := [.int .i64 a, .int .i64 lo, .int .i64 hi]) Try.func166 rfl Try.ntmps166 rfl ?_
  refine WC.seq (WC.region (WO.step rfl (OR.assign rfl (WO.done (WX.seq (WC.seq (WC.region ?_)))))))
  refine WO.step rfl (OR.move rfl (WO.step rfl (OR.move rfl (WO.step rfl (OR.geq rfl rfl (WO.step rfl (OR.move rfl ?_)))))))
  refine WO.guardSplit (j := 3) rfl (fun q => ?_) (fun q => ?_)
  · refine WO.guardYes rfl (decide_eq_true q) rfl rfl (OR.move rfl (WO.guardYes rfl (decide_eq_true q) rfl rfl (OR.move rfl (WO.guardYes rfl (decide_eq_true q) rfl rfl (OR.leq rfl rfl (WO.step rfl (OR.pickT rfl (decide_eq_true q) rfl ?_)))))))
    refine WO.step rfl (OR.assign rfl (WO.done (WX.seq (WC.ret ?_))))
    refine WX.ret1 rfl rfl ?_
    refine .mk hs ?_
    congr 1
    rw [decide_eq_decide]
    exact ⟨fun h => ⟨q, h⟩, fun h => h.2⟩
  · refine WO.guardNo rfl (decide_eq_false q) rfl rfl (WO.guardNo rfl (decide_eq_false q) rfl rfl (WO.guardNo rfl (decide_eq_false q) rfl rfl (WO.step rfl (OR.pickF rfl (decide_eq_false q) rfl (WO.step rfl (OR.assign rfl (WO.done ?_)))))))
    refine WX.seq (WC.ret ?_)
    refine WX.ret1 rfl rfl ?_
    refine .mk hs ?_
    rw [decide_eq_false (fun h => q h.1)]
set_option maxRecDepth 20000 in
set_option maxHeartbeats 2000000 in
/-- A node's number. -/
theorem cnode_ok (gc : Nat) (a nodes win que : Int) (vf : Value) (H0 : Hp) (w0 : World) (h0 : Sub H0 w0) (hc : H0 gc = some (.cells #[.int .i64 nodes, vf, .int .i64 win, .int .i64 que] 117)) (hn : 0 ≤ nodes ∧ nodes ≤ 1000) :
    Calls Try.prog 165 #[.int .i64 a, ptr gc] w0 (Pure H0 w0 fun v _ => v = .bool (decide (0 ≤ a ∧ a ≤ nodes - 1))) := by
  have hs := HS.init h0
  have hle := Hp.le.refl H0
  refine Calls.enter (args := [.int .i64 a, ptr gc]) Try.func165 rfl Try.ntmps165 rfl ?_
  refine WC.seq (WC.region (WO.step rfl (OR.assign rfl (WO.done (WX.seq (WC.seq (WC.region ?_)))))))
  refine WO.step rfl (OR.move rfl (WO.step rfl (OR.fieldAddr FA117_0 rfl ?_)))
  refine WO.step rfl (OR.load T3 rfl rfl (hs.cell (hcell_of hc rfl)) ?_)
  refine WO.step rfl (OR.subI rfl rfl (by omega) (by omega) ?_)
  refine WO.step rfl (OR.call hs body166 rfl rfl (within_ok a 0 (nodes - 1) _ _ hs.toSub) ?_)
  clear hs; rintro _ H w hs hle1 rfl; replace hle := hle.trans hle1; (try replace hlb := hlb.trans hle1)
  refine WO.step rfl (OR.assign rfl (WO.done (WX.seq (WC.ret ?_))))
  refine WX.ret1 rfl rfl ?_
  exact .mk hs rfl
def cnodeV (gc : Nat) : Value := .func (.func 165) #[] #[ptr gc]
set_option maxRecDepth 20000 in
set_option maxHeartbeats 2000000 in
/-- The chapter's flow may be. -/
theorem cflow_ok (gc g s : Nat) (vs vf : Value) (win que : Int) (H0 : Hp) (w0 : World) (h0 : Sub H0 w0) (hgs : goodGS g s) (hsk : Ints H0 vs [2]) (hc : H0 gc = some (.cells #[.int .i64 3, vf, .int .i64 win, .int .i64 que] 117)) :
    Calls Try.prog 164 #[.agg #[.int .i64 (g : Int), .int .i64 (s : Int), .int .i64 0, vs], ptr gc] w0 (Pure H0 w0 fun v _ => v = .bool false) := by
  have hs := HS.init h0
  have hle := Hp.le.refl H0
  have hsk0 := hsk
  obtain ⟨b1, c1, rfl⟩ := hsk0.form
  obtain ⟨xb, xo, rfl, hcx⟩ := hsk.pos (by simp)
  have hc0 := hcx 0 (by simp)
  obtain ⟨q1, q2, q3, q4, q5⟩ := hgs
  have hmul2 : (g : Int) * (s : Int) ≤ 16711425 := Int.mul_le_mul q2 q4 (by omega) (by omega)
  refine Calls.enter (args := [.agg #[.int .i64 (g : Int), .int .i64 (s : Int), .int .i64 0, .slice (some ⟨xb, xo, none⟩) [(2 : Int)].length c1], ptr gc]) Try.func164 rfl Try.ntmps164 rfl ?_
  refine WC.seq (WC.region (WO.step rfl (OR.box hs rfl ?_)))
  clear hs; intro g1 w hg1 hs
  refine WO.step rfl (OR.assign rfl (WO.done (WX.seq (WC.seq (WC.region (WO.step rfl (OR.makeFunc rfl rfl ?_)))))))
  refine WO.step rfl (OR.assign rfl (WO.done (WX.seq (WC.seq (WC.seq (WC.region (WO.step rfl ?_)))))))
  refine OR.fieldAddr FA120_3 rfl (WO.step rfl (OR.load T87 rfl rfl (hs.cellM (i := 0) rfl rfl) (WO.step rfl (OR.lenSlice T87.und rfl (WO.step rfl (OR.move rfl (WO.done ?_)))))))
  refine WX.seq (WC.block ?_)
  refine WC.loop (ι := Nat) (fun k => [(1, ptr gc), (2, ptr g1), (4, cnodeV gc), (9, .slice (some ⟨xb, xo, none⟩) 1 c1), (10, .int .i64 1), (11, .int .i64 (k : Int))]) (fun k w => (k ≤ 1 ∧ ∃ H, Hp.le H0 H ∧ HS [] H0 w0 H [(g1, .cells #[.int .i64 (g : Int), .int .i64 (s : Int), .int .i64 0, .slice (some ⟨xb, xo, none⟩) 1 c1] 120, true)] w)) (fun k => 1 - k) 0 ⟨rfl, rfl, rfl, rfl, rfl, rfl,  trivial⟩ ?_ (fun k w hW => ?_)
  · exact ⟨by omega, H0, hle, hs⟩
  clear hs hle
  obtain ⟨hk, H, hle, hs⟩ := hW
  refine WC.seq (WC.region (WO.step rfl (OR.lss rfl rfl (WO.done (WX.seq (WC.seq ?_))))))
  refine WC.condD rfl (fun hlt => ?_) (fun hlt => ?_)
  · have e : k = 0 := by omega
    subst e
    refine WC.skip (WX.seq (WC.seq (WC.block (WC.seq (WC.region (WO.step rfl (OR.move rfl ?_)))))))
    refine WO.step rfl (OR.idx 0 T87.und T3 rfl rfl rfl (by omega) ?_)
    refine WO.step rfl (OR.load T3 rfl rfl (hs.cell (hcell.mono hle hc0)) ?_)
    refine WO.step rfl (OR.assign rfl (WO.step rfl (OR.assign rfl (WO.done (WX.seq (WC.seq (WC.region ?_)))))))
    refine WO.step rfl (OR.move rfl (WO.step rfl (OR.move rfl ?_)))
    refine WO.step rfl (OR.call hs body165 rfl rfl (cnode_ok gc 2 3 win que vf _ _ hs.toSub (hle _ _ hc) (by omega)) ?_)
    clear hs; rintro _ H w hs hle1 rfl; replace hle := hle.trans hle1; (try replace hlb := hlb.trans hle1)
    refine WO.step rfl (OR.not rfl (WO.step rfl (OR.move rfl ?_)))
    refine WO.guardYes rfl rfl rfl rfl (OR.move rfl (WO.guardYes rfl rfl rfl rfl (OR.fieldAddr FA120_2 rfl (WO.guardYes rfl rfl rfl rfl (OR.load T3 rfl rfl (hs.cellM (i := 0) rfl rfl) (WO.guardYes rfl rfl rfl rfl (OR.eql rfl rfl ?_)))))))
    refine WO.step rfl (OR.pickF rfl rfl rfl (WO.step rfl (OR.move rfl ?_)))
    refine WO.guardYes rfl rfl rfl rfl (OR.move rfl (WO.guardYes rfl rfl rfl rfl (OR.gtr rfl rfl (WO.guardYes rfl rfl rfl rfl (OR.move rfl ?_)))))
    refine WO.guardNo rfl rfl rfl rfl (WO.guardNo rfl rfl rfl rfl (WO.guardNo rfl rfl rfl rfl (WO.guardNo rfl rfl rfl rfl (WO.guardNo rfl rfl rfl rfl (WO.guardNo rfl rfl rfl rfl (WO.guardNo rfl rfl rfl rfl (WO.guardNo rfl rfl rfl rfl ?_)))))))
    refine WO.guardYes rfl rfl rfl rfl (OR.pickF rfl rfl rfl (WO.step rfl (OR.pickF rfl rfl rfl (WO.done (WX.seq (WC.no rfl rfl (WC.skip ?_)))))))
    refine WX.block (WX.seq (WC.region (WO.step rfl (OR.addI rfl rfl (by omega) (by omega) (WO.step rfl (OR.move rfl (WO.done ?_)))))))
    refine WX.again (0 + 1) ⟨rfl, rfl, rfl, rfl, rfl, rfl,  trivial⟩ ?_ ?_
    · exact ⟨by omega, H, hle, hs⟩
    · omega
  · refine WC.exit (WX.seq_exit (WX.loop_exit (WX.block_hit (WX.seq (WC.seq (WC.region (WO.step rfl ?_)))))))
    refine OR.fieldAddr FA120_0 rfl (WO.step rfl (OR.load T3 rfl rfl (hs.cellM (i := 0) rfl rfl) ?_))
    refine WO.step rfl (OR.call hs body166 rfl rfl (within_ok (g : Int) 1 255 _ _ hs.toSub) ?_)
    clear hs; rintro _ H w hs hle1 rfl; replace hle := hle.trans hle1; (try replace hlb := hlb.trans hle1)
    rw [decide_eq_true (show 1 ≤ (g : Int) ∧ (g : Int) ≤ 255 from ⟨q1, q2⟩)]
    refine WO.step rfl (OR.not rfl (WO.step rfl (OR.move rfl ?_)))
    refine WO.guardYes rfl rfl rfl rfl (OR.fieldAddr FA120_1 rfl (WO.guardYes rfl rfl rfl rfl (OR.load T3 rfl rfl (hs.cellM (i := 0) rfl rfl) ?_)))
    refine WO.guardYes rfl rfl rfl rfl (OR.call hs body166 rfl rfl (within_ok (s : Int) 1 65535 _ _ hs.toSub) ?_)
    clear hs; rintro _ H w hs hle1 rfl; replace hle := hle.trans hle1; (try replace hlb := hlb.trans hle1)
    rw [decide_eq_true (show 1 ≤ (s : Int) ∧ (s : Int) ≤ 65535 from ⟨q3, q4⟩)]
    refine WO.guardYes rfl rfl rfl rfl (OR.not rfl (WO.step rfl (OR.pickF rfl rfl rfl (WO.step rfl (OR.move rfl ?_)))))
    refine WO.guardYes rfl rfl rfl rfl (OR.fieldAddr FA120_0 rfl (WO.guardYes rfl rfl rfl rfl (OR.load T3 rfl rfl (hs.cellM (i := 0) rfl rfl) (WO.guardYes rfl rfl rfl rfl (OR.fieldAddr FA120_1 rfl (WO.guardYes rfl rfl rfl rfl (OR.load T3 rfl rfl (hs.cellM (i := 0) rfl rfl) ?_)))))))
    refine WO.guardYes rfl rfl rfl rfl (OR.mulI rfl rfl (by omega) (by omega) (WO.guardYes rfl rfl rfl rfl (OR.leq rfl rfl (WO.step rfl (OR.pickF rfl rfl rfl (WO.step rfl (OR.move rfl ?_)))))))
    refine WO.guardYes rfl (decide_eq_false (by omega : ¬ (g : Int) * (s : Int) ≤ 4)) rfl rfl (OR.move rfl (WO.guardYes rfl (decide_eq_false (by omega : ¬ (g : Int) * (s : Int) ≤ 4)) rfl rfl (OR.fieldAddr FA120_2 rfl (WO.guardYes rfl (decide_eq_false (by omega : ¬ (g : Int) * (s : Int) ≤ 4)) rfl rfl (OR.load T3 rfl rfl (hs.cellM (i := 0) rfl rfl) ?_)))))
    refine WO.guardYes rfl (decide_eq_false (by omega : ¬ (g : Int) * (s : Int) ≤ 4)) rfl rfl (OR.call hs body165 rfl rfl (cnode_ok gc 0 3 win que vf _ _ hs.toSub (hle _ _ hc) (by omega)) ?_)
    clear hs; rintro _ H w hs hle1 rfl; replace hle := hle.trans hle1; (try replace hlb := hlb.trans hle1)
    refine WO.guardYes rfl (decide_eq_false (by omega : ¬ (g : Int) * (s : Int) ≤ 4)) rfl rfl (OR.not rfl (WO.step rfl (OR.pickF rfl (decide_eq_false (by omega : ¬ (g : Int) * (s : Int) ≤ 4)) rfl (WO.step rfl (OR.move rfl ?_)))))
    refine WO.guardYes rfl rfl rfl rfl (OR.fieldAddr FA120_3 rfl (WO.guardYes rfl rfl rfl rfl (OR.load T87 rfl rfl (hs.cellM (i := 0) rfl rfl) (WO.guardYes rfl rfl rfl rfl (OR.lenSlice T87.und rfl ?_)))))
    refine WO.guardYes rfl rfl rfl rfl (OR.call hs body166 rfl rfl (within_ok 1 1 8 _ _ hs.toSub) ?_)
    clear hs; rintro _ H w hs hle1 rfl; replace hle := hle.trans hle1; (try replace hlb := hlb.trans hle1)
    refine WO.guardYes rfl rfl rfl rfl (OR.not rfl (WO.step rfl (OR.pickF rfl rfl rfl (WO.step rfl (OR.assign rfl (WO.done (WX.seq ?_)))))))
    refine WC.ret ?_
    refine WX.ret1 rfl rfl ?_
    exact .mk (hs.drop 0) rfl
def cflowV (gc : Nat) : Value := .func (.func 164) #[] #[ptr gc]
/-- One flow in memory. -/
def Flow1 (H : Hp) (v : Value) (g s : Nat) : Prop := ∃ fb fo cf vs, v = .slice (some ⟨fb, fo, none⟩) 1 cf ∧ 1 ≤ cf ∧ Ints H vs [2] ∧ ∀ j u, [Value.int .i64 (g : Int), .int .i64 (s : Int), .int .i64 0, vs][j]? = some u → hcell H ((⟨fb, fo, none⟩ : Addr).add j) = some u
theorem Flow1.mono {H H' : Hp} {v : Value} {g s : Nat} (h : Flow1 H v g s) (hle : Hp.le H H') : Flow1 H' v g s := by
  obtain ⟨fb, fo, cf, vs, h1, h4, h2, h3⟩ := h
  exact ⟨fb, fo, cf, vs, h1, h4, h2.mono hle, fun j u hj => hcell.mono hle (h3 j u hj)⟩
set_option maxRecDepth 20000 in
set_option maxHeartbeats 2000000 in
theorem iflow_ok (gc g s : Nat) (vf v9 : Value) (win que : Int) (H0 : Hp) (w0 : World) (h0 : Sub H0 w0) (hgs : goodGS g s) (hf : Flow1 H0 vf g s) (hc : H0 gc = some (.cells #[.int .i64 3, v9, .int .i64 win, .int .i64 que] 117)) :
    Calls Try.prog 182 #[vf, cflowV gc] w0 (Pure H0 w0 fun v _ => v = .int .i64 (-1)) := by
  have hs := HS.init h0
  have hle := Hp.le.refl H0
  obtain ⟨fb, fo, cf, vs, rfl, hcf, hvs, hcc⟩ := hf
  obtain ⟨_, _, e9⟩ := hvs.form
  refine Calls.enter (args := [.slice (some ⟨fb, fo, none⟩) 1 cf, cflowV gc]) Try.func182 rfl Try.ntmps182 rfl ?_
  refine WC.seq (WC.region (WO.step rfl (OR.assign rfl (WO.done (WX.seq (WC.seq (WC.seq ?_)))))))
  refine WC.region (WO.step rfl (OR.move rfl (WO.step rfl (OR.lenSlice T115.und rfl (WO.step rfl (OR.move rfl (WO.done ?_)))))))
  refine WX.seq (WC.block ?_)
  refine WC.loop (ι := Nat) (fun k => [(0, .slice (some ⟨fb, fo, none⟩) 1 cf), (1, cflowV gc), (7, .int .i64 1), (8, .int .i64 (k : Int))]) (fun k w => (k ≤ 1 ∧ ∃ H, Hp.le H0 H ∧ HS [] H0 w0 H [] w)) (fun k => 1 - k) 0 ⟨rfl, rfl, rfl, rfl,  trivial⟩ ?_ (fun k w hW => ?_)
  · exact ⟨by omega, H0, hle, hs⟩
  clear hs hle
  obtain ⟨hk, H, hle, hs⟩ := hW
  refine WC.seq (WC.region (WO.step rfl (OR.lss rfl rfl (WO.done (WX.seq (WC.seq ?_))))))
  refine WC.condD rfl (fun hlt => ?_) (fun hlt => ?_)
  · have e : k = 0 := by omega
    subst e
    refine WC.skip (WX.seq (WC.seq (WC.block (WC.seq (WC.region (WO.step rfl (OR.move rfl ?_)))))))
    refine WO.step rfl (OR.assign rfl (WO.done (WX.seq (WC.seq (WC.region (WO.step rfl (OR.move rfl ?_)))))))
    refine WO.step rfl (OR.move rfl (WO.step rfl (OR.move rfl ?_)))
    refine WO.step rfl (OR.idxN 0 T115.und T120 rfl rfl rfl (by omega) ?_)
    refine WO.step rfl (OR.loadN (cs := [.int .i64 (g : Int), .int .i64 (s : Int), .int .i64 0, vs]) T120 rfl rfl rfl (fun j u hj => hs.cell (hcell.mono hle (by rw [Nat.zero_mul, Nat.add_zero]; exact hcc j u hj))) ?_)
    refine WO.step rfl (OR.call hs body164 rfl rfl (cflow_ok gc g s vs v9 win que _ _ hs.toSub hgs (hvs.mono hle) (hle _ _ hc)) ?_)
    clear hs; rintro _ H w hs hle1 rfl; replace hle := hle.trans hle1; (try replace hlb := hlb.trans hle1)
    refine WO.done (WX.seq ?_)
    refine WC.no rfl rfl ?_
    refine WC.skip (WX.block (WX.seq (WC.region (WO.step rfl (OR.addI rfl rfl (by omega) (by omega) (WO.step rfl (OR.move rfl ?_)))))))
    refine WO.done ?_
    refine WX.again (0 + 1) ⟨rfl, rfl, rfl, rfl,  trivial⟩ ?_ ?_
    · exact ⟨by omega, H, hle, hs⟩
    · omega
  · refine WC.exit (WX.seq_exit (WX.loop_exit (WX.block_hit (WX.seq (WC.seq (WC.region (WO.step rfl ?_)))))))
    refine OR.assign rfl (WO.done (WX.seq (WC.ret ?_)))
    refine WX.ret1 rfl rfl ?_
    exact .mk hs rfl
set_option maxRecDepth 20000 in
set_option maxHeartbeats 2000000 in
theorem chasflow_ok (gc g s : Nat) (vf v9 : Value) (win que : Int) (H0 : Hp) (w0 : World) (h0 : Sub H0 w0) (hgs : goodGS g s) (hf : Flow1 H0 vf g s) (hc : H0 gc = some (.cells #[.int .i64 3, v9, .int .i64 win, .int .i64 que] 117)) :
    Calls Try.prog 167 #[vf, cflowV gc] w0 (Pure H0 w0 fun v _ => v = .bool false) := by
  have hs := HS.init h0
  have hle := Hp.le.refl H0
  have hf0 := hf
  obtain ⟨fb, fo, cf, vs, rfl, hcf, hvs, hcc⟩ := hf0
  refine Calls.enter (args := [.slice (some ⟨fb, fo, none⟩) 1 cf, cflowV gc]) Try.func167 rfl Try.ntmps167 rfl ?_
  refine WC.seq (WC.region (WO.step rfl (OR.assign rfl (WO.done (WX.seq (WC.seq (WC.region ?_)))))))
  refine WO.step rfl (OR.move rfl (WO.step rfl (OR.move rfl ?_)))
  refine WO.step rfl (OR.call hs body182 rfl rfl (iflow_ok gc g s _ v9 win que _ _ hs.toSub hgs hf hc) ?_)
  clear hs; rintro _ H w hs hle1 rfl; replace hle := hle.trans hle1; (try replace hlb := hlb.trans hle1)
  refine WO.step rfl (OR.geq rfl rfl (WO.step rfl (OR.assign rfl (WO.done (WX.seq (WC.ret ?_))))))
  refine WX.ret1 rfl rfl ?_
  exact .mk hs rfl
set_option maxRecDepth 20000 in
set_option maxHeartbeats 2000000 in
/-- The chapter's configuration may be. -/
theorem tconfig_ok (g s : Nat) (vf : Value) (H0 : Hp) (w0 : World) (h0 : Sub H0 w0) (hgs : goodGS g s) (hf : Flow1 H0 vf g s) :
    Calls Try.prog 123 #[.agg #[.int .i64 3, vf, .int .i64 1, .int .i64 1]] w0 (Pure H0 w0 fun v _ => v = .bool true) := by
  have hs := HS.init h0
  have hle := Hp.le.refl H0
  have hf0 := hf
  obtain ⟨fb, fo, cf, vs, rfl, hcf, hvs, hcc⟩ := hf0
  refine Calls.enter (args := [.agg #[.int .i64 3, .slice (some ⟨fb, fo, none⟩) 1 cf, .int .i64 1, .int .i64 1]]) Try.func123 rfl Try.ntmps123 rfl ?_
  refine WC.seq (WC.region (WO.step rfl (OR.box hs rfl ?_)))
  clear hs; intro g1 w hg1 hs
  refine WO.step rfl (OR.assign rfl (WO.done (WX.seq (WC.seq (WC.region (WO.step rfl (OR.makeFunc rfl rfl ?_)))))))
  refine WO.step rfl (OR.assign rfl (WO.done (WX.seq (WC.seq (WC.region (WO.step rfl (OR.fieldAddr FA117_0 rfl ?_)))))))
  refine WO.step rfl (OR.load T3 rfl rfl (hs.cellM (i := 0) rfl rfl) ?_)
  obtain ⟨H, hle1, hp_g1, hs9⟩ := hs.pub1 hg1; clear hs; have hs := hs9; clear hs9; replace hle := hle.trans hle1; (try replace hlb := hlb.trans hle1)
  have hc9 := hp_g1
  refine WO.step rfl (OR.call hs body166 rfl rfl (within_ok 3 1 64 _ _ hs.toSub) ?_)
  clear hs; rintro _ H w hs hle1 rfl; replace hle := hle.trans hle1; (try replace hlb := hlb.trans hle1)
  replace hc9 := hle1 _ _ hc9
  refine WO.step rfl (OR.move rfl ?_)
  refine WO.guardYes rfl rfl rfl rfl (OR.fieldAddr FA117_1 rfl ?_)
  refine WO.guardYes rfl rfl rfl rfl (OR.load T115 rfl rfl (hs.cell (hcell_of hc9 rfl)) ?_)
  refine WO.guardYes rfl rfl rfl rfl (OR.lenSlice T115.und rfl ?_)
  refine WO.guardYes rfl rfl rfl rfl (OR.call hs body166 rfl rfl (within_ok 1 1 4 _ _ hs.toSub) ?_)
  clear hs; rintro _ H w hs hle1 rfl; replace hle := hle.trans hle1; (try replace hlb := hlb.trans hle1)
  replace hc9 := hle1 _ _ hc9
  refine WO.step rfl (OR.pickT rfl rfl rfl (WO.step rfl (OR.move rfl ?_)))
  refine WO.guardYes rfl rfl rfl rfl (OR.fieldAddr FA117_2 rfl ?_)
  refine WO.guardYes rfl rfl rfl rfl (OR.load T3 rfl rfl (hs.cell (hcell_of hc9 rfl)) ?_)
  refine WO.guardYes rfl rfl rfl rfl (OR.call hs body166 rfl rfl (within_ok 1 1 16 _ _ hs.toSub) ?_)
  clear hs; rintro _ H w hs hle1 rfl; replace hle := hle.trans hle1; (try replace hlb := hlb.trans hle1)
  replace hc9 := hle1 _ _ hc9
  refine WO.step rfl (OR.pickT rfl rfl rfl (WO.step rfl (OR.move rfl ?_)))
  refine WO.guardYes rfl rfl rfl rfl (OR.fieldAddr FA117_3 rfl ?_)
  refine WO.guardYes rfl rfl rfl rfl (OR.load T3 rfl rfl (hs.cell (hcell_of hc9 rfl)) ?_)
  refine WO.guardYes rfl rfl rfl rfl (OR.call hs body166 rfl rfl (within_ok 1 1 64 _ _ hs.toSub) ?_)
  clear hs; rintro _ H w hs hle1 rfl; replace hle := hle.trans hle1; (try replace hlb := hlb.trans hle1)
  replace hc9 := hle1 _ _ hc9
  refine WO.step rfl (OR.pickT rfl rfl rfl (WO.step rfl (OR.move rfl ?_)))
  refine WO.guardYes rfl rfl rfl rfl (OR.fieldAddr FA117_1 rfl ?_)
  refine WO.guardYes rfl rfl rfl rfl (OR.load T115 rfl rfl (hs.cell (hcell_of hc9 rfl)) ?_)
  refine WO.guardYes rfl rfl rfl rfl (OR.move rfl ?_)
  refine WO.guardYes rfl rfl rfl rfl (OR.call hs body167 rfl rfl (chasflow_ok g1 g s _ _ 1 1 _ _ hs.toSub hgs (hf.mono hle) hc9) ?_)
  clear hs; rintro _ H w hs hle1 rfl; replace hle := hle.trans hle1; (try replace hlb := hlb.trans hle1)
  refine WO.guardYes rfl rfl rfl rfl (OR.not rfl (WO.step rfl (OR.pickT rfl rfl rfl (WO.step rfl (OR.assign rfl (WO.done (WX.seq ?_)))))))
  refine WC.ret ?_
  refine WX.ret1 rfl rfl ?_
  exact .mk hs rfl
end Go.Bw
namespace Go.Bw
set_option linter.unusedVariables false
set_option linter.unusedSimpArgs false
open Go.Proofs

set_option maxRecDepth 20000 in
set_option maxHeartbeats 2000000 in
theorem grow_ok (m : Nat) (hm : m ≤ 1000000) (H0 : Hp) (w0 : World) (h0 : Sub H0 w0) :
    Calls Try.prog 169 #[.slice none 0 0, .int .i64 (m : Int)] w0 (Ret [] H0 w0 fun v H' M' => H' = H0 ∧ Own w0.heap.size 5 1 v 0 [] M') := by
  have hs := HS.init h0
  have hle := Hp.le.refl H0
  refine Calls.enter (args := [.slice none 0 0, .int .i64 (m : Int)]) Try.func169 rfl Try.ntmps169 rfl ?_
  refine WC.seq (WC.region (WO.step rfl (OR.assign rfl (WO.done (WX.seq (WC.seq (WC.seq ?_)))))))
  refine WC.region (WO.step rfl (OR.move rfl (WO.step rfl (OR.lss rfl rfl (WO.done (WX.seq ?_))))))
  refine WC.no rfl (decide_eq_false (by omega)) ?_
  refine WC.skip (WX.seq (WC.seq (WC.seq (WC.region (WO.step rfl (OR.move rfl (WO.step rfl ?_)))))))
  refine OR.move rfl (WO.step rfl (OR.capSlice T23.und rfl (WO.step rfl (OR.move rfl (WO.step rfl (OR.lenSlice T23.und rfl (WO.step rfl ?_)))))))
  refine OR.subI rfl rfl (by omega) (by omega) (WO.step rfl (OR.subI rfl rfl (by omega) (by omega) (WO.step rfl (OR.assign rfl (WO.done (WX.seq (WC.seq ?_)))))))
  refine WC.region (WO.step rfl (OR.move rfl (WO.step rfl (OR.gtr rfl rfl (WO.done (WX.seq ?_))))))
  refine WC.condD rfl (fun hpos => ?_) (fun hpos => ?_)
  · refine WC.region (WO.step rfl (OR.move rfl (WO.step rfl (OR.move rfl (WO.step rfl (OR.capSlice T23.und rfl ?_))))))
    refine WO.step rfl (OR.sliceHiG 0 T23.und T5 rfl rfl rfl (by omega) ?_)
    refine WO.step rfl (OR.move rfl ?_)
    refine WO.step rfl (OR.appendZ (n := 0) (cs := []) (m := m) (Mo := []) (M := []) (Nat.le_refl _) hs (Own.nil _ _ _) T23.und T5 rfl T3.und rfl rfl (by omega) (by omega) (by omega) ?_)
    clear hs; intro v w Mo hs ho
    obtain ⟨hl, ⟨hn0, _⟩ | ⟨g, c, cp, rfl, rfl, hn, hcs, hxs, hg⟩⟩ := ho
    · omega
    refine WO.step rfl (OR.move rfl (WO.step rfl (OR.lenSlice T23.und rfl ?_)))
    refine WO.step rfl (OR.sliceHiG 0 T23.und T5 rfl rfl rfl (by omega) ?_)
    refine WO.step rfl (OR.assign rfl (WO.done (WX.seq (WC.seq (WC.region (WO.step rfl (OR.move rfl ?_)))))))
    refine WO.step rfl (OR.assign rfl (WO.done (WX.seq (WC.ret ?_))))
    refine WX.ret1 rfl rfl ?_
    exact ⟨_, H0, _, rfl, hs, by simp, rfl, Own.block (by omega) hcs (by simp) hg⟩
  · refine WC.skip (WX.seq (WC.seq (WC.region (WO.step rfl (OR.move rfl (WO.step rfl (OR.assign rfl ?_)))))))
    refine WO.done (WX.seq (WC.ret ?_))
    refine WX.ret1 rfl rfl ?_
    exact ⟨_, H0, [], rfl, hs, by simp, rfl, Own.nil _ _ _⟩
theorem flatten_take_len (ll : List (List UInt8)) (k : Nat) (hk : k < ll.length) : (ll.take (k + 1)).flatten = (ll.take k).flatten ++ ll[k] := by
  rw [List.take_add_one, List.getElem?_eq_getElem hk, List.flatten_append]
  simp
theorem flatten_le (ll : List (List UInt8)) (k : Nat) : (ll.take k).flatten.length ≤ ll.flatten.length := by
  have h : (ll.take k ++ ll.drop k).flatten.length = ll.flatten.length := by rw [List.take_append_drop]
  rw [List.flatten_append, List.length_append] at h
  omega
set_option maxRecDepth 20000 in
set_option maxHeartbeats 2000000 in
theorem concat_ok (v : Value) (ll : List (List UInt8)) (H0 : Hp) (w0 : World) (h0 : Sub H0 w0) (hv : BytesL H0 v ll) (hl : ll.flatten.length ≤ 1000000) (hn : ll.length ≤ 1000000) :
    Calls Try.prog 127 #[v] w0 (Pure H0 w0 fun v H' => Bytes H' v ll.flatten) := by
  have hs := HS.init h0
  have hle := Hp.le.refl H0
  have hv0 := hv
  obtain ⟨b1, c1, rfl⟩ := hv0.form
  refine Calls.enter (args := [.slice b1 ll.length c1]) Try.func127 rfl Try.ntmps127 rfl ?_
  refine WC.seq (WC.region (WO.step rfl (OR.assign rfl (WO.done (WX.seq (WC.seq (WC.region ?_)))))))
  refine WO.step rfl (OR.assign rfl (WO.done (WX.seq (WC.seq (WC.seq (WC.region (WO.step rfl ?_)))))))
  refine OR.move rfl (WO.step rfl (OR.lenSlice T22.und rfl (WO.step rfl (OR.move rfl (WO.done (WX.seq (WC.block ?_)))))))
  refine WC.loop (ι := Nat × Nat) (fun ix => [(0, .slice b1 ll.length c1), (3, .int .i64 (ix.2 : Int)), (9, .slice b1 ll.length c1), (10, .int .i64 (ll.length : Int)), (11, .int .i64 (ix.1 : Int))]) (fun ix w => (ix.1 ≤ ll.length ∧ ix.2 = (ll.take ix.1).flatten.length ∧ ∃ H, Hp.le H0 H ∧ HS [] H0 w0 H [] w)) (fun ix => ll.length - ix.1) (0, 0) ⟨rfl, rfl, rfl, rfl, rfl,  trivial⟩ ?_ (fun ix w hW => ?_)
  · exact ⟨Nat.zero_le _, rfl, H0, hle, hs⟩
  clear hs hle
  obtain ⟨k, sum⟩ := ix
  obtain ⟨hk, hsum, H, hle, hs⟩ := hW
  simp only at hk hsum
  have hfl := flatten_le ll k
  refine WC.seq (WC.region (WO.step rfl (OR.lss rfl rfl (WO.done (WX.seq (WC.seq ?_))))))
  refine WC.condD rfl (fun hlt => ?_) (fun hlt => ?_)
  · have hk' : k < ll.length := by omega
    obtain ⟨xb, xo, rfl, hcx⟩ := hv.pos (by omega)
    obtain ⟨e1, he1, hbe1⟩ := hcx k hk'
    obtain ⟨b2, c2, rfl⟩ := hbe1.form
    have hft := flatten_take_len ll k hk'
    have hft2 : (ll.take (k + 1)).flatten.length = sum + ll[k].length := by rw [hft, List.length_append, hsum]
    have hfl2 := flatten_le ll (k + 1)
    refine WC.skip (WX.seq (WC.seq (WC.block (WC.seq (WC.region ?_)))))
    refine WO.step rfl (OR.idx k T22.und T23 rfl rfl rfl hk' ?_)
    refine WO.step rfl (OR.load T23 rfl rfl (hs.cell (hcell.mono hle he1)) ?_)
    refine WO.step rfl (OR.assign rfl (WO.done (WX.seq (WC.seq (WC.region (WO.step rfl (OR.move rfl ?_)))))))
    refine WO.step rfl (OR.move rfl (WO.step rfl (OR.lenSlice T23.und rfl (WO.step rfl (OR.addI rfl rfl (by omega) (by omega) (WO.step rfl (OR.assign rfl ?_)))))))
    refine WO.done (WX.seq (WC.seq (WC.region (WO.step rfl (OR.move rfl (WO.step rfl (OR.lss rfl rfl ?_)))))))
    refine WO.done (WX.seq ?_)
    refine WC.no rfl (decide_eq_false (by omega)) ?_
    refine WC.skip (WX.block (WX.seq (WC.region (WO.step rfl (OR.addI rfl rfl (by omega) (by omega) (WO.step rfl (OR.move rfl ?_)))))))
    refine WO.done ?_
    refine WX.again ((k + 1, sum + ll[k].length)) ⟨rfl, rfl, rfl, rfl, rfl,  trivial⟩ ?_ ?_
    · exact ⟨hk', hft2.symm, H, hle, hs⟩
    · simp only; omega
  · have e : k = ll.length := by omega
    subst e
    rw [List.take_length] at hsum
    have hs0 := hs.size
    refine WC.exit (WX.seq_exit (WX.loop_exit (WX.block_hit (WX.seq (WC.seq (WC.region (WO.step rfl ?_)))))))
    refine OR.move rfl ?_
    refine WO.step rfl (OR.callX (Mx := []) hs body169 rfl rfl (grow_ok sum (by omega) _ _ hs.toSub) rfl rfl ?_)
    clear hs; rintro _ H1 Mo w hs hle1 hnew ⟨hHH, ho⟩; replace hle := hle.trans hle1; (try replace hlb := hlb.trans hle1)
    subst hHH
    replace ho := ho.mono (show w0.heap.size ≤ _ from hs0)
    obtain ⟨b9, c9, rfl⟩ := ho.form
    have hso : HS [] H0 w0 H1 (Mo ++ []) w := hs
    clear hs
    refine WO.step rfl (OR.assign rfl (WO.done (WX.seq (WC.seq (WC.seq (WC.region (WO.step rfl ?_)))))))
    refine OR.move rfl (WO.step rfl (OR.lenSlice T22.und rfl (WO.step rfl (OR.move rfl (WO.done (WX.seq (WC.block ?_)))))))
    refine WC.loop (ι := Nat × Value) (fun ix => [(0, .slice b1 ll.length c1), (6, ix.2), (25, .slice b1 ll.length c1), (26, .int .i64 (ll.length : Int)), (27, .int .i64 (ix.1 : Int))]) (fun ix w => (ix.1 ≤ ll.length ∧ ∃ Mo, Own w0.heap.size 5 1 ix.2 (ll.take ix.1).flatten.length ((ll.take ix.1).flatten.map B) Mo ∧ HS [] H0 w0 H1 (Mo ++ []) w)) (fun ix => ll.length - ix.1) (0, .slice b9 0 c9) ⟨rfl, rfl, rfl, rfl, rfl,  trivial⟩ ?_ (fun ix w hW => ?_)
    · exact ⟨Nat.zero_le _, Mo, ho, hso⟩
    clear hso ho
    obtain ⟨k, vo⟩ := ix
    obtain ⟨hk, Mo, ho, hs⟩ := hW
    simp only at hk ho
    refine WC.seq (WC.region (WO.step rfl (OR.lss rfl rfl (WO.done (WX.seq (WC.seq ?_))))))
    refine WC.condD rfl (fun hlt2 => ?_) (fun hlt2 => ?_)
    · have hk' : k < ll.length := by omega
      obtain ⟨xb, xo, rfl, hcx⟩ := hv.pos (by omega)
      obtain ⟨e1, he1, hbe1⟩ := hcx k hk'
      obtain ⟨b2, c2, rfl⟩ := hbe1.form
      have hft := flatten_take_len ll k hk'
      have hft2 : (ll.take (k + 1)).flatten.length = (ll.take k).flatten.length + ll[k].length := by rw [hft, List.length_append]
      have hfl2 := flatten_le ll (k + 1)
      refine WC.skip (WX.seq (WC.seq (WC.block (WC.seq (WC.region ?_)))))
      refine WO.step rfl (OR.idx k T22.und T23 rfl rfl rfl hk' ?_)
      refine WO.step rfl (OR.load T23 rfl rfl (hs.cell (hcell.mono hle he1)) ?_)
      refine WO.step rfl (OR.assign rfl (WO.done (WX.seq (WC.region (WO.step rfl (OR.move rfl (WO.step rfl ?_)))))))
      refine OR.move rfl ?_
      refine WO.step rfl (OR.append (m := ll[k].length) (news := ll[k].map B) hs ho T23.und T5 rfl (by omega) rfl rfl (by simp) (Sl.src (hbe1.mono hle) hs) (Sl.src0 hbe1) (bytes_one _) (by omega) (by omega) ?_)
      clear hs ho; intro vo' w Mo' hs ho hge
      refine WO.step rfl (OR.assign rfl (WO.done (WX.block (WX.seq (WC.region (WO.step rfl (OR.addI rfl rfl (by omega) (by omega) ?_)))))))
      refine WO.step rfl (OR.move rfl (WO.done ?_))
      refine WX.again ((k + 1, vo')) ⟨rfl, rfl, rfl, rfl, rfl,  trivial⟩ ?_ ?_
      · refine ⟨hk', Mo', ?_, hs⟩
        rw [hft2, hft, List.map_append]
        exact ho
      · simp only; omega
    · have e : k = ll.length := by omega
      subst e
      rw [List.take_length] at ho
      obtain ⟨b8, c8, rfl⟩ := ho.form
      refine WC.exit (WX.seq_exit (WX.loop_exit (WX.block_hit (WX.seq (WC.seq (WC.region (WO.step rfl ?_)))))))
      refine OR.move rfl (WO.step rfl (OR.assign rfl (WO.done (WX.seq (WC.ret ?_)))))
      refine WX.ret1 rfl rfl ?_
      obtain ⟨H4, hle4, hs4, hsl4, _⟩ := HS.pub hs ho
      exact .mk hs4 hsl4
end Go.Bw
namespace Go.Bw
set_option linter.unusedVariables false
set_option linter.unusedSimpArgs false
open Go.Proofs

def flowObj (g s : Int) (sv : Value) : Obj := .cells #[.int .i64 g, .int .i64 s, .int .i64 0, sv] 120
set_option maxRecDepth 20000 in
set_option maxHeartbeats 2000000 in
theorem three_ok (H0 : Hp) (w0 : World) (h0 : Sub H0 w0) :
    Calls Try.prog 68 #[] w0 (Ret [] H0 w0 fun v H' M' => ∃ fb sv, v = .agg #[.int .i64 3, .slice (some ⟨fb, 0, none⟩) 1 1, .int .i64 1, .int .i64 1] ∧ M' = [(fb, flowObj 2 3 sv, true)] ∧ w0.heap.size ≤ fb ∧ Ints H' sv [2]) := by
  have hs := HS.init h0
  have hle := Hp.le.refl H0
  refine Calls.enter (args := []) Try.func68 rfl Try.ntmps68 rfl ?_
  refine WC.seq (WC.region (WO.step rfl (OR.alloc hs T117 ?_)))
  clear hs; intro g1 w hg1 hs
  refine WO.done (WX.seq (WC.seq (WC.region ?_)))
  refine WO.step rfl (OR.buildSlice (vs := [_]) hs T87.und T3 rfl rfl rfl rfl (by simp) ?_)
  clear hs; intro g2 w hg2 hs
  refine WO.step rfl (OR.buildAll T120 rfl rfl PL120 rfl rfl ?_)
  obtain ⟨H, hle1, hp_g2, hs9⟩ := hs.pub1 hg2; clear hs; have hs := hs9; clear hs9; replace hle := hle.trans hle1; (try replace hlb := hlb.trans hle1)
  have hsk : Ints H (.slice (some ⟨g2, 0, none⟩) 1 1) [2] := Sl.block hp_g2 rfl rfl (by simp)
  refine WO.step rfl (OR.buildSlice (vs := [_]) hs T115.und T120 rfl rfl rfl rfl (by simp) ?_)
  clear hs; intro g3 w hg3 hs
  refine WO.step rfl (OR.build (cs := #[.int .i64 3, .slice (some ⟨g3, 0, none⟩) 1 1, .int .i64 1, .int .i64 1]) rfl (by intro w; kernel_rfl) ?_)
  replace hs := hs.front (i := 1) rfl
  refine WO.stepN (OR.storeAll hs T117 rfl rfl rfl rfl rfl ?_)
  clear hs; intro w hs
  refine WO.done (WX.seq (WC.ret ?_))
  replace hs := hs.front (i := 0) rfl
  refine WX.retCell T117 rfl rfl rfl rfl (hs.blk (i := 0) rfl) ?_
  exact ⟨_, H, _, rfl, hs.drop 0, by simp [dropAt], g3, _, rfl, rfl, hg3, hsk⟩
set_option maxRecDepth 20000 in
set_option maxHeartbeats 2000000 in
theorem cloneFlows_ok (v : Value) (n : Nat) (cs : List Value) (H0 : Hp) (w0 : World) (h0 : Sub H0 w0) (hv : Sl H0 4 v n cs) (h1 : cs.all (·.oneCell') = true) (hl : n ≤ 100000) :
    Calls Try.prog 124 #[v] w0 (Ret [] H0 w0 fun v H' M' => H' = H0 ∧ Own w0.heap.size 120 4 v n cs M') := by
  have hs := HS.init h0
  obtain ⟨base, cp, rfl⟩ := hv.form
  refine Calls.enter (args := [.slice base n cp]) Try.func124 rfl Try.ntmps124 rfl ?_
  refine WC.seq (WC.region (WO.step rfl (OR.assign rfl (WO.done (WX.seq (WC.seq (WC.seq ?_)))))))
  refine WC.region (WO.step rfl (OR.move rfl (WO.step rfl (OR.eqlNil T115.und rfl rfl (WO.done (WX.seq ?_))))))
  refine WC.cond rfl (fun hb => ?_) (fun hb => ?_)
  · refine WC.seq (WC.region (WO.step rfl (OR.assign rfl (WO.done (WX.seq (WC.ret (WX.seq_ret ?_)))))))
    refine WX.ret1 rfl rfl ?_
    have hb' : base = none := by cases base with | none => rfl | some a => cases hb
    subst hb'
    have h2 := Sl.src0 hv rfl
    subst h2
    refine ⟨_, H0, [], rfl, hs, by simp, rfl, ?_⟩
    have : cs = [] := List.eq_nil_of_length_eq_zero (by simpa using hv.1)
    subst this
    exact Own.nil _ _ _
  · refine WC.skip (WX.seq (WC.seq (WC.region ?_)))
    refine WO.step rfl (OR.buildSlice (vs := []) hs T115.und T120 rfl rfl rfl rfl (by simp) ?_)
    clear hs; intro g1 w hg1 hs
    refine WO.step rfl (OR.move rfl ?_)
    refine WO.step rfl (OR.append (n := 0) (cs := []) (news := cs) (Mo := [_]) (M := []) hs (Own.block (cap := 0) (by omega) rfl rfl hg1) T115.und T120 rfl (by omega) rfl rfl hv.1 (Sl.src hv hs) (Sl.src0 hv) h1 (by omega) (by omega) ?_)
    clear hs; intro v' w Mo hs ho hge
    refine WO.step rfl (OR.assign rfl (WO.done (WX.seq (WC.ret ?_))))
    refine WX.ret1 rfl rfl ?_
    rw [Nat.zero_add, List.nil_append] at ho
    refine ⟨_, H0, Mo, rfl, by simpa using hs, ?_, rfl, ho⟩
    rcases ho.2 with ⟨rfl, _⟩ | ⟨g, c, cap, rfl, _⟩ <;> simp

/-- A model in memory: its configuration's flows, its part, what was got. -/
def modObj (vf : Value) (pb gb : Nat) : Obj := .cells #[.int .i64 3, vf, .int .i64 1, .int .i64 1, .slice (some ⟨pb, 0, none⟩) 1 1, .map (some gb), .int .u64 0, .slice none 0 0, .slice none 0 0] 185
def partObj (vs vc : Value) (cl : Bool) : Obj := .cells #[vs, vc, .bool cl] 189
def MF.ownMap (N : Nat) : MF := ⟨fun v M _ => ∃ g, N ≤ g ∧ v = .map (some g) ∧ M = [(g, .map #[] 0, true)], fun _ _ _ _ _ h => h⟩
theorem flow_rest {c : Array Value} {l : List Value} (h : c.toList.take 4 = l) : ∃ rest, c = (l ++ rest).toArray := by
  refine ⟨c.toList.drop 4, ?_⟩
  rw [← h, List.take_append_drop]
theorem setL3 (a b c d v : Value) (r : List Value) : setL (a :: b :: c :: d :: r) 3 [v] = a :: b :: c :: v :: r := by
  simp [setL]

set_option maxRecDepth 20000 in
set_option maxHeartbeats 2000000 in
theorem mnew_ok (g s : Nat) (vf : Value) (H0 : Hp) (w0 : World) (h0 : Sub H0 w0) (hgs : goodGS g s) (hf : Flow1 H0 vf g s) :
    Calls Try.prog 69 #[.agg #[.int .i64 3, vf, .int .i64 1, .int .i64 1]] w0 (Ret [] H0 w0 fun v H' M' => ∃ mb pb gb vf', v = .tuple #[ptr mb, .int .i64 0] ∧ M' = [(mb, modObj vf' pb gb, true), (gb, .map #[] 0, true), (pb, partObj (.slice none 0 0) (.slice none 0 0) false, true)] ∧ Flow1 H' vf' g s) := by
  have hs := HS.init h0
  have hle := Hp.le.refl H0
  have hf0 := hf
  obtain ⟨fb, fo, cf, vs, rfl, hcf, hvs, hcc⟩ := hf0
  refine Calls.enter (args := [.agg #[.int .i64 3, .slice (some ⟨fb, fo, none⟩) 1 cf, .int .i64 1, .int .i64 1]]) Try.func69 rfl Try.ntmps69 rfl ?_
  refine WC.seq (WC.region (WO.step rfl (OR.box hs rfl ?_)))
  clear hs; intro g1 w hg1 hs
  refine WO.step rfl (OR.assign rfl (WO.step rfl (OR.assign rfl (WO.done (WX.seq (WC.seq (WC.seq ?_)))))))
  refine WC.region (WO.step rfl (OR.loadAll T117 rfl rfl (hs.blk (i := 0) rfl) rfl ?_))
  refine WO.step rfl (OR.call hs body123 rfl rfl (tconfig_ok g s _ _ _ hs.toSub hgs hf) ?_)
  clear hs; rintro _ H w hs hle1 rfl; replace hle := hle.trans hle1; (try replace hlb := hlb.trans hle1)
  refine WO.step rfl (OR.not rfl (WO.done (WX.seq ?_)))
  refine WC.no rfl rfl ?_
  have hsl : Sl H 4 (.slice (some ⟨fb, fo, none⟩) 1 cf) 1 [.int .i64 (g : Int), .int .i64 (s : Int), .int .i64 0, vs] := by
    refine ⟨rfl, _, _, rfl, hcf, fun h => by (cases h), fun a ha => ?_⟩
    cases ha
    exact ⟨fun _ => rfl, fun i u hi => hcell.mono hle1 (by have := hcc i u hi; rwa [add_off] at this)⟩
  obtain ⟨_, _, e9⟩ := hvs.form
  have h1c : [Value.int .i64 (g : Int), .int .i64 (s : Int), .int .i64 0, vs].all (·.oneCell') = true := by subst e9; rfl
  have hs0 := hs.size
  refine WC.skip (WX.seq (WC.seq (WC.region (WO.step rfl (OR.fieldAddr FA117_1 rfl (WO.step rfl (OR.load T115 rfl rfl (hs.cellM (i := 0) rfl rfl) ?_)))))))
  refine WO.step rfl (OR.callX (Mx := []) hs body124 rfl rfl (cloneFlows_ok _ 1 _ _ _ hs.toSub hsl h1c (by omega)) rfl rfl ?_)
  clear hs; rintro _ H1 Mo w hs hle1 hnew ⟨hHH, ho⟩; replace hle := hle.trans hle1; (try replace hlb := hlb.trans hle1)
  subst hHH
  obtain ⟨_, ⟨_, _, hn0⟩ | ⟨g9, c9, cap9, rfl, rfl, hn9, hc9, hx9, hg9⟩⟩ := ho
  · omega
  obtain ⟨rest, rfl⟩ := flow_rest hx9
  replace hg9 := Nat.le_trans hs0 hg9
  clear hx9
  refine WO.step rfl (OR.fieldAddr FA117_1 rfl ?_)
  replace hs := hs.front (i := 1) rfl
  refine WO.stepN (OR.store hs T115 rfl rfl rfl (Nat.le_of_ble_eq_true rfl) rfl ?_)
  clear hs; intro w hs
  refine WO.done (WX.seq (WC.seq (WC.seq (WC.region (WO.step rfl (OR.fieldAddr FA117_1 rfl (WO.step rfl ?_)))))))
  refine OR.load T115 rfl rfl (hs.cellM (i := 0) rfl rfl) (WO.step rfl (OR.lenSlice T115.und rfl (WO.step rfl (OR.move rfl (WO.done (WX.seq (WC.block ?_)))))))
  replace hs := hs.front (i := 0) rfl
  refine WC.loop (ι := Nat × Value) (fun ix => [(1, ptr g1), (14, .int .i64 1), (15, .int .i64 (ix.1 : Int))]) (fun ix w => (ix.1 ≤ 1 ∧ ∃ H, Hp.le H0 H ∧ Ints H ix.2 [2] ∧ HS [] H0 w0 H [(g1, .cells #[.int .i64 3, .slice (some ⟨g9, 0, none⟩) 1 cap9, .int .i64 1, .int .i64 1] 117, true), (g9, .cells (.int .i64 (g : Int) :: .int .i64 (s : Int) :: .int .i64 0 :: ix.2 :: rest).toArray 120, true)] w)) (fun ix => 1 - ix.1) (0, vs) ⟨rfl, rfl, rfl,  trivial⟩ ?_ (fun ix w hW => ?_)
  · exact ⟨by omega, _, hle, hvs.mono hle, hs⟩
  clear hs hle hle1 hvs
  obtain ⟨k, vk⟩ := ix
  obtain ⟨hk, H, hle, hvs, hs⟩ := hW
  simp only at hk hvs hs
  refine WC.seq (WC.region (WO.step rfl (OR.lss rfl rfl (WO.done (WX.seq (WC.seq ?_))))))
  refine WC.condD rfl (fun hlt => ?_) (fun hlt => ?_)
  · have e : k = 0 := by omega
    subst e
    refine WC.skip (WX.seq (WC.seq (WC.block (WC.seq (WC.region (WO.step rfl (OR.move rfl ?_)))))))
    refine WO.step rfl (OR.assign rfl (WO.done (WX.seq ?_)))
    refine WC.draw 10 mixed hs (by kernel_rfl) ?_
    refine ⟨MF.eq _, by intro Mx H w hle hs; refine forVals_nil (ORg.plain (OR.fieldAddr FA117_1 rfl ?_)); exact ⟨_, [], Hp.le.refl _, hs, rfl, rfl⟩, ?_⟩
    refine ⟨MF.eq _, by intro Mx H w hle hs; refine forVals_eq rfl rfl rfl ?_; refine forVals_nil (ORg.plain (OR.load T115 rfl rfl (hs.right.cellM (i := 0) rfl rfl) ?_)); exact ⟨_, [], Hp.le.refl _, hs, rfl, rfl⟩, ?_⟩
    refine ⟨MF.eq _, by intro Mx H w hle hs; refine forVals_nil (ORg.plain (OR.move rfl ?_)); exact ⟨_, [], Hp.le.refl _, hs, rfl, rfl⟩, ?_⟩
    refine ⟨MF.eq _, by intro Mx H w hle hs; refine forVals_nil (ORg.plain (OR.fieldAddr FA117_1 rfl ?_)); exact ⟨_, [], Hp.le.refl _, hs, rfl, rfl⟩, ?_⟩
    refine ⟨MF.eq _, by intro Mx H w hle hs; refine forVals_eq rfl rfl rfl ?_; refine forVals_nil (ORg.plain (OR.load T115 rfl rfl (hs.right.cellM (i := 0) rfl rfl) ?_)); exact ⟨_, [], Hp.le.refl _, hs, rfl, rfl⟩, ?_⟩
    refine ⟨MF.eq _, by intro Mx H w hle hs; refine forVals_nil (ORg.plain (OR.move rfl ?_)); exact ⟨_, [], Hp.le.refl _, hs, rfl, rfl⟩, ?_⟩
    refine ⟨MF.eq (.pointer (some ⟨g9, 0, none⟩)), ?_, ?_⟩
    · intro Mx H w hle2 hs; (try replace hle := hle.trans hle2); (try replace hlb := hlb.trans hle2); refine forVals_eq rfl rfl rfl ?_; refine forVals_eq rfl rfl rfl ?_
      refine forVals_nil (ORg.plain (OR.idxN 0 T115.und T120 rfl rfl rfl (by omega) ?_))
      exact ⟨_, [], Hp.le.refl _, hs, rfl, rfl⟩
    refine ⟨MF.eq _, by intro Mx H w hle hs; refine forVals_eq rfl rfl rfl ?_; refine forVals_nil (ORg.plain (OR.fieldAddr FA120_3 rfl ?_)); exact ⟨_, [], Hp.le.refl _, hs, rfl, rfl⟩, ?_⟩
    refine ⟨MF.eq vk, ?_, ?_⟩
    · intro Mx H w hle2 hs; (try replace hle := hle.trans hle2); (try replace hlb := hlb.trans hle2); refine forVals_eq rfl rfl rfl ?_
      refine forVals_nil (ORg.plain (OR.load T87 rfl rfl (hs.right.cellM (i := 1) rfl rfl) ?_))
      exact ⟨_, [], Hp.le.refl _, hs, rfl, rfl⟩
    refine ⟨MF.ints [2], ?_, ?_⟩
    · intro Mx H w hle2 hs; (try replace hle := hle.trans hle2); (try replace hlb := hlb.trans hle2); refine forVals_eq rfl rfl rfl ?_
      refine forVals_nil (ORg.plain (OR.call hs body117 rfl rfl (cloneInts_pure _ [2] _ _ hs.toSub (hvs.mono (by assumption)) (by simp)) ?_))
      clear hs; rintro _ H w hs hle1 hr
      exact ⟨_, [], hle1, hs, hr, rfl⟩
    intro H w hle2; (try replace hle := hle.trans hle2); (try replace hlb := hlb.trans hle2)
    refine forAllVals_eq rfl ?_
    refine forAllVals_eq rfl ?_
    refine forAllVals_eq rfl ?_
    refine forAllVals_eq rfl ?_
    refine forAllVals_eq rfl ?_
    refine forAllVals_eq rfl ?_
    refine forAllVals_eq rfl ?_
    refine forAllVals_eq rfl ?_
    refine forAllVals_eq rfl ?_
    refine forAllVals_of rfl ?_; intro v9 h9
    refine forAllVals_nil ?_; (try clear hs); intro hs
    refine WO.step rfl (OR.idxN 0 T115.und T120 rfl rfl rfl (by omega) ?_)
    obtain ⟨b8, c8, e8⟩ := h9.form
    subst e8
    refine WO.step rfl (OR.fieldAddr FA120_3 rfl ?_)
    replace hs := hs.front (i := 1) rfl
    refine WO.stepN (OR.store hs T87 rfl rfl rfl (Nat.le_of_ble_eq_true rfl) rfl ?_)
    clear hs; intro w hs
    refine WO.done (WX.block (WX.seq (WC.region (WO.step rfl (OR.addI rfl rfl (by omega) (by omega) (WO.step rfl (OR.move rfl ?_)))))))
    refine WO.done ?_
    refine WX.again ((0 + 1, .slice b8 [(2 : Int)].length c8)) ⟨rfl, rfl, rfl,  trivial⟩ ?_ ?_
    · refine ⟨by omega, H, hle, h9, ?_⟩
      have hs9 := hs.front (i := 1) rfl
      rw [show setL (Value.int .i64 (g : Int) :: Value.int .i64 (s : Int) :: Value.int .i64 0 :: vk :: rest).toArray.toList (0 + 0 * 4 + 3) (Value.slice b8 [(2 : Int)].length c8).cells.toList = _ from setL3 _ _ _ _ _ _] at hs9
      exact hs9
    · show 1 - 1 < 1 - 0; omega
  · have hzp : ((Array.range (1 * 3)).map ((Value.agg #[.slice none 0 0, .slice none 0 0, .bool false]).cells[· % (Value.agg #[.slice none 0 0, .slice none 0 0, .bool false]).cells.size]!)) = #[.slice none 0 0, .slice none 0 0, .bool false] := by
      apply Array.ext'
      rw [Array.toList_map, Array.toList_range]
      rfl
    refine WC.exit (WX.seq_exit (WX.loop_exit (WX.block_hit (WX.seq (WC.seq ?_)))))
    have hlb := Hp.le.refl H
    refine WC.draw 6 mixed hs (by kernel_rfl) ?_
    refine ⟨MF.eq _, by intro Mx H w hle hs; refine forVals_nil (ORg.plain (OR.loadAll T117 rfl rfl (hs.right.blk (i := 0) rfl) rfl ?_)); exact ⟨_, [], Hp.le.refl _, hs, rfl, rfl⟩, ?_⟩
    refine ⟨MF.eq _, by intro Mx H w hle hs; refine forVals_nil (ORg.plain (OR.fieldAddr FA117_1 rfl ?_)); exact ⟨_, [], Hp.le.refl _, hs, rfl, rfl⟩, ?_⟩
    refine ⟨MF.eq _, by intro Mx H w hle hs; refine forVals_eq rfl rfl rfl ?_; refine forVals_nil (ORg.plain (OR.load T115 rfl rfl (hs.right.cellM (i := 0) rfl rfl) ?_)); exact ⟨_, [], Hp.le.refl _, hs, rfl, rfl⟩, ?_⟩
    refine ⟨MF.eq _, by intro Mx H w hle hs; refine forVals_eq rfl rfl rfl ?_; refine forVals_nil (ORg.plain (OR.lenSlice T115.und rfl ?_)); exact ⟨_, [], Hp.le.refl _, hs, rfl, rfl⟩, ?_⟩
    refine ⟨MF.sl w0.heap.size 1 (partObj (.slice none 0 0) (.slice none 0 0) false), ?_, ?_⟩
    · intro Mx H w hle2 hs; (try replace hle := hle.trans hle2); (try replace hlb := hlb.trans hle2); refine forVals_eq rfl rfl rfl ?_
      refine forVals_nil (ORg.plain (OR.makeSlice (m := 1) hs T179.und T189 rfl (by omega) rfl rfl (by omega) (by omega) ?_))
      rw [hzp]
      intro g w hg hs; exact ⟨_, [_], Hp.le.refl _, hs, g, hg, rfl, rfl⟩
    refine ⟨MF.ownMap w0.heap.size, ?_, ?_⟩
    · intro Mx H w hle2 hs; (try replace hle := hle.trans hle2); (try replace hlb := hlb.trans hle2)
      refine forVals_nil (ORg.plain (OR.makeMap hs ?_))
      intro g w hg hs
      exact ⟨_, [_], Hp.le.refl _, hs, g, hg, rfl, rfl⟩
    intro H w hle2; (try replace hle := hle.trans hle2); (try replace hlb := hlb.trans hle2)
    refine forAllVals_eq rfl ?_
    refine forAllVals_eq rfl ?_
    refine forAllVals_eq rfl ?_
    refine forAllVals_eq rfl ?_
    refine forAllVals_sl rfl ?_; intro pb hpb
    refine forAllVals_cons rfl ?_; intro v5 M5 h5
    refine forAllVals_nil ?_; (try clear hs); intro hs
    obtain ⟨gb, hgb, rfl, rfl⟩ := h5
    refine WO.step rfl (OR.build (cs := #[.int .i64 3, .slice (some ⟨g9, 0, none⟩) 1 cap9, .int .i64 1, .int .i64 1, .slice (some ⟨pb, 0, none⟩) 1 1, .map (some gb), .int .u64 0, .slice none 0 0, .slice none 0 0]) rfl (by intro w; kernel_rfl) ?_)
    refine WO.step rfl (OR.box hs rfl ?_)
    clear hs; intro g2 w hg2 hs
    refine WO.step rfl (OR.assign rfl (WO.step rfl (OR.assign rfl (WO.done (WX.seq (WC.ret ?_))))))
    replace hs := hs.front (i := 4) rfl
    obtain ⟨H, hle1, hp_g9, hs9⟩ := hs.pub1 hg9; clear hs; have hs := hs9; clear hs9; replace hle := hle.trans hle1; (try replace hlb := hlb.trans hle1)
    refine WX.ret2 rfl rfl rfl ?_
    have hfl : Flow1 H (.slice (some ⟨g9, 0, none⟩) 1 cap9) g s := ⟨g9, 0, cap9, vk, rfl, hn9, hvs.mono hlb, fun j u hj => by
      rw [add_off, Nat.zero_add]
      refine hcell_of hp_g9 ?_
      rw [nth_eq]
      match j, hj with
      | 0, hj => exact hj
      | 1, hj => exact hj
      | 2, hj => exact hj
      | 3, hj => exact hj⟩
    exact ⟨_, H, _, rfl, hs.drop 3, by simp [dropAt], g2, pb, gb, _, rfl, rfl, hfl⟩
end Go.Bw
