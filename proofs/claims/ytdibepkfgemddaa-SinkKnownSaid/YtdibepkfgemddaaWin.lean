/- A window. -/
import Derived.Test.YtdibepkfgemddaaRelD
import Derived.Test.YtdibepkfgemddaaSmall
import Derived.Test.YtdibepkfgemddaaRound
namespace Go.Bw
set_option linter.unusedVariables false
set_option linter.unusedSimpArgs false
open Go.Proofs

def winEnd (base width : Nat) : Nat := min (base + width) 1099511627776
def inWin (base width gen : Nat) : Prop := base ≤ gen ∧ gen < winEnd base width
instance (base width gen : Nat) : Decidable (inWin base width gen) := inferInstanceAs (Decidable (_ ∧ _))
section
variable (wb base width : Nat) (H0 : Hp) (w0 : World)
set_option maxRecDepth 20000 in
set_option maxHeartbeats 2000000 in
theorem wbase_ok (h0 : Sub H0 w0) (hb : w0.heap[wb]? = some (winObj base width)) (hn : H0 wb = none) : Calls Try.prog 113 #[ptr wb] w0 (Pure H0 w0 fun v _ => v = .int .u64 (base : Int)) := by
  have hs := HS.startR h0 hb hn
  refine Calls.enter (args := [ptr wb]) Try.func113 rfl Try.ntmps113 rfl ?_
  refine WC.seq (WC.region (WO.step rfl (OR.assign rfl (WO.done (WX.seq (WC.seq (WC.seq ?_)))))))
  refine WC.region (WO.step rfl (OR.move rfl (WO.step rfl (OR.eqlNilP T65.und rfl rfl (WO.done (WX.seq (WC.no rfl rfl ?_)))))))
  refine WC.skip (WX.seq (WC.seq (WC.region (WO.step rfl (OR.move rfl (WO.step rfl (OR.nilCheck rfl ?_)))))))
  refine WO.step rfl (OR.fieldAddr FA101_0 rfl (WO.step rfl (OR.load T27 rfl rfl (hs.cellM (i := 0) rfl rfl) (WO.step rfl (OR.assign rfl (WO.done (WX.seq ?_)))))))
  refine WC.ret ?_
  refine WX.ret1 rfl rfl ?_
  exact .mk hs rfl
set_option maxRecDepth 20000 in
set_option maxHeartbeats 2000000 in
theorem wwidth_ok (h0 : Sub H0 w0) (hb : w0.heap[wb]? = some (winObj base width)) (hn : H0 wb = none) : Calls Try.prog 78 #[ptr wb] w0 (Pure H0 w0 fun v _ => v = .int .i64 (width : Int)) := by
  have hs := HS.startR h0 hb hn
  refine Calls.enter (args := [ptr wb]) Try.func78 rfl Try.ntmps78 rfl ?_
  refine WC.seq (WC.region (WO.step rfl (OR.assign rfl (WO.done (WX.seq (WC.seq (WC.seq ?_)))))))
  refine WC.region (WO.step rfl (OR.move rfl (WO.step rfl (OR.eqlNilP T65.und rfl rfl (WO.done (WX.seq (WC.no rfl rfl ?_)))))))
  refine WC.skip (WX.seq (WC.seq (WC.region (WO.step rfl (OR.move rfl (WO.step rfl (OR.nilCheck rfl ?_)))))))
  refine WO.step rfl (OR.fieldAddr FA101_1 rfl (WO.step rfl (OR.load T3 rfl rfl (hs.cellM (i := 0) rfl rfl) (WO.step rfl (OR.assign rfl (WO.done (WX.seq ?_)))))))
  refine WC.ret ?_
  refine WX.ret1 rfl rfl ?_
  exact .mk hs rfl
set_option maxRecDepth 20000 in
set_option maxHeartbeats 2000000 in
theorem wend_ok (h0 : Sub H0 w0) (hb : w0.heap[wb]? = some (winObj base width)) (hn : H0 wb = none) (hB : base ≤ 1099511627776) (hW : width ≤ 16) : Calls Try.prog 114 #[ptr wb] w0 (Pure H0 w0 fun v _ => v = .int .u64 (winEnd base width : Int)) := by
  have hs := HS.startR h0 hb hn
  have hle := Hp.le.refl H0
  refine Calls.enter (args := [ptr wb]) Try.func114 rfl Try.ntmps114 rfl ?_
  refine WC.seq (WC.region (WO.step rfl (OR.assign rfl (WO.done (WX.seq (WC.seq (WC.seq ?_)))))))
  refine WC.region (WO.step rfl (OR.move rfl (WO.step rfl (OR.eqlNilP T65.und rfl rfl (WO.done (WX.seq (WC.no rfl rfl ?_)))))))
  refine WC.skip (WX.seq (WC.seq ?_))
  refine WC.draw 9 mixed hs (by kernel_rfl) ?_
  refine ⟨MF.eq _, by intro Mx H w hle hs; refine forVals_nil (ORg.plain (OR.move rfl ?_)); exact ⟨_, [], Hp.le.refl _, hs, rfl, rfl⟩, ?_⟩
  refine ⟨MF.eq _, by intro Mx H w hle hs; refine forVals_eq rfl rfl rfl ?_; refine forVals_nil (ORg.plain (OR.nilCheck rfl ?_)); exact ⟨_, [], Hp.le.refl _, hs, rfl, rfl⟩, ?_⟩
  refine ⟨MF.eq _, by intro Mx H w hle hs; refine forVals_eq rfl rfl rfl ?_; refine forVals_nil (ORg.plain (OR.fieldAddr FA101_0 rfl ?_)); exact ⟨_, [], Hp.le.refl _, hs, rfl, rfl⟩, ?_⟩
  refine ⟨MF.eq _, by intro Mx H w hle hs; refine forVals_eq rfl rfl rfl ?_; refine forVals_nil (ORg.plain (OR.load T27 rfl rfl (hs.right.cellM (i := 0) rfl rfl) ?_)); exact ⟨_, [], Hp.le.refl _, hs, rfl, rfl⟩, ?_⟩
  refine ⟨MF.eq _, by intro Mx H w hle hs; refine forVals_nil (ORg.plain (OR.move rfl ?_)); exact ⟨_, [], Hp.le.refl _, hs, rfl, rfl⟩, ?_⟩
  refine ⟨MF.eq _, by intro Mx H w hle hs; refine forVals_eq rfl rfl rfl ?_; refine forVals_nil (ORg.plain (OR.nilCheck rfl ?_)); exact ⟨_, [], Hp.le.refl _, hs, rfl, rfl⟩, ?_⟩
  refine ⟨MF.eq _, by intro Mx H w hle hs; refine forVals_eq rfl rfl rfl ?_; refine forVals_nil (ORg.plain (OR.fieldAddr FA101_1 rfl ?_)); exact ⟨_, [], Hp.le.refl _, hs, rfl, rfl⟩, ?_⟩
  refine ⟨MF.eq _, by intro Mx H w hle hs; refine forVals_eq rfl rfl rfl ?_; refine forVals_nil (ORg.plain (OR.load T3 rfl rfl (hs.right.cellM (i := 0) rfl rfl) ?_)); exact ⟨_, [], Hp.le.refl _, hs, rfl, rfl⟩, ?_⟩
  refine ⟨MF.eq (.int .u64 (width : Int)), ?_, ?_⟩
  · intro Mx H w hle2 hs; (try replace hle := hle.trans hle2); (try replace hlb := hlb.trans hle2); refine forVals_eq rfl rfl rfl ?_
    refine forVals_nil (ORg.plain (OR.convI T3.und T27.und rfl ?_))
    exact ⟨_, [], Hp.le.refl _, hs, (by rw [u64_wrap _ (by omega)]), rfl⟩
  intro H w hle2; (try replace hle := hle.trans hle2); (try replace hlb := hlb.trans hle2)
  refine forAllVals_eq rfl ?_
  refine forAllVals_eq rfl ?_
  refine forAllVals_eq rfl ?_
  refine forAllVals_eq rfl ?_
  refine forAllVals_eq rfl ?_
  refine forAllVals_eq rfl ?_
  refine forAllVals_eq rfl ?_
  refine forAllVals_eq rfl ?_
  refine forAllVals_eq rfl ?_
  refine forAllVals_nil ?_; (try clear hs); intro hs
  refine WO.step rfl (OR.add rfl rfl ?_)
  rw [show IntKind.u64.wrap ((base : Int) + (width : Int)) = ((base + width : Nat) : Int) from u64_wrap (base + width) (by omega)]
  refine WO.step rfl (OR.minI rfl rfl ?_)
  refine WO.step rfl (OR.assign rfl (WO.done (WX.seq (WC.ret ?_))))
  refine WX.ret1 rfl rfl ?_
  refine .mk hs ?_
  unfold winEnd
  congr 1
  split <;> omega
set_option maxRecDepth 20000 in
set_option maxHeartbeats 2000000 in
theorem win_ok (gen : Nat) (h0 : Sub H0 w0) (hb : w0.heap[wb]? = some (winObj base width)) (hn : H0 wb = none) (hB : base ≤ 1099511627776) (hW : width ≤ 16) : Calls Try.prog 100 #[ptr wb, .int .u64 (gen : Int)] w0 (Pure H0 w0 fun v _ => v = .bool (decide (inWin base width gen))) := by
  have hs := HS.startR h0 hb hn
  have hle := Hp.le.refl H0
  refine Calls.enter (args := [ptr wb, .int .u64 (gen : Int)]) Try.func100 rfl Try.ntmps100 rfl ?_
  refine WC.seq (WC.region (WO.step rfl (OR.assign rfl (WO.done (WX.seq (WC.seq (WC.region ?_)))))))
  refine WO.step rfl (OR.move rfl (WO.step rfl (OR.move rfl ?_)))
  refine WO.step rfl (OR.call hs body113 rfl rfl (wbase_ok wb base width _ _ hs.toSub (hs.blk (i := 0) rfl) (hs.nh (i := 0) rfl)) ?_)
  clear hs; rintro _ H w hs hle1 rfl; replace hle := hle.trans hle1; (try replace hlb := hlb.trans hle1)
  refine WO.step rfl (OR.geq rfl rfl (WO.step rfl (OR.move rfl ?_)))
  refine WO.guardSplit (j := 4) rfl (fun hg => ?_) (fun hg => ?_)
  · refine WO.guardYes rfl (decide_eq_true hg) rfl rfl (OR.move rfl (WO.guardYes rfl (decide_eq_true hg) rfl rfl (OR.move rfl ?_)))
    refine WO.guardYes rfl (decide_eq_true hg) rfl rfl (OR.call hs body114 rfl rfl (wend_ok wb base width _ _ hs.toSub (hs.blk (i := 0) rfl) (hs.nh (i := 0) rfl) hB hW) ?_)
    clear hs; rintro _ H w hs hle1 rfl; replace hle := hle.trans hle1; (try replace hlb := hlb.trans hle1)
    refine WO.guardYes rfl (decide_eq_true hg) rfl rfl (OR.lss rfl rfl (WO.step rfl (OR.pickT rfl (decide_eq_true hg) rfl (WO.step rfl (OR.assign rfl (WO.done (WX.seq ?_)))))))
    refine WC.ret ?_
    refine WX.ret1 rfl rfl ?_
    refine .mk (hs.drop 0) ?_
    congr 1
    rw [decide_eq_decide]
    constructor
    · intro h; exact ⟨by omega, by omega⟩
    · intro h; have := h.2; omega
  · refine WO.guardNo rfl (decide_eq_false hg) rfl rfl (WO.guardNo rfl (decide_eq_false hg) rfl rfl (WO.guardNo rfl (decide_eq_false hg) rfl rfl (WO.guardNo rfl (decide_eq_false hg) rfl rfl (WO.step rfl (OR.pickF rfl (decide_eq_false hg) rfl (WO.step rfl (OR.assign rfl ?_)))))))
    refine WO.done (WX.seq (WC.ret ?_))
    refine WX.ret1 rfl rfl ?_
    refine .mk (hs.drop 0) ?_
    rw [decide_eq_false (fun h => hg (by have := h.1; omega))]
set_option maxRecDepth 20000 in
set_option maxHeartbeats 2000000 in
theorem wslot_ok (gen : Nat) (h0 : Sub H0 w0) (hb : w0.heap[wb]? = some (winObj base width)) (hn : H0 wb = none) (hB : base ≤ 1099511627776) (hW : width ≤ 16) (hW1 : 1 ≤ width) (hg : gen < 18446744073709551616) : Calls Try.prog 62 #[ptr wb, .int .u64 (gen : Int)] w0 (Pure H0 w0 fun v _ => v = .tuple #[.int .i64 (if inWin base width gen then ((gen % width : Nat) : Int) else 0), .int .i64 (if inWin base width gen then 0 else 1)]) := by
  have hs := HS.startR h0 hb hn
  have hle := Hp.le.refl H0
  refine Calls.enter (args := [ptr wb, .int .u64 (gen : Int)]) Try.func62 rfl Try.ntmps62 rfl ?_
  refine WC.seq (WC.region (WO.step rfl (OR.assign rfl (WO.step rfl (OR.assign rfl (WO.done (WX.seq ?_)))))))
  refine WC.seq (WC.block (WC.seq (WC.region (WO.step rfl (OR.move rfl ?_)))))
  refine WO.step rfl (OR.call hs body78 rfl rfl (wwidth_ok wb base width _ _ hs.toSub (hs.blk (i := 0) rfl) (hs.nh (i := 0) rfl)) ?_)
  clear hs; rintro _ H w hs hle1 rfl; replace hle := hle.trans hle1; (try replace hlb := hlb.trans hle1)
  refine WO.step rfl (OR.eql rfl rfl (WO.step rfl (OR.assign rfl (WO.done (WX.seq ?_)))))
  refine WC.no rfl (decide_eq_false (by omega)) ?_
  refine WC.seq (WC.region (WO.step rfl (OR.move rfl (WO.step rfl (OR.move rfl ?_)))))
  refine WO.step rfl (OR.call hs body100 rfl rfl (win_ok wb base width _ _ gen hs.toSub (hs.blk (i := 0) rfl) (hs.nh (i := 0) rfl) hB hW) ?_)
  clear hs; rintro _ H w hs hle1 rfl; replace hle := hle.trans hle1; (try replace hlb := hlb.trans hle1)
  by_cases hin : inWin base width gen
  · rw [decide_eq_true hin, if_pos hin, if_pos hin]
    refine WO.step rfl (OR.not rfl (WO.step rfl (OR.assign rfl (WO.done (WX.seq ?_)))))
    refine WC.no rfl rfl ?_
    refine WC.skip (WX.block (WX.seq (WC.seq (WC.region (WO.step rfl (OR.move rfl (WO.step rfl ?_)))))))
    refine OR.move rfl (WO.step rfl (OR.nilCheck rfl (WO.step rfl (OR.fieldAddr FA101_1 rfl (WO.step rfl (OR.load T3 rfl rfl (hs.cellM (i := 0) rfl rfl) ?_))))))
    refine WO.step rfl (OR.convI T3.und T27.und rfl ?_)
    rw [u64_wrap _ (by omega)]
    refine WO.step rfl (OR.rem rfl rfl (by omega) ?_)
    rw [← Int.ofNat_tmod]
    have hlt := Nat.mod_lt gen (by omega : 0 < width)
    refine WO.step rfl (OR.convI T27.und T3.und rfl ?_)
    rw [IntWalk.i64_in ((gen % width : Nat) : Int) (by omega)]
    refine WO.step rfl (OR.assign rfl (WO.step rfl (OR.assign rfl (WO.done (WX.seq (WC.ret ?_))))))
    refine WX.ret2 rfl rfl rfl ?_
    exact .mk (hs.drop 0) rfl
  · rw [decide_eq_false hin, if_neg hin, if_neg hin]
    refine WO.step rfl (OR.not rfl (WO.step rfl (OR.assign rfl (WO.done (WX.seq ?_)))))
    refine WC.yes rfl rfl ?_
    refine WC.seq (WC.region (WO.step rfl (OR.assign rfl (WO.step rfl (OR.assign rfl (WO.done (WX.seq ?_)))))))
    refine WC.ret (WX.block_ret (WX.seq_ret ?_))
    refine WX.ret2 rfl rfl rfl ?_
    exact .mk (hs.drop 0) rfl
end
set_option maxRecDepth 20000 in
set_option maxHeartbeats 2000000 in
theorem wnewW_ok (width : Int) (H0 : Hp) (w0 : World) (h0 : Sub H0 w0) :
    Calls Try.prog 31 #[.int .i64 width] w0 (Ret [] H0 w0 fun v H' M' => H' = H0 ∧ if 1 ≤ width ∧ width ≤ 16 then ∃ b, v = .tuple #[ptr b, .int .i64 0] ∧ M' = [(b, winObj 0 width.toNat, true)] else v = .tuple #[.pointer none, .int .i64 1] ∧ M' = []) := by
  have hs := HS.init h0
  have hle := Hp.le.refl H0
  refine Calls.enter (args := [.int .i64 width]) Try.func31 rfl Try.ntmps31 rfl ?_
  refine WC.seq (WC.region (WO.step rfl (OR.assign rfl (WO.step rfl (OR.assign rfl (WO.done (WX.seq ?_)))))))
  refine WC.seq (WC.seq (WC.region (WO.step rfl (OR.move rfl (WO.step rfl (OR.lss rfl rfl (WO.step rfl ?_)))))))
  refine OR.move rfl ?_
  refine WO.guardSplit (j := 2) rfl (fun hg => ?_) (fun hg => ?_)
  · refine WO.guardNo rfl (decide_eq_true hg) rfl rfl (WO.guardNo rfl (decide_eq_true hg) rfl rfl (WO.step rfl (OR.pickT rfl (decide_eq_true hg) rfl (WO.done (WX.seq (WC.yes rfl rfl (WC.seq ?_)))))))
    refine WC.region (WO.step rfl (OR.assign rfl (WO.step rfl (OR.assign rfl (WO.done (WX.seq (WC.ret ?_)))))))
    refine WX.seq_ret ?_
    refine WX.ret2 rfl rfl rfl ?_
    refine ⟨_, _, [], rfl, hs, by simp, rfl, ?_⟩
    rw [if_neg (by omega)]
    exact ⟨rfl, rfl⟩
  · refine WO.guardYes rfl (decide_eq_false hg) rfl rfl (OR.move rfl (WO.guardYes rfl (decide_eq_false hg) rfl rfl (OR.gtr rfl rfl (WO.step rfl (OR.pickF rfl (decide_eq_false hg) rfl (WO.done (WX.seq ?_)))))))
    refine WC.condD rfl (fun hbig => ?_) (fun hbig => ?_)
    · refine WC.seq (WC.region (WO.step rfl (OR.assign rfl (WO.step rfl (OR.assign rfl (WO.done (WX.seq ?_)))))))
      refine WC.ret (WX.seq_ret ?_)
      refine WX.ret2 rfl rfl rfl ?_
      refine ⟨_, _, [], rfl, hs, by simp, rfl, ?_⟩
      rw [if_neg (by omega)]
      exact ⟨rfl, rfl⟩
    · refine WC.skip (WX.seq (WC.seq (WC.region (WO.step rfl (OR.move rfl ?_)))))
      refine WO.step rfl (OR.build (cs := #[.int .u64 0, .int .i64 width]) rfl (by intro w; kernel_rfl) ?_)
      refine WO.step rfl (OR.box hs rfl ?_)
      clear hs; intro g1 w hg1 hs
      refine WO.step rfl (OR.assign rfl (WO.step rfl (OR.assign rfl (WO.done (WX.seq (WC.ret ?_))))))
      refine WX.ret2 rfl rfl rfl ?_
      refine ⟨_, _, [_], rfl, hs, by simp, rfl, ?_⟩
      rw [if_pos (by omega)]
      obtain ⟨n, rfl⟩ := Int.eq_ofNat_of_zero_le (show 0 ≤ width by omega)
      exact ⟨g1, rfl, rfl⟩
end Go.Bw
