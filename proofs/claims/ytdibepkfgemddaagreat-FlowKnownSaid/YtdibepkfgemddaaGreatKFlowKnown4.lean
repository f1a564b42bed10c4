/- What law_FlowKnown needs: laid out of own texts. No condition. -/
import Derived.Test.YtdibepkfgemddaaGreatKFlowKnown3
namespace Go.Bw
set_option linter.unusedVariables false
set_option linter.unusedSimpArgs false
open Go.Proofs
def winEnd (base width : Nat) : Nat := min (base + width) 1099511627776
def inWin (base width gen : Nat) : Prop := base ≤ gen ∧ gen < winEnd base width
instance (base width gen : Nat) : Decidable (inWin base width gen) := inferInstanceAs (Decidable (_ ∧ _))
section
variable (wb base width : Nat) (H0 : Hp) (w0 : World)
set_option maxRecDepth 20000 in
set_option maxHeartbeats 2000000 in
theorem wbase_ok (h0 : Sub H0 w0) (hb : w0.heap[wb]? = some (winObj base width)) (hn : H0 wb = none) : Calls Tryz.prog 170 #[ptr wb] w0 (Pure H0 w0 fun v _ => v = .int .u64 (base : Int)) := by
  have hs := HS.startR h0 hb hn
  refine Calls.enter (args := [ptr wb]) Tryz.func170 rfl Tryz.ntmps170 rfl ?_
  refine WC.seq (WC.region (WO.step rfl (OR.assign rfl (WO.done (WX.seq (WC.seq (WC.seq ?_)))))))
  refine WC.region (WO.step rfl (OR.move rfl (WO.step rfl (OR.eqlNilP T123.und rfl rfl (WO.done (WX.seq (WC.no rfl rfl ?_)))))))
  refine WC.skip (WX.seq (WC.seq (WC.region (WO.step rfl (OR.move rfl (WO.step rfl (OR.nilCheck rfl ?_)))))))
  refine WO.step rfl (OR.fieldAddr FA192_0 rfl (WO.step rfl (OR.load T22 rfl rfl (hs.cellM (i := 0) rfl rfl) (WO.step rfl (OR.assign rfl (WO.done (WX.seq ?_)))))))
  refine WC.ret ?_
  refine WX.ret1 rfl rfl ?_
  exact .mk hs rfl
set_option maxRecDepth 20000 in
set_option maxHeartbeats 2000000 in
theorem wwidth_ok (h0 : Sub H0 w0) (hb : w0.heap[wb]? = some (winObj base width)) (hn : H0 wb = none) : Calls Tryz.prog 79 #[ptr wb] w0 (Pure H0 w0 fun v _ => v = .int .i64 (width : Int)) := by
  have hs := HS.startR h0 hb hn
  refine Calls.enter (args := [ptr wb]) Tryz.func79 rfl Tryz.ntmps79 rfl ?_
  refine WC.seq (WC.region (WO.step rfl (OR.assign rfl (WO.done (WX.seq (WC.seq (WC.seq ?_)))))))
  refine WC.region (WO.step rfl (OR.move rfl (WO.step rfl (OR.eqlNilP T123.und rfl rfl (WO.done (WX.seq (WC.no rfl rfl ?_)))))))
  refine WC.skip (WX.seq (WC.seq (WC.region (WO.step rfl (OR.move rfl (WO.step rfl (OR.nilCheck rfl ?_)))))))
  refine WO.step rfl (OR.fieldAddr FA192_1 rfl (WO.step rfl (OR.load T3 rfl rfl (hs.cellM (i := 0) rfl rfl) (WO.step rfl (OR.assign rfl (WO.done (WX.seq ?_)))))))
  refine WC.ret ?_
  refine WX.ret1 rfl rfl ?_
  exact .mk hs rfl
set_option maxRecDepth 20000 in
set_option maxHeartbeats 2000000 in
theorem wend_ok (h0 : Sub H0 w0) (hb : w0.heap[wb]? = some (winObj base width)) (hn : H0 wb = none) (hB : base ≤ 1099511627776) (hW : width ≤ 16) : Calls Tryz.prog 171 #[ptr wb] w0 (Pure H0 w0 fun v _ => v = .int .u64 (winEnd base width : Int)) := by
  have hs := HS.startR h0 hb hn
  have hle := Hp.le.refl H0
  refine Calls.enter (args := [ptr wb]) Tryz.func171 rfl Tryz.ntmps171 rfl ?_
  refine WC.seq (WC.region (WO.step rfl (OR.assign rfl (WO.done (WX.seq (WC.seq (WC.seq ?_)))))))
  refine WC.region (WO.step rfl (OR.move rfl (WO.step rfl (OR.eqlNilP T123.und rfl rfl (WO.done (WX.seq (WC.no rfl rfl ?_)))))))
  refine WC.skip (WX.seq (WC.seq ?_))
  refine WC.draw 9 mixed hs (by kernel_rfl) ?_
  refine ⟨MF.eq _, by intro Mx H w hle hs; refine forVals_nil (ORg.plain (OR.move rfl ?_)); exact ⟨_, [], Hp.le.refl _, hs, rfl, rfl⟩, ?_⟩
  refine ⟨MF.eq _, by intro Mx H w hle hs; refine forVals_eq rfl rfl rfl ?_; refine forVals_nil (ORg.plain (OR.nilCheck rfl ?_)); exact ⟨_, [], Hp.le.refl _, hs, rfl, rfl⟩, ?_⟩
  refine ⟨MF.eq _, by intro Mx H w hle hs; refine forVals_eq rfl rfl rfl ?_; refine forVals_nil (ORg.plain (OR.fieldAddr FA192_0 rfl ?_)); exact ⟨_, [], Hp.le.refl _, hs, rfl, rfl⟩, ?_⟩
  refine ⟨MF.eq _, by intro Mx H w hle hs; refine forVals_eq rfl rfl rfl ?_; refine forVals_nil (ORg.plain (OR.load T22 rfl rfl (hs.right.cellM (i := 0) rfl rfl) ?_)); exact ⟨_, [], Hp.le.refl _, hs, rfl, rfl⟩, ?_⟩
  refine ⟨MF.eq _, by intro Mx H w hle hs; refine forVals_nil (ORg.plain (OR.move rfl ?_)); exact ⟨_, [], Hp.le.refl _, hs, rfl, rfl⟩, ?_⟩
  refine ⟨MF.eq _, by intro Mx H w hle hs; refine forVals_eq rfl rfl rfl ?_; refine forVals_nil (ORg.plain (OR.nilCheck rfl ?_)); exact ⟨_, [], Hp.le.refl _, hs, rfl, rfl⟩, ?_⟩
  refine ⟨MF.eq _, by intro Mx H w hle hs; refine forVals_eq rfl rfl rfl ?_; refine forVals_nil (ORg.plain (OR.fieldAddr FA192_1 rfl ?_)); exact ⟨_, [], Hp.le.refl _, hs, rfl, rfl⟩, ?_⟩
  refine ⟨MF.eq _, by intro Mx H w hle hs; refine forVals_eq rfl rfl rfl ?_; refine forVals_nil (ORg.plain (OR.load T3 rfl rfl (hs.right.cellM (i := 0) rfl rfl) ?_)); exact ⟨_, [], Hp.le.refl _, hs, rfl, rfl⟩, ?_⟩
  refine ⟨MF.eq (.int .u64 (width : Int)), ?_, ?_⟩
  · intro Mx H w hle2 hs; (try replace hle := hle.trans hle2); (try replace hlb := hlb.trans hle2); refine forVals_eq rfl rfl rfl ?_
    refine forVals_nil (ORg.plain (OR.convI T3.und T22.und rfl ?_))
    exact ⟨_, [], Hp.le.refl _, hs, (by rw [u64_wrap _ (by omega)]), rfl⟩
  intro H w hle2; (try replace hle := hle.trans hle2); (try replace hlb := hlb.trans hle2)
  refine forAllVals_eq rfl ?_
  refine forAllVals_eq rfl ?_
  refine forAllVals_eq rfl ?_
  refine forAllVals_eq rfl ?_
  refine forAllVals_eq rfl ?_
  refine forAllVals_eq rfl ?_
  refine forAllVals_eq rfl ?_
  refine forAllVals_eq rfl ?_
  refine forAllVals_eq rfl ?_
  refine forAllVals_nil ?_; (try clear hs); intro hs
  refine WO.step rfl (OR.add rfl rfl ?_)
  rw [show IntKind.u64.wrap ((base : Int) + (width : Int)) = ((base + width : Nat) : Int) from u64_wrap (base + width) (by omega)]
  refine WO.step rfl (OR.minI rfl rfl ?_)
  refine WO.step rfl (OR.assign rfl (WO.done (WX.seq (WC.ret ?_))))
  refine WX.ret1 rfl rfl ?_
  refine .mk hs ?_
  unfold winEnd
  congr 1
  split <;> omega
set_option maxRecDepth 20000 in
set_option maxHeartbeats 2000000 in
theorem win_ok (gen : Nat) (h0 : Sub H0 w0) (hb : w0.heap[wb]? = some (winObj base width)) (hn : H0 wb = none) (hB : base ≤ 1099511627776) (hW : width ≤ 16) : Calls Tryz.prog 135 #[ptr wb, .int .u64 (gen : Int)] w0 (Pure H0 w0 fun v _ => v = .bool (decide (inWin base width gen))) := by
  have hs := HS.startR h0 hb hn
  have hle := Hp.le.refl H0
  refine Calls.enter (args := [ptr wb, .int .u64 (gen : Int)]) Tryz.func135 rfl Tryz.ntmps135 rfl ?_
  refine WC.seq (WC.region (WO.step rfl (OR.assign rfl (WO.done (WX.seq (WC.seq (WC.region ?_)))))))
  refine WO.step rfl (OR.move rfl (WO.step rfl (OR.move rfl ?_)))
  refine WO.step rfl (OR.call hs body170 rfl rfl (wbase_ok wb base width _ _ hs.toSub (hs.blk (i := 0) rfl) (hs.nh (i := 0) rfl)) ?_)
  clear hs; rintro _ H w hs hle1 rfl; replace hle := hle.trans hle1; (try replace hlb := hlb.trans hle1)
  refine WO.step rfl (OR.geq rfl rfl (WO.step rfl (OR.move rfl ?_)))
  refine WO.guardSplit (j := 4) rfl (fun hg => ?_) (fun hg => ?_)
  · refine WO.guardYes rfl (decide_eq_true hg) rfl rfl (OR.move rfl (WO.guardYes rfl (decide_eq_true hg) rfl rfl (OR.move rfl ?_)))
    refine WO.guardYes rfl (decide_eq_true hg) rfl rfl (OR.call hs body171 rfl rfl (wend_ok wb base width _ _ hs.toSub (hs.blk (i := 0) rfl) (hs.nh (i := 0) rfl) hB hW) ?_)
    clear hs; rintro _ H w hs hle1 rfl; replace hle := hle.trans hle1; (try replace hlb := hlb.trans hle1)
    refine WO.guardYes rfl (decide_eq_true hg) rfl rfl (OR.lss rfl rfl (WO.step rfl (OR.pickT rfl (decide_eq_true hg) rfl (WO.step rfl (OR.assign rfl (WO.done (WX.seq ?_)))))))
    refine WC.ret ?_
    refine WX.ret1 rfl rfl ?_
    refine .mk (hs.drop 0) ?_
    congr 1
    rw [decide_eq_decide]
    constructor
    · intro h; exact ⟨by omega, by omega⟩
    · intro h; have := h.2; omega
  · refine WO.guardNo rfl (decide_eq_false hg) rfl rfl (WO.guardNo rfl (decide_eq_false hg) rfl rfl (WO.guardNo rfl (decide_eq_false hg) rfl rfl (WO.guardNo rfl (decide_eq_false hg) rfl rfl (WO.step rfl (OR.pickF rfl (decide_eq_false hg) rfl (WO.step rfl (OR.assign rfl ?_)))))))
    refine WO.done (WX.seq (WC.ret ?_))
    refine WX.ret1 rfl rfl ?_
    refine .mk (hs.drop 0) ?_
    rw [decide_eq_false (fun h => hg (by have := h.1; omega))]
set_option maxRecDepth 20000 in
set_option maxHeartbeats 2000000 in
theorem wslot_ok (gen : Nat) (h0 : Sub H0 w0) (hb : w0.heap[wb]? = some (winObj base width)) (hn : H0 wb = none) (hB : base ≤ 1099511627776) (hW : width ≤ 16) (hW1 : 1 ≤ width) (hg : gen < 18446744073709551616) : Calls Tryz.prog 118 #[ptr wb, .int .u64 (gen : Int)] w0 (Pure H0 w0 fun v _ => v = .tuple #[.int .i64 (if inWin base width gen then ((gen % width : Nat) : Int) else 0), .int .i64 (if inWin base width gen then 0 else 1)]) := by
  have hs := HS.startR h0 hb hn
  have hle := Hp.le.refl H0
  refine Calls.enter (args := [ptr wb, .int .u64 (gen : Int)]) Tryz.func118 rfl Tryz.ntmps118 rfl ?_
  refine WC.seq (WC.region (WO.step rfl (OR.assign rfl (WO.step rfl (OR.assign rfl (WO.done (WX.seq ?_)))))))
  refine WC.seq (WC.block (WC.seq (WC.region (WO.step rfl (OR.move rfl ?_)))))
  refine WO.step rfl (OR.call hs body79 rfl rfl (wwidth_ok wb base width _ _ hs.toSub (hs.blk (i := 0) rfl) (hs.nh (i := 0) rfl)) ?_)
  clear hs; rintro _ H w hs hle1 rfl; replace hle := hle.trans hle1; (try replace hlb := hlb.trans hle1)
  refine WO.step rfl (OR.eql rfl rfl (WO.step rfl (OR.assign rfl (WO.done (WX.seq ?_)))))
  refine WC.no rfl (decide_eq_false (by omega)) ?_
  refine WC.seq (WC.region (WO.step rfl (OR.move rfl (WO.step rfl (OR.move rfl ?_)))))
  refine WO.step rfl (OR.call hs body135 rfl rfl (win_ok wb base width _ _ gen hs.toSub (hs.blk (i := 0) rfl) (hs.nh (i := 0) rfl) hB hW) ?_)
  clear hs; rintro _ H w hs hle1 rfl; replace hle := hle.trans hle1; (try replace hlb := hlb.trans hle1)
  by_cases hin : inWin base width gen
  · rw [decide_eq_true hin, if_pos hin, if_pos hin]
    refine WO.step rfl (OR.not rfl (WO.step rfl (OR.assign rfl (WO.done (WX.seq ?_)))))
    refine WC.no rfl rfl ?_
    refine WC.skip (WX.block (WX.seq (WC.seq (WC.region (WO.step rfl (OR.move rfl (WO.step rfl ?_)))))))
    refine OR.move rfl (WO.step rfl (OR.nilCheck rfl (WO.step rfl (OR.fieldAddr FA192_1 rfl (WO.step rfl (OR.load T3 rfl rfl (hs.cellM (i := 0) rfl rfl) ?_))))))
    refine WO.step rfl (OR.convI T3.und T22.und rfl ?_)
    rw [u64_wrap _ (by omega)]
    refine WO.step rfl (OR.rem rfl rfl (by omega) ?_)
    rw [← Int.ofNat_tmod]
    have hlt := Nat.mod_lt gen (by omega : 0 < width)
    refine WO.step rfl (OR.convI T22.und T3.und rfl ?_)
    rw [IntWalk.i64_in ((gen % width : Nat) : Int) (by omega)]
    refine WO.step rfl (OR.assign rfl (WO.step rfl (OR.assign rfl (WO.done (WX.seq (WC.ret ?_))))))
    refine WX.ret2 rfl rfl rfl ?_
    exact .mk (hs.drop 0) rfl
  · rw [decide_eq_false hin, if_neg hin, if_neg hin]
    refine WO.step rfl (OR.not rfl (WO.step rfl (OR.assign rfl (WO.done (WX.seq ?_)))))
    refine WC.yes rfl rfl ?_
    refine WC.seq (WC.region (WO.step rfl (OR.assign rfl (WO.step rfl (OR.assign rfl (WO.done (WX.seq ?_)))))))
    refine WC.ret (WX.block_ret (WX.seq_ret ?_))
    refine WX.ret2 rfl rfl rfl ?_
    exact .mk (hs.drop 0) rfl
end
set_option maxRecDepth 20000 in
set_option maxHeartbeats 2000000 in
theorem wnewW_ok (width : Int) (H0 : Hp) (w0 : World) (h0 : Sub H0 w0) :
    Calls Tryz.prog 64 #[.int .i64 width] w0 (Ret [] H0 w0 fun v H' M' => H' = H0 ∧ if 1 ≤ width ∧ width ≤ 16 then ∃ b, v = .tuple #[ptr b, .int .i64 0] ∧ M' = [(b, winObj 0 width.toNat, true)] else v = .tuple #[.pointer none, .int .i64 1] ∧ M' = []) := by
  have hs := HS.init h0
  have hle := Hp.le.refl H0
  refine Calls.enter (args := [.int .i64 width]) Tryz.func64 rfl Tryz.ntmps64 rfl ?_
  refine WC.seq (WC.region (WO.step rfl (OR.assign rfl (WO.step rfl (OR.assign rfl (WO.done (WX.seq ?_)))))))
  refine WC.seq (WC.seq (WC.region (WO.step rfl (OR.move rfl (WO.step rfl (OR.lss rfl rfl (WO.step rfl ?_)))))))
  refine OR.move rfl ?_
  refine WO.guardSplit (j := 2) rfl (fun hg => ?_) (fun hg => ?_)
  · refine WO.guardNo rfl (decide_eq_true hg) rfl rfl (WO.guardNo rfl (decide_eq_true hg) rfl rfl (WO.step rfl (OR.pickT rfl (decide_eq_true hg) rfl (WO.done (WX.seq (WC.yes rfl rfl (WC.seq ?_)))))))
    refine WC.region (WO.step rfl (OR.assign rfl (WO.step rfl (OR.assign rfl (WO.done (WX.seq (WC.ret ?_)))))))
    refine WX.seq_ret ?_
    refine WX.ret2 rfl rfl rfl ?_
    refine ⟨_, _, [], rfl, hs, by simp, rfl, ?_⟩
    rw [if_neg (by omega)]
    exact ⟨rfl, rfl⟩
  · refine WO.guardYes rfl (decide_eq_false hg) rfl rfl (OR.move rfl (WO.guardYes rfl (decide_eq_false hg) rfl rfl (OR.gtr rfl rfl (WO.step rfl (OR.pickF rfl (decide_eq_false hg) rfl (WO.done (WX.seq ?_)))))))
    refine WC.condD rfl (fun hbig => ?_) (fun hbig => ?_)
    · refine WC.seq (WC.region (WO.step rfl (OR.assign rfl (WO.step rfl (OR.assign rfl (WO.done (WX.seq ?_)))))))
      refine WC.ret (WX.seq_ret ?_)
      refine WX.ret2 rfl rfl rfl ?_
      refine ⟨_, _, [], rfl, hs, by simp, rfl, ?_⟩
      rw [if_neg (by omega)]
      exact ⟨rfl, rfl⟩
    · refine WC.skip (WX.seq (WC.seq (WC.region (WO.step rfl (OR.move rfl ?_)))))
      refine WO.step rfl (OR.build (cs := #[.int .u64 0, .int .i64 width]) rfl (by intro w; kernel_rfl) ?_)
      refine WO.step rfl (OR.box hs rfl ?_)
      clear hs; intro g1 w hg1 hs
      refine WO.step rfl (OR.assign rfl (WO.step rfl (OR.assign rfl (WO.done (WX.seq (WC.ret ?_))))))
      refine WX.ret2 rfl rfl rfl ?_
      refine ⟨_, _, [_], rfl, hs, by simp, rfl, ?_⟩
      rw [if_pos (by omega)]
      obtain ⟨n, rfl⟩ := Int.eq_ofNat_of_zero_le (show 0 ≤ width by omega)
      exact ⟨g1, rfl, rfl⟩
end Go.Bw
namespace Go.Bw
set_option linter.unusedVariables false
set_option linter.unusedSimpArgs false
open Go.Proofs
set_option maxRecDepth 20000 in
set_option maxHeartbeats 2000000 in
theorem weach_ok (wb base width lp : Nat) (t : Bool) (xs : List Nat) (H0 : Hp) (w0 : World) (hB : base ≤ 1099511627776) (hWd : width ≤ 16) (I : Nat → Hp → Mem → Prop) (hI : ∀ k H H' M, Hp.le H H' → I k H M → I k H' M) (Cx : World → Prop)
    (hround : ∀ k H M w, k < winEnd base width - base → HS xs H0 w0 H ((wb, winObj base width, t) :: M) w → I k H M → YieldAt (fen none) 0 Tryz.prog lp #[.int .u64 ((base + k : Nat) : Int)] w (fun e w' =>
      (e = .returned (.bool true) ∧ ∃ H' M', HS xs H0 w0 H' ((wb, winObj base width, t) :: M') w' ∧ I (k + 1) H' M') ∨ (e = .returned (.bool false) ∧ Cx w')))
    (H1 : Hp) (M1 : Mem) (w1 : World) (hs : HS xs H0 w0 H1 ((wb, winObj base width, t) :: M1) w1) (h0 : I 0 H1 M1) :
    Calls Tryz.prog 134 #[ptr wb, .func (.yield lp) #[] #[]] w1 (fun e w' => e = .returned (.tuple #[]) ∧ ((∃ H' M', HS xs H0 w0 H' ((wb, winObj base width, t) :: M') w' ∧ I (winEnd base width - base) H' M') ∨ Cx w')) := by
  have hle := Hp.le.refl H1
  have hle9 : winEnd base width ≤ 1099511627776 := Nat.min_le_right _ _
  refine Calls.enter (args := [ptr wb, .func (.yield lp) #[] #[]]) Tryz.func134 rfl Tryz.ntmps134 rfl ?_
  refine WC.seq (WC.region (WO.step rfl (OR.move rfl ?_)))
  refine WO.step rfl (OR.call hs body170 rfl rfl (wbase_ok wb base width _ _ hs.toSub (hs.blk (i := 0) rfl) (hs.nh (i := 0) rfl)) ?_)
  clear hs; rintro _ H w hs hle1 rfl; replace hle := hle.trans hle1; (try replace hlb := hlb.trans hle1)
  refine WO.step rfl (OR.assign rfl (WO.done (WX.seq (WC.block ?_))))
  refine WC.loop (ι := Nat) (fun k => [(0, ptr wb), (1, .func (.yield lp) #[] #[]), (4, .int .u64 ((base + k : Nat) : Int))]) (fun k w => (base + k ≤ max base (winEnd base width) ∧ ∃ H M, HS xs H0 w0 H ((wb, winObj base width, t) :: M) w ∧ I k H M)) (fun k => winEnd base width - base - k) 0 ⟨rfl, rfl, rfl,  trivial⟩ ?_ (fun k w hW => ?_)
  · exact ⟨by omega, H, M1, hs, hI _ _ _ _ hle h0⟩
  clear hs hle hle1
  obtain ⟨hk, H, M, hs, hinv⟩ := hW
  have hle := Hp.le.refl H
  refine WC.seq (WC.seq ?_)
  refine WC.regionR ?_
  refine RO.step rfl rfl (OR.move rfl (RO.step rfl rfl (OR.move rfl ?_)))
  refine RO.step rfl rfl (OR.call hs body171 rfl rfl (wend_ok wb base width _ _ hs.toSub (hs.blk (i := 0) rfl) (hs.nh (i := 0) rfl) hB hWd) ?_)
  clear hs; rintro _ H w hs hle1 rfl; replace hle := hle.trans hle1; (try replace hlb := hlb.trans hle1)
  refine RO.step rfl rfl (OR.lss rfl rfl (RO.step rfl rfl (OR.move rfl ?_)))
  refine RO.guardSplit (j := 4) rfl (fun hlt => ?_) (fun hlt => ?_)
  · have hk2 : k < winEnd base width - base := by omega
    refine RO.guardYes rfl (decide_eq_true hlt) rfl rfl rfl (OR.move rfl (RO.guardYes rfl (decide_eq_true hlt) rfl rfl rfl (OR.move rfl ?_)))
    refine RO.yieldG rfl (decide_eq_true hlt) rfl rfl rfl rfl (hround k _ _ _ hk2 hs (hI _ _ _ _ hle hinv)) ?_
    rintro e w hC
    clear hs
    rcases hC with ⟨rfl, H2, M2, hs, hinv2⟩ | ⟨rfl, hx⟩
    · refine ⟨_, rfl, ?_⟩
      refine RO.step rfl rfl (OR.pickT rfl (decide_eq_true hlt) rfl ?_)
      refine RO.doneW ?_
      refine WX.seq ?_
      refine WC.yes rfl rfl ?_
      refine WC.skip (WX.seq (WC.seq (WC.block (WC.skip (WX.block (WX.seq (WC.region ?_)))))))
      refine WO.step rfl (OR.move rfl ?_)
      refine WO.step rfl (OR.add rfl rfl ?_)
      rw [show IntKind.u64.wrap (((base + k : Nat) : Int) + 1) = ((base + (k + 1) : Nat) : Int) from u64_wrap (base + (k + 1)) (by omega)]
      refine WO.step rfl (OR.assign rfl (WO.done ?_))
      refine WX.again (k + 1) ⟨rfl, rfl, rfl,  trivial⟩ ?_ ?_
      · exact ⟨by omega, H2, M2, hs, hinv2⟩
      · omega
    · refine ⟨_, rfl, ?_⟩
      refine RO.step rfl rfl (OR.pickT rfl (decide_eq_true hlt) rfl ?_)
      refine RO.doneW ?_
      refine WX.seq ?_
      refine WC.no rfl rfl ?_
      refine WC.exit (WX.seq_exit (WX.loop_exit (WX.block_hit ?_)))
      refine WX.end0 rfl ?_
      exact ⟨rfl, .inr hx⟩
  · refine RO.guardNo rfl (decide_eq_false hlt) rfl rfl (RO.guardNo rfl (decide_eq_false hlt) rfl rfl (RO.guardNo rfl (decide_eq_false hlt) rfl rfl (RO.step rfl rfl (OR.pickF rfl (decide_eq_false hlt) rfl ?_))))
    refine RO.doneW ?_
    refine WX.seq (WC.no rfl rfl (WC.exit (WX.seq_exit (WX.loop_exit (WX.block_hit ?_)))))
    refine WX.end0 rfl ?_
    have e : k = winEnd base width - base := by omega
    subst e
    exact ⟨rfl, .inl ⟨_, _, hs, hI _ _ _ _ hle hinv⟩⟩

/-- Whole numbers in a slice. -/
def Nums (H : Hp) (v : Value) (l : List Nat) : Prop := Sl H 1 v l.length (l.map fun n : Nat => Value.int .u64 (n : Int))
theorem Nums.mono {H H' : Hp} {v : Value} {l : List Nat} (h : Nums H v l) (hle : Hp.le H H') : Nums H' v l := Sl.mono h hle
def numsC (l : List Nat) : List Value := l.map fun n : Nat => Value.int .u64 (n : Int)
theorem nums_one (l : List Nat) : (numsC l).all (·.oneCell') = true := by
  rw [List.all_eq_true]
  intro u hu
  obtain ⟨n, _, rfl⟩ := List.mem_map.1 hu
  rfl
/-- The numbers that are in a window. -/
def winNums (base n : Nat) : List Nat := (List.range n).map fun k => base + k
theorem winNums_succ (base n : Nat) : winNums base (n + 1) = winNums base n ++ [base + n] := by
  unfold winNums
  rw [List.range_succ, List.map_append]
  rfl
end Go.Bw
namespace Go.Bw
set_option linter.unusedVariables false
set_option linter.unusedSimpArgs false
open Go.Proofs
/-- What falls out of a window. -/
def winGone (base width nb k : Nat) : List Nat := (winNums base k).filter fun n => !decide (inWin nb width n)
theorem winGone_succ (base width nb k : Nat) : winGone base width nb (k + 1) = winGone base width nb k ++ (if inWin nb width (base + k) then [] else [base + k]) := by
  unfold winGone
  rw [winNums_succ, List.filter_append]
  congr 1
  by_cases h : inWin nb width (base + k)
  · simp [h]
  · simp [h]
theorem winGone_len (base width nb k : Nat) : (winGone base width nb k).length ≤ k := by
  refine Nat.le_trans (List.length_filter_le _ _) ?_
  simp [winNums]
set_option maxRecDepth 20000 in
set_option maxHeartbeats 2000000 in
theorem wmove_ok (wb base width nb : Nat) (H0 : Hp) (w0 : World) (h0 : Sub H0 w0) (hb : w0.heap[wb]? = some (winObj base width)) (hn : H0 wb = none) (hB : base ≤ 1099511627776) (hWd : width ≤ 16) (hW1 : 1 ≤ width) (hnb : nb < 18446744073709551616) :
    Calls Tryz.prog 78 #[ptr wb, .int .u64 (nb : Int)] w0 (Ret [wb] H0 w0 fun v H' M' => if nb ≤ 1099511627776 then ∃ r, v = .tuple #[r, .int .i64 0] ∧ Nums H' r (winGone base width nb (winEnd base width - base)) ∧ M' = [(wb, winObj nb width, true)]
      else v = .tuple #[.slice none 0 0, .int .i64 1] ∧ M' = [(wb, winObj base width, true)]) := by
  have hs := HS.start1 h0 hb hn
  have hle := Hp.le.refl H0
  refine Calls.enterM (args := [ptr wb, .int .u64 (nb : Int)]) Tryz.func78 rfl Tryz.ntmps78 rfl ?_
  refine WC.seq (WC.region (WO.step rfl (OR.assign rfl (WO.step rfl (OR.assign rfl (WO.done (WX.seq ?_)))))))
  refine WC.seq (WC.block (WC.seq (WC.region (WO.step rfl (OR.move rfl ?_)))))
  refine WO.step rfl (OR.call hs body79 rfl rfl (wwidth_ok wb base width _ _ hs.toSub (hs.blk (i := 0) rfl) (hs.nh (i := 0) rfl)) ?_)
  clear hs; rintro _ H w hs hle1 rfl; replace hle := hle.trans hle1; (try replace hlb := hlb.trans hle1)
  refine WO.step rfl (OR.eql rfl rfl (WO.step rfl (OR.assign rfl (WO.done (WX.seq ?_)))))
  refine WC.no rfl (decide_eq_false (by omega)) ?_
  refine WC.seq (WC.region (WO.step rfl (OR.move rfl (WO.step rfl (OR.gtr rfl rfl (WO.step rfl (OR.assign rfl ?_)))))))
  refine WO.done (WX.seq ?_)
  refine WC.condD rfl (fun hbig => ?_) (fun hbig => ?_)
  · refine WC.seq (WC.region (WO.step rfl (OR.assign rfl (WO.step rfl (OR.assign rfl (WO.done (WX.seq ?_)))))))
    refine WC.ret (WX.block_ret (WX.seq_ret ?_))
    refine WX.retM0 fun a ha => ⟨_, results_tmp2 rfl a.tmps _ w, ?_⟩
    rw [ha 4 _ rfl, ha 5 _ rfl]
    refine ⟨_, _, _, rfl, hs, by simp, ?_⟩
    show ite _ _ _
    rw [if_neg (by omega)]
    exact ⟨rfl, rfl⟩
  · have hnb2 : nb ≤ 1099511627776 := by omega
    refine WC.skip (WX.block (WX.seq (WC.seq (WC.region (WO.step rfl (OR.move rfl (WO.step rfl ?_)))))))
    refine OR.move rfl (WO.step rfl (OR.nilCheck rfl (WO.step rfl (OR.fieldAddr FA192_1 rfl (WO.step rfl (OR.load T3 rfl rfl (hs.cellM (i := 0) rfl rfl) (WO.step rfl ?_)))))))
    refine OR.buildAll T192 rfl rfl PL192 rfl rfl (WO.step rfl (OR.box hs rfl ?_))
    clear hs; intro g1 w hg1 hs
    refine WO.step rfl (OR.alloc hs T123 ?_)
    clear hs; intro g2 w hg2 hs
    refine WO.stepN (OR.storeAll hs T123 rfl rfl rfl rfl rfl ?_)
    clear hs; intro w hs
    refine WO.done (WX.seq (WC.seq (WC.region (WO.step rfl (OR.alloc hs T152 ?_)))))
    clear hs; intro g3 w hg3 hs
    refine WO.done (WX.seq (WC.seq (WC.seq (WC.region (WO.step rfl (OR.move rfl (WO.step rfl ?_)))))))
    refine OR.makeFunc rfl rfl (WO.done (WX.seq (WC.block ?_)))
    refine WC.rangeFunc (fl := [ptr wb]) (lb := []) hs rfl body134 ?_
    clear hs; intro fn tmps D lp w hD hlp hst hs
    refine (weach_ok wb base width lp true [wb] H0 w0 hB hWd (fun k H M => Hp.le H0 H ∧ ∃ v Mo, M = (lp, loopObj .ready none fn tmps _ _ _ D, true) :: (D, .deferred (some []), true) :: (g3, .cells #[v] 152, true) :: (g2, .cells #[ptr g1] 123, true) :: (g1, winObj nb width, true) :: Mo ∧ Own w0.heap.size 22 1 v (winGone base width nb k).length (numsC (winGone base width nb k)) Mo) (fun k H H' M hle h => ⟨h.1.trans hle, h.2⟩) (fun _ => False) ?_ H _ w ((hs.front (i := 5) rfl)) ⟨hle, _, [], rfl, Own.nil _ _ _⟩).mono ?_
    · clear hs
      rintro k H M w hk hs ⟨hle0, v, Mo, rfl, ho⟩
      replace hs := hs.front (i := 1) rfl
      refine yieldAt hs rfl (hst.param1 rfl _) ?_
      have hle := Hp.le.refl H
      have hk9 : k ≤ 16 := by have : winEnd base width ≤ base + width := Nat.min_le_left _ _; omega
      have hgl := winGone_len base width nb k
      obtain ⟨bo, co, rfl⟩ := ho.form
      refine RC.region (RO.step rfl rfl (OR.assign rfl (RO.done ?_)))
      refine RC.assigned hs ?_; clear hs; intro w hs
      refine RC.block (RC.seq (RC.region (RO.step rfl rfl (OR.load T123 rfl rfl (hs.cellM (i := 4) rfl rfl) (RO.step rfl rfl (OR.move rfl ?_))))))
      refine RO.step rfl rfl (OR.call hs body135 rfl rfl (win_ok g1 nb width _ _ (base + k) hs.toSub (hs.blk (i := 5) rfl) (hs.nh (i := 5) rfl) hnb2 hWd) ?_)
      clear hs; rintro _ H w hs hle1 rfl; replace hle := hle.trans hle1; (try replace hlb := hlb.trans hle1)
      refine RO.step rfl rfl (OR.not rfl (RO.done (RX.seq ?_)))
      by_cases hin : inWin nb width (base + k)
      · rw [decide_eq_true hin]
        refine RC.no rfl rfl ?_
        refine RC.skip (RX.block ?_)
        refine RX.on hs fun w hs => ?_
        replace hs := hs.front (i := 1) rfl
        refine .inl ⟨rfl, H, _, hs, hle0.trans hle1, _, Mo, rfl, ?_⟩
        rw [winGone_succ, if_pos hin, List.append_nil]
        exact ho
      · rw [decide_eq_false hin]
        refine RC.yes rfl rfl ?_
        refine RC.region (RO.step rfl rfl (OR.load T152 rfl rfl (hs.cellM (i := 3) rfl rfl) (RO.step rfl rfl (OR.move rfl ?_))))
        refine RO.step rfl rfl (OR.buildSlice (vs := [_]) hs T152.und T22 rfl rfl rfl rfl (by simp) ?_)
        clear hs; intro q1 w hq1 hs
        have hle9 := hle1
        obtain ⟨H, hle1, hp_q1, hs9⟩ := hs.pub1 hq1; clear hs; have hs := hs9; clear hs9; replace hle := hle.trans hle1; (try replace hlb := hlb.trans hle1)
        have hone : Nums H (.slice (some ⟨q1, 0, none⟩) 1 1) [base + k] := Sl.block hp_q1 rfl rfl (by simp)
        refine RO.step rfl rfl (OR.append (m := 1) (news := numsC [base + k]) (Mo := Mo) (M := [_, _, _, _, _, _]) (HS.mtail (A := [_, _, _, _, _, _]) hs) ho T152.und T22 rfl (by omega) rfl rfl rfl (Sl.src hone hs) (Sl.src0 hone) (nums_one _) (by omega) (by omega) ?_)
        clear hs ho; intro v' w Mo' hs ho hge
        replace hs := HS.mtail (B := [_, _, _, _, _, _]) hs
        obtain ⟨bo2, co2, rfl⟩ := ho.form
        replace hs := hs.front (i := 3) rfl
        refine RO.stepN rfl (OR.storeAll hs T152 rfl rfl rfl rfl rfl ?_)
        clear hs; intro w hs
        refine RO.done (RX.block ?_)
        replace hs := hs.front (i := 1) rfl
        refine RX.on hs fun w hs => ?_
        replace hs := hs.front (i := 5) rfl
        replace hs := hs.front (i := 5) rfl
        replace hs := hs.front (i := 3) rfl
        replace hs := hs.front (i := 5) rfl
        replace hs := hs.front (i := 4) rfl
        replace hs := hs.front (i := 5) rfl
        refine .inl ⟨rfl, H, _, hs, hle0.trans (hle9.trans hle1), _, Mo', rfl, ?_⟩
        rw [winGone_succ, if_neg hin]
        have e : numsC (winGone base width nb k ++ [base + k]) = numsC (winGone base width nb k) ++ numsC [base + k] := by simp [numsC]
        rw [e, List.length_append]
        exact ho
    · rintro e w3 ⟨rfl, (⟨H3, M3, hs, hle3, v, Mo, rfl, ho⟩ | h)⟩
      · refine ⟨⟨_, rfl⟩, H3, _, .ready, none, by decide, hs.front (i := 1) rfl, fun w hs => ⟨fun _ => ?_, fun c h => by cases h⟩⟩
        refine WX.block (WX.seq (WC.seq (WC.region (WO.step rfl (OR.move rfl (WO.step rfl (OR.load T123 rfl rfl (hs.cellM (i := 4) rfl rfl) ?_)))))))
        refine WO.step rfl (OR.nilCheck rfl (WO.step rfl (OR.loadAll T192 rfl rfl (hs.blk (i := 5) rfl) rfl (WO.step rfl (OR.nilCheck rfl ?_)))))
        replace hs := hs.front (i := 1) rfl
        refine WO.stepN (OR.storeAll hs T192 rfl rfl rfl rfl rfl ?_)
        clear hs; intro w hs
        refine WO.done (WX.seq (WC.seq (WC.region (WO.step rfl (OR.load T152 rfl rfl (hs.cellM (i := 3) rfl rfl) (WO.step rfl (OR.assign rfl ?_)))))))
        refine WO.step rfl (OR.assign rfl (WO.done (WX.seq (WC.ret ?_))))
        replace hs := hs.front (i := 2) rfl
        refine WX.retM hs fun w hs a ha => ⟨_, results_tmp2 rfl a.tmps _ w, ?_⟩
        rw [ha 4 _ rfl, ha 5 _ rfl]
        obtain ⟨H4, hle4, hs, hsl, _⟩ := HS.pub (HS.mtail (A := [_, _, _, _, _, _]) hs) ho
        refine ⟨_, H4, _, rfl, ((((hs.drop 5).drop 4).drop 3).drop 2).drop 0, by simp, ?_⟩
        show ite _ _ _
        rw [if_pos hnb2]
        exact ⟨_, rfl, hsl, rfl⟩
      · exact h.elim
end Go.Bw
namespace Go.Bw
set_option linter.unusedVariables false
set_option linter.unusedSimpArgs false
open Go.Proofs
set_option maxRecDepth 20000 in
set_option maxHeartbeats 2000000 in
theorem may_ok (n : Int) (H0 : Hp) (w0 : World) (h0 : Sub H0 w0) : Calls Tryz.prog 205 #[.int .i64 n] w0 (Pure H0 w0 fun v _ => v = .bool (decide (1 ≤ n ∧ n ≤ 255))) := by
  have hs := HS.init h0
  refine Calls.enter (args := [.int .i64 n]) Tryz.func205 rfl Tryz.ntmps205 rfl ?_
  refine WC.seq (WC.region (WO.step rfl (OR.assign rfl (WO.done (WX.seq (WC.seq (WC.region ?_)))))))
  refine WO.step rfl (OR.move rfl (WO.step rfl (OR.geq rfl rfl (WO.step rfl (OR.move rfl ?_)))))
  refine WO.guardSplit (j := 2) rfl (fun q => ?_) (fun q => ?_)
  · refine WO.guardYes rfl (decide_eq_true q) rfl rfl (OR.move rfl (WO.guardYes rfl (decide_eq_true q) rfl rfl (OR.leq rfl rfl (WO.step rfl (OR.pickT rfl (decide_eq_true q) rfl (WO.step rfl (OR.assign rfl ?_)))))))
    refine WO.done (WX.seq (WC.ret ?_))
    refine WX.ret1 rfl rfl ?_
    refine .mk hs ?_
    congr 1
    rw [decide_eq_decide]
    exact ⟨fun h => ⟨q, h⟩, fun h => h.2⟩
  · refine WO.guardNo rfl (decide_eq_false q) rfl rfl (WO.guardNo rfl (decide_eq_false q) rfl rfl (WO.step rfl (OR.pickF rfl (decide_eq_false q) rfl (WO.step rfl (OR.assign rfl (WO.done (WX.seq ?_)))))))
    refine WC.ret ?_
    refine WX.ret1 rfl rfl ?_
    refine .mk hs ?_
    rw [decide_eq_false (fun h => q h.1)]
set_option maxRecDepth 20000 in
set_option maxHeartbeats 2000000 in
theorem syst_ok (a b : Int) (H0 : Hp) (w0 : World) (h0 : Sub H0 w0) : Calls Tryz.prog 213 #[.int .i64 a, .int .i64 b] w0 (Pure H0 w0 fun v _ => v = .bool (decide (0 ≤ a ∧ a < b))) := by
  have hs := HS.init h0
  refine Calls.enter (args := [.int .i64 a, .int .i64 b]) Tryz.func213 rfl Tryz.ntmps213 rfl ?_
  refine WC.seq (WC.region (WO.step rfl (OR.assign rfl (WO.done (WX.seq (WC.seq (WC.region ?_)))))))
  refine WO.step rfl (OR.move rfl (WO.step rfl (OR.geq rfl rfl (WO.step rfl (OR.move rfl ?_)))))
  refine WO.guardSplit (j := 2) rfl (fun q => ?_) (fun q => ?_)
  · refine WO.guardYes rfl (decide_eq_true q) rfl rfl (OR.move rfl (WO.guardYes rfl (decide_eq_true q) rfl rfl (OR.move rfl (WO.guardYes rfl (decide_eq_true q) rfl rfl (OR.lss rfl rfl (WO.step rfl (OR.pickT rfl (decide_eq_true q) rfl ?_)))))))
    refine WO.step rfl (OR.assign rfl (WO.done (WX.seq (WC.ret ?_))))
    refine WX.ret1 rfl rfl ?_
    refine .mk hs ?_
    congr 1
    rw [decide_eq_decide]
    exact ⟨fun h => ⟨q, h⟩, fun h => h.2⟩
  · refine WO.guardNo rfl (decide_eq_false q) rfl rfl (WO.guardNo rfl (decide_eq_false q) rfl rfl (WO.guardNo rfl (decide_eq_false q) rfl rfl (WO.step rfl (OR.pickF rfl (decide_eq_false q) rfl (WO.step rfl (OR.assign rfl (WO.done ?_)))))))
    refine WX.seq (WC.ret ?_)
    refine WX.ret1 rfl rfl ?_
    refine .mk hs ?_
    rw [decide_eq_false (fun h => q h.1)]
theorem i64_small (n : Nat) (h : n < 9223372036854775808) : IntKind.i64.wrap (n : Int) = (n : Int) := wrap_i64 (by omega) (by omega)
set_option maxRecDepth 20000 in
set_option maxHeartbeats 2000000 in
theorem turn_ok (sent n : Nat) (H0 : Hp) (w0 : World) (h0 : Sub H0 w0) (hn : 1 ≤ n ∧ n ≤ 255) (hsent : sent < 18446744073709551616) : Calls Tryz.prog 202 #[.int .u64 (sent : Int), .int .i64 (n : Int)] w0 (Pure H0 w0 fun v _ => v = .tuple #[.int .i64 ((sent % n : Nat) : Int), .int .i64 0]) := by
  have hs := HS.init h0
  have hle := Hp.le.refl H0
  refine Calls.enter (args := [.int .u64 (sent : Int), .int .i64 (n : Int)]) Tryz.func202 rfl Tryz.ntmps202 rfl ?_
  refine WC.seq (WC.region (WO.step rfl (OR.assign rfl (WO.step rfl (OR.assign rfl (WO.done (WX.seq ?_)))))))
  refine WC.seq (WC.seq (WC.region (WO.step rfl (OR.move rfl ?_))))
  refine WO.step rfl (OR.call hs body205 rfl rfl (may_ok (n : Int) _ _ hs.toSub) ?_)
  clear hs; rintro _ H w hs hle1 rfl; replace hle := hle.trans hle1; (try replace hlb := hlb.trans hle1)
  rw [decide_eq_true (show 1 ≤ (n : Int) ∧ (n : Int) ≤ 255 by omega)]
  refine WO.step rfl (OR.not rfl (WO.done (WX.seq ?_)))
  refine WC.no rfl rfl ?_
  refine WC.skip (WX.seq (WC.seq (WC.region (WO.step rfl (OR.move rfl (WO.step rfl (OR.move rfl ?_)))))))
  refine WO.step rfl (OR.convI T3.und T22.und rfl ?_)
  rw [IntWalk.u64_in (n : Int) (by omega)]
  refine WO.step rfl (OR.rem rfl rfl (by omega) ?_)
  have hmod : (sent : Int).tmod (n : Int) = ((sent % n : Nat) : Int) := rfl
  rw [hmod]
  refine WO.step rfl (OR.convI T22.und T3.und rfl ?_)
  have := Nat.mod_lt sent (show 0 < n by omega)
  rw [i64_small _ (by omega)]
  refine WO.step rfl (OR.assign rfl (WO.step rfl (OR.assign rfl (WO.done (WX.seq (WC.ret ?_))))))
  refine WX.ret2 rfl rfl rfl ?_
  exact .mk hs rfl

/-- A draw's coefficients. -/
def coefF (n turn : Nat) (l : List UInt8) : List UInt8 := if lead (padTo n l) < 0 then (padTo n l).set turn 1 else padTo n l
theorem coefF_len (n turn : Nat) (l : List UInt8) : (coefF n turn l).length = n := by
  unfold coefF; split
  · rw [List.length_set, padTo_length]
  · exact padTo_length _ _

set_option maxRecDepth 20000 in
set_option maxHeartbeats 2000000 in
theorem fill_ok (gm gout gt : Nat) (n turn : Nat) (l : List UInt8) (H0 : Hp) (w0 : World) (hl : l.length = n) (hn : n ≤ 255) (ht : turn < n)
    (hs : HS [gm] H0 w0 H0 [(gm, .cells (l.map B).toArray 5, true), (gout, .cells #[.slice (some ⟨gm, 0, none⟩) n n] 43, false), (gt, .cells #[.int .i64 (turn : Int)] 3, false)] w0) :
    Calls Tryz.prog 206 #[ptr gout, ptr gt] w0 (Ret [gm] H0 w0 fun v H' M' => v = .tuple #[] ∧ M' = [(gm, .cells ((if lead l < 0 then l.set turn 1 else l).map B).toArray 5, true)]) := by
  have hle := Hp.le.refl H0
  refine Calls.enter (args := [ptr gout, ptr gt]) Tryz.func206 rfl Tryz.ntmps206 rfl ?_
  refine WC.seq (WC.region (WO.step rfl (OR.load T43 rfl rfl (hs.cellM (i := 1) rfl rfl) ?_)))
  have hb : Bytes (H0.put gm (.cells (l.map B).toArray 5)) (.slice (some ⟨gm, 0, none⟩) l.length l.length) l := Bytes.block (Hp.put_same ..) (by rw [List.take_of_length_le (by simp)]) (Nat.le_refl _)
  rw [hl] at hb
  refine WO.step rfl (OR.callL hs body50 rfl rfl (isZero_ok _ l _ _ (hs.toSub.put (hs.blk (i := 0) rfl)) hb (by omega)) ?_)
  clear hs; rintro _ H w hs hle1 rfl; replace hle := hle.trans hle1
  refine WO.done (WX.seq ?_)
  refine WC.condD rfl (fun hz => ?_) (fun hz => ?_)
  · refine WC.region (WO.step rfl (OR.load T43 rfl rfl (hs.cellM (i := 1) rfl rfl) (WO.step rfl (OR.load T3 rfl rfl (hs.cellM (i := 2) rfl rfl) ?_))))
    refine WO.step rfl (OR.idx turn T43.und T5 rfl rfl rfl ht ?_)
    refine WO.stepN (OR.store hs T5 rfl rfl rfl (by simp [hl]; omega) rfl ?_)
    clear hs; intro w hs
    refine WO.done ?_
    refine WX.end0 rfl ?_
    refine ⟨_, H, _, rfl, (hs.drop 1).drop 1, by simp [dropAt], rfl, ?_⟩
    rw [if_pos hz]
    have e : (setL (l.map B).toArray.toList (0 + turn) (B 1).cells.toList) = (l.set turn 1).map B := by
      rw [Nat.zero_add, List.map_set]
      show setL (l.map B) turn [B 1] = _
      rw [setL_step, setL_nil]
    exact congrArg (fun c : List Value => [(gm, Obj.cells c.toArray 5, true)]) e
  · refine WC.skip ?_
    refine WX.end0 rfl ?_
    refine ⟨_, H, _, rfl, (hs.drop 1).drop 1, by simp [dropAt], rfl, ?_⟩
    rw [if_neg hz]
    rfl

set_option maxRecDepth 20000 in
set_option maxHeartbeats 2000000 in
theorem coefs_ok (vd : Value) (l : List UInt8) (n turn : Nat) (H0 : Hp) (w0 : World) (h0 : Sub H0 w0) (hl : Bytes H0 vd l) (hn : 1 ≤ n ∧ n ≤ 255) (ht : turn < n) :
    Calls Tryz.prog 203 #[vd, .int .i64 (n : Int), .int .i64 (turn : Int)] w0 (Pure H0 w0 fun v H' => ∃ r, v = .tuple #[r, .int .i64 0] ∧ Bytes H' r (coefF n turn l)) := by
  have hs := HS.init h0
  have hle := Hp.le.refl H0
  obtain ⟨b1, c1, rfl⟩ := hl.form
  refine Calls.enter (args := [.slice b1 l.length c1, .int .i64 (n : Int), .int .i64 (turn : Int)]) Tryz.func203 rfl Tryz.ntmps203 rfl ?_
  refine WC.seq (WC.region (WO.step rfl (OR.box hs rfl ?_)))
  clear hs; intro g1 w hg1 hs
  refine WO.step rfl (OR.assign rfl (WO.step rfl (OR.assign rfl (WO.done (WX.seq (WC.seq (WC.seq ?_)))))))
  refine WC.region (WO.step rfl (OR.move rfl ?_))
  refine WO.step rfl (OR.call hs body205 rfl rfl (may_ok (n : Int) _ _ hs.toSub) ?_)
  clear hs; rintro _ H w hs hle1 rfl; replace hle := hle.trans hle1; (try replace hlb := hlb.trans hle1)
  rw [decide_eq_true (show 1 ≤ (n : Int) ∧ (n : Int) ≤ 255 by omega)]
  refine WO.step rfl (OR.not rfl (WO.step rfl (OR.move rfl ?_)))
  refine WO.guardYes rfl rfl rfl rfl (OR.load T3 rfl rfl (hs.cellM (i := 0) rfl rfl) (WO.guardYes rfl rfl rfl rfl (OR.lss rfl rfl (WO.step rfl (OR.pickF rfl rfl rfl (WO.step rfl (OR.move rfl ?_)))))))
  refine WO.guardYes rfl (decide_eq_false (by omega : ¬ (turn : Int) < 0)) rfl rfl (OR.load T3 rfl rfl (hs.cellM (i := 0) rfl rfl) (WO.guardYes rfl (decide_eq_false (by omega : ¬ (turn : Int) < 0)) rfl rfl (OR.move rfl (WO.guardYes rfl (decide_eq_false (by omega : ¬ (turn : Int) < 0)) rfl rfl (OR.geq rfl rfl (WO.step rfl (OR.pickF rfl (decide_eq_false (by omega : ¬ (turn : Int) < 0)) rfl ?_)))))))
  refine WO.done (WX.seq ?_)
  refine WC.no rfl (decide_eq_false (by omega)) ?_
  refine WC.skip (WX.seq (WC.seq (WC.region (WO.step rfl (OR.move rfl ?_)))))
  refine WO.step rfl (OR.make1 (m := n) hs T43.und T5 rfl rfl rfl (by omega) (by omega) ?_)
  clear hs; intro gm w hgm hs
  refine WO.step rfl (OR.alloc hs T43 ?_)
  clear hs; intro g2 w hg2 hs
  refine WO.stepN (OR.storeAll hs T43 rfl rfl rfl rfl rfl ?_)
  clear hs; intro w hs
  refine WO.done (WX.seq (WC.seq (WC.region (WO.step rfl (OR.makeFunc rfl rfl (WO.step rfl (OR.assign rfl ?_)))))))
  refine WO.done (WX.seq (WC.seq (WC.region (WO.step rfl (OR.load T43 rfl rfl (hs.cellM (i := 0) rfl rfl) (WO.step rfl (OR.move rfl ?_)))))))
  replace hs := hs.front (i := 1) rfl
  refine WO.step rfl (OR.copyO hs ((l.take n).map B) T43.und T5 rfl rfl (by rw [List.length_map, List.length_take, natmin (c := min n l.length) (by omega)]; omega) (Sl.src0 (hl.mono hle)) (fun b hb j u hj => Sl.src (hl.mono hle) hs b hb j u (by rw [List.map_take] at hj; exact get_take hj)) (by simp; omega) (bytes_one _) ?_)
  clear hs; intro w hs
  replace hs : HS [] H0 w0 H ([(gm, .cells ((padTo n l).map B).toArray 5, true)] ++ [(g2, .cells #[.slice (some ⟨gm, 0, none⟩) n n] 43, true), (g1, .cells #[.int .i64 (turn : Int)] 3, true)]) w := by rw [← padTo_cells]; exact hs
  refine WO.done (WX.seq (WC.seq (WC.region (WO.step rfl (OR.move rfl ?_)))))
  refine WO.step rfl (OR.callX (Mx := [_]) hs body206 rfl rfl (fill_ok gm g2 g1 n turn (padTo n l) _ _ (padTo_length _ _) hn.2 ht (hs.begin [true, false, false])) rfl rfl ?_)
  clear hs; rintro v H2 M2 w hs hle1 hnew ⟨rfl, rfl⟩
  replace hle := hle.trans hle1
  refine WO.done (WX.seq (WC.seq (WC.region (WO.step rfl (OR.load T43 rfl rfl (hs.cellM (i := 1) rfl rfl) (WO.step rfl (OR.assign rfl ?_)))))))
  refine WO.step rfl (OR.assign rfl (WO.done (WX.seq (WC.ret ?_))))
  refine WX.ret2 rfl rfl rfl ?_
  have hs2 : HS [] H0 w0 H2 ((gm, .cells ((coefF n turn l).map B).toArray 5, true) :: []) w := (hs.drop 1).drop 1
  have hp := hs2.publish hgm
  refine .mk hp ⟨_, rfl, ?_⟩
  have := Bytes.block (c := ((coefF n turn l).map B).toArray) (l := coefF n turn l) (cap := n) (Hp.put_same H2 gm (.cells ((coefF n turn l).map B).toArray 5)) (by rw [coefF_len, List.take_of_length_le (by simp [coefF_len])]) (by rw [coefF_len]; exact Nat.le_refl _)
  rw [coefF_len] at this
  exact this

end Go.Bw
namespace Go.Bw
set_option linter.unusedVariables false
set_option linter.unusedSimpArgs false
open Go.Proofs
set_option maxRecDepth 20000 in
set_option maxHeartbeats 2000000 in
theorem rnone_ok (rb g s wb : Nat) (l : Slots) (H0 : Hp) (w0 : World) (h0 : Sub H0 w0) (hb : w0.heap[rb]? = some (relObj g s wb l)) (hn : H0 rb = none) : Calls Tryz.prog 77 #[ptr rb] w0 (Pure H0 w0 fun v _ => v = .bool false) := by
  have hs := HS.startR h0 hb hn
  refine Calls.enter (args := [ptr rb]) Tryz.func77 rfl Tryz.ntmps77 rfl ?_
  refine WC.seq (WC.region (WO.step rfl (OR.assign rfl (WO.done (WX.seq (WC.seq (WC.region ?_)))))))
  refine WO.step rfl (OR.move rfl (WO.step rfl (OR.eqlNilP T34.und rfl rfl (WO.step rfl (OR.move rfl (WO.guardYes rfl rfl rfl rfl (OR.move rfl ?_)))))))
  refine WO.guardYes rfl rfl rfl rfl (OR.nilCheck rfl (WO.guardYes rfl rfl rfl rfl (OR.fieldAddr FA131_2 rfl (WO.guardYes rfl rfl rfl rfl (OR.load T123 rfl rfl (hs.cellM (i := 0) rfl rfl) (WO.guardYes rfl rfl rfl rfl (OR.eqlNilP T123.und rfl rfl ?_)))))))
  refine WO.step rfl (OR.pickF rfl rfl rfl (WO.step rfl (OR.assign rfl (WO.done (WX.seq (WC.ret ?_))))))
  refine WX.ret1 rfl rfl ?_
  exact .mk (hs.drop 0) rfl

def MF.newB (N : Nat) (Hb : Hp) (g s : Nat) (f : Value → Value) : MF := MF.of (fun v H => ∃ b, N ≤ b ∧ Hb b = none ∧ v = f (.pointer (some ⟨b, 0, none⟩)) ∧ H b = some (basisObj g s (.slice none 0 0))) fun _ _ _ hle ⟨b, h1, h2, h3, h4⟩ => ⟨b, h1, h2, h3, hle _ _ h4⟩
set_option maxRecDepth 20000 in
set_option maxHeartbeats 2000000 in
theorem rat_ok (rb wb f gen : Nat) (first cap : List Value) (x : RelD) (l : Slots) (t : Bool) (xs : List Nat) (H0 H1 : Hp) (Mr : Mem) (w0 w1 : World) (C : Ending → World → Prop) (h00 : Sub H0 w0)
    (hs : HS xs H0 w0 H1 ((rb, relObj x.g x.s wb l, t) :: (wb, winObj x.base x.width, t) :: (slotMem x.g x.s t l ++ Mr)) w1) (hx : SlotsOk H1 x l) (hok : RelOk x) (hg : gen < 18446744073709551616) (hb : Body Tryz.prog f)
    (hC : ∀ e w, C e w → ∃ i : Int, e = .returned (.int .i64 i))
    (hout : ¬ inWin x.base x.width gen → ∀ H w, Hp.le H1 H → HS xs H0 w0 H ((rb, relObj x.g x.s wb l, t) :: (wb, winObj x.base x.width, t) :: (slotMem x.g x.s t l ++ Mr)) w → C (.returned (.int .i64 23)) w)
    (hdo : inWin x.base x.width gen → ∀ H w b rv t', Hp.le H1 H → (t = true → t' = true) → HS xs H0 w0 H ((b, basisObj x.g x.s rv, t') :: (rb, relObj x.g x.s wb l, t) :: (wb, winObj x.base x.width, t) :: (slotMem x.g x.s t (l.set (gen % x.width) none) ++ Mr)) w →
      (l[gen % x.width]? = some (some (b, rv)) ∨ l[gen % x.width]? = some none) → (l[gen % x.width]? = some (some (b, rv)) → t' = t) → Rws H rv (x.rows (gen % x.width)) → Calls Tryz.prog f (first ++ [.int .i64 ((gen % x.width : Nat) : Int), ptr b] ++ cap).toArray w C) :
    Calls Tryz.prog 70 #[ptr rb, .int .u64 (gen : Int), .func (.func f) first.toArray cap.toArray] w1 C := by
  have hle := Hp.le.refl H1
  have hw16 := hok.w2
  have hw1 := hok.w1
  have hsl := hok.slot gen
  obtain ⟨h16, hx⟩ := hx
  refine Calls.enter (args := [ptr rb, .int .u64 (gen : Int), .func (.func f) first.toArray cap.toArray]) Tryz.func70 rfl Tryz.ntmps70 rfl ?_
  refine WC.seq (WC.region (WO.step rfl (OR.assign rfl (WO.done (WX.seq (WC.seq (WC.seq ?_)))))))
  refine WC.region (WO.step rfl (OR.move rfl ?_))
  refine WO.step rfl (OR.call hs body77 rfl rfl (rnone_ok rb x.g x.s wb l _ _ hs.toSub (hs.blk (i := 0) rfl) (hs.nh (i := 0) rfl)) ?_)
  clear hs; rintro _ H w hs hle1 rfl; replace hle := hle.trans hle1; (try replace hlb := hlb.trans hle1)
  refine WO.done (WX.seq ?_)
  refine WC.no rfl rfl ?_
  refine WC.skip (WX.seq (WC.seq (WC.region (WO.step rfl (OR.move rfl (WO.step rfl (OR.nilCheck rfl ?_)))))))
  refine WO.step rfl (OR.fieldAddr FA131_2 rfl (WO.step rfl (OR.load T123 rfl rfl (hs.cellM (i := 0) rfl rfl) (WO.step rfl (OR.move rfl ?_)))))
  refine WO.step rfl (OR.call hs body118 rfl rfl (wslot_ok wb x.base x.width _ _ gen hs.toSub (hs.blk (i := 1) rfl) (hs.nh (i := 1) rfl) hok.b hw16 hw1 hg) ?_)
  clear hs; rintro _ H w hs hle1 rfl; replace hle := hle.trans hle1; (try replace hlb := hlb.trans hle1)
  refine WO.step rfl (OR.move rfl (WO.step rfl (OR.extract rfl rfl (WO.step rfl (OR.extract rfl rfl (WO.step rfl (OR.assign rfl ?_)))))))
  refine WO.step rfl (OR.assign rfl (WO.done (WX.seq (WC.seq (WC.seq (WC.region (WO.step rfl ?_)))))))
  refine OR.move rfl (WO.step rfl (OR.neq rfl rfl (WO.done (WX.seq ?_))))
  by_cases hin : inWin x.base x.width gen
  · rw [if_pos hin, if_pos hin]
    refine WC.no rfl (decide_eq_false (by decide)) ?_
    have hget : ∃ y, l[gen % x.width]? = some y := ⟨_, List.getElem?_eq_getElem (by omega)⟩
    obtain ⟨y, hy⟩ := hget
    have hnth := nth_slots (.int .i64 (x.g : Int)) (.int .i64 (x.s : Int)) (ptr wb) l _ y hy
    refine WC.skip (WX.seq (WC.seq (WC.region (WO.step rfl (OR.move rfl (WO.step rfl (OR.move rfl ?_)))))))
    refine WO.step rfl (OR.nilCheck rfl (WO.step rfl (OR.fieldAddr FA131_3 rfl ?_)))
    refine WO.step rfl (OR.idxArr (gen % x.width) T129.und T126 rfl rfl rfl (by omega) ?_)
    refine WO.step rfl (OR.load T126 rfl rfl (hs.cellM (i := 0) rfl (by rw [Nat.zero_add]; exact hnth)) ?_)
    have hslot := hx _ _ hy
    cases y with
    | none =>
      refine WO.step rfl (OR.assign rfl (WO.done (WX.seq (WC.seq (WC.seq (WC.region (WO.step rfl ?_)))))))
      refine OR.move rfl (WO.step rfl (OR.eqlNilP T126.und rfl rfl (WO.done (WX.seq ?_))))
      refine WC.yes rfl rfl ?_
      have hlb := Hp.le.refl H
      refine WC.drawL 12 11 mixed hs (by kernel_rfl) ?_
      refine ⟨MF.eq _, by intro Mx H w hle hs; refine forVals_nil (ORg.plain (OR.move rfl ?_)); exact ⟨_, [], Hp.le.refl _, hs, rfl, rfl⟩, ?_⟩
      refine ⟨MF.eq _, by intro Mx H w hle hs; refine forVals_eq rfl rfl rfl ?_; refine forVals_nil (ORg.plain (OR.nilCheck rfl ?_)); exact ⟨_, [], Hp.le.refl _, hs, rfl, rfl⟩, ?_⟩
      refine ⟨MF.eq _, by intro Mx H w hle hs; refine forVals_eq rfl rfl rfl ?_; refine forVals_nil (ORg.plain (OR.fieldAddr FA131_0 rfl ?_)); exact ⟨_, [], Hp.le.refl _, hs, rfl, rfl⟩, ?_⟩
      refine ⟨MF.eq _, by intro Mx H w hle hs; refine forVals_eq rfl rfl rfl ?_; refine forVals_nil (ORg.plain (OR.load T3 rfl rfl (hs.right.cellM (i := 0) rfl rfl) ?_)); exact ⟨_, [], Hp.le.refl _, hs, rfl, rfl⟩, ?_⟩
      refine ⟨MF.eq _, by intro Mx H w hle hs; refine forVals_nil (ORg.plain (OR.move rfl ?_)); exact ⟨_, [], Hp.le.refl _, hs, rfl, rfl⟩, ?_⟩
      refine ⟨MF.eq _, by intro Mx H w hle hs; refine forVals_eq rfl rfl rfl ?_; refine forVals_nil (ORg.plain (OR.nilCheck rfl ?_)); exact ⟨_, [], Hp.le.refl _, hs, rfl, rfl⟩, ?_⟩
      refine ⟨MF.eq _, by intro Mx H w hle hs; refine forVals_eq rfl rfl rfl ?_; refine forVals_nil (ORg.plain (OR.fieldAddr FA131_1 rfl ?_)); exact ⟨_, [], Hp.le.refl _, hs, rfl, rfl⟩, ?_⟩
      refine ⟨MF.eq _, by intro Mx H w hle hs; refine forVals_eq rfl rfl rfl ?_; refine forVals_nil (ORg.plain (OR.load T3 rfl rfl (hs.right.cellM (i := 0) rfl rfl) ?_)); exact ⟨_, [], Hp.le.refl _, hs, rfl, rfl⟩, ?_⟩
      refine ⟨MF.newB w0.heap.size H1 x.g x.s (fun v => .tuple #[v, .int .i64 0]), ?_, ?_⟩
      · intro Mx H w hle2 hs; (try replace hle := hle.trans hle2); (try replace hlb := hlb.trans hle2); refine forVals_eq rfl rfl rfl ?_; refine forVals_eq rfl rfl rfl ?_
        have hsz := hs.size
        have hdom : ∀ q, w.heap.size ≤ q → H1 q = none := fun q hq => by
          cases hh : H1 q with
          | none => rfl
          | some u => have := lt_of_heap (hs.sub q u (hle _ _ hh)); omega
        refine forVals_nil (ORg.plain (OR.callX (Mx := []) hs body65 rfl rfl (new_ok (x.g : Int) (x.s : Int) _ _ hs.toSub) rfl rfl ?_))
        clear hs; rintro v H3 M3 w hs hle3 hnew ⟨rfl, hc⟩
        rw [if_pos (by have h1 := hok.g1; have h2 := hok.g2; have h3 := hok.s1; have h4 := hok.s2; omega)] at hc
        obtain ⟨b, hb1, rfl, rfl⟩ := hc
        obtain ⟨H4, hle4, hp, hs⟩ := HS.pub1 hs (Nat.le_trans hsz hb1)
        exact ⟨_, [], hle4, hs, ⟨b, Nat.le_trans hsz hb1, hdom b hb1, rfl, hp⟩, rfl⟩
      refine ⟨MF.newB w0.heap.size H1 x.g x.s (fun v => .tuple #[v, .int .i64 0]), ?_, ?_⟩
      · intro Mx H w hle2 hs; (try replace hle := hle.trans hle2); (try replace hlb := hlb.trans hle2); refine forVals_of rfl rfl rfl ?_; intro v8 h8
        refine forVals_nil (ORg.plain (OR.move rfl ?_))
        exact ⟨_, [], Hp.le.refl _, hs, h8, rfl⟩
      refine ⟨MF.newB w0.heap.size H1 x.g x.s (fun v => v), ?_, ?_⟩
      · intro Mx H w hle2 hs; (try replace hle := hle.trans hle2); (try replace hlb := hlb.trans hle2); refine forVals_of rfl rfl rfl ?_; intro v9 h9
        obtain ⟨b, hb1, hb2, rfl, hb3⟩ := h9
        refine forVals_nil (ORg.plain (OR.extract rfl rfl ?_))
        exact ⟨_, [], Hp.le.refl _, hs, ⟨b, hb1, hb2, rfl, hb3⟩, rfl⟩
      refine ⟨MF.eq (.int .i64 0), ?_, ?_⟩
      · intro Mx H w hle2 hs; (try replace hle := hle.trans hle2); (try replace hlb := hlb.trans hle2); refine forVals_of rfl rfl rfl ?_; intro v9 h9
        obtain ⟨b, hb1, hb2, rfl, hb3⟩ := h9
        refine forVals_nil (ORg.plain (OR.extract rfl rfl ?_))
        exact ⟨_, [], Hp.le.refl _, hs, rfl, rfl⟩
      intro H w hle2; (try replace hle := hle.trans hle2); (try replace hlb := hlb.trans hle2)
      refine forAllVals_eq rfl ?_
      refine forAllVals_eq rfl ?_
      refine forAllVals_eq rfl ?_
      refine forAllVals_eq rfl ?_
      refine forAllVals_eq rfl ?_
      refine forAllVals_eq rfl ?_
      refine forAllVals_eq rfl ?_
      refine forAllVals_eq rfl ?_
      refine forAllVals_of rfl ?_; intro v8 h8
      refine forAllVals_of rfl ?_; intro v9 h9
      refine forAllVals_of rfl ?_; intro v10 h10
      refine forAllVals_eq rfl ?_
      refine forAllVals_nil ?_; (try clear hs); intro hs
      obtain ⟨b, hb1, hb2, rfl, hb3⟩ := h10
      have hs2 := HS.unpub h00 hs hb3 hb1
      rw [show slotMem x.g x.s t l = slotMem x.g x.s t (l.set (gen % x.width) none) from by
        congr 1
        have hi : gen % x.width < l.length := (List.getElem?_eq_some_iff.1 hy).1
        have hx2 : l[gen % x.width] = none := by rw [List.getElem?_eq_getElem hi] at hy; exact Option.some.inj hy
        conv => lhs; rw [← List.set_getElem_self hi, hx2]] at hs2
      have hrows : x.rows (gen % x.width) = [] := hslot
      refine WO.step rfl (OR.assign rfl (WO.done (WX.seq (WC.seq (WC.region (WO.step rfl (OR.move rfl ?_)))))))
      refine WO.step rfl (OR.move rfl (WO.step rfl (OR.move rfl ?_)))
      refine WO.step rfl (OR.callW hb rfl rfl (hdo hin _ _ b (.slice none 0 0) true (Hp.le_del hle hb2) (fun _ => rfl) hs2 (.inr hy) (fun h => by rw [hy] at h; cases h) (by rw [hrows]; exact ⟨[], Sl.nil _ _, rfl, fun i h => by simp at h⟩)) ?_)
      intro e w hCe
      obtain ⟨i, rfl⟩ := hC e w hCe
      refine ⟨_, rfl, ?_⟩
      refine WO.step rfl (OR.assign rfl (WO.done (WX.seq (WC.ret ?_))))
      refine WX.ret1 rfl rfl ?_
      exact hCe
    | some p =>
      obtain ⟨b, rv⟩ := p
      refine WO.step rfl (OR.assign rfl (WO.done (WX.seq (WC.seq (WC.seq (WC.region (WO.step rfl ?_)))))))
      refine OR.move rfl (WO.step rfl (OR.eqlNilP T126.und rfl rfl (WO.done (WX.seq ?_))))
      refine WC.no rfl rfl ?_
      have hs2 := HS.slotOut (A := [_, _]) hs hy
      refine WC.skip (WX.seq (WC.seq (WC.region (WO.step rfl (OR.move rfl (WO.step rfl (OR.move rfl ?_)))))))
      refine WO.step rfl (OR.move rfl ?_)
      refine WO.step rfl (OR.callW hb rfl rfl (hdo hin _ _ b rv t hle id hs2 (.inl hy) (fun _ => rfl) (Rws.mono hslot hle)) ?_)
      intro e w hCe
      obtain ⟨i, rfl⟩ := hC e w hCe
      refine ⟨_, rfl, ?_⟩
      refine WO.step rfl (OR.assign rfl (WO.done (WX.seq (WC.ret ?_))))
      refine WX.ret1 rfl rfl ?_
      exact hCe
  · rw [if_neg hin, if_neg hin]
    refine WC.yes rfl (decide_eq_true (by decide)) ?_
    refine WC.seq (WC.region (WO.step rfl (OR.assign rfl (WO.done (WX.seq (WC.ret (WX.seq_ret ?_)))))))
    refine WX.ret1 rfl rfl ?_
    exact hout hin _ _ hle hs
end Go.Bw
namespace Go.Bw
set_option linter.unusedVariables false
set_option linter.unusedSimpArgs false
open Go.Proofs
theorem HS.last1 {xs : List Nat} {H0 H : Hp} {w0 w : World} {A : Mem} {q : Nat × Obj × Bool} (hs : HS xs H0 w0 H (A ++ [q]) w) : HS xs H0 w0 H [q] w := hs.sublist (List.sublist_append_right _ _)
theorem HS.pick2 {xs : List Nat} {H0 H : Hp} {w0 w : World} {A : Mem} {p q : Nat × Obj × Bool} (hs : HS xs H0 w0 H (p :: (A ++ [q])) w) : HS xs H0 w0 H [q, p] w :=
  (hs.sublist ((List.sublist_append_right A [q]).cons_cons p)).front (i := 1) rfl
theorem Red.forB {g s : Nat} {A : List RowD} (h : Red g s A) (hg : g ≤ 255) : (∀ y ∈ A, RowGS g s y) ∧ (∀ y ∈ A, RowGS g s y ∧ 0 ≤ lead y.1) ∧ A.length ≤ 255 :=
  ⟨h.gs, fun y hy => ⟨h.gs y hy, h.ld y hy⟩, Nat.le_trans h.len hg⟩

def RelD.solE (x : RelD) (gen : Nat) : Int := if inWin x.base x.width gen then (if (x.rows (gen % x.width)).length < x.g then 24 else 0) else 23
def RelD.solF (x : RelD) (gen : Nat) : List (List UInt8) := if inWin x.base x.width gen then (if (x.rows (gen % x.width)).length < x.g then [] else (x.rows (gen % x.width)).map (·.2)) else []
set_option maxRecDepth 20000 in
set_option maxHeartbeats 2000000 in
theorem rsolve1_ok (gn b g s : Nat) (v0 u rv : Value) (rows : List RowD) (t : Bool) (xs : List Nat) (H0 H1 : Hp) (w0 w1 : World) (hs : HS xs H0 w0 H1 [(gn, .cells #[u] 40, true), (b, basisObj g s rv, t)] w1) (hg : 0 < g) (hg2 : g ≤ 255) (hs2 : s ≤ 65535) (hr : Rws H1 rv rows) (hred : Red g s rows) :
    Calls Tryz.prog 151 #[v0, ptr b, ptr gn] w1 (fun e w' => ∃ H' r, e = .returned (.int .i64 (if rows.length < g then 24 else 0)) ∧ HS xs H0 w0 H' [(gn, .cells #[r] 40, true)] w' ∧ BytesL H' r (if rows.length < g then [] else rows.map (·.2))) := by
  have hle := Hp.le.refl H1
  obtain ⟨q1, q2, q3⟩ := Red.forB hred hg2
  refine Calls.enter (args := [v0, ptr b, ptr gn]) Tryz.func151 rfl Tryz.ntmps151 rfl ?_
  refine WC.seq (WC.region (WO.step rfl (OR.assign rfl (WO.done (WX.seq (WC.seq (WC.region ?_)))))))
  refine WO.step rfl (OR.move rfl ?_)
  refine WO.step rfl (OR.call hs body152 rfl rfl (solve_ok rows rv b g s _ _ hs.toSub (hs.blk (i := 1) rfl) (hs.nh (i := 1) rfl) hr q1 hg hg2 hs2 q3) ?_)
  clear hs; rintro _ H w hs hle1 ⟨r, rfl, hr2⟩; replace hle := hle.trans hle1; (try replace hlb := hlb.trans hle1)
  obtain ⟨b1, c1, rfl⟩ := hr2.form
  refine WO.step rfl (OR.move rfl (WO.step rfl (OR.extract rfl rfl (WO.step rfl (OR.extract rfl rfl (WO.stepN (OR.storeAll hs T40 rfl rfl rfl rfl rfl ?_)))))))
  clear hs; intro w hs
  refine WO.step rfl (OR.assign rfl (WO.done (WX.seq (WC.seq (WC.region (WO.step rfl (OR.move rfl ?_)))))))
  refine WO.step rfl (OR.assign rfl (WO.done (WX.seq (WC.ret ?_))))
  refine WX.ret1 rfl rfl ?_
  exact ⟨H, _, rfl, hs.drop 1, hr2⟩
set_option maxRecDepth 20000 in
set_option maxHeartbeats 2000000 in
theorem rsolve_ok (rb wb gen : Nat) (x : RelD) (l : Slots) (H0 : Hp) (w0 : World) (hs : HS [] H0 w0 H0 (relMem false x rb wb l) w0) (hx : SlotsOk H0 x l) (hok : RelOk x) (hg : gen < 18446744073709551616) :
    Calls Tryz.prog 116 #[ptr rb, .int .u64 (gen : Int)] w0 (Pure H0 w0 fun v H' => ∃ r, v = .tuple #[r, .int .i64 (x.solE gen)] ∧ BytesL H' r (x.solF gen)) := by
  have hle := Hp.le.refl H0
  have h00 := hs.toSub
  refine Calls.enter (args := [ptr rb, .int .u64 (gen : Int)]) Tryz.func116 rfl Tryz.ntmps116 rfl ?_
  refine WC.seq (WC.region (WO.step rfl (OR.alloc hs T40 ?_)))
  clear hs; intro g1 w hg1 hs
  refine WO.step rfl (OR.assign rfl (WO.done (WX.seq (WC.seq (WC.region (WO.step rfl (OR.move rfl ?_)))))))
  refine WO.step rfl (OR.move rfl (WO.step rfl (OR.makeFunc rfl rfl ?_)))
  have hs9 := HS.mtail (A := [_]) hs
  refine WO.step rfl (OR.callW body70 rfl rfl (rat_ok rb wb 151 gen [] [ptr g1] x l false [] H0 H0 [_] w0 _ (fun e w' => ∃ H' r, e = .returned (.int .i64 (x.solE gen)) ∧ HS [] H0 w0 H' [(g1, .cells #[r] 40, true)] w' ∧ BytesL H' r (x.solF gen)) h00 hs9 hx hok hg body151 (fun e w ⟨_, _, h, _⟩ => ⟨_, h⟩) (fun hno H w hl hs => ⟨H, .slice none 0 0, by rw [RelD.solE, if_neg hno], HS.last1 (A := _ :: _ :: _) hs, by rw [RelD.solF, if_neg hno]; exact ⟨[], Sl.nil _ _, rfl, fun i h => by simp at h⟩⟩) (fun hin H w b rv t' hl _ hs _ _ hr => (rsolve1_ok g1 b x.g x.s _ _ rv _ t' [] H0 H w0 w (HS.pick2 (A := _ :: _ :: _) hs) hok.g1 hok.g2 hok.s2 hr (hok.red _)).mono fun e w' ⟨H', r, h1, h2, h3⟩ => ⟨H', r, by rw [RelD.solE, if_pos hin]; exact h1, h2, by rw [RelD.solF, if_pos hin]; exact h3⟩)) ?_)
  clear hs hs9
  rintro e w ⟨H, r, rfl, hs, hr⟩
  refine ⟨_, rfl, ?_⟩
  obtain ⟨b1, c1, rfl⟩ := hr.form
  refine WO.step rfl (OR.assign rfl (WO.done (WX.seq (WC.seq (WC.region (WO.step rfl (OR.load T40 rfl rfl (hs.cellM (i := 0) rfl rfl) ?_)))))))
  refine WO.step rfl (OR.move rfl (WO.stepN (OR.storeAll hs T40 rfl rfl rfl rfl rfl ?_)))
  clear hs; intro w hs
  refine WO.step rfl (OR.assign rfl (WO.done (WX.seq (WC.ret ?_))))
  refine WX.retCTS T40 rfl rfl rfl rfl (hs.cellM (i := 0) rfl rfl) ?_
  exact .mk (hs.drop 0) ⟨_, rfl, hr⟩
end Go.Bw
namespace Go.Bw
set_option linter.unusedVariables false
set_option linter.unusedSimpArgs false
open Go.Proofs
def RelD.take (x : RelD) (gen : Nat) (r : RowD) : RelD := if inWin x.base x.width gen then x.put gen (insR x.g x.s (x.rows (gen % x.width)) r).2 else x
def RelD.takeI (x : RelD) (gen : Nat) (r : RowD) : Bool := decide (inWin x.base x.width gen) && (insR x.g x.s (x.rows (gen % x.width)) r).1
def RelD.takeE (x : RelD) (gen : Nat) (r : RowD) : Int := if inWin x.base x.width gen then (if r.1.length = x.g ∧ r.2.length = x.s then 0 else 21) else 23
theorem RelOk.take {x : RelD} (h : RelOk x) (gen : Nat) (r : RowD) : RelOk (x.take gen r) := by
  unfold RelD.take
  split
  · exact h.put gen _ (insAny_red (h.red _) r)
  · exact h
theorem slots_put {H : Hp} {x : RelD} {l : Slots} {gen : Nat} {rows : List RowD} {y : Option (Nat × Value)} (h : SlotsOk H x l) (hy : slotOk H rows y) : SlotsOk H (x.put gen rows) (l.set (gen % x.width) y) := by
  refine ⟨by rw [List.length_set]; exact h.1, fun i z hz => ?_⟩
  show slotOk H (if i = gen % x.width then rows else x.rows i) z
  by_cases e : i = gen % x.width
  · rw [if_pos e]
    subst e
    rw [List.getElem?_set] at hz
    split at hz
    · split at hz
      · cases hz; exact hy
      · cases hz
    · rename_i h9; exact absurd rfl h9
  · rw [if_neg e]
    rw [List.getElem?_set_ne (Ne.symm e)] at hz
    exact h.2 i z hz
theorem slots_same {l : Slots} {i : Nat} {y z : Option (Nat × Value)} (h : l[i]? = some y) (e : slotV y = slotV z) : (l.set i z).map slotV = l.map slotV := by
  have hi : i < l.length := (List.getElem?_eq_some_iff.1 h).1
  have hx : l[i] = y := by rw [List.getElem?_eq_getElem hi] at h; exact Option.some.inj h
  rw [List.map_set, ← e, ← hx]
  have hi2 : i < (l.map slotV).length := by simpa using hi
  rw [show slotV l[i] = (l.map slotV)[i]'hi2 by simp, List.set_getElem_self]
/-- What Take leaves behind: the relay, and whether the row was taken. -/
def takeC (rb wb gI : Nat) (x : RelD) (gen : Nat) (r : RowD) (xs : List Nat) (H0 : Hp) (w0 : World) (e : Ending) (w' : World) : Prop :=
  ∃ H' l', e = .returned (.int .i64 (x.takeE gen r)) ∧ SlotsOk H' (x.take gen r) l' ∧ HS xs H0 w0 H' ((rb, relObj x.g x.s wb l', true) :: (wb, winObj x.base x.width, true) :: (slotMem x.g x.s true l' ++ [(gI, .cells #[.bool (x.takeI gen r)] 4, true)])) w'
set_option maxRecDepth 20000 in
set_option maxHeartbeats 2000000 in
theorem rtake1_ok (rb wb gI gR gW b gen : Nat) (rv rc rp : Value) (x : RelD) (l : Slots) (r : RowD) (xs : List Nat) (H0 H1 : Hp) (w0 w1 : World)
    (hs : HS xs H0 w0 H1 ((b, basisObj x.g x.s rv, true) :: (rb, relObj x.g x.s wb l, true) :: (wb, winObj x.base x.width, true) :: (slotMem x.g x.s true (l.set (gen % x.width) none) ++ [(gI, .cells #[.bool false] 4, true)])) w1)
    (hin : inWin x.base x.width gen) (hx : SlotsOk H1 x l) (hok : RelOk x) (hl : l[gen % x.width]? = some (some (b, rv)) ∨ l[gen % x.width]? = some none) (hrv : Rws H1 rv (x.rows (gen % x.width)))
    (hgW : hcell H1 ⟨gW, 0, none⟩ = some rc ∧ hcell H1 ⟨gW, 1, none⟩ = some rp) (hrc : Bytes H1 rc r.1) (hrp : Bytes H1 rp r.2) (hgR : hcell H1 ⟨gR, 0, none⟩ = some (ptr rb)) :
    Calls Tryz.prog 71 #[.int .i64 ((gen % x.width : Nat) : Int), ptr b, ptr gW, ptr gI, ptr gR] w1 (takeC rb wb gI x gen r xs H0 w0) := by
  have hle := Hp.le.refl H1
  have hsl := hok.slot gen
  obtain ⟨q1, q2, q3⟩ := Red.forB (hok.red (gen % x.width)) hok.g2
  have hl16 := hx.1
  have hslot : ∃ y, l[gen % x.width]? = some y := ⟨_, List.getElem?_eq_getElem (by omega)⟩
  have hs0 := HS.mtail (A := _ :: _ :: _ :: slotMem x.g x.s true (l.set (gen % x.width) none)) hs
  clear hs
  have hs := hs0
  clear hs0
  refine Calls.enter (args := [.int .i64 ((gen % x.width : Nat) : Int), ptr b, ptr gW, ptr gI, ptr gR]) Tryz.func71 rfl Tryz.ntmps71 rfl ?_
  refine WC.seq (WC.region (WO.step rfl (OR.assign rfl (WO.done (WX.seq (WC.seq (WC.seq ?_)))))))
  refine WC.region (WO.step rfl (OR.move rfl ?_))
  refine WO.step rfl (OR.loadN (cs := [rc, rp]) T45 rfl rfl rfl (fun j u hj => hs.cell (by rw [add_off, Nat.zero_add]; match j, hj with | 0, hj => (cases hj; exact hgW.1) | 1, hj => (cases hj; exact hgW.2))) ?_)
  replace hs := hs.front (i := 1) rfl
  refine WO.step rfl (OR.callX (Mx := [(b, _, true)]) hs body72 rfl rfl (insert_ok (x.rows (gen % x.width)) r rv rc rp b x.g x.s _ _ hs.toSub (hs.blk (i := 0) rfl) (hs.nh (i := 0) rfl) hrv hrc hrp q2 hok.g1 hok.g2 hok.s2 q3) rfl rfl ?_)
  clear hs; rintro _ H M' w hs hle1 hnew ⟨rv', rfl, hrv', rfl⟩; replace hle := hle.trans hle1; (try replace hlb := hlb.trans hle1)
  obtain ⟨y, hy⟩ := hslot
  have hxt : x.take gen r = x.put gen (insR x.g x.s (x.rows (gen % x.width)) r).2 := by rw [RelD.take, if_pos hin]
  have hE : x.takeE gen r = if r.1.length = x.g ∧ r.2.length = x.s then 0 else 21 := by rw [RelD.takeE, if_pos hin]
  have hI : x.takeI gen r = (insR x.g x.s (x.rows (gen % x.width)) r).1 := by rw [RelD.takeI, decide_eq_true hin, Bool.true_and]
  have hgR2 := hcell.mono hle hgR
  replace hx := hx.mono hle
  refine WO.step rfl (OR.move rfl (WO.step rfl (OR.extract rfl rfl (WO.step rfl (OR.extract rfl rfl ?_)))))
  replace hs := hs.front (i := 1) rfl
  refine WO.stepN (OR.storeAll hs T4 rfl rfl rfl rfl rfl ?_)
  clear hs; intro w hs
  refine WO.step rfl (OR.assign rfl (WO.done (WX.seq (WC.seq (WC.region (WO.step rfl (OR.load T4 rfl rfl (hs.cellM (i := 0) rfl rfl) ?_)))))))
  refine WO.done (WX.seq ?_)
  refine WC.cond rfl (fun hins => ?_) (fun hins => ?_)
  · refine WC.region ?_
    refine WO.step rfl (OR.load T34 rfl rfl (hs.cell hgR2) ?_)
    refine WO.step rfl (OR.move rfl (WO.step rfl (OR.move rfl (WO.step rfl (OR.nilCheck rfl (WO.step rfl (OR.fieldAddr FA131_3 rfl ?_)))))))
    refine WO.step rfl (OR.idxArr (gen % x.width) T129.und T126 rfl rfl rfl (by omega) ?_)
    replace hs := hs.front (i := 2) rfl
    refine WO.stepN (OR.store hs T126 rfl rfl rfl (by simp; omega) rfl ?_)
    clear hs; intro w hs
    refine WO.done (WX.seq (WC.seq (WC.region (WO.step rfl (OR.move rfl (WO.step rfl (OR.assign rfl ?_)))))))
    refine WO.done (WX.seq (WC.ret ?_))
    refine WX.ret1 rfl rfl ?_
    have hset := setL_slots (.int .i64 (x.g : Int)) (.int .i64 (x.s : Int)) (ptr wb) l (gen % x.width) (some (b, rv')) (by omega)
    have hobj : Obj.cells (setL (Value.int .i64 (x.g : Int) :: .int .i64 (x.s : Int) :: ptr wb :: l.map slotV).toArray.toList (0 + 3 + gen % x.width) (ptr b).cells.toList).toArray 131 = relObj x.g x.s wb (l.set (gen % x.width) (some (b, rv'))) := by
      rw [relObj, ← hset, Nat.zero_add]
      rfl
    rw [hobj] at hs
    refine ⟨H, l.set (gen % x.width) (some (b, rv')), by rw [hE], by rw [hxt]; exact slots_put hx hrv', ?_⟩
    rw [hI]
    have hs3 := HS.mtail (A := [_]) (hs.front (i := 1) rfl)
    have hs4 := hs3.front (i := 1) rfl
    exact HS.slotIn (A := [_, _]) hs4 hy
  · refine WC.skip (WX.seq (WC.seq (WC.region (WO.step rfl (OR.move rfl (WO.step rfl (OR.assign rfl ?_)))))))
    refine WO.done (WX.seq (WC.ret ?_))
    refine WX.ret1 rfl rfl ?_
    have hfalse := insAny_false hins
    have hs3 := HS.mtail (A := [_]) hs
    rcases hl with hl | hl
    · have hsame := slots_same (z := some (b, rv')) hl rfl
      refine ⟨H, l.set (gen % x.width) (some (b, rv')), by rw [hE], by rw [hxt]; exact slots_put hx hrv', ?_⟩
      rw [hI]
      have hobj : relObj x.g x.s wb (l.set (gen % x.width) (some (b, rv'))) = relObj x.g x.s wb l := by rw [relObj, hsame]; rfl
      rw [hobj]
      exact HS.slotIn (A := [_, _]) hs3 hl
    · have hrows : x.rows (gen % x.width) = [] := hx.2 _ _ hl
      have hset : l.set (gen % x.width) none = l := by
        have hi : gen % x.width < l.length := (List.getElem?_eq_some_iff.1 hl).1
        have hx2 : l[gen % x.width] = none := by rw [List.getElem?_eq_getElem hi] at hl; exact Option.some.inj hl
        conv => rhs; rw [← List.set_getElem_self hi, hx2]
      have hso := slots_put (gen := gen) (rows := (insR x.g x.s (x.rows (gen % x.width)) r).2) (y := none) hx (by show _ = _; rw [hfalse, hrows])
      rw [hset] at hso hs3
      refine ⟨H, l, by rw [hE], by rw [hxt]; exact hso, ?_⟩
      rw [hI]
      exact hs3.drop 0
set_option maxRecDepth 20000 in
set_option maxHeartbeats 2000000 in
theorem rtake_ok' (rb wb gen : Nat) (rc rp : Value) (x : RelD) (l : Slots) (r : RowD) (H0 : Hp) (w0 : World) (hs : HS (Mem.keys (relMem true x rb wb l)) H0 w0 H0 (relMem true x rb wb l) w0) (hx : SlotsOk H0 x l) (hok : RelOk x) (hg : gen < 18446744073709551616) (hrc : Bytes H0 rc r.1) (hrp : Bytes H0 rp r.2) :
    Calls Tryz.prog 15 #[ptr rb, .int .u64 (gen : Int), .agg #[rc, rp]] w0 (Ret (Mem.keys (relMem true x rb wb l)) H0 w0 fun v H' M' => v = .tuple #[.bool (x.takeI gen r), .int .i64 (x.takeE gen r)] ∧ ∃ l', M' = relMem true (x.take gen r) rb wb l' ∧ SlotsOk H' (x.take gen r) l') := by
  have hle := Hp.le.refl H0
  have h00 := hs.toSub
  obtain ⟨xs, hxs⟩ : ∃ xs, xs = Mem.keys (relMem true x rb wb l) := ⟨_, rfl⟩
  rw [← hxs] at hs ⊢
  clear hxs
  obtain ⟨b1, c1, rfl⟩ := hrc.form
  obtain ⟨b2, c2, rfl⟩ := hrp.form
  refine Calls.enter (args := [ptr rb, .int .u64 (gen : Int), .agg #[.slice b1 r.1.length c1, .slice b2 r.2.length c2]]) Tryz.func15 rfl Tryz.ntmps15 rfl ?_
  refine WC.seq (WC.region (WO.step rfl (OR.box hs rfl ?_)))
  clear hs; intro g1 w hg1 hs
  refine WO.step rfl (OR.box hs rfl ?_)
  clear hs; intro g2 w hg2 hs
  refine WO.step rfl (OR.alloc hs T4 ?_)
  clear hs; intro g3 w hg3 hs
  refine WO.step rfl (OR.assign rfl (WO.done (WX.seq (WC.seq (WC.region (WO.step rfl (OR.load T34 rfl rfl (hs.cellM (i := 2) rfl rfl) ?_)))))))
  refine WO.step rfl (OR.move rfl (WO.step rfl (OR.makeFunc rfl rfl ?_)))
  replace hs := hs.front (i := 2) rfl
  obtain ⟨H, hle1, hp_g1, hs9⟩ := hs.pub1 hg1; clear hs; have hs := hs9; clear hs9; replace hle := hle.trans hle1; (try replace hlb := hlb.trans hle1)
  have hM : hcell H ⟨g1, 0, none⟩ = some (ptr rb) := hcell_of hp_g1 rfl
  replace hs := hs.front (i := 1) rfl
  obtain ⟨H, hle1, hp_g2, hs9⟩ := hs.pub1 hg2; clear hs; have hs := hs9; clear hs9; replace hle := hle.trans hle1; (try replace hlb := hlb.trans hle1)
  replace hM := hcell.mono hle1 hM
  have hW1 : hcell H ⟨g2, 0, none⟩ = some (.slice b1 r.1.length c1) := hcell_of hp_g2 rfl
  have hW2 : hcell H ⟨g2, 1, none⟩ = some (.slice b2 r.2.length c2) := hcell_of hp_g2 rfl
  have hs9 : HS xs H0 w0 H ((rb, relObj x.g x.s wb l, true) :: (wb, winObj x.base x.width, true) :: (slotMem x.g x.s true l ++ [(g3, .cells #[.bool false] 4, true)])) w := HS.mtail (A := [_]) hs
  have hdo : inWin x.base x.width gen → ∀ H2 w b rv t', Hp.le H H2 → (true = true → t' = true) → HS xs H0 w0 H2 ((b, basisObj x.g x.s rv, t') :: (rb, relObj x.g x.s wb l, true) :: (wb, winObj x.base x.width, true) :: (slotMem x.g x.s true (l.set (gen % x.width) none) ++ [(g3, .cells #[.bool false] 4, true)])) w →
      (l[gen % x.width]? = some (some (b, rv)) ∨ l[gen % x.width]? = some none) → (l[gen % x.width]? = some (some (b, rv)) → t' = true) → Rws H2 rv (x.rows (gen % x.width)) → Calls Tryz.prog 71 ([] ++ [Value.int .i64 ((gen % x.width : Nat) : Int), ptr b] ++ [ptr g2, ptr g3, ptr g1]).toArray w (takeC rb wb g3 x gen r xs H0 w0) := by
    intro hin H2 w b rv t' hl2 ht hs hl _ hr
    rw [ht rfl] at hs
    exact rtake1_ok rb wb g3 g1 g2 b gen rv (.slice b1 r.1.length c1) (.slice b2 r.2.length c2) x l r xs H0 H2 w0 w hs hin (hx.mono (hle.trans hl2)) hok hl hr ⟨hcell.mono hl2 hW1, hcell.mono hl2 hW2⟩ (hrc.mono (hle.trans hl2)) (hrp.mono (hle.trans hl2)) (hcell.mono hl2 hM)
  have hout : ¬ inWin x.base x.width gen → ∀ H2 w, Hp.le H H2 → HS xs H0 w0 H2 ((rb, relObj x.g x.s wb l, true) :: (wb, winObj x.base x.width, true) :: (slotMem x.g x.s true l ++ [(g3, .cells #[.bool false] 4, true)])) w → takeC rb wb g3 x gen r xs H0 w0 (.returned (.int .i64 23)) w := by
    intro hno H2 w hl2 hs
    refine ⟨H2, l, by rw [RelD.takeE, if_neg hno], by rw [RelD.take, if_neg hno]; exact hx.mono (hle.trans hl2), ?_⟩
    rw [RelD.takeI, decide_eq_false hno, Bool.false_and]
    exact hs
  refine WO.step rfl (OR.callW body70 rfl rfl (rat_ok rb wb 71 gen [] [ptr g2, ptr g3, ptr g1] x l true _ H0 H [_] w0 _ (takeC rb wb g3 x gen r xs H0 w0) h00 hs9 (hx.mono hle) hok hg body71 (fun e w ⟨_, _, h, _⟩ => ⟨_, h⟩) hout hdo) ?_)
  clear hs hs9
  rintro e w ⟨H, l', rfl, hso, hs⟩
  refine ⟨_, rfl, ?_⟩
  replace hs := HS.mtail (A := _ :: _ :: slotMem x.g x.s true l') (B := [_]) hs
  refine WO.step rfl (OR.assign rfl (WO.done (WX.seq (WC.seq (WC.region (WO.step rfl (OR.load T4 rfl rfl (hs.cellM (i := 0) rfl rfl) ?_)))))))
  refine WO.step rfl (OR.move rfl (WO.stepN (OR.storeAll hs T4 rfl rfl rfl rfl rfl ?_)))
  clear hs; intro w hs
  refine WO.step rfl (OR.assign rfl (WO.done (WX.seq (WC.ret ?_))))
  refine WX.retCTS T4 rfl rfl rfl rfl (hs.cellM (i := 0) rfl rfl) ?_
  have hgs : (x.take gen r).g = x.g ∧ (x.take gen r).s = x.s ∧ (x.take gen r).base = x.base ∧ (x.take gen r).width = x.width := by
    unfold RelD.take
    split <;> exact ⟨rfl, rfl, rfl, rfl⟩
  obtain ⟨e1, e2, e3, e4⟩ := hgs
  refine ⟨_, H, relMem true (x.take gen r) rb wb l', rfl, ?_, List.all_eq_true.1 (relMem_flags _ _ _ _), rfl, l', rfl, hso⟩
  unfold relMem
  rw [e1, e2, e3, e4]
  exact hs.drop 0
end Go.Bw
namespace Go.Bw
set_option linter.unusedVariables false
set_option linter.unusedSimpArgs false
open Go.Proofs
def newR (g s width : Nat) : RelD := ⟨g, s, 0, width, fun _ => []⟩
theorem newR_ok {g s width : Nat} (h : 1 ≤ g ∧ g ≤ 255 ∧ 1 ≤ s ∧ s ≤ 65535) (hw : 1 ≤ width ∧ width ≤ 16) : RelOk (newR g s width) :=
  ⟨h.1, h.2.1, h.2.2.1, h.2.2.2, hw.1, hw.2, Nat.zero_le _, fun _ => Red.nil _ _⟩
set_option maxRecDepth 20000 in
set_option maxHeartbeats 2000000 in
theorem rnew_ok (g s width : Nat) (H0 : Hp) (w0 : World) (h0 : Sub H0 w0) (h : 1 ≤ g ∧ g ≤ 255 ∧ 1 ≤ s ∧ s ≤ 65535) (hw : 1 ≤ width ∧ width ≤ 16) :
    Calls Tryz.prog 12 #[.int .i64 (g : Int), .int .i64 (s : Int), .int .i64 (width : Int)] w0 (Ret [] H0 w0 fun v H' M' => H' = H0 ∧ ∃ rb wb, v = .tuple #[ptr rb, .int .i64 0] ∧ M' = relMem true (newR g s width) rb wb (List.replicate 16 none)) := by
  have hs := HS.init h0
  have hle := Hp.le.refl H0
  refine Calls.enter (args := [.int .i64 (g : Int), .int .i64 (s : Int), .int .i64 (width : Int)]) Tryz.func12 rfl Tryz.ntmps12 rfl ?_
  refine WC.seq (WC.region (WO.step rfl (OR.assign rfl (WO.step rfl (OR.assign rfl (WO.done (WX.seq ?_)))))))
  refine WC.seq (WC.region (WO.step rfl (OR.move rfl ?_)))
  refine WO.step rfl (OR.callX (Mx := []) hs body64 rfl rfl (wnewW_ok (width : Int) _ _ hs.toSub) rfl rfl ?_)
  clear hs; rintro _ H M' w hs hle1 hnew ⟨rfl, hres⟩; replace hle := hle.trans hle1; (try replace hlb := hlb.trans hle1)
  rw [if_pos (by omega)] at hres
  obtain ⟨wb, rfl, rfl⟩ := hres
  refine WO.step rfl (OR.move rfl (WO.step rfl (OR.extract rfl rfl (WO.step rfl (OR.extract rfl rfl (WO.step rfl (OR.assign rfl ?_)))))))
  refine WO.step rfl (OR.assign rfl (WO.done (WX.seq (WC.seq (WC.seq (WC.region (WO.step rfl ?_)))))))
  refine OR.move rfl (WO.step rfl (OR.move rfl ?_))
  refine WO.step rfl (OR.callX (Mx := []) hs body65 rfl rfl (new_ok (g : Int) (s : Int) _ _ hs.toSub) rfl rfl ?_)
  clear hs; rintro _ H M' w hs hle1 hnew ⟨rfl, hres⟩; replace hle := hle.trans hle1; (try replace hlb := hlb.trans hle1)
  rw [if_pos (by omega)] at hres
  obtain ⟨bb, hbb, rfl, rfl⟩ := hres
  refine WO.step rfl (OR.move rfl (WO.step rfl (OR.extract rfl rfl (WO.step rfl (OR.extract rfl rfl (WO.step rfl (OR.assign rfl ?_)))))))
  refine WO.step rfl (OR.assign rfl (WO.done (WX.seq (WC.seq (WC.region (WO.step rfl (OR.move rfl ?_)))))))
  refine WO.step rfl (OR.neq rfl rfl (WO.step rfl (OR.move rfl ?_)))
  replace hs := hs.drop (i := 0)
  refine WO.guardYes rfl rfl rfl rfl (OR.move rfl (WO.guardYes rfl rfl rfl rfl (OR.neq rfl rfl (WO.step rfl (OR.pickF rfl rfl rfl (WO.done (WX.seq ?_)))))))
  refine WC.no rfl rfl ?_
  refine WC.skip (WX.seq (WC.seq (WC.region (WO.step rfl (OR.move rfl (WO.step rfl (OR.move rfl ?_)))))))
  refine WO.step rfl (OR.move rfl ?_)
  refine WO.step rfl (OR.build (cs := (Value.int .i64 (g : Int) :: Value.int .i64 (s : Int) :: ptr wb :: List.replicate 16 (Value.pointer none)).toArray) rfl (by intro w; kernel_rfl) ?_)
  refine WO.step rfl (OR.box hs rfl ?_)
  clear hs; intro g1 w hg1 hs
  refine WO.step rfl (OR.assign rfl (WO.step rfl (OR.assign rfl (WO.done (WX.seq (WC.ret ?_))))))
  refine WX.ret2 rfl rfl rfl ?_
  refine ⟨_, _, [_, _], rfl, hs, by simp, rfl, g1, wb, rfl, ?_⟩
  rfl
end Go.Bw
namespace Go.Bw
set_option linter.unusedVariables false
set_option linter.unusedSimpArgs false
open Go.Proofs
end Go.Bw
namespace Go.Bw
set_option linter.unusedVariables false
set_option linter.unusedSimpArgs false
open Go.Proofs
set_option maxRecDepth 20000 in
set_option maxHeartbeats 2000000 in
theorem indexL_ok (v : Value) (ll : List (List UInt8)) (f : FuncId) (cap : List Value) (H0 : Hp) (w0 : World) (h0 : Sub H0 w0) (hv : BytesL H0 v ll) (hll : ll.length < 9223372036854775807) (hbf : Body Tryz.prog f)
    (hf : ∀ i (h : i < ll.length) vx H w, Hp.le H0 H → Sub H w → Bytes H vx ll[i] → Calls Tryz.prog f ([vx] ++ cap).toArray w (Pure H w fun v _ => v = .bool false)) :
    Calls Tryz.prog 176 #[v, .func (.func f) #[] cap.toArray] w0 (Pure H0 w0 fun v _ => v = .int .i64 (-1)) := by
  have hs := HS.init h0
  have hv0 := hv
  obtain ⟨base, cp, rfl⟩ := hv0.form
  refine Calls.enter (args := [.slice base ll.length cp, .func (.func f) #[] cap.toArray]) Tryz.func176 rfl Tryz.ntmps176 rfl ?_
  refine WC.seq (WC.region (WO.step rfl (OR.assign rfl (WO.done (WX.seq (WC.seq (WC.seq ?_)))))))
  refine WC.region (WO.step rfl (OR.move rfl (WO.step rfl (OR.lenSlice T40.und rfl (WO.step rfl (OR.move rfl (WO.done ?_)))))))
  refine WX.seq (WC.block ?_)
  refine WC.loop (ι := Nat) (fun k => [(0, .slice base ll.length cp), (1, .func (.func f) #[] cap.toArray), (7, .int .i64 (ll.length : Int)), (8, .int .i64 (k : Int))]) (fun k w => (k ≤ ll.length ∧ ∃ H, Hp.le H0 H ∧ HS [] H0 w0 H [] w)) (fun k => ll.length - k) 0 ⟨rfl, rfl, rfl, rfl,  trivial⟩ ?_ (fun k w hW => ?_)
  · exact ⟨by omega, H0, .refl H0, hs⟩
  obtain ⟨hk, H, hle, hs⟩ := hW
  refine WC.seq (WC.region (WO.step rfl (OR.lss rfl rfl (WO.done (WX.seq (WC.seq ?_))))))
  refine WC.condD rfl (fun hlt => ?_) (fun hlt => ?_)
  · have hlt' : k < ll.length := by omega
    obtain ⟨b, o, rfl, hc⟩ := hv.pos (by omega)
    obtain ⟨e, hce, hbe⟩ := hc k hlt'
    refine WC.skip (WX.seq (WC.seq (WC.block (WC.seq (WC.region (WO.step rfl (OR.move rfl ?_)))))))
    refine WO.step rfl (OR.assign rfl (WO.done (WX.seq (WC.seq (WC.region (WO.step rfl (OR.move rfl ?_)))))))
    refine WO.step rfl (OR.move rfl (WO.step rfl (OR.move rfl ?_)))
    refine WO.step rfl (OR.idx k T40.und T43 rfl rfl rfl hlt' ?_)
    refine WO.step rfl (OR.load T43 rfl rfl (hs.cell (hcell.mono hle hce)) ?_)
    refine WO.step rfl (OR.call hs (hbf) rfl rfl (hf k hlt' e _ _ hle hs.toSub (hbe.mono hle)) ?_)
    clear hs; rintro _ H w hs hle1 rfl; replace hle := hle.trans hle1; (try replace hlb := hlb.trans hle1)
    refine WO.done (WX.seq ?_)
    refine WC.no rfl rfl ?_
    refine WC.skip (WX.block (WX.seq (WC.region (WO.step rfl (OR.addI rfl rfl (by omega) (by omega) (WO.step rfl (OR.move rfl ?_)))))))
    refine WO.done ?_
    refine WX.again (k + 1) ⟨rfl, rfl, rfl, rfl,  trivial⟩ ?_ ?_
    · exact ⟨hlt', H, hle, hs⟩
    · omega
  · refine WC.exit (WX.seq_exit (WX.loop_exit (WX.block_hit (WX.seq (WC.seq (WC.region (WO.step rfl ?_)))))))
    refine OR.assign rfl (WO.done (WX.seq (WC.ret ?_)))
    refine WX.ret1 rfl rfl ?_
    exact .mk hs rfl

set_option maxRecDepth 20000 in
set_option maxHeartbeats 2000000 in
theorem containsL_ok (v : Value) (ll : List (List UInt8)) (f : FuncId) (cap : List Value) (H0 : Hp) (w0 : World) (h0 : Sub H0 w0) (hv : BytesL H0 v ll) (hll : ll.length < 9223372036854775807) (hbf : Body Tryz.prog f)
    (hf : ∀ i (h : i < ll.length) vx H w, Hp.le H0 H → Sub H w → Bytes H vx ll[i] → Calls Tryz.prog f ([vx] ++ cap).toArray w (Pure H w fun v _ => v = .bool false)) :
    Calls Tryz.prog 153 #[v, .func (.func f) #[] cap.toArray] w0 (Pure H0 w0 fun v _ => v = .bool false) := by
  have hs := HS.init h0
  have hle := Hp.le.refl H0
  refine Calls.enter (args := [v, .func (.func f) #[] cap.toArray]) Tryz.func153 rfl Tryz.ntmps153 rfl ?_
  refine WC.seq (WC.region (WO.step rfl (OR.assign rfl (WO.done (WX.seq (WC.seq (WC.region ?_)))))))
  refine WO.step rfl (OR.move rfl (WO.step rfl (OR.move rfl ?_)))
  refine WO.step rfl (OR.call hs body176 rfl rfl (indexL_ok v ll f cap _ _ hs.toSub hv hll hbf hf) ?_)
  clear hs; rintro _ H w hs hle1 rfl; replace hle := hle.trans hle1; (try replace hlb := hlb.trans hle1)
  refine WO.step rfl (OR.geq rfl rfl (WO.step rfl (OR.assign rfl (WO.done (WX.seq (WC.ret ?_))))))
  refine WX.ret1 rfl rfl ?_
  exact .mk hs rfl

end Go.Bw
namespace Go.Bw
set_option linter.unusedVariables false
set_option linter.unusedSimpArgs false
open Go.Proofs
def rdObj (v : Value) : Obj := .cells #[v, .bool true] 246
def beVal (l : List UInt8) : Nat := l.foldl (fun n b => n * 256 + b.toNat) 0
theorem beVal_snoc (l : List UInt8) (b : UInt8) : beVal (l ++ [b]) = beVal l * 256 + b.toNat := by simp [beVal]
theorem beVal_take (l : List UInt8) (k : Nat) (h : k < l.length) : beVal (l.take (k + 1)) = beVal (l.take k) * 256 + l[k].toNat := by
  rw [List.take_succ_eq_append_getElem h, beVal_snoc]
theorem beVal_lt : ∀ (k : Nat) (l : List UInt8), l.length = k → beVal l < 256 ^ k
  | 0, l, h => by
    have : l = [] := List.eq_nil_of_length_eq_zero h
    subst this
    simp [beVal]
  | k + 1, l, h => by
    have hd : l = l.take k ++ [l[k]] := by
      rw [← List.take_succ_eq_append_getElem (by omega)]
      exact (List.take_of_length_le (by omega)).symm
    have h1 := beVal_lt k (l.take k) (by simp; omega)
    have h2 := l[k].toNat_lt
    rw [hd, beVal_snoc, Nat.pow_succ]
    omega

set_option maxRecDepth 20000 in
set_option maxHeartbeats 2000000 in
theorem wnew_ok (v : Value) (l : List UInt8) (H0 : Hp) (w0 : World) (h0 : Sub H0 w0) (hv : Bytes H0 v l) (hl : l.length ≤ 140737488355328) :
    Calls Tryz.prog 155 #[v] w0 (Ret [] H0 w0 fun v H' M' => ∃ b vb, v = ptr b ∧ w0.heap.size ≤ b ∧ M' = [(b, rdObj vb, true)] ∧ Bytes H' vb l) := by
  have hs := HS.init h0
  have hle := Hp.le.refl H0
  obtain ⟨b1, c1, rfl⟩ := hv.form
  refine Calls.enter (args := [.slice b1 l.length c1]) Tryz.func155 rfl Tryz.ntmps155 rfl ?_
  refine WC.seq (WC.region (WO.step rfl (OR.assign rfl (WO.done (WX.seq (WC.seq (WC.region ?_)))))))
  refine WO.step rfl (OR.move rfl ?_)
  refine WO.step rfl (OR.call hs body87 rfl rfl (clone_pure _ _ _ _ hs.toSub hv hl) ?_)
  clear hs; rintro _ H w hs hle1 hr; replace hle := hle.trans hle1; (try replace hlb := hlb.trans hle1)
  obtain ⟨b2, c2, rfl⟩ := hr.form
  refine WO.step rfl (OR.buildAll T246 rfl rfl PL246 rfl rfl (WO.step rfl (OR.box hs rfl ?_)))
  clear hs; intro g1 w hg1 hs
  refine WO.step rfl (OR.assign rfl (WO.done (WX.seq (WC.ret ?_))))
  refine WX.ret1 rfl rfl ?_
  exact ⟨_, H, _, rfl, hs, by simp, g1, _, rfl, hg1, rfl, hr⟩

set_option maxRecDepth 20000 in
set_option maxHeartbeats 2000000 in
theorem rleft_ok (b : Nat) (vb : Value) (l : List UInt8) (H0 : Hp) (w0 : World) (h0 : Sub H0 w0) (hb : w0.heap[b]? = some (rdObj vb)) (hn : H0 b = none) (hv : Bytes H0 vb l) :
    Calls Tryz.prog 159 #[ptr b] w0 (Pure H0 w0 fun v _ => v = .int .i64 (l.length : Int)) := by
  have hs := HS.startR h0 hb hn
  have hle := Hp.le.refl H0
  obtain ⟨b1, c1, rfl⟩ := hv.form
  refine Calls.enter (args := [ptr b]) Tryz.func159 rfl Tryz.ntmps159 rfl ?_
  refine WC.seq (WC.region (WO.step rfl (OR.assign rfl (WO.done (WX.seq (WC.seq (WC.seq ?_)))))))
  refine WC.region (WO.step rfl (OR.move rfl (WO.step rfl (OR.eqlNilP T226.und rfl rfl (WO.done (WX.seq (WC.no rfl rfl ?_)))))))
  refine WC.skip (WX.seq (WC.seq (WC.region (WO.step rfl (OR.move rfl (WO.step rfl (OR.nilCheck rfl ?_)))))))
  refine WO.step rfl (OR.fieldAddr FA246_0 rfl (WO.step rfl (OR.load T43 rfl rfl (hs.cellM (i := 0) rfl rfl) (WO.step rfl (OR.lenSlice T43.und rfl (WO.step rfl (OR.assign rfl ?_)))))))
  refine WO.done (WX.seq (WC.ret ?_))
  refine WX.ret1 rfl rfl ?_
  exact .mk hs rfl

theorem Bytes.dropS {H : Hp} {b : Option Addr} {c : Nat} {l : List UInt8} (h : Bytes H (.slice b l.length c) l) (m : Nat) (hm : m ≤ l.length) : Bytes H (.slice (if c = m then b else b.map (·.add (m * 1))) (l.length - m) (c - m)) (l.drop m) := by
  have := Sl.dropS h m hm
  unfold Bytes
  rw [List.length_drop, List.map_drop]
  rw [Nat.mul_one] at this ⊢
  exact this

set_option maxRecDepth 20000 in
set_option maxHeartbeats 2000000 in
theorem rtake_ok (b : Nat) (vb : Value) (l : List UInt8) (n : Nat) (H0 : Hp) (w0 : World) (h0 : Sub H0 w0) (hb : w0.heap[b]? = some (rdObj vb)) (hn : H0 b = none) (hv : Bytes H0 vb l) (hnl : n ≤ l.length) (hl : l.length ≤ 140737488355328) :
    Calls Tryz.prog 158 #[ptr b, .int .i64 (n : Int)] w0 (Ret [b] H0 w0 fun v H' M' => ∃ r vb', v = .tuple #[r, .int .i64 0] ∧ Bytes H' r (l.take n) ∧ M' = [(b, rdObj vb', true)] ∧ Bytes H' vb' (l.drop n)) := by
  have hs := HS.start1 h0 hb hn
  have hle := Hp.le.refl H0
  obtain ⟨b1, c1, rfl⟩ := hv.form
  have hcap := hv.cap_le
  refine Calls.enter (args := [ptr b, .int .i64 (n : Int)]) Tryz.func158 rfl Tryz.ntmps158 rfl ?_
  refine WC.seq (WC.region (WO.step rfl (OR.assign rfl (WO.step rfl (OR.assign rfl (WO.done (WX.seq ?_)))))))
  refine WC.seq (WC.block (WC.seq (WC.region (WO.step rfl (OR.move rfl (WO.step rfl (OR.eqlNilP T226.und rfl rfl ?_)))))))
  refine WO.step rfl (OR.move rfl (WO.guardYes rfl rfl rfl rfl (OR.move rfl (WO.guardYes rfl rfl rfl rfl (OR.nilCheck rfl (WO.guardYes rfl rfl rfl rfl (OR.fieldAddr FA246_1 rfl ?_)))))))
  refine WO.guardYes rfl rfl rfl rfl (OR.load T4 rfl rfl (hs.cellM (i := 0) rfl rfl) (WO.guardYes rfl rfl rfl rfl (OR.not rfl (WO.step rfl (OR.pickF rfl rfl rfl (WO.step rfl (OR.assign rfl ?_)))))))
  refine WO.done (WX.seq ?_)
  refine WC.no rfl rfl ?_
  refine WC.seq (WC.region (WO.step rfl (OR.move rfl (WO.step rfl (OR.lss rfl rfl (WO.step rfl (OR.assign rfl ?_)))))))
  refine WO.done (WX.seq ?_)
  refine WC.no rfl (decide_eq_false (by omega)) ?_
  refine WC.seq (WC.region (WO.step rfl (OR.move rfl (WO.step rfl (OR.move rfl (WO.step rfl (OR.nilCheck rfl ?_)))))))
  refine WO.step rfl (OR.fieldAddr FA246_0 rfl (WO.step rfl (OR.load T43 rfl rfl (hs.cellM (i := 0) rfl rfl) (WO.step rfl (OR.lenSlice T43.und rfl (WO.step rfl (OR.gtr rfl rfl ?_)))))))
  refine WO.step rfl (OR.assign rfl (WO.done (WX.seq ?_)))
  refine WC.no rfl (decide_eq_false (by omega)) ?_
  refine WC.skip (WX.block (WX.seq (WC.seq (WC.region (WO.step rfl (OR.move rfl (WO.step rfl ?_)))))))
  refine OR.nilCheck rfl (WO.step rfl (OR.fieldAddr FA246_0 rfl (WO.step rfl (OR.load T43 rfl rfl (hs.cellM (i := 0) rfl rfl) (WO.step rfl (OR.move rfl ?_))))))
  refine WO.step rfl (OR.sliceHiG n T43.und T5 rfl rfl rfl (by omega) ?_)
  have htk : Bytes H0 (.slice b1 n c1) (l.take n) := by
    have := Sl.takeS hv n hnl
    unfold Bytes
    rw [Nat.mul_one] at this
    rw [List.length_take, Nat.min_eq_left hnl, List.map_take]
    exact this
  refine WO.step rfl (OR.call hs body87 rfl rfl (clone_pure _ _ _ _ hs.toSub htk (by simp; omega)) ?_)
  clear hs; rintro _ H w hs hle1 hr; replace hle := hle.trans hle1; (try replace hlb := hlb.trans hle1)
  refine WO.step rfl (OR.assign rfl (WO.done (WX.seq (WC.seq (WC.region (WO.step rfl (OR.move rfl ?_)))))))
  refine WO.step rfl (OR.move rfl (WO.step rfl (OR.nilCheck rfl (WO.step rfl (OR.fieldAddr FA246_0 rfl (WO.step rfl (OR.load T43 rfl rfl (hs.cellM (i := 0) rfl rfl) ?_)))))))
  refine WO.step rfl (OR.move rfl ?_)
  refine WO.step rfl (OR.sliceLoG n T43.und T5 rfl rfl rfl hnl ?_)
  obtain ⟨b2, c2, rfl⟩ := hr.form
  refine WO.step rfl (OR.nilCheck rfl (WO.step rfl (OR.fieldAddr FA246_0 rfl (WO.stepN (OR.store hs T43 rfl rfl rfl (Nat.le_of_ble_eq_true rfl) rfl ?_)))))
  clear hs; intro w hs
  refine WO.done (WX.seq (WC.seq (WC.region (WO.step rfl (OR.move rfl (WO.step rfl (OR.assign rfl ?_)))))))
  refine WO.step rfl (OR.assign rfl (WO.done (WX.seq (WC.ret ?_))))
  refine WX.ret2 rfl rfl rfl ?_
  exact ⟨_, H, _, rfl, hs, by simp, _, _, rfl, hr, rfl, (hv.dropS n hnl).mono hle⟩

set_option maxRecDepth 20000 in
set_option maxHeartbeats 2000000 in
theorem keep_ok (b : Value) (v : Value) (g : Nat) (H0 : Hp) (w0 : World) (h0 : Sub H0 w0) (hg : w0.heap[g]? = some (.cells #[.int .i64 0] 28)) (hn : H0 g = none) :
    CallsD Tryz.prog 178 #[b, v, ptr g] .returning w0 fun e u' w' => u' = .returning ∧ Pure H0 w0 (fun _ _ => True) e w' := by
  have hs := HS.startR h0 hg hn
  refine CallsD.enter (args := [b, v, ptr g]) Tryz.func178 rfl Tryz.ntmps178 rfl ?_
  refine WC.seq (WC.region (WO.step rfl (OR.move rfl (WO.step rfl (OR.nilCheck rfl (WO.step rfl (OR.load T28 rfl rfl (hs.cellM (i := 0) rfl rfl) ?_)))))))
  refine WO.step rfl (OR.neq rfl rfl (WO.done (WX.seq ?_)))
  refine WC.no rfl (decide_eq_false (by omega)) ?_
  refine WC.skip ?_
  refine WX.end0 rfl ?_
  exact .mk hs trivial

set_option maxRecDepth 20000 in
set_option maxHeartbeats 2000000 in
theorem rnum_ok (b : Nat) (vb : Value) (l : List UInt8) (k : Nat) (H0 : Hp) (w0 : World) (h0 : Sub H0 w0) (hb : w0.heap[b]? = some (rdObj vb)) (hn : H0 b = none) (hv : Bytes H0 vb l) (hk1 : 1 ≤ k) (hk8 : k ≤ 8) (hnl : k ≤ l.length) (hl : l.length ≤ 140737488355328) :
    Calls Tryz.prog 157 #[ptr b, .int .i64 (k : Int)] w0 (Ret [b] H0 w0 fun v H' M' => ∃ vb', v = .tuple #[.int .u64 (beVal (l.take k) : Int), .int .i64 0] ∧ M' = [(b, rdObj vb', true)] ∧ Bytes H' vb' (l.drop k)) := by
  have hs := HS.start1 h0 hb hn
  have hle := Hp.le.refl H0
  have hv0 := hv
  obtain ⟨b1, c1, rfl⟩ := hv0.form
  refine Calls.enterD (args := [ptr b, .int .i64 (k : Int)]) Tryz.func157 rfl Tryz.ntmps157 rfl ?_
  refine WC.seq (WC.region (WO.step rfl (OR.assign rfl (WO.step rfl (OR.alloc hs T28 ?_)))))
  clear hs; intro g1 w hg1 hs
  refine WO.done (WX.seq (WC.seq (WC.block (WC.seq (WC.region (WO.step rfl (OR.move rfl ?_)))))))
  refine WO.step rfl (OR.eqlNilP T226.und rfl rfl (WO.step rfl (OR.move rfl (WO.guardYes rfl rfl rfl rfl (OR.move rfl (WO.guardYes rfl rfl rfl rfl (OR.nilCheck rfl ?_)))))))
  refine WO.guardYes rfl rfl rfl rfl (OR.fieldAddr FA246_1 rfl (WO.guardYes rfl rfl rfl rfl (OR.load T4 rfl rfl (hs.cellM (i := 1) rfl rfl) (WO.guardYes rfl rfl rfl rfl (OR.not rfl (WO.step rfl (OR.pickF rfl rfl rfl ?_)))))))
  refine WO.step rfl (OR.assign rfl (WO.done (WX.seq ?_)))
  refine WC.no rfl rfl ?_
  refine WC.seq (WC.region (WO.step rfl (OR.move rfl (WO.step rfl (OR.lss rfl rfl (WO.step rfl (OR.move rfl ?_)))))))
  refine WO.guardYes rfl (decide_eq_false (by omega)) rfl rfl (OR.move rfl (WO.guardYes rfl (decide_eq_false (by omega)) rfl rfl (OR.gtr rfl rfl (WO.step rfl (OR.pickF rfl (decide_eq_false (by omega)) rfl (WO.step rfl (OR.assign rfl ?_)))))))
  refine WO.done (WX.seq ?_)
  refine WC.no rfl (decide_eq_false (by omega)) ?_
  refine WC.skip (WX.block (WX.seq (WC.seq (WC.region (WO.step rfl (OR.move rfl (WO.step rfl ?_)))))))
  refine OR.move rfl (WO.step rfl (OR.nilCheck rfl (WO.step rfl (OR.fieldAddr FA246_0 rfl (WO.step rfl (OR.load T43 rfl rfl (hs.cellM (i := 1) rfl rfl) ?_))))))
  refine WO.defer rfl rfl ?_
  refine WO.done (WX.seq (WC.seq (WC.seq (WC.region (WO.step rfl (OR.move rfl (WO.step rfl ?_)))))))
  refine OR.move rfl (WO.done (WX.seq (WC.block ?_)))
  refine WC.loop (ι := Nat) (fun j => [(0, ptr b), (4, .int .u64 (beVal (l.take j) : Int)), (5, ptr g1), (28, .int .i64 (k : Int)), (29, .int .i64 (j : Int))]) (fun j w => (j ≤ k ∧ ∃ H vb', Hp.le H0 H ∧ Bytes H vb' (l.drop j) ∧ HS [b] H0 w0 H [(g1, .cells #[.int .i64 0] 28, true), (b, rdObj vb', true)] w)) (fun j => k - j) 0 ⟨rfl, rfl, rfl, rfl, rfl,  trivial⟩ ?_ (fun j w hW => ?_)
  · exact ⟨by omega, H0, _, hle, by rw [List.drop_zero]; exact hv, hs⟩
  clear hs hle
  obtain ⟨hj, H, vb', hle, hv', hs⟩ := hW
  refine WC.seq (WC.region (WO.step rfl (OR.lss rfl rfl (WO.done (WX.seq (WC.seq ?_))))))
  refine WC.condD rfl (fun hlt => ?_) (fun hlt => ?_)
  · have hlt' : j < k := by omega
    have hj' : j < l.length := by omega
    have hdl : (l.drop j).length = l.length - j := List.length_drop
    obtain ⟨b2, c2, rfl⟩ := hv'.form
    have hcap := hv'.cap_le
    refine WC.skip (WX.seq (WC.seq (WC.block (WC.seq (WC.seq (WC.region (WO.step rfl ?_)))))))
    refine OR.move rfl (WO.step rfl (OR.nilCheck rfl (WO.step rfl (OR.fieldAddr FA246_0 rfl (WO.step rfl (OR.load T43 rfl rfl (hs.cellM (i := 1) rfl rfl) (WO.step rfl ?_)))))))
    refine OR.lenSlice T43.und rfl (WO.step rfl (OR.eql rfl rfl (WO.done (WX.seq ?_))))
    refine WC.no rfl (decide_eq_false (by omega)) ?_
    refine WC.skip (WX.seq (WC.seq (WC.region (WO.step rfl (OR.move rfl ?_)))))
    refine WO.step rfl (OR.shl rfl rfl (by omega) ?_)
    obtain ⟨b3, o3, rfl, hce⟩ := hv'.pos (by omega)
    have hc0 := hce 0 (by omega)
    have he0 : (l.drop j)[0]'(by omega) = l[j] := by rw [List.getElem_drop]; simp
    rw [he0] at hc0
    refine WO.step rfl (OR.move rfl (WO.step rfl (OR.nilCheck rfl (WO.step rfl (OR.fieldAddr FA246_0 rfl (WO.step rfl (OR.load T43 rfl rfl (hs.cellM (i := 1) rfl rfl) ?_)))))))
    refine WO.step rfl (OR.idx 0 T43.und T5 rfl rfl rfl (by omega) ?_)
    refine WO.step rfl (OR.load T5 rfl rfl (hs.cell hc0) ?_)
    refine WO.step rfl (OR.convI T5.und T22.und rfl ?_)
    have hb8 := l[j].toNat_lt
    have hbv := beVal_lt j (l.take j) (by simp; omega)
    have hbv2 : beVal (l.take j) * 256 < 18446744073709551616 := by
      have h1 : 256 ^ (j + 1) ≤ 256 ^ 8 := Nat.pow_le_pow_right (by omega) (by omega)
      have h2 : beVal (l.take j) * 256 < 256 ^ (j + 1) := by rw [Nat.pow_succ]; exact Nat.mul_lt_mul_of_pos_right hbv (by omega)
      exact Nat.lt_of_lt_of_le h2 (Nat.le_trans h1 (by decide))
    have hbv3 : beVal (l.take j) * 256 + l[j].toNat < 18446744073709551616 := by
      have h1 : 256 ^ (j + 1) ≤ 256 ^ 8 := Nat.pow_le_pow_right (by omega) (by omega)
      have h2 := beVal_lt (j + 1) (l.take (j + 1)) (by simp; omega)
      rw [beVal_take l j hj'] at h2
      exact Nat.lt_of_lt_of_le h2 (Nat.le_trans h1 (by decide))
    have e1 : IntKind.u64.wrap ((beVal (l.take j) : Int) * 2 ^ (min (Int.toNat 8) IntKind.u64.bits)) = ((beVal (l.take j) * 256 : Nat) : Int) := by
      have := u64_wrap (beVal (l.take j) * 256) hbv2
      rw [← this, Int.natCast_mul]
      rfl
    rw [e1, u64_wrap l[j].toNat (by omega)]
    refine WO.step rfl (OR.or rfl rfl ?_)
    rw [or_u64 _ _ hb8 hbv3, ← beVal_take l j hj']
    refine WO.step rfl (OR.assign rfl (WO.done (WX.seq (WC.region (WO.step rfl (OR.move rfl (WO.step rfl ?_)))))))
    refine OR.move rfl (WO.step rfl (OR.nilCheck rfl (WO.step rfl (OR.fieldAddr FA246_0 rfl (WO.step rfl (OR.load T43 rfl rfl (hs.cellM (i := 1) rfl rfl) ?_))))))
    refine WO.step rfl (OR.sliceLoG 1 T43.und T5 rfl rfl rfl (by omega) ?_)
    refine WO.step rfl (OR.nilCheck rfl (WO.step rfl (OR.fieldAddr FA246_0 rfl ?_)))
    replace hs := hs.front (i := 1) rfl
    refine WO.stepN (OR.store hs T43 rfl rfl rfl (Nat.le_of_ble_eq_true rfl) rfl ?_)
    clear hs; intro w hs
    refine WO.done (WX.block (WX.seq (WC.region (WO.step rfl (OR.addI rfl rfl (by omega) (by omega) (WO.step rfl (OR.move rfl ?_)))))))
    refine WO.done ?_
    replace hs := hs.front (i := 1) rfl
    refine WX.again (j + 1) ⟨rfl, rfl, rfl, rfl, rfl,  trivial⟩ ?_ ?_
    · refine ⟨hlt', H, _, hle, ?_, hs⟩
      have := hv'.dropS 1 (by omega)
      rw [List.drop_drop] at this
      exact this
    · omega
  · have e : j = k := by omega
    subst e
    refine WC.exit (WX.seq_exit (WX.loop_exit (WX.block_hit (WX.seq (WC.seq (WC.region (WO.step rfl ?_)))))))
    refine OR.move rfl (WO.step rfl (OR.assign rfl (WO.stepN (OR.storeAll hs T28 rfl rfl rfl rfl rfl ?_))))
    clear hs; intro w hs
    refine WO.done (WX.seq (WC.ret ?_))
    refine WX.retD (dargs := [ptr b, .slice b1 l.length c1, ptr g1]) (cap := []) body178 (keep_ok _ _ g1 _ _ hs.toSub (hs.blk (i := 0) rfl) (hs.mem g1 _ true (List.mem_cons_self ..)).2.1) ?_
    intro e w' hp
    obtain ⟨v, H', rfl, hs', hle', _⟩ := hp.step hs
    refine ⟨v, rfl, fun a ha => ⟨_, results_TC T28 rfl rfl (ha 4 _ rfl) (ha 5 _ rfl) (hs'.cellM (i := 0) rfl rfl), _, H', _, rfl, hs'.drop 0, by simp [dropAt], _, rfl, rfl, hv'.mono hle'⟩⟩

end Go.Bw
namespace Go.Bw
set_option linter.unusedVariables false
set_option linter.unusedSimpArgs false
open Go.Proofs
theorem take_flat_succ (ll : List (List UInt8)) (k : Nat) (h : k < ll.length) : (ll.take (k + 1)).flatten = (ll.take k).flatten ++ ll[k] := by
  rw [List.take_succ_eq_append_getElem h, List.flatten_append]
  simp
theorem flat_take_le (ll : List (List UInt8)) (k : Nat) : (ll.take k).flatten.length ≤ ll.flatten.length := by
  have : ll.flatten = (ll.take k).flatten ++ (ll.drop k).flatten := by rw [← List.flatten_append, List.take_append_drop]
  rw [this, List.length_append]
  omega
theorem setL_take (c : List Value) (o : Nat) (news : List Value) (h : o + news.length ≤ c.length) : (setL c o news).take (o + news.length) = c.take o ++ news := by
  rw [setL_at _ _ _ h, List.take_append_of_le_length (by simp; omega), List.take_of_length_le (by simp; omega)]

set_option maxRecDepth 20000 in
set_option maxHeartbeats 2000000 in
theorem join_ok (vl : Value) (ll : List (List UInt8)) (H0 : Hp) (w0 : World) (h0 : Sub H0 w0) (hv : BytesL H0 vl ll) (hl : ll.flatten.length ≤ 1000000000000) (hll : ll.length ≤ 1000000000000) :
    Calls Tryz.prog 156 #[vl, .slice none 0 0] w0 (Pure H0 w0 fun v H' => Bytes H' v ll.flatten) := by
  have hs := HS.init h0
  have hle := Hp.le.refl H0
  have hv0 := hv
  obtain ⟨b1, c1, rfl⟩ := hv0.form
  obtain ⟨cs, hsl, hcl, hcs⟩ := hv
  have hcap1 : ll.length ≤ c1 := by
    obtain ⟨_, b', c', q1, q2, _⟩ := hsl
    cases q1
    exact q2
  refine Calls.enter (args := [.slice b1 ll.length c1, .slice none 0 0]) Tryz.func156 rfl Tryz.ntmps156 rfl ?_
  refine WC.seq (WC.region (WO.step rfl (OR.assign rfl (WO.done (WX.seq (WC.seq (WC.seq ?_)))))))
  refine WC.region (WO.step rfl (OR.move rfl (WO.step rfl (OR.lenSlice T40.und rfl (WO.step rfl (OR.eql rfl rfl (WO.done ?_)))))))
  refine WX.seq ?_
  refine WC.condD rfl (fun hz => ?_) (fun hz => ?_)
  · refine WC.seq (WC.region ?_)
    refine WO.step rfl (OR.buildSlice (vs := []) hs T43.und T5 rfl rfl rfl rfl (by simp) ?_)
    clear hs; intro g1 w hg1 hs
    refine WO.step rfl (OR.assign rfl (WO.done (WX.seq (WC.ret (WX.seq_ret ?_)))))
    refine WX.ret1 rfl rfl ?_
    have : ll = [] := List.eq_nil_of_length_eq_zero (by omega)
    subst this
    exact .mk (hs.drop 0) (Sl.empty _ _ _)
  · obtain ⟨ob, oo, rfl, hco⟩ := hsl.pos (by omega)
    have hget : ∀ k (h : k < ll.length), hcell H0 ⟨ob, oo + k, none⟩ = some (cs[k]'(by omega)) ∧ Bytes H0 (cs[k]'(by omega)) ll[k] := fun k h => ⟨hco k _ (List.getElem?_eq_getElem (by omega)), hcs k h (by omega)⟩
    obtain ⟨hc0, hb0⟩ := hget 0 (by omega)
    obtain ⟨be0, ce0, he0⟩ := hb0.form
    rw [he0] at hb0
    refine WC.skip (WX.seq (WC.seq (WC.seq (WC.region (WO.step rfl (OR.move rfl (WO.step rfl ?_)))))))
    refine OR.lenSlice T40.und rfl (WO.step rfl (OR.eql rfl rfl (WO.done (WX.seq ?_))))
    refine WC.condD rfl (fun h1 => ?_) (fun h1 => ?_)
    · refine WC.seq (WC.region (WO.step rfl (OR.move rfl ?_)))
      refine WO.step rfl (OR.idx 0 T40.und T43 rfl rfl rfl (by omega) ?_)
      refine WO.step rfl (OR.load T43 rfl rfl (hs.cell hc0) ?_)
      rw [he0]
      have hl1 := flat_take_le ll 1
      have hl2 : (ll.take 1).flatten = (ll.take 0).flatten ++ ll[0]'(by omega) := take_flat_succ ll 0 (by omega)
      have hl3 : ll.take 1 = ll := List.take_of_length_le (by omega)
      have hl4 : ll.flatten = ll[0]'(by omega) := by
        have h9 : (ll.take 1).flatten = ll.flatten := by rw [hl3]
        rw [List.take_zero, List.flatten_nil, List.nil_append] at hl2
        exact h9.symm.trans hl2
      have hl5 : (ll[0]'(by omega)).length ≤ 1000000000000 := by rw [← hl4]; exact hl
      refine WO.step rfl (OR.append (n := 0) (m := (ll[0]'(by omega)).length) (cs := []) (news := (ll[0]'(by omega)).map B) (Mo := []) (M := []) hs (Own.nil _ _ _) T43.und T5 rfl (by omega) rfl rfl (by simp) (Sl.src hb0 hs) (Sl.src0 hb0) (bytes_one _) (by omega) (by omega) ?_)
      clear hs; intro v' w Mo hs ho hge
      obtain ⟨H3, hle3, hs, hsl3, _⟩ := HS.pub hs ho
      refine WO.step rfl (OR.assign rfl (WO.done (WX.seq (WC.ret (WX.seq_ret ?_)))))
      refine WX.ret1 rfl rfl ?_
      refine .mk hs ?_
      unfold Bytes
      rw [hl4]
      rw [Nat.zero_add, List.nil_append] at hsl3
      exact hsl3
    · refine WC.skip (WX.seq (WC.seq (WC.region (WO.step rfl (OR.assign rfl (WO.done (WX.seq ?_)))))))
      refine WC.seq (WC.seq (WC.region (WO.step rfl (OR.move rfl (WO.step rfl (OR.lenSlice T43.und rfl (WO.step rfl ?_)))))))
      refine OR.gtr rfl rfl (WO.done (WX.seq ?_))
      refine WC.no rfl (decide_eq_false (by omega)) ?_
      refine WC.skip (WX.seq (WC.seq (WC.seq (WC.region (WO.step rfl (OR.move rfl (WO.step rfl ?_)))))))
      refine OR.lenSlice T40.und rfl (WO.step rfl (OR.move rfl (WO.done (WX.seq (WC.block ?_)))))
      refine WC.loop (ι := Nat) (fun k => [(0, .slice (some ⟨ob, oo, none⟩) ll.length c1), (1, .slice none 0 0), (5, .int .i64 ((ll.take k).flatten.length : Int)), (42, .slice (some ⟨ob, oo, none⟩) ll.length c1), (43, .int .i64 (ll.length : Int)), (44, .int .i64 (k : Int))]) (fun k w => (k ≤ ll.length ∧ HS [] H0 w0 H0 [] w)) (fun k => ll.length - k) 0 ⟨rfl, rfl, rfl, rfl, rfl, rfl,  trivial⟩ ?_ (fun k w hW => ?_)
      · exact ⟨by omega, hs⟩
      clear hs
      obtain ⟨hk, hs⟩ := hW
      refine WC.seq (WC.region (WO.step rfl (OR.lss rfl rfl (WO.done (WX.seq (WC.seq ?_))))))
      refine WC.condD rfl (fun hlt => ?_) (fun hlt => ?_)
      · have hk' : k < ll.length := by omega
        obtain ⟨hck, hbk⟩ := hget k hk'
        obtain ⟨be, ce, he⟩ := hbk.form
        refine WC.skip (WX.seq (WC.seq (WC.block (WC.seq (WC.region ?_)))))
        refine WO.step rfl (OR.idx k T40.und T43 rfl rfl rfl hk' ?_)
        refine WO.step rfl (OR.load T43 rfl rfl (hs.cell hck) ?_)
        rw [he]
        have hf1 := take_flat_succ ll k hk'
        have hf2 := flat_take_le ll (k + 1)
        have hf3 : (ll.take (k + 1)).flatten.length = (ll.take k).flatten.length + ll[k].length := by rw [hf1, List.length_append]
        refine WO.step rfl (OR.assign rfl (WO.done (WX.seq (WC.seq (WC.seq (WC.region (WO.step rfl ?_)))))))
        refine OR.move rfl (WO.step rfl (OR.lenSlice T43.und rfl (WO.step rfl (OR.move rfl (WO.step rfl (OR.subI rfl rfl (by omega) (by omega) (WO.step rfl ?_)))))))
        refine OR.gtr rfl rfl (WO.done (WX.seq ?_))
        refine WC.no rfl (decide_eq_false (by omega)) ?_
        have hf4 : ((ll.take k).flatten.length : Int) + (ll[k].length : Int) = ((ll.take (k + 1)).flatten.length : Int) := by omega
        refine WC.skip (WX.seq (WC.region (WO.step rfl (OR.move rfl (WO.step rfl (OR.move rfl (WO.step rfl ?_)))))))
        refine OR.lenSlice T43.und rfl (WO.step rfl (OR.addI rfl rfl (by omega) (by omega) (WO.step rfl (OR.assign rfl (WO.done (WX.block (WX.seq ?_)))))))
        refine WC.region (WO.step rfl (OR.addI rfl rfl (by omega) (by omega) (WO.step rfl (OR.move rfl (WO.done ?_)))))
        rw [hf4]
        refine WX.again (k + 1) ⟨rfl, rfl, rfl, rfl, rfl, rfl,  trivial⟩ ?_ ?_
        · exact ⟨by omega, hs⟩
        · omega
      · have e : k = ll.length := by omega
        subst e
        rw [List.take_length]
        obtain ⟨T, hT⟩ : ∃ T, ll.flatten.length = T := ⟨_, rfl⟩
        rw [hT] at hl ⊢
        refine WC.exit (WX.seq_exit (WX.loop_exit (WX.block_hit (WX.seq (WC.seq (WC.region (WO.step rfl ?_)))))))
        refine OR.move rfl ?_
        refine WO.step rfl (OR.makeNoZero (ps := #[3]) (t := 43) hs Tryz.func177 (by kernel_rfl) (by kernel_rfl) (by kernel_rfl) (by kernel_rfl) T43.und rfl rfl (by omega) ?_)
        clear hs; intro g c w hg hTc hs
        refine WO.step rfl (OR.move rfl (WO.step rfl (OR.move rfl ?_)))
        refine WO.step rfl (OR.sliceMax T T43.und T5 rfl rfl rfl rfl hTc ?_)
        refine WO.step rfl (OR.assign rfl (WO.done (WX.seq (WC.seq (WC.region (WO.step rfl (OR.move rfl ?_)))))))
        refine WO.step rfl (OR.move rfl ?_)
        refine WO.step rfl (OR.idx 0 T40.und T43 rfl rfl rfl (by omega) ?_)
        refine WO.step rfl (OR.load T43 rfl rfl (hs.cell hc0) ?_)
        rw [he0]
        have hl2 : (ll.take 1).flatten = (ll.take 0).flatten ++ ll[0]'(by omega) := take_flat_succ ll 0 (by omega)
        have hl6 := flat_take_le ll 1
        rw [List.take_zero, List.flatten_nil, List.nil_append] at hl2
        have hl7 : (ll[0]'(by omega)).length ≤ T := by rw [← hl2]; omega
        refine WO.step rfl (OR.copyO hs ((ll[0]'(by omega)).map B) T43.und T5 rfl rfl (by rw [List.length_map, natmin (c := (ll[0]'(by omega)).length) (by omega)]; omega) (Sl.src0 hb0) (Sl.src hb0 hs) (by simp; omega) (bytes_one _) ?_)
        clear hs; intro w hs
        rw [natmin (c := (ll[0]'(by omega)).length) (by omega)]
        refine WO.step rfl (OR.assign rfl (WO.done (WX.seq (WC.seq (WC.seq (WC.region (WO.step rfl ?_)))))))
        refine OR.move rfl ?_
        refine WO.step rfl (OR.sliceLoG 1 T40.und T43 rfl rfl rfl (by omega) ?_)
        rw [if_neg (by omega), Option.map_some, add_off, Nat.mul_one]
        have hci : (setL c.toList 0 ((ll[0]'(by omega)).map B)).take (ll[0]'(by omega)).length = ((ll.take 1).flatten).map B := by
          have := setL_take c.toList 0 ((ll[0]'(by omega)).map B) (by simp; omega)
          rw [List.length_map, Nat.zero_add, List.take_zero, List.nil_append] at this
          rw [this, hl2]
        have hcz : T ≤ (setL c.toList 0 ((ll[0]'(by omega)).map B)).toArray.size := by rw [List.size_toArray, setL_length]; simpa using hTc
        generalize hcg : (setL c.toList 0 ((ll[0]'(by omega)).map B)).toArray = cc at *
        have hcg2 : setL c.toList 0 ((ll[0]'(by omega)).map B) = cc.toList := by rw [← hcg]
        rw [hcg2] at hci
        have hp1 : (ll[0]'(by omega)).length = (ll.take 1).flatten.length := by rw [hl2]
        rw [hp1] at hci ⊢
        refine WO.step rfl (OR.lenSlice T40.und rfl (WO.step rfl (OR.move rfl (WO.done (WX.seq (WC.block ?_))))))
        refine WC.loop (ι := Nat) (fun j => [(1, .slice none 0 0), (8, .slice (some ⟨g, 0, none⟩) T T), (9, .int .i64 ((ll.take (j + 1)).flatten.length : Int)), (70, .slice (some ⟨ob, oo + 1, none⟩) (ll.length - 1) (c1 - 1)), (71, .int .i64 ((ll.length - 1 : Nat) : Int)), (72, .int .i64 (j : Int))]) (fun j w => (j ≤ ll.length - 1 ∧ ∃ c, T ≤ c.size ∧ c.toList.take (ll.take (j + 1)).flatten.length = ((ll.take (j + 1)).flatten).map B ∧ HS [] H0 w0 H0 [(g, .cells c 5, true)] w)) (fun j => ll.length - 1 - j) 0 ⟨rfl, rfl, rfl, rfl, rfl, rfl,  trivial⟩ ?_ (fun j w hW => ?_)
        · exact ⟨by omega, cc, hcz, hci, hs⟩
        clear hs hci hcz hcg hcg2 hTc
        obtain ⟨hj, c, hcz, hci, hs⟩ := hW
        refine WC.seq (WC.region (WO.step rfl (OR.lss rfl rfl (WO.done (WX.seq (WC.seq ?_))))))
        refine WC.condD rfl (fun hlt2 => ?_) (fun hlt2 => ?_)
        · have hj' : 1 + j < ll.length := by omega
          obtain ⟨hck, hbk⟩ := hget (1 + j) hj'
          rw [← Nat.add_assoc] at hck
          obtain ⟨be, ce, he⟩ := hbk.form
          rw [he] at hbk hck
          refine WC.skip (WX.seq (WC.seq (WC.block (WC.seq (WC.region ?_)))))
          refine WO.step rfl (OR.idx j T40.und T43 rfl rfl rfl (by omega) ?_)
          refine WO.step rfl (OR.load T43 rfl rfl (hs.cell hck) ?_)
          have hf1 := take_flat_succ ll (j + 1) (by omega)
          have hf2 := flat_take_le ll (j + 1 + 1)
          have hf3 : (ll.take (j + 1 + 1)).flatten.length = (ll.take (j + 1)).flatten.length + ll[1 + j].length := by
            rw [hf1, List.length_append]
            simp only [Nat.add_comm 1 j]
          have hf5 : (ll.take (j + 1 + 1)).flatten = (ll.take (j + 1)).flatten ++ ll[1 + j] := by rw [hf1]; simp only [Nat.add_comm 1 j]
          generalize hacc : (ll.take (j + 1)).flatten = acc at *
          have hsl2 : (if T = acc.length then some (⟨g, 0, none⟩ : Addr) else (some (⟨g, 0, none⟩ : Addr)).map (·.add (acc.length * 1))) = some ⟨g, if T = acc.length then 0 else acc.length, none⟩ := by
            split
            · rfl
            · rw [Option.map_some, add_off, Nat.mul_one, Nat.zero_add]
          have ho : (if T = acc.length then 0 else acc.length) + ll[1 + j].length ≤ c.size := by split <;> omega
          refine WO.step rfl (OR.assign rfl (WO.done (WX.seq (WC.seq (WC.region (WO.step rfl (OR.move rfl ?_)))))))
          refine WO.step rfl (OR.move rfl (WO.step rfl (OR.move rfl ?_)))
          refine WO.step rfl (OR.sliceLoG acc.length T43.und T5 rfl rfl rfl (by omega) ?_)
          rw [hsl2]
          refine WO.step rfl (OR.move rfl ?_)
          refine WO.step rfl (OR.copyO hs [] T43.und T5 rfl rfl (by rw [natmin (c := 0) (by omega)]; rfl) (fun _ => rfl) (fun q hq => by cases hq) (by simp; omega) rfl ?_)
          clear hs; intro w hs
          rw [natmin (c := 0) (by omega)]
          rw [setL_nil] at hs
          replace hs : HS [] H0 w0 H0 [(g, .cells c 5, true)] w := hs
          refine WO.step rfl (OR.addI rfl rfl (by omega) (by omega) ?_)
          rw [show (acc.length : Int) + ((0 : Nat) : Int) = (acc.length : Int) from by omega]
          refine WO.step rfl (OR.assign rfl (WO.done (WX.seq (WC.region (WO.step rfl (OR.move rfl (WO.step rfl ?_)))))))
          refine OR.move rfl (WO.step rfl (OR.move rfl ?_))
          refine WO.step rfl (OR.sliceLoG acc.length T43.und T5 rfl rfl rfl (by omega) ?_)
          rw [hsl2]
          refine WO.step rfl (OR.move rfl ?_)
          refine WO.step rfl (OR.copyO hs (ll[1 + j].map B) T43.und T5 rfl rfl (by rw [List.length_map, natmin (c := ll[1 + j].length) (by omega)]; omega) (Sl.src0 hbk) (Sl.src hbk hs) (by rw [List.length_map]; exact ho) (bytes_one _) ?_)
          clear hs; intro w hs
          rw [natmin (c := ll[1 + j].length) (by omega)]
          refine WO.step rfl (OR.addI rfl rfl (by omega) (by omega) (WO.step rfl (OR.assign rfl (WO.done (WX.block (WX.seq (WC.region ?_)))))))
          refine WO.step rfl (OR.addI rfl rfl (by omega) (by omega) (WO.step rfl (OR.move rfl (WO.done ?_))))
          rw [show (acc.length : Int) + (ll[1 + j].length : Int) = ((ll.take (j + 1 + 1)).flatten.length : Int) from by omega]
          refine WX.again (j + 1) ⟨rfl, rfl, rfl, rfl, rfl, rfl,  trivial⟩ ?_ ?_
          · refine ⟨by omega, _, ?_, ?_, hs⟩
            · rw [List.size_toArray, setL_length]; simpa using hcz
            · rw [hf5, List.length_append, List.map_append]
              by_cases hTe : T = acc.length
              · have hz0 : ll[1 + j] = [] := List.eq_nil_of_length_eq_zero (by omega)
                rw [hz0, List.map_nil, setL_nil, List.append_nil]
                exact hci
              · rw [if_neg hTe] at ho ⊢
                have := setL_take c.toList acc.length (ll[1 + j].map B) (by rw [List.length_map]; simpa using ho)
                rw [List.length_map] at this
                show (setL c.toList acc.length (ll[1 + j].map B)).take (acc.length + ll[1 + j].length) = _
                rw [this, hci]
          · omega
        · have e : j = ll.length - 1 := by omega
          have e2 : ll.take (j + 1) = ll := List.take_of_length_le (by omega)
          rw [e2, hT] at hci
          refine WC.exit (WX.seq_exit (WX.loop_exit (WX.block_hit (WX.seq (WC.seq (WC.region (WO.step rfl ?_)))))))
          refine OR.move rfl (WO.step rfl (OR.assign rfl (WO.done (WX.seq (WC.ret ?_)))))
          refine WX.ret1 rfl rfl ?_
          have hp := hs.publish hg
          refine .mk hp ?_
          have := Bytes.block (l := ll.flatten) (cap := T) (Hp.put_same H0 g (.cells c 5)) (by rw [hT]; exact hci) (by omega)
          rw [hT] at this
          exact this
end Go.Bw
namespace Go.Bw
set_option linter.unusedVariables false
set_option linter.unusedSimpArgs false
open Go.Proofs
set_option maxRecDepth 20000 in
set_option maxHeartbeats 2000000 in
theorem ptake1_ok (gs : Nat) (s : Nat) (vx : Value) (l : List UInt8) (H0 : Hp) (w0 : World) (h0 : Sub H0 w0) (hc : hcell H0 ⟨gs, 0, none⟩ = some (.int .i64 (s : Int))) (hx : Bytes H0 vx l) :
    Calls Tryz.prog 154 #[vx, ptr gs] w0 (Pure H0 w0 fun v _ => v = .bool (decide (l.length ≠ s))) := by
  have hs := HS.init h0
  obtain ⟨b1, c1, rfl⟩ := hx.form
  refine Calls.enter (args := [.slice b1 l.length c1, ptr gs]) Tryz.func154 rfl Tryz.ntmps154 rfl ?_
  refine WC.seq (WC.region (WO.step rfl (OR.assign rfl (WO.done (WX.seq (WC.seq (WC.region ?_)))))))
  refine WO.step rfl (OR.move rfl (WO.step rfl (OR.lenSlice T43.und rfl ?_)))
  refine WO.step rfl (OR.load T3 rfl rfl (hs.cell hc) ?_)
  refine WO.step rfl (OR.neq rfl rfl (WO.step rfl (OR.assign rfl (WO.done (WX.seq (WC.ret ?_))))))
  refine WX.ret1 rfl rfl ?_
  refine .mk hs ?_
  congr 1
  rw [decide_eq_decide]
  omega
set_option maxRecDepth 20000 in
set_option maxHeartbeats 2000000 in
theorem ptake2_ok (x : UInt8) (H0 : Hp) (w0 : World) (h0 : Sub H0 w0) : Calls Tryz.prog 161 #[B x] w0 (Pure H0 w0 fun v _ => v = .bool (decide (x ≠ 0))) := by
  have hs := HS.init h0
  refine Calls.enter (args := [B x]) Tryz.func161 rfl Tryz.ntmps161 rfl ?_
  refine WC.seq (WC.region (WO.step rfl (OR.assign rfl (WO.done (WX.seq (WC.seq (WC.region ?_)))))))
  refine WO.step rfl (OR.move rfl (WO.step rfl (OR.neq rfl rfl (WO.step rfl (OR.assign rfl (WO.done (WX.seq ?_)))))))
  refine WC.ret ?_
  refine WX.ret1 rfl rfl ?_
  refine .mk hs ?_
  congr 1
  rw [decide_eq_decide]
  constructor
  · intro h e; apply h; rw [e]; rfl
  · intro h e; apply h; exact UInt8.toNat.inj (by simpa using e)

set_option maxRecDepth 20000 in
set_option maxHeartbeats 2000000 in
theorem containsB_ok (v : Value) (l : List UInt8) (p : UInt8 → Bool) (f : FuncId) (cap : List Value) (H0 : Hp) (w0 : World) (h0 : Sub H0 w0) (hv : Bytes H0 v l) (hl : l.length < 9223372036854775807) (hbf : Body Tryz.prog f)
    (hf : ∀ (x : UInt8) H w, Hp.le H0 H → Sub H w → Calls Tryz.prog f ([B x] ++ cap).toArray w (Pure H w fun v _ => v = .bool (p x))) :
    Calls Tryz.prog 160 #[v, .func (.func f) #[] cap.toArray] w0 (Pure H0 w0 fun v _ => v = .bool (decide (idxFrom p l 0 ≥ 0))) := by
  have hs := HS.init h0
  have hle := Hp.le.refl H0
  refine Calls.enter (args := [v, .func (.func f) #[] cap.toArray]) Tryz.func160 rfl Tryz.ntmps160 rfl ?_
  refine WC.seq (WC.region (WO.step rfl (OR.assign rfl (WO.done (WX.seq (WC.seq (WC.region ?_)))))))
  refine WO.step rfl (OR.move rfl (WO.step rfl (OR.move rfl ?_)))
  refine WO.step rfl (OR.call hs body147 rfl rfl (indexFunc_ok v l p f cap _ _ hs.toSub hv hl hbf hf) ?_)
  clear hs; rintro _ H w hs hle1 rfl; replace hle := hle.trans hle1; (try replace hlb := hlb.trans hle1)
  refine WO.step rfl (OR.geq rfl rfl (WO.step rfl (OR.assign rfl (WO.done (WX.seq (WC.ret ?_))))))
  refine WX.ret1 rfl rfl ?_
  exact .mk hs rfl
end Go.Bw
namespace Go.Bw
set_option linter.unusedVariables false
set_option linter.unusedSimpArgs false
open Go.Proofs
theorem flat_len (ll : List (List UInt8)) (s : Nat) (h : ∀ r ∈ ll, r.length = s) : ll.flatten.length = ll.length * s := by
  induction ll with
  | nil => simp
  | cons x ll ih =>
    rw [List.flatten_cons, List.length_append, ih (fun r hr => h r (by simp [hr])), h x (by simp), List.length_cons, Nat.add_mul, Nat.one_mul, Nat.add_comm]
/-- What is taken of symbols: a chunk, or none. -/
def padN (all : List UInt8) : Nat := beVal (all.take 4)
def padOk (room : Nat) (all : List UInt8) : Prop := 1 ≤ padN all ∧ padN all ≤ room ∧ lead ((all.drop 4).drop (padN all)) < 0
instance (room : Nat) (all : List UInt8) : Decidable (padOk room all) := inferInstanceAs (Decidable (_ ∧ _))
def padF (room : Nat) (all : List UInt8) : List UInt8 := if padOk room all then (all.drop 4).take (padN all) else []
def padE (room : Nat) (all : List UInt8) : Int := if padOk room all then 0 else 5
set_option maxRecDepth 20000 in
set_option maxHeartbeats 2000000 in
theorem ptakeG_ok (g s : Nat) (vl : Value) (ll : List (List UInt8)) (H0 : Hp) (w0 : World) (h0 : Sub H0 w0) (hgs : 1 ≤ g ∧ g ≤ 255 ∧ 1 ≤ s ∧ s ≤ 65535 ∧ 4 < g * s) (hv : BytesL H0 vl ll) (hlen : ll.length = g) (hrow : ∀ r ∈ ll, r.length = s) :
    Calls Tryz.prog 117 #[vl, .int .i64 (g : Int), .int .i64 (s : Int)] w0 (Pure H0 w0 fun v H' => TupB H' v (padF (g * s - 4) ll.flatten) (padE (g * s - 4) ll.flatten)) := by
  have hs := HS.init h0
  have hle := Hp.le.refl H0
  obtain ⟨hg1, hg2, hs1, hs2, hgs4⟩ := hgs
  have hmul : g * s ≤ 255 * 65535 := Nat.mul_le_mul hg2 hs2
  have hmc : (g : Int) * (s : Int) = ((g * s : Nat) : Int) := by rw [Int.natCast_mul]
  have hal := flat_len ll s hrow
  rw [hlen] at hal
  have hv0 := hv
  obtain ⟨b1, c1, rfl⟩ := hv0.form
  refine Calls.enter (args := [.slice b1 ll.length c1, .int .i64 (g : Int), .int .i64 (s : Int)]) Tryz.func117 rfl Tryz.ntmps117 rfl ?_
  refine WC.seq (WC.region (WO.step rfl (OR.box hs rfl ?_)))
  clear hs; intro g1 w hg1 hs
  refine WO.step rfl (OR.assign rfl (WO.step rfl (OR.assign rfl (WO.done (WX.seq (WC.seq (WC.region ?_)))))))
  refine WO.step rfl (OR.move rfl (WO.step rfl (OR.load T3 rfl rfl (hs.cellM (i := 0) rfl rfl) ?_)))
  refine WO.step rfl (OR.call hs body62 rfl rfl (room_ok (g : Int) (s : Int) _ _ hs.toSub) ?_)
  clear hs; rintro _ H w hs hle1 rfl; replace hle := hle.trans hle1; (try replace hlb := hlb.trans hle1)
  rw [if_pos (by rw [hmc]; omega)]
  refine WO.step rfl (OR.move rfl (WO.step rfl (OR.extract rfl rfl (WO.step rfl (OR.extract rfl rfl (WO.step rfl (OR.assign rfl ?_)))))))
  refine WO.step rfl (OR.assign rfl (WO.done (WX.seq (WC.seq (WC.block (WC.seq (WC.region ?_)))))))
  refine WO.step rfl (OR.move rfl (WO.step rfl (OR.neq rfl rfl (WO.step rfl (OR.assign rfl (WO.done (WX.seq ?_)))))))
  refine WC.no rfl (decide_eq_false (by omega)) ?_
  refine WC.seq (WC.region (WO.step rfl (OR.move rfl (WO.step rfl (OR.lenSlice T40.und rfl (WO.step rfl (OR.move rfl ?_)))))))
  refine WO.step rfl (OR.neq rfl rfl (WO.step rfl (OR.move rfl ?_)))
  refine WO.guardYes rfl (decide_eq_false (by rw [hlen]; omega)) rfl rfl (OR.move rfl (WO.guardYes rfl (decide_eq_false (by rw [hlen]; omega)) rfl rfl (OR.makeFunc rfl rfl ?_)))
  obtain ⟨H, hle1, hp_g1, hs9⟩ := hs.pub1 hg1; clear hs; have hs := hs9; clear hs9; replace hle := hle.trans hle1; (try replace hlb := hlb.trans hle1)
  have hcs := hcell_of hp_g1 (i := 0) (v := .int .i64 (s : Int)) rfl
  refine WO.guardYes rfl (decide_eq_false (by rw [hlen]; omega)) rfl rfl (OR.call hs body153 rfl rfl (containsL_ok _ ll 154 [ptr g1] _ _ hs.toSub (hv.mono hle) (by omega) body154 (fun i h vx H' w' hl' hH hb => (ptake1_ok g1 s vx _ H' w' hH (hcell.mono hl' hcs) hb).mono fun e w2 hp => by rw [decide_eq_false (by rw [hrow _ (List.getElem_mem h)]; exact fun q => q rfl)] at hp; exact hp)) ?_)
  clear hs; rintro _ H w hs hle1 rfl; replace hle := hle.trans hle1; (try replace hlb := hlb.trans hle1)
  refine WO.step rfl (OR.pickF rfl (decide_eq_false (by rw [hlen]; omega)) rfl (WO.step rfl (OR.assign rfl (WO.done (WX.seq ?_)))))
  refine WC.no rfl rfl ?_
  refine WC.skip (WX.block (WX.seq (WC.seq (WC.region (WO.step rfl (OR.move rfl ?_))))))
  refine WO.step rfl (OR.call hs body156 rfl rfl (join_ok _ ll _ _ hs.toSub (hv.mono hle) (by rw [hal]; omega) (by omega)) ?_)
  clear hs; rintro _ H w hs hle1 hj; replace hle := hle.trans hle1; (try replace hlb := hlb.trans hle1)
  generalize hA : ll.flatten = all at *
  refine WO.step rfl (OR.callX (Mx := []) hs body155 rfl rfl (wnew_ok _ all _ _ hs.toSub hj (by omega)) rfl rfl ?_)
  clear hs; rintro _ H M' w hs hle1 hnew ⟨b, vb, rfl, hbz, rfl, hvb⟩; replace hle := hle.trans hle1; (try replace hlb := hlb.trans hle1)
  refine WO.step rfl (OR.assign rfl (WO.done (WX.seq (WC.seq (WC.region (WO.step rfl (OR.move rfl ?_)))))))
  refine WO.step rfl (OR.callX (Mx := [(b, _, true)]) hs body157 rfl rfl (rnum_ok b vb all 4 _ _ hs.toSub (hs.blk (i := 0) rfl) (hs.mem b _ true (List.mem_cons_self ..)).2.1 hvb (by omega) (by omega) (by omega) (by omega)) rfl rfl ?_)
  clear hs; rintro _ H M' w hs hle1 hnew ⟨vb2, rfl, rfl, hvb2⟩; replace hle := hle.trans hle1; (try replace hlb := hlb.trans hle1)
  have hN : beVal (all.take 4) = padN all := rfl
  have hN4 : padN all < 256 ^ 4 := beVal_lt 4 _ (by simp; omega)
  rw [hN]
  have hr1 : (g : Int) * (s : Int) - 4 = ((g * s - 4 : Nat) : Int) := by rw [hmc]; omega
  by_cases h1 : 1 ≤ padN all
  · skip
    refine WO.step rfl (OR.move rfl (WO.step rfl (OR.extract rfl rfl (WO.step rfl (OR.extract rfl rfl (WO.step rfl (OR.assign rfl ?_)))))))
    refine WO.step rfl (OR.assign rfl (WO.done (WX.seq (WC.seq (WC.seq (WC.region (WO.step rfl ?_)))))))
    refine OR.move rfl (WO.step rfl (OR.lss rfl rfl (WO.step rfl (OR.move rfl ?_))))
    refine WO.guardYes rfl (decide_eq_false (by omega : ¬ (padN all : Int) < 1)) rfl rfl (OR.move rfl (WO.guardYes rfl (decide_eq_false (by omega : ¬ (padN all : Int) < 1)) rfl rfl (OR.move rfl ?_)))
    refine WO.guardYes rfl (decide_eq_false (by omega : ¬ (padN all : Int) < 1)) rfl rfl (OR.convI T3.und T22.und rfl ?_)
    rw [hr1, u64_wrap (g * s - 4) (by omega)]
    by_cases h2 : padN all ≤ g * s - 4
    · skip
      refine WO.guardYes rfl (decide_eq_false (by omega : ¬ (padN all : Int) < 1)) rfl rfl (OR.gtr rfl rfl (WO.step rfl (OR.pickF rfl (decide_eq_false (by omega : ¬ (padN all : Int) < 1)) rfl (WO.done (WX.seq ?_)))))
      refine WC.no rfl (decide_eq_false (by omega)) ?_
      refine WC.skip (WX.seq (WC.seq (WC.region (WO.step rfl (OR.move rfl (WO.step rfl (OR.move rfl ?_)))))))
      refine WO.step rfl (OR.convI T22.und T3.und rfl ?_)
      rw [IntWalk.i64_in (padN all : Int) (by omega)]
      have hl3 : (all.drop 4).length = g * s - 4 := by simp; omega
      refine WO.step rfl (OR.callX (Mx := [(b, _, true)]) hs body158 rfl rfl (rtake_ok b vb2 (all.drop 4) (padN all) _ _ hs.toSub (hs.blk (i := 0) rfl) (hs.mem b _ true (List.mem_cons_self ..)).2.1 hvb2 (by omega) (by omega)) rfl rfl ?_)
      clear hs; rintro _ H M' w hs hle1 hnew ⟨r, vb3, rfl, hr, rfl, hvb3⟩; replace hle := hle.trans hle1; (try replace hlb := hlb.trans hle1)
      have hl4 : ((all.drop 4).drop (padN all)).length = g * s - 4 - padN all := by rw [List.length_drop, hl3]
      refine WO.step rfl (OR.move rfl (WO.step rfl (OR.extract rfl rfl (WO.step rfl (OR.extract rfl rfl (WO.step rfl (OR.assign rfl ?_)))))))
      refine WO.step rfl (OR.assign rfl (WO.done (WX.seq (WC.seq (WC.region (WO.step rfl (OR.move rfl ?_)))))))
      refine WO.step rfl (OR.move rfl ?_)
      refine WO.step rfl (OR.call hs body159 rfl rfl (rleft_ok b vb3 ((all.drop 4).drop (padN all)) _ _ hs.toSub (hs.blk (i := 0) rfl) (hs.mem b _ true (List.mem_cons_self ..)).2.1 hvb3) ?_)
      clear hs; rintro _ H w hs hle1 rfl; replace hle := hle.trans hle1; (try replace hlb := hlb.trans hle1)
      replace hr := hr.mono hle1
      replace hvb3 := hvb3.mono hle1
      refine WO.step rfl (OR.callX (Mx := [(b, _, true)]) hs body158 rfl rfl (rtake_ok b vb3 ((all.drop 4).drop (padN all)) ((all.drop 4).drop (padN all)).length _ _ hs.toSub (hs.blk (i := 0) rfl) (hs.mem b _ true (List.mem_cons_self ..)).2.1 hvb3 (by omega) (by omega)) rfl rfl ?_)
      clear hs; rintro _ H M' w hs hle1 hnew ⟨r2, vb4, rfl, hr2, rfl, hvb4⟩; replace hle := hle.trans hle1; (try replace hlb := hlb.trans hle1)
      rw [List.take_length] at hr2
      replace hr := hr.mono hle1
      refine WO.step rfl (OR.move rfl (WO.step rfl (OR.extract rfl rfl (WO.step rfl (OR.extract rfl rfl (WO.step rfl (OR.assign rfl ?_)))))))
      refine WO.step rfl (OR.assign rfl (WO.done (WX.seq (WC.seq (WC.seq (WC.region (WO.step rfl ?_)))))))
      refine OR.move rfl ?_
      refine WO.step rfl (OR.call hs body160 rfl rfl (containsB_ok _ ((all.drop 4).drop (padN all)) (fun x => decide (x ≠ 0)) 161 [] _ _ hs.toSub hr2 (by omega) body161 (fun x H w _ hH => ptake2_ok x H w hH)) ?_)
      clear hs; rintro _ H w hs hle1 rfl; replace hle := hle.trans hle1; (try replace hlb := hlb.trans hle1)
      replace hr := hr.mono hle1
      obtain ⟨b9, c9, rfl⟩ := hr.form
      rw [show idxFrom (fun x => decide (x ≠ 0)) ((all.drop 4).drop (padN all)) 0 = lead ((all.drop 4).drop (padN all)) from rfl]
      refine WO.done (WX.seq ?_)
      refine WC.condD rfl (fun hz => ?_) (fun hz => ?_)
      · refine WC.seq (WC.region (WO.step rfl (OR.assign rfl (WO.step rfl (OR.assign rfl (WO.done (WX.seq ?_)))))))
        refine WC.ret (WX.seq_ret ?_)
        refine WX.ret2 rfl rfl rfl ?_
        have hno : ¬ padOk (g * s - 4) all := fun h => by have := h.2.2; omega
        refine .mk (hs.drop 0) ⟨.slice none 0 0, ?_, by rw [padF, if_neg hno]; exact Sl.empty _ _ _⟩
        rw [padE, if_neg hno]
      · refine WC.skip (WX.seq (WC.seq (WC.region (WO.step rfl (OR.move rfl (WO.step rfl (OR.assign rfl ?_)))))))
        refine WO.step rfl (OR.assign rfl (WO.done (WX.seq (WC.ret ?_))))
        refine WX.ret2 rfl rfl rfl ?_
        have hyes : padOk (g * s - 4) all := ⟨h1, h2, by omega⟩
        refine .mk (hs.drop 0) ⟨_, ?_, by rw [padF, if_pos hyes]; exact hr⟩
        rw [padE, if_pos hyes]
    · skip
      refine WO.guardYes rfl (decide_eq_false (by omega : ¬ (padN all : Int) < 1)) rfl rfl (OR.gtr rfl rfl (WO.step rfl (OR.pickF rfl (decide_eq_false (by omega : ¬ (padN all : Int) < 1)) rfl (WO.done (WX.seq ?_)))))
      refine WC.yes rfl (decide_eq_true (by omega)) ?_
      refine WC.seq (WC.region (WO.step rfl (OR.assign rfl (WO.step rfl (OR.assign rfl (WO.done (WX.seq ?_)))))))
      refine WC.ret (WX.seq_ret ?_)
      refine WX.ret2 rfl rfl rfl ?_
      have hno : ¬ padOk (g * s - 4) all := fun h => h2 h.2.1
      refine .mk (hs.drop 0) ⟨.slice none 0 0, ?_, by rw [padF, if_neg hno]; exact Sl.empty _ _ _⟩
      rw [padE, if_neg hno]
  · skip
    refine WO.step rfl (OR.move rfl (WO.step rfl (OR.extract rfl rfl (WO.step rfl (OR.extract rfl rfl (WO.step rfl (OR.assign rfl ?_)))))))
    refine WO.step rfl (OR.assign rfl (WO.done (WX.seq (WC.seq (WC.seq (WC.region (WO.step rfl ?_)))))))
    refine OR.move rfl (WO.step rfl (OR.lss rfl rfl (WO.step rfl (OR.move rfl ?_))))
    refine WO.guardNo rfl (decide_eq_true (by omega : (padN all : Int) < 1)) rfl rfl (WO.guardNo rfl (decide_eq_true (by omega : (padN all : Int) < 1)) rfl rfl (WO.guardNo rfl (decide_eq_true (by omega : (padN all : Int) < 1)) rfl rfl (WO.guardNo rfl (decide_eq_true (by omega : (padN all : Int) < 1)) rfl rfl (WO.step rfl (OR.pickT rfl (decide_eq_true (by omega : (padN all : Int) < 1)) rfl (WO.done (WX.seq ?_)))))))
    refine WC.yes rfl rfl (WC.seq (WC.region (WO.step rfl (OR.assign rfl (WO.step rfl (OR.assign rfl (WO.done ?_)))))))
    refine WX.seq (WC.ret (WX.seq_ret ?_))
    refine WX.ret2 rfl rfl rfl ?_
    have hno : ¬ padOk (g * s - 4) all := fun h => h1 h.1
    refine .mk (hs.drop 0) ⟨.slice none 0 0, ?_, by rw [padF, if_neg hno]; exact Sl.empty _ _ _⟩
    rw [padE, if_neg hno]
end Go.Bw
namespace Go.Bw
set_option linter.unusedVariables false
set_option linter.unusedSimpArgs false
open Go.Proofs
structure SinkD where
  g : Nat
  s : Nat
  dl : Nat
  tot : Nat
  kn : Bool
  br : Bool
def sinkObj (x : SinkD) : Obj := .cells #[.int .i64 (x.g : Int), .int .i64 (x.s : Int), .int .u64 (x.dl : Int), .int .u64 (x.tot : Int), .bool x.kn, .bool x.br] 120
section
variable (kb : Nat) (x : SinkD) (H0 : Hp) (w0 : World)
set_option maxRecDepth 20000 in
set_option maxHeartbeats 2000000 in
theorem kmade_ok (h0 : Sub H0 w0) (hb : w0.heap[kb]? = some (sinkObj x)) (hn : H0 kb = none) (hg : 1 ≤ x.g) : Calls Tryz.prog 68 #[ptr kb] w0 (Pure H0 w0 fun v _ => v = .bool true) := by
  have hs := HS.startR h0 hb hn
  refine Calls.enter (args := [ptr kb]) Tryz.func68 rfl Tryz.ntmps68 rfl ?_
  refine WC.seq (WC.region (WO.step rfl (OR.assign rfl (WO.done (WX.seq (WC.seq (WC.region ?_)))))))
  refine WO.step rfl (OR.move rfl (WO.step rfl (OR.neqNilP T27.und rfl rfl (WO.step rfl (OR.move rfl (WO.guardYes rfl rfl rfl rfl (OR.move rfl ?_)))))))
  refine WO.guardYes rfl rfl rfl rfl (OR.nilCheck rfl (WO.guardYes rfl rfl rfl rfl (OR.fieldAddr FA120_0 rfl (WO.guardYes rfl rfl rfl rfl (OR.load T3 rfl rfl (hs.cellM (i := 0) rfl rfl) (WO.guardYes rfl rfl rfl rfl (OR.gtr rfl rfl ?_)))))))
  refine WO.step rfl (OR.pickT rfl rfl rfl (WO.step rfl (OR.assign rfl (WO.done (WX.seq (WC.ret ?_))))))
  refine WX.ret1 rfl rfl ?_
  exact .mk (hs.drop 0) (by rw [decide_eq_true (by omega)])
set_option maxRecDepth 20000 in
set_option maxHeartbeats 2000000 in
theorem kdel_ok (h0 : Sub H0 w0) (hb : w0.heap[kb]? = some (sinkObj x)) (hn : H0 kb = none) : Calls Tryz.prog 24 #[ptr kb] w0 (Pure H0 w0 fun v _ => v = .int .u64 (x.dl : Int)) := by
  have hs := HS.startR h0 hb hn
  refine Calls.enter (args := [ptr kb]) Tryz.func24 rfl Tryz.ntmps24 rfl ?_
  refine WC.seq (WC.region (WO.step rfl (OR.assign rfl (WO.done (WX.seq (WC.seq (WC.seq ?_)))))))
  refine WC.region (WO.step rfl (OR.move rfl (WO.step rfl (OR.eqlNilP T27.und rfl rfl (WO.done (WX.seq (WC.no rfl rfl ?_)))))))
  refine WC.skip (WX.seq (WC.seq (WC.region (WO.step rfl (OR.move rfl (WO.step rfl (OR.nilCheck rfl ?_)))))))
  refine WO.step rfl (OR.fieldAddr FA120_2 rfl (WO.step rfl (OR.load T22 rfl rfl (hs.cellM (i := 0) rfl rfl) (WO.step rfl (OR.assign rfl (WO.done (WX.seq ?_)))))))
  refine WC.ret ?_
  refine WX.ret1 rfl rfl ?_
  exact .mk (hs.drop 0) rfl
end
def SinkD.totE (x : SinkD) (n : Nat) : Int := if n < x.dl ∨ 1099511627776 < n then 1 else if x.kn = true ∧ x.tot ≠ n then 9 else 0
def SinkD.total (x : SinkD) (n : Nat) : SinkD := if x.totE n = 0 then { x with tot := n, kn := true } else x
set_option maxRecDepth 20000 in
set_option maxHeartbeats 2000000 in
theorem ktotal_ok (kb n : Nat) (x : SinkD) (H0 : Hp) (w0 : World) (h0 : Sub H0 w0) (hb : w0.heap[kb]? = some (sinkObj x)) (hn : H0 kb = none) (hg : 1 ≤ x.g) :
    Calls Tryz.prog 19 #[ptr kb, .int .u64 (n : Int)] w0 (Ret [kb] H0 w0 fun v H' M' => v = .int .i64 (x.totE n) ∧ M' = [(kb, sinkObj (x.total n), true)]) := by
  have hs := HS.start1 h0 hb hn
  have hle := Hp.le.refl H0
  have fin : ∀ (e : Int) H w, x.totE n = e → e ≠ 0 → Hp.le H0 H → HS [kb] H0 w0 H [(kb, sinkObj x, true)] w → Ret [kb] H0 w0 (fun v H' M' => v = .int .i64 (x.totE n) ∧ M' = [(kb, sinkObj (x.total n), true)]) (.returned (.int .i64 e)) w := by
    intro e H w he h1 _ hs
    refine ⟨_, _, _, rfl, hs, by simp, by rw [he], ?_⟩
    rw [SinkD.total, if_neg (by rw [he]; exact h1)]
  refine Calls.enter (args := [ptr kb, .int .u64 (n : Int)]) Tryz.func19 rfl Tryz.ntmps19 rfl ?_
  refine WC.seq (WC.region (WO.step rfl (OR.assign rfl (WO.done (WX.seq (WC.seq (WC.block ?_)))))))
  refine WC.seq (WC.region (WO.step rfl (OR.move rfl ?_)))
  refine WO.step rfl (OR.call hs body68 rfl rfl (kmade_ok kb x _ _ hs.toSub (hs.blk (i := 0) rfl) (hs.nh (i := 0) rfl) hg) ?_)
  clear hs; rintro _ H w hs hle1 rfl; replace hle := hle.trans hle1; (try replace hlb := hlb.trans hle1)
  refine WO.step rfl (OR.not rfl (WO.step rfl (OR.assign rfl (WO.done (WX.seq ?_)))))
  refine WC.no rfl rfl ?_
  refine WC.seq (WC.region (WO.step rfl (OR.move rfl (WO.step rfl (OR.move rfl (WO.step rfl (OR.nilCheck rfl ?_)))))))
  refine WO.step rfl (OR.fieldAddr FA120_2 rfl (WO.step rfl (OR.load T22 rfl rfl (hs.cellM (i := 0) rfl rfl) (WO.step rfl (OR.lss rfl rfl (WO.step rfl (OR.move rfl ?_)))))))
  refine WO.guardSplit (j := 6) rfl (fun h1 => ?_) (fun h1 => ?_)
  · refine WO.guardNo rfl (decide_eq_true h1) rfl rfl (WO.guardNo rfl (decide_eq_true h1) rfl rfl (WO.step rfl (OR.pickT rfl (decide_eq_true h1) rfl (WO.step rfl (OR.assign rfl (WO.done (WX.seq ?_)))))))
    refine WC.yes rfl rfl (WC.seq (WC.region (WO.step rfl (OR.assign rfl (WO.done (WX.seq (WC.ret ?_)))))))
    refine WX.block_ret (WX.seq_ret ?_)
    refine WX.ret1 rfl rfl ?_
    exact fin 1 _ _ (by rw [SinkD.totE, if_pos (by omega)]) (by decide) hle hs
  · refine WO.guardYes rfl (decide_eq_false h1) rfl rfl (OR.move rfl (WO.guardYes rfl (decide_eq_false h1) rfl rfl (OR.gtr rfl rfl (WO.step rfl (OR.pickF rfl (decide_eq_false h1) rfl (WO.step rfl (OR.assign rfl ?_)))))))
    refine WO.done (WX.seq ?_)
    refine WC.condD rfl (fun h2 => ?_) (fun h2 => ?_)
    · refine WC.seq (WC.region (WO.step rfl (OR.assign rfl (WO.done (WX.seq (WC.ret (WX.block_ret ?_)))))))
      refine WX.seq_ret ?_
      refine WX.ret1 rfl rfl ?_
      exact fin 1 _ _ (by rw [SinkD.totE, if_pos (by omega)]) (by decide) hle hs
    · refine WC.seq (WC.region (WO.step rfl (OR.move rfl (WO.step rfl (OR.nilCheck rfl (WO.step rfl (OR.fieldAddr FA120_4 rfl ?_)))))))
      refine WO.step rfl (OR.load T4 rfl rfl (hs.cellM (i := 0) rfl rfl) (WO.step rfl (OR.move rfl ?_)))
      obtain ⟨kn, hk⟩ : ∃ b, b = x.kn := ⟨_, rfl⟩
      rw [← hk]
      cases kn with
      | false =>
        refine WO.guardNo rfl rfl rfl rfl (WO.guardNo rfl rfl rfl rfl (WO.guardNo rfl rfl rfl rfl (WO.guardNo rfl rfl rfl rfl (WO.guardNo rfl rfl rfl rfl (WO.guardNo rfl rfl rfl rfl (WO.step rfl (OR.pickF rfl rfl rfl ?_)))))))
        refine WO.step rfl (OR.assign rfl (WO.done (WX.seq (WC.no rfl rfl (WC.skip (WX.block (WX.seq ?_)))))))
        refine WC.seq (WC.region (WO.step rfl (OR.move rfl (WO.step rfl (OR.move rfl (WO.step rfl (OR.move rfl ?_)))))))
        refine WO.step rfl (OR.nilCheck rfl (WO.step rfl (OR.fieldAddr FA120_3 rfl (WO.stepN (OR.store hs T22 rfl rfl rfl (Nat.le_of_ble_eq_true rfl) rfl ?_)))))
        clear hs; intro w hs
        refine WO.step rfl (OR.nilCheck rfl (WO.step rfl (OR.fieldAddr FA120_4 rfl (WO.stepN (OR.store hs T4 rfl rfl rfl (Nat.le_of_ble_eq_true rfl) rfl ?_)))))
        clear hs; intro w hs
        refine WO.done (WX.seq (WC.seq (WC.region (WO.step rfl (OR.assign rfl (WO.done (WX.seq ?_)))))))
        refine WC.ret ?_
        refine WX.ret1 rfl rfl ?_
        refine ⟨_, _, _, rfl, hs, by simp, ?_, ?_⟩
        · rw [SinkD.totE, if_neg (by omega), if_neg (by rw [← hk]; simp)]
        · rw [SinkD.total, if_pos (by rw [SinkD.totE, if_neg (by omega), if_neg (by rw [← hk]; simp)])]
          rfl
      | true =>
        refine WO.guardYes rfl rfl rfl rfl (OR.move rfl (WO.guardYes rfl rfl rfl rfl (OR.nilCheck rfl (WO.guardYes rfl rfl rfl rfl (OR.fieldAddr FA120_3 rfl (WO.guardYes rfl rfl rfl rfl (OR.load T22 rfl rfl (hs.cellM (i := 0) rfl rfl) ?_)))))))
        refine WO.guardYes rfl rfl rfl rfl (OR.move rfl (WO.guardYes rfl rfl rfl rfl (OR.neq rfl rfl (WO.step rfl (OR.pickT rfl rfl rfl (WO.step rfl (OR.assign rfl ?_)))))))
        refine WO.done (WX.seq ?_)
        refine WC.condD rfl (fun h3 => ?_) (fun h3 => ?_)
        · refine WC.seq (WC.region (WO.step rfl (OR.assign rfl (WO.done (WX.seq (WC.ret (WX.block_ret ?_)))))))
          refine WX.seq_ret ?_
          refine WX.ret1 rfl rfl ?_
          exact fin 9 _ _ (by rw [SinkD.totE, if_neg (by omega), if_pos ⟨hk.symm, by omega⟩]) (by decide) hle hs
        · refine WC.skip (WX.block (WX.seq (WC.seq (WC.region (WO.step rfl (OR.move rfl (WO.step rfl ?_)))))))
          refine OR.move rfl (WO.step rfl (OR.move rfl (WO.step rfl (OR.nilCheck rfl (WO.step rfl (OR.fieldAddr FA120_3 rfl (WO.stepN ?_)))))))
          refine OR.store hs T22 rfl rfl rfl (Nat.le_of_ble_eq_true rfl) rfl ?_
          clear hs; intro w hs
          refine WO.step rfl (OR.nilCheck rfl (WO.step rfl (OR.fieldAddr FA120_4 rfl (WO.stepN (OR.store hs T4 rfl rfl rfl (Nat.le_of_ble_eq_true rfl) rfl ?_)))))
          clear hs; intro w hs
          refine WO.done (WX.seq (WC.seq (WC.region (WO.step rfl (OR.assign rfl (WO.done (WX.seq ?_)))))))
          refine WC.ret ?_
          refine WX.ret1 rfl rfl ?_
          have e : x.totE n = 0 := by rw [SinkD.totE, if_neg (by omega), if_neg (by rintro ⟨_, h⟩; omega)]
          refine ⟨_, _, _, rfl, hs, by simp, by rw [e], ?_⟩
          rw [SinkD.total, if_pos e]
          rfl
set_option maxRecDepth 20000 in
set_option maxHeartbeats 2000000 in
theorem knew_ok (g s dl : Nat) (H0 : Hp) (w0 : World) (h0 : Sub H0 w0) :
    Calls Tryz.prog 10 #[.int .i64 (g : Int), .int .i64 (s : Int), .int .u64 (dl : Int)] w0 (Ret [] H0 w0 fun v H' M' => if (1 ≤ g ∧ g ≤ 255 ∧ 1 ≤ s ∧ s ≤ 65535 ∧ 4 < g * s) ∧ dl ≤ 1099511627776 then ∃ kb, v = .tuple #[ptr kb, .int .i64 0] ∧ M' = [(kb, sinkObj ⟨g, s, dl, 0, false, false⟩, true)] else v = .tuple #[.pointer none, .int .i64 1] ∧ M' = []) := by
  have hs := HS.init h0
  have hle := Hp.le.refl H0
  have hgs : ((g : Int) * (s : Int)) = ((g * s : Nat) : Int) := by simp
  refine Calls.enter (args := [.int .i64 (g : Int), .int .i64 (s : Int), .int .u64 (dl : Int)]) Tryz.func10 rfl Tryz.ntmps10 rfl ?_
  refine WC.seq (WC.region (WO.step rfl (OR.assign rfl (WO.step rfl (OR.assign rfl (WO.done (WX.seq ?_)))))))
  refine WC.seq (WC.seq (WC.region (WO.step rfl (OR.move rfl (WO.step rfl (OR.move rfl ?_))))))
  refine WO.step rfl (OR.call hs body62 rfl rfl (room_ok (g : Int) (s : Int) _ _ hs.toSub) ?_)
  clear hs; rintro _ H1 w hs hle1 hv
  rw [hgs] at hv
  by_cases hall : 1 ≤ g ∧ g ≤ 255 ∧ 1 ≤ s ∧ s ≤ 65535 ∧ 4 < g * s
  · rw [if_pos (by omega)] at hv
    subst hv
    refine WO.step rfl (OR.move rfl (WO.step rfl (OR.extract rfl rfl (WO.step rfl (OR.extract rfl rfl (WO.step rfl (OR.assign rfl ?_)))))))
    refine WO.step rfl (OR.assign rfl (WO.done (WX.seq (WC.seq (WC.region (WO.step rfl (OR.move rfl ?_)))))))
    refine WO.step rfl (OR.neq rfl rfl (WO.step rfl (OR.move rfl ?_)))
    refine WO.guardYes rfl rfl rfl rfl (OR.move rfl (WO.guardYes rfl rfl rfl rfl (OR.gtr rfl rfl (WO.step rfl (OR.pickF rfl rfl rfl (WO.done (WX.seq ?_)))))))
    refine WC.condD rfl (fun hd => ?_) (fun hd => ?_)
    · refine WC.seq (WC.region (WO.step rfl (OR.assign rfl (WO.step rfl (OR.assign rfl (WO.done (WX.seq ?_)))))))
      refine WC.ret (WX.seq_ret ?_)
      refine WX.ret2 rfl rfl rfl ?_
      refine ⟨_, _, [], rfl, hs, by simp, ?_⟩
      show ite _ _ _
      rw [if_neg (fun h => by have := h.2; omega)]
      exact ⟨rfl, rfl⟩
    · refine WC.skip (WX.seq (WC.seq (WC.region (WO.step rfl (OR.move rfl (WO.step rfl (OR.move rfl ?_)))))))
      refine WO.step rfl (OR.move rfl ?_)
      refine WO.step rfl (OR.build (cs := #[.int .i64 (g : Int), .int .i64 (s : Int), .int .u64 (dl : Int), .int .u64 0, .bool false, .bool false]) rfl (by intro w; kernel_rfl) ?_)
      refine WO.step rfl (OR.box hs rfl ?_)
      clear hs; intro g1 w hg1 hs
      refine WO.step rfl (OR.assign rfl (WO.step rfl (OR.assign rfl (WO.done (WX.seq (WC.ret ?_))))))
      refine WX.ret2 rfl rfl rfl ?_
      refine ⟨_, _, [_], rfl, hs, by simp, ?_⟩
      show ite _ _ _
      rw [if_pos ⟨hall, by omega⟩]
      exact ⟨g1, rfl, rfl⟩
  · rw [if_neg (by omega)] at hv
    subst hv
    refine WO.step rfl (OR.move rfl (WO.step rfl (OR.extract rfl rfl (WO.step rfl (OR.extract rfl rfl (WO.step rfl (OR.assign rfl ?_)))))))
    refine WO.step rfl (OR.assign rfl (WO.done (WX.seq (WC.seq (WC.region (WO.step rfl (OR.move rfl ?_)))))))
    refine WO.step rfl (OR.neq rfl rfl (WO.step rfl (OR.move rfl ?_)))
    refine WO.guardNo rfl rfl rfl rfl (WO.guardNo rfl rfl rfl rfl (WO.step rfl (OR.pickT rfl rfl rfl (WO.done (WX.seq (WC.yes rfl rfl (WC.seq ?_)))))))
    refine WC.region (WO.step rfl (OR.assign rfl (WO.step rfl (OR.assign rfl (WO.done (WX.seq (WC.ret ?_)))))))
    refine WX.seq_ret ?_
    refine WX.ret2 rfl rfl rfl ?_
    refine ⟨_, _, [], rfl, hs, by simp, ?_⟩
    show ite _ _ _
    rw [if_neg (fun h => hall h.1)]
    exact ⟨rfl, rfl⟩
end Go.Bw
namespace Go.Bw
set_option linter.unusedVariables false
set_option linter.unusedSimpArgs false
open Go.Proofs
theorem relMem_false {x : RelD} {rb wb : Nat} {l : Slots} {b : Nat} {o : Obj} {t : Bool} (h : (b, o, t) ∈ relMem false x rb wb l) : t = false := by
  rcases List.mem_cons.1 h with e | h
  · cases e; rfl
  · rcases List.mem_cons.1 h with e | h
    · cases e; rfl
    · exact (slotMem_ro h).1
theorem HS.relRO2 {xs : List Nat} {H0 H : Hp} {w0 w : World} {x : RelD} {rb wb : Nat} {l : Slots} {Mr : Mem} (hs : HS xs H0 w0 H (relMem false x rb wb l ++ Mr) w) : HS [] H w H (relMem false x rb wb l) w := by
  refine HS.start [] hs.sub (fun b o t h => ?_) ?_
  · have h1 := hs.mem b o t (List.mem_append_left _ h)
    exact ⟨h1.1, h1.2.1, fun ht => by rw [relMem_false h] at ht; cases ht⟩
  · have h1 := hs.nd
    simp only [Mem.keys, List.map_append, List.nodup_append] at h1
    exact h1.1
def MF.tupLL (ll : List (List UInt8)) (e : Int) : MF := MF.of (fun v H => ∃ r, v = .tuple #[r, .int .i64 e] ∧ BytesL H r ll) fun _ _ _ hle ⟨r, h1, h2⟩ => ⟨r, h1, h2.mono hle⟩

/-- What a relay's generation comes to. -/
def rdyF (x : RelD) (d : Nat) : List UInt8 := padF (x.g * x.s - 4) (x.solF d).flatten
def rdyE (x : RelD) (d : Nat) : Int := padE (x.g * x.s - 4) (x.solF d).flatten
theorem RelD.sol_in {x : RelD} {d : Nat} (h : x.solE d = 0) : inWin x.base x.width d := by
  unfold RelD.solE at h
  split at h
  · assumption
  · cases h
theorem RelD.sol_full {x : RelD} {d : Nat} (hok : RelOk x) (h : x.solE d = 0) : (x.solF d).length = x.g ∧ ∀ r ∈ x.solF d, r.length = x.s := by
  have hin := x.sol_in h
  have hr := hok.red (d % x.width)
  rw [RelD.solE, if_pos hin] at h
  have hl : ¬ (x.rows (d % x.width)).length < x.g := fun hl => by rw [if_pos hl] at h; cases h
  rw [RelD.solF, if_pos hin, if_neg hl]
  have h2 := hr.len
  refine ⟨by rw [List.length_map]; omega, fun r hr' => ?_⟩
  obtain ⟨y, hy, rfl⟩ := List.mem_map.1 hr'
  exact (hr.gs y hy).2
abbrev skD (x : RelD) (tot : Nat) (kn br : Bool) (d : Nat) : SinkD := ⟨x.g, x.s, d, tot, kn, br⟩
set_option maxRecDepth 20000 in
set_option maxHeartbeats 2000000 in
theorem ready1_ok (kb rb wb lp K R d0 tot : Nat) (kn br : Bool) (x : RelD) (l : Slots) (xs : List Nat) (H0 : Hp) (w0 : World) (H9 : Hp) (hx : SlotsOk H9 x l) (hok : RelOk x) (hgs4 : 4 < x.g * x.s) (hd0 : d0 ≤ 1099511627776) (hK : hcell H9 ⟨K, 0, none⟩ = some (ptr kb)) (hR : hcell H9 ⟨R, 0, none⟩ = some (ptr rb))
    (I : Nat → Hp → Mem → Prop) (hI : ∀ k H H' M, Hp.le H H' → I k H M → I k H' M) (hI9 : ∀ k H M, I k H M → Hp.le H9 H) (Cx : World → Prop)
    (hround : ∀ n H M w v, d0 + n < 1099511627776 → x.solE (d0 + n) = 0 → rdyE x (d0 + n) = 0 → HS xs H0 w0 H ((kb, sinkObj (skD x tot kn br (d0 + n)), true) :: (relMem false x rb wb l ++ M)) w → I n H M → Bytes H v (rdyF x (d0 + n)) → YieldAt (fen none) 0 Tryz.prog lp #[v, .int .i64 0] w (fun e w' =>
      e = .returned (.bool true) ∧ ∃ H' M', HS xs H0 w0 H' ((kb, sinkObj (skD x tot kn br (d0 + n + 1)), true) :: (relMem false x rb wb l ++ M')) w' ∧ I (n + 1) H' M'))
    (hbad : ∀ n H M w, d0 + n < 1099511627776 → x.solE (d0 + n) = 0 → rdyE x (d0 + n) ≠ 0 → HS xs H0 w0 H ((kb, sinkObj (skD x tot kn br (d0 + n)), true) :: (relMem false x rb wb l ++ M)) w → I n H M → YieldAt (fen none) 0 Tryz.prog lp #[.slice none 0 0, .int .i64 5] w (fun e w' => (∃ b, e = .returned (.bool b)) ∧ Cx w'))
    (H1 : Hp) (M1 : Mem) (w1 : World) (hs : HS xs H0 w0 H1 ((kb, sinkObj (skD x tot kn br d0), true) :: (relMem false x rb wb l ++ M1)) w1) (h0 : I 0 H1 M1) :
    Calls Tryz.prog 115 #[.func (.yield lp) #[] #[], ptr K, ptr R] w1 (fun e w' => e = .returned (.tuple #[]) ∧ ((∃ n H' M', (d0 + n = 1099511627776 ∨ x.solE (d0 + n) ≠ 0) ∧ HS xs H0 w0 H' ((kb, sinkObj (skD x tot kn br (d0 + n)), true) :: (relMem false x rb wb l ++ M')) w' ∧ I n H' M') ∨ Cx w')) := by
  have hle := Hp.le.refl H1
  have hgs : 1 ≤ x.g ∧ x.g ≤ 255 ∧ 1 ≤ x.s ∧ x.s ≤ 65535 ∧ 4 < x.g * x.s := ⟨hok.g1, hok.g2, hok.s1, hok.s2, hgs4⟩
  refine Calls.enter (args := [.func (.yield lp) #[] #[], ptr K, ptr R]) Tryz.func115 rfl Tryz.ntmps115 rfl ?_
  refine WC.block ?_
  refine WC.loop (ι := Nat) (fun n => [(0, .func (.yield lp) #[] #[]), (1, ptr K), (2, ptr R)]) (fun n w => (d0 + n ≤ 1099511627776 ∧ ∃ H M, HS xs H0 w0 H ((kb, sinkObj (skD x tot kn br (d0 + n)), true) :: (relMem false x rb wb l ++ M)) w ∧ I n H M)) (fun n => 1099511627777 - (d0 + n)) 0 ⟨rfl, rfl, rfl,  trivial⟩ ?_ (fun n w hW => ?_)
  · exact ⟨by omega, H1, M1, hs, h0⟩
  clear hs hle
  obtain ⟨hdn, H, M, hs, hinv⟩ := hW
  have hle := Hp.le.refl H
  have hl9 := hI9 _ _ _ hinv
  refine WC.seq (WC.seq (WC.region ?_))
  refine WO.step rfl (OR.load T27 rfl rfl (hs.cell (hcell.mono hl9 hK)) ?_)
  refine WO.step rfl (OR.nilCheck rfl (WO.step rfl (OR.fieldAddr FA120_2 rfl (WO.step rfl (OR.load T22 rfl rfl (hs.cellM (i := 0) rfl rfl) (WO.step rfl (OR.lss rfl rfl ?_)))))))
  refine WO.done (WX.seq ?_)
  refine WC.condD rfl (fun hlt => ?_) (fun hlt => ?_)
  · have hlt2 : d0 + n < 1099511627776 := by have h : ((d0 + n : Nat) : Int) < 1099511627776 := hlt; omega
    refine WC.skip (WX.seq (WC.block (WC.seq ?_)))
    refine WC.drawL 9 8 mixed hs (by kernel_rfl) ?_
    refine ⟨MF.eq (ptr rb), ?_, ?_⟩
    · intro Mx H w hle2 hs; (try replace hle := hle.trans hle2); (try replace hlb := hlb.trans hle2)
      refine forVals_nil (ORg.plain (OR.load T34 rfl rfl (hs.cell (hcell.mono (hl9.trans hle) hR)) ?_))
      exact ⟨_, [], Hp.le.refl _, hs, rfl, rfl⟩
    refine ⟨MF.eq (ptr kb), ?_, ?_⟩
    · intro Mx H w hle2 hs; (try replace hle := hle.trans hle2); (try replace hlb := hlb.trans hle2)
      refine forVals_nil (ORg.plain (OR.load T27 rfl rfl (hs.cell (hcell.mono (hl9.trans hle) hK)) ?_))
      exact ⟨_, [], Hp.le.refl _, hs, rfl, rfl⟩
    refine ⟨MF.eq _, by intro Mx H w hle hs; refine forVals_eq rfl rfl rfl ?_; refine forVals_nil (ORg.plain (OR.nilCheck rfl ?_)); exact ⟨_, [], Hp.le.refl _, hs, rfl, rfl⟩, ?_⟩
    refine ⟨MF.eq _, by intro Mx H w hle hs; refine forVals_eq rfl rfl rfl ?_; refine forVals_nil (ORg.plain (OR.fieldAddr FA120_2 rfl ?_)); exact ⟨_, [], Hp.le.refl _, hs, rfl, rfl⟩, ?_⟩
    refine ⟨MF.eq (.int .u64 ((d0 + n : Nat) : Int)), ?_, ?_⟩
    · intro Mx H w hle2 hs; (try replace hle := hle.trans hle2); (try replace hlb := hlb.trans hle2); refine forVals_eq rfl rfl rfl ?_
      refine forVals_nil (ORg.plain (OR.load T22 rfl rfl (hs.right.cellM (i := 0) rfl rfl) ?_))
      exact ⟨_, [], Hp.le.refl _, hs, rfl, rfl⟩
    refine ⟨MF.tupLL (x.solF (d0 + n)) (x.solE (d0 + n)), ?_, ?_⟩
    · intro Mx H w hle2 hs; (try replace hle := hle.trans hle2); (try replace hlb := hlb.trans hle2); refine forVals_eq rfl rfl rfl ?_; refine forVals_eq rfl rfl rfl ?_
      refine forVals_nil (ORg.plain (OR.call hs body116 rfl rfl (rsolve_ok rb wb (d0 + n) x l _ _ (HS.relRO2 (hs.right.drop 0)) (hx.mono (hl9.trans hle)) hok (by omega)) ?_))
      clear hs; rintro _ H w hs hle1 ⟨r, rfl, hr⟩
      exact ⟨_, [], hle1, hs, ⟨r, rfl, hr⟩, rfl⟩
    refine ⟨MF.tupLL (x.solF (d0 + n)) (x.solE (d0 + n)), ?_, ?_⟩
    · intro Mx H w hle2 hs; (try replace hle := hle.trans hle2); (try replace hlb := hlb.trans hle2); refine forVals_of rfl rfl rfl ?_; intro v5 h5
      refine forVals_nil (ORg.plain (OR.move rfl ?_))
      exact ⟨_, [], Hp.le.refl _, hs, h5, rfl⟩
    refine ⟨MF.bytesL (x.solF (d0 + n)), ?_, ?_⟩
    · intro Mx H w hle2 hs; (try replace hle := hle.trans hle2); (try replace hlb := hlb.trans hle2); refine forVals_of rfl rfl rfl ?_; intro v6 h6
      obtain ⟨r, rfl, hr⟩ := h6
      refine forVals_nil (ORg.plain (OR.extract rfl rfl ?_))
      exact ⟨_, [], Hp.le.refl _, hs, hr, rfl⟩
    refine ⟨MF.eq (.int .i64 (x.solE (d0 + n))), ?_, ?_⟩
    · intro Mx H w hle2 hs; (try replace hle := hle.trans hle2); (try replace hlb := hlb.trans hle2); refine forVals_of rfl rfl rfl ?_; intro v6 h6
      obtain ⟨r, rfl, hr⟩ := h6
      refine forVals_nil (ORg.plain (OR.extract rfl rfl ?_))
      exact ⟨_, [], Hp.le.refl _, hs, rfl, rfl⟩
    intro H w hle2; (try replace hle := hle.trans hle2); (try replace hlb := hlb.trans hle2)
    refine forAllVals_eq rfl ?_
    refine forAllVals_eq rfl ?_
    refine forAllVals_eq rfl ?_
    refine forAllVals_eq rfl ?_
    refine forAllVals_eq rfl ?_
    refine forAllVals_of rfl ?_; intro v5 h5
    refine forAllVals_of rfl ?_; intro v6 h6
    refine forAllVals_of rfl ?_; intro v7 h7
    refine forAllVals_eq rfl ?_
    refine forAllVals_nil ?_; (try clear hs); intro hs
    refine WO.step rfl (OR.assign rfl (WO.step rfl (OR.assign rfl (WO.done (WX.seq (WC.seq (WC.seq ?_)))))))
    refine WC.region (WO.step rfl (OR.move rfl (WO.step rfl (OR.neq rfl rfl (WO.done (WX.seq ?_))))))
    refine WC.condD rfl (fun hsol => ?_) (fun hsol => ?_)
    · refine WC.ret (WX.seq_ret (WX.block_ret (WX.loop_ret (WX.block_ret ?_))))
      refine WX.ret0 rfl ?_
      exact ⟨rfl, .inl ⟨n, _, _, .inr hsol, hs, hI _ _ _ _ hle hinv⟩⟩
    · have hsol0 : x.solE (d0 + n) = 0 := by omega
      have hin := x.sol_in hsol0
      have hfull := x.sol_full hok hsol0
      obtain ⟨b7, c7, rfl⟩ := h7.form
      refine WC.skip (WX.seq (WC.seq ?_))
      refine WC.sub [(0, .func (.yield lp) #[] #[]), (1, ptr K), (2, ptr R), (4, .slice b7 (x.solF (d0 + n)).length c7)] ⟨rfl, rfl, rfl, rfl,  trivial⟩ ?_
      have hlb := Hp.le.refl H
      have hr7 := h7
      clear h7
      refine WC.drawL 13 12 mixed hs (by kernel_rfl) ?_
      refine ⟨MF.eq _, by intro Mx H w hle hs; refine forVals_nil (ORg.plain (OR.move rfl ?_)); exact ⟨_, [], Hp.le.refl _, hs, rfl, rfl⟩, ?_⟩
      refine ⟨MF.eq (ptr kb), ?_, ?_⟩
      · intro Mx H w hle2 hs; (try replace hle := hle.trans hle2); (try replace hlb := hlb.trans hle2)
        refine forVals_nil (ORg.plain (OR.load T27 rfl rfl (hs.cell (hcell.mono (hl9.trans hle) hK)) ?_))
        exact ⟨_, [], Hp.le.refl _, hs, rfl, rfl⟩
      refine ⟨MF.eq _, by intro Mx H w hle hs; refine forVals_eq rfl rfl rfl ?_; refine forVals_nil (ORg.plain (OR.nilCheck rfl ?_)); exact ⟨_, [], Hp.le.refl _, hs, rfl, rfl⟩, ?_⟩
      refine ⟨MF.eq _, by intro Mx H w hle hs; refine forVals_eq rfl rfl rfl ?_; refine forVals_nil (ORg.plain (OR.fieldAddr FA120_0 rfl ?_)); exact ⟨_, [], Hp.le.refl _, hs, rfl, rfl⟩, ?_⟩
      refine ⟨MF.eq (.int .i64 (x.g : Int)), ?_, ?_⟩
      · intro Mx H w hle2 hs; (try replace hle := hle.trans hle2); (try replace hlb := hlb.trans hle2); refine forVals_eq rfl rfl rfl ?_
        refine forVals_nil (ORg.plain (OR.load T3 rfl rfl (hs.right.cellM (i := 0) rfl rfl) ?_))
        exact ⟨_, [], Hp.le.refl _, hs, rfl, rfl⟩
      refine ⟨MF.eq (ptr kb), ?_, ?_⟩
      · intro Mx H w hle2 hs; (try replace hle := hle.trans hle2); (try replace hlb := hlb.trans hle2)
        refine forVals_nil (ORg.plain (OR.load T27 rfl rfl (hs.cell (hcell.mono (hl9.trans hle) hK)) ?_))
        exact ⟨_, [], Hp.le.refl _, hs, rfl, rfl⟩
      refine ⟨MF.eq _, by intro Mx H w hle hs; refine forVals_eq rfl rfl rfl ?_; refine forVals_nil (ORg.plain (OR.nilCheck rfl ?_)); exact ⟨_, [], Hp.le.refl _, hs, rfl, rfl⟩, ?_⟩
      refine ⟨MF.eq _, by intro Mx H w hle hs; refine forVals_eq rfl rfl rfl ?_; refine forVals_nil (ORg.plain (OR.fieldAddr FA120_1 rfl ?_)); exact ⟨_, [], Hp.le.refl _, hs, rfl, rfl⟩, ?_⟩
      refine ⟨MF.eq (.int .i64 (x.s : Int)), ?_, ?_⟩
      · intro Mx H w hle2 hs; (try replace hle := hle.trans hle2); (try replace hlb := hlb.trans hle2); refine forVals_eq rfl rfl rfl ?_
        refine forVals_nil (ORg.plain (OR.load T3 rfl rfl (hs.right.cellM (i := 0) rfl rfl) ?_))
        exact ⟨_, [], Hp.le.refl _, hs, rfl, rfl⟩
      refine ⟨MF.tupB (rdyF x (d0 + n)) (rdyE x (d0 + n)), ?_, ?_⟩
      · intro Mx H w hle2 hs; (try replace hle := hle.trans hle2); (try replace hlb := hlb.trans hle2); refine forVals_eq rfl rfl rfl ?_; refine forVals_eq rfl rfl rfl ?_; refine forVals_eq rfl rfl rfl ?_
        refine forVals_nil (ORg.plain (OR.call hs body117 rfl rfl (ptakeG_ok x.g x.s _ (x.solF (d0 + n)) _ _ hs.toSub hgs (hr7.mono hlb) hfull.1 hfull.2) ?_))
        clear hs; rintro _ H w hs hle1 ⟨r, rfl, hr⟩
        exact ⟨_, [], hle1, hs, ⟨r, rfl, hr⟩, rfl⟩
      refine ⟨MF.tupB (rdyF x (d0 + n)) (rdyE x (d0 + n)), ?_, ?_⟩
      · intro Mx H w hle2 hs; (try replace hle := hle.trans hle2); (try replace hlb := hlb.trans hle2); refine forVals_of rfl rfl rfl ?_; intro v9 h9
        refine forVals_nil (ORg.plain (OR.move rfl ?_))
        exact ⟨_, [], Hp.le.refl _, hs, h9, rfl⟩
      refine ⟨MF.bytes (rdyF x (d0 + n)), ?_, ?_⟩
      · intro Mx H w hle2 hs; (try replace hle := hle.trans hle2); (try replace hlb := hlb.trans hle2); refine forVals_of rfl rfl rfl ?_; intro v10 h10
        obtain ⟨r, rfl, hr⟩ := h10
        refine forVals_nil (ORg.plain (OR.extract rfl rfl ?_))
        exact ⟨_, [], Hp.le.refl _, hs, hr, rfl⟩
      refine ⟨MF.eq (.int .i64 (rdyE x (d0 + n))), ?_, ?_⟩
      · intro Mx H w hle2 hs; (try replace hle := hle.trans hle2); (try replace hlb := hlb.trans hle2); refine forVals_of rfl rfl rfl ?_; intro v10 h10
        obtain ⟨r, rfl, hr⟩ := h10
        refine forVals_nil (ORg.plain (OR.extract rfl rfl ?_))
        exact ⟨_, [], Hp.le.refl _, hs, rfl, rfl⟩
      intro H w hle2; (try replace hle := hle.trans hle2); (try replace hlb := hlb.trans hle2)
      refine forAllVals_eq rfl ?_
      refine forAllVals_eq rfl ?_
      refine forAllVals_eq rfl ?_
      refine forAllVals_eq rfl ?_
      refine forAllVals_eq rfl ?_
      refine forAllVals_eq rfl ?_
      refine forAllVals_eq rfl ?_
      refine forAllVals_eq rfl ?_
      refine forAllVals_eq rfl ?_
      refine forAllVals_of rfl ?_; intro v9 h9
      refine forAllVals_of rfl ?_; intro v10 h10
      refine forAllVals_of rfl ?_; intro v11 h11
      refine forAllVals_eq rfl ?_
      refine forAllVals_nil ?_; (try clear hs); intro hs
      have hinv2 := hI _ _ _ _ hle hinv
      have hch := h11
      refine WO.step rfl (OR.assign rfl (WO.step rfl (OR.assign rfl (WO.done (WX.seq (WC.seq (WC.seq ?_)))))))
      refine WC.region (WO.step rfl (OR.move rfl (WO.step rfl (OR.neq rfl rfl (WO.done (WX.seq ?_))))))
      refine WC.condD rfl (fun hbd => ?_) (fun hbd => ?_)
      · refine WC.seq ?_
        refine WC.regionR ?_
        refine RO.step rfl rfl (OR.move rfl ?_)
        refine RO.yield rfl rfl rfl (hbad n _ _ _ hlt2 hsol0 hbd hs hinv2) ?_
        rintro e w hC
        obtain ⟨⟨b, rfl⟩, hC⟩ := hC
        refine ⟨_, rfl, ?_⟩
        refine RO.doneW ?_
        refine WX.seq (WC.ret (WX.seq_ret (WX.block_ret (WX.loop_ret (WX.block_ret ?_)))))
        refine WX.ret0 rfl ?_
        exact ⟨rfl, .inr hC⟩
      · have hrd : rdyE x (d0 + n) = 0 := by omega
        refine WC.skip (WX.seq (WC.seq ?_))
        refine WC.regionR ?_
        refine RO.step rfl rfl (OR.move rfl (RO.step rfl rfl (OR.move rfl ?_)))
        refine RO.yield rfl rfl rfl (hround n _ _ _ _ hlt2 hsol0 hrd hs hinv2 hch) ?_
        rintro e w hC
        obtain ⟨rfl, H2, M2, hs, hinv3⟩ := hC
        refine ⟨_, rfl, ?_⟩
        refine RO.step rfl rfl (OR.not rfl ?_)
        refine RO.doneW ?_
        refine WX.seq ?_
        refine WC.no rfl rfl ?_
        refine WC.skip (WX.block ?_)
        refine WX.again (n + 1) ⟨rfl, rfl, rfl,  trivial⟩ ?_ ?_
        · exact ⟨by omega, H2, M2, hs, hinv3⟩
        · omega
  · refine WC.exit (WX.seq_exit (WX.loop_exit (WX.block_hit ?_)))
    refine WX.end0 rfl ?_
    exact ⟨rfl, .inl ⟨n, _, _, .inl (by have h : ¬ ((d0 + n : Nat) : Int) < 1099511627776 := hlt; omega), hs, hI _ _ _ _ hle hinv⟩⟩
end Go.Bw
namespace Go.Bw
set_option linter.unusedVariables false
set_option linter.unusedSimpArgs false
open Go.Proofs
set_option maxRecDepth 20000 in
set_option maxHeartbeats 2000000 in
theorem kready_ok (kb rb : Nat) (H0 : Hp) (w0 : World) (h0 : Sub H0 w0) :
    Calls Tryz.prog 69 #[ptr kb, ptr rb] w0 (Pure H0 w0 fun v H' => ∃ K R, v = .func (.func 115) #[] #[ptr K, ptr R] ∧ hcell H' ⟨K, 0, none⟩ = some (ptr kb) ∧ hcell H' ⟨R, 0, none⟩ = some (ptr rb)) := by
  have hs := HS.init h0
  have hle := Hp.le.refl H0
  refine Calls.enter (args := [ptr kb, ptr rb]) Tryz.func69 rfl Tryz.ntmps69 rfl ?_
  refine WC.seq (WC.region (WO.step rfl (OR.box hs rfl ?_)))
  clear hs; intro g1 w hg1 hs
  refine WO.step rfl (OR.box hs rfl ?_)
  clear hs; intro g2 w hg2 hs
  refine WO.step rfl (OR.assign rfl (WO.done (WX.seq (WC.seq (WC.region (WO.step rfl (OR.makeFunc rfl rfl ?_)))))))
  refine WO.step rfl (OR.assign rfl (WO.done (WX.seq (WC.ret ?_))))
  refine WX.ret1 rfl rfl ?_
  obtain ⟨H1, hle1, hp1, hs⟩ := HS.pub1 hs hg2
  obtain ⟨H2, hle2, hp2, hs⟩ := HS.pub1 hs hg1
  exact .mk hs ⟨g1, g2, rfl, hcell_of hp2 rfl, hcell.mono hle2 (hcell_of hp1 rfl)⟩

theorem perA {A R Mo : Mem} {p : Nat × Obj × Bool} : (A ++ (p :: (R ++ Mo))).Perm (p :: (R ++ (A ++ Mo))) := by
  refine List.perm_middle.trans (List.Perm.cons p ?_)
  rw [← List.append_assoc, ← List.append_assoc]
  exact List.perm_append_comm.append_right Mo
theorem perB {A R Mo : Mem} {p : Nat × Obj × Bool} : (Mo ++ (A ++ (p :: R))).Perm (A ++ (p :: (R ++ Mo))) := by
  refine List.perm_append_comm.trans ?_
  rw [List.append_assoc, List.cons_append]
theorem perC {A R : Mem} {p : Nat × Obj × Bool} : (p :: (R ++ A)).Perm (A ++ (p :: R)) :=
  ((List.Perm.cons p List.perm_append_comm).trans List.perm_middle.symm)

def goodTo (x : RelD) (d0 n : Nat) : Prop := ∀ i < n, x.solE (d0 + i) = 0 ∧ rdyE x (d0 + i) = 0
theorem goodTo.few {x : RelD} {d0 n : Nat} (h : goodTo x d0 n) (hok : RelOk x) : n ≤ 16 := by
  have hw := hok.w2
  cases n with
  | zero => omega
  | succ n =>
    have h1 := x.sol_in (h 0 (by omega)).1
    have h2 := x.sol_in (h n (by omega)).1
    have h3 : winEnd x.base x.width ≤ x.base + x.width := Nat.min_le_left _ _
    have h4 := h1.1
    have h5 := h2.2
    omega
theorem goodTo.succ {x : RelD} {d0 n : Nat} (h : goodTo x d0 n) (h1 : x.solE (d0 + n) = 0) (h2 : rdyE x (d0 + n) = 0) : goodTo x d0 (n + 1) := by
  intro i hi
  rcases Nat.lt_or_ge i n with h3 | h3
  · exact h i h3
  · obtain rfl : i = n := by omega
    exact ⟨h1, h2⟩
def rdyL (x : RelD) (d0 n : Nat) : List (List UInt8) := (List.range n).map fun i => rdyF x (d0 + i)
def ChIn (H : Hp) (x : RelD) (d0 n : Nat) (cs : List Value) : Prop := cs.length = n ∧ ∀ i (_ : i < n) (h' : i < cs.length), Bytes H cs[i] (rdyF x (d0 + i))
theorem ChIn.mono {H H' : Hp} {x : RelD} {d0 n : Nat} {cs : List Value} (h : ChIn H x d0 n cs) (hle : Hp.le H H') : ChIn H' x d0 n cs := ⟨h.1, fun i h1 h2 => (h.2 i h1 h2).mono hle⟩
theorem ChIn.snoc {H : Hp} {x : RelD} {d0 n : Nat} {cs : List Value} {v : Value} (h : ChIn H x d0 n cs) (hv : Bytes H v (rdyF x (d0 + n))) : ChIn H x d0 (n + 1) (cs ++ [v]) := by
  refine ⟨by rw [List.length_append, h.1]; rfl, fun i h1 h2 => ?_⟩
  rcases Nat.lt_or_ge i n with h3 | h3
  · rw [List.getElem_append_left (by rw [h.1]; exact h3)]
    exact h.2 i h3 _
  · obtain rfl : i = n := by omega
    rw [List.getElem_append_right (by rw [h.1]; omega)]
    simpa using hv
theorem ChIn.bytesL {H : Hp} {x : RelD} {d0 n : Nat} {cs : List Value} {v : Value} (h : ChIn H x d0 n cs) (hs : Sl H 1 v n cs) : BytesL H v (rdyL x d0 n) := by
  have hl : (rdyL x d0 n).length = n := by simp [rdyL]
  refine ⟨cs, by rw [hl]; exact hs, by rw [hl, h.1], fun i h1 h2 => ?_⟩
  have : (rdyL x d0 n)[i] = rdyF x (d0 + i) := by simp [rdyL]
  rw [this]
  exact h.2 i (by omega) h2

theorem withLoop {xs : List Nat} {H0 H : Hp} {w0 w : World} {M : Mem} {lp D : Nat} {fn : FuncId} {tmps : Array Value} {ps : Array Tmp} {assign body : Code} {G : Prop} (_ : HS xs H0 w0 H ((lp, loopObj .ready none fn tmps ps assign body D, true) :: M) w)
    (k : ∀ LO : LoopState → Option Code → Obj, (∀ st pe, LO st pe = loopObj st pe fn tmps ps assign body D) → G) : G := k _ fun _ _ => rfl
end Go.Bw
namespace Go.Bw
set_option linter.unusedVariables false
set_option linter.unusedSimpArgs false
open Go.Proofs
set_option maxRecDepth 20000 in
set_option maxHeartbeats 2000000 in
theorem krel_ok (kb rb wb d0 tot : Nat) (kn : Bool) (x : RelD) (l : Slots) (H0 : Hp) (w0 : World) (hs : HS [kb] H0 w0 H0 ((kb, sinkObj (skD x tot kn false d0), true) :: relMem false x rb wb l) w0) (hx : SlotsOk H0 x l) (hok : RelOk x) (hgs4 : 4 < x.g * x.s) (hd0 : d0 ≤ 1099511627776) :
    Calls Tryz.prog 14 #[ptr kb, ptr rb] w0 (Ret [kb] H0 w0 fun v H' M' => ∃ n r e br, v = .tuple #[r, .int .i64 e] ∧ BytesL H' r (rdyL x d0 n) ∧ goodTo x d0 n ∧ d0 + n ≤ 1099511627776 ∧ M' = [(kb, sinkObj (skD x tot kn br (d0 + n)), true)] ∧
      ((e = 0 ∧ br = false ∧ (d0 + n = 1099511627776 ∨ x.solE (d0 + n) ≠ 0)) ∨ (e = 5 ∧ br = true ∧ d0 + n < 1099511627776 ∧ x.solE (d0 + n) = 0 ∧ rdyE x (d0 + n) ≠ 0))) := by
  have hle := Hp.le.refl H0
  refine Calls.enterM (args := [ptr kb, ptr rb]) Tryz.func14 rfl Tryz.ntmps14 rfl ?_
  refine WC.seq (WC.region (WO.step rfl (OR.box hs rfl ?_)))
  clear hs; intro g1 w hg1 hs
  refine WO.step rfl (OR.alloc hs T40 ?_)
  clear hs; intro g2 w hg2 hs
  refine WO.step rfl (OR.alloc hs T28 ?_)
  clear hs; intro g3 w hg3 hs
  refine WO.done (WX.seq (WC.seq (WC.block (WC.seq (WC.region (WO.step rfl (OR.load T27 rfl rfl (hs.cellM (i := 2) rfl rfl) ?_)))))))
  replace hs := hs.front (i := 2) rfl
  obtain ⟨H, hle1, hp_g1, hs9⟩ := hs.pub1 hg1; clear hs; have hs := hs9; clear hs9; replace hle := hle.trans hle1; (try replace hlb := hlb.trans hle1)
  have hlb := Hp.le.refl H
  have hg1 : hcell H ⟨g1, 0, none⟩ = some (ptr kb) := hcell_of hp_g1 rfl
  refine WO.step rfl (OR.call hs body68 rfl rfl (kmade_ok kb _ _ _ hs.toSub (hs.blk (i := 2) rfl) (hs.nh (i := 2) rfl) hok.g1) ?_)
  clear hs; rintro _ H w hs hle1 rfl; replace hle := hle.trans hle1; (try replace hlb := hlb.trans hle1)
  refine WO.step rfl (OR.not rfl (WO.step rfl (OR.move rfl ?_)))
  refine WO.guardYes rfl rfl rfl rfl (OR.move rfl (WO.guardYes rfl rfl rfl rfl (OR.eqlNilP T34.und rfl rfl (WO.step rfl (OR.pickF rfl rfl rfl (WO.step rfl (OR.assign rfl ?_)))))))
  refine WO.done (WX.seq ?_)
  refine WC.no rfl rfl ?_
  refine WC.seq (WC.region ?_)
  refine WO.step rfl (OR.load T27 rfl rfl (hs.cell (hcell.mono hlb hg1)) ?_)
  refine WO.step rfl (OR.nilCheck rfl (WO.step rfl (OR.fieldAddr FA120_5 rfl (WO.step rfl (OR.load T4 rfl rfl (hs.cellM (i := 2) rfl rfl) (WO.step rfl (OR.assign rfl ?_)))))))
  refine WO.done (WX.seq ?_)
  refine WC.no rfl rfl ?_
  refine WC.skip (WX.block (WX.seq (WC.seq (WC.region (WO.step rfl (OR.alloc hs T40 ?_))))))
  clear hs; intro g4 w hg4 hs
  refine WO.done (WX.seq (WC.seq (WC.seq (WC.region ?_))))
  refine WO.step rfl (OR.load T27 rfl rfl (hs.cell (hcell.mono hlb hg1)) ?_)
  refine WO.step rfl (OR.move rfl ?_)
  refine WO.step rfl (OR.call hs body69 rfl rfl (kready_ok kb rb _ _ hs.toSub) ?_)
  clear hs; rintro _ H w hs hle1 ⟨K, R, rfl, hK, hR⟩
  have hg9 := hcell.mono (hlb.trans hle1) hg1
  have hl0 := hle.trans hle1
  refine WO.done (WX.seq (WC.block ?_))
  refine WC.rangeFunc (fl := []) (lb := [ptr K, ptr R]) hs rfl body115 ?_
  clear hs; intro fn tmps D lp w hD hlp hst hs
  refine withLoop hs fun LO hLO => ?_
  refine (ready1_ok kb rb wb lp K R d0 tot kn false x l [kb] H0 w0 H (hx.mono hl0) hok hgs4 hd0 hK hR
    (fun n H2 M => Hp.le H H2 ∧ goodTo x d0 n ∧ d0 + n ≤ 1099511627776 ∧ ∃ v cs Mo, M = (lp, LO .ready none, true) :: (D, .deferred (some []), true) :: (g4, .cells #[v] 40, true) :: (g3, .cells #[.int .i64 0] 28, true) :: (g2, .cells #[.slice none 0 0] 40, true) :: Mo ∧ Own w0.heap.size 43 1 v n cs Mo ∧ ChIn H2 x d0 n cs)
    (fun n H2 H3 M h ⟨h1, h2, h3, v, cs, Mo, h4, h5, h6⟩ => ⟨h1.trans h, h2, h3, v, cs, Mo, h4, h5, h6.mono h⟩) (fun n H2 M h => h.1)
    (fun w' => ∃ n H2 v cs Mo, Hp.le H H2 ∧ goodTo x d0 n ∧ d0 + n < 1099511627776 ∧ x.solE (d0 + n) = 0 ∧ rdyE x (d0 + n) ≠ 0 ∧ Own w0.heap.size 43 1 v n cs Mo ∧ ChIn H2 x d0 n cs ∧
      HS [kb] H0 w0 H2 ((lp, LO .done (some .ret), true) :: (D, .deferred (some []), true) :: (g4, .cells #[v] 40, true) :: (g3, .cells #[.int .i64 5] 28, true) :: (g2, .cells #[v] 40, true) :: (kb, sinkObj (skD x tot kn true (d0 + n)), true) :: (relMem false x rb wb l ++ Mo)) w')
    ?_ ?_ H _ w (HS.perm (by rw [hLO]; exact hs) (perC (A := [_, _, _, _, _]))) ⟨Hp.le.refl _, fun i hi => by omega, hd0, _, [], [], rfl, Own.nil _ _ _, rfl, fun i hi => by omega⟩).mono ?_
  · clear hs
    rintro n H2 M w u hlt hsol hrd hs ⟨hlH, hgood, hdn, v, cs, Mo, rfl, ho, hch⟩ hu
    replace hs := hs.perm (perA (A := [_, _, _, _, _]) (R := relMem false x rb wb l) (Mo := Mo))
    rw [hLO] at hs
    refine yieldAt hs rfl (hst.param2 rfl rfl _ _) ?_
    have hle := Hp.le.refl H2
    have hfew := hgood.few hok
    obtain ⟨b1, c1, rfl⟩ := hu.form
    obtain ⟨b2, c2, rfl⟩ := ho.form
    refine RC.seq (RC.region (RO.step rfl rfl (OR.assign rfl (RO.done (RX.seq (RC.region (RO.step rfl rfl ?_)))))))
    refine OR.assign rfl (RO.done ?_)
    refine RC.assigned hs ?_; clear hs; intro w hs
    refine RC.block (RC.seq (RC.seq (RC.region (RO.step rfl rfl (OR.move rfl (RO.step rfl rfl (OR.neq rfl rfl ?_)))))))
    refine RO.done (RX.seq ?_)
    refine RC.no rfl (decide_eq_false (by decide)) ?_
    refine RC.skip (RX.seq (RC.seq (RC.region (RO.step rfl rfl (OR.load T40 rfl rfl (hs.cellM (i := 2) rfl rfl) (RO.step rfl rfl (OR.move rfl ?_)))))))
    refine RO.step rfl rfl (OR.buildSlice (vs := [_]) hs T40.und T43 rfl rfl rfl rfl (by simp) ?_)
    clear hs; intro q1 w hq1 hs
    obtain ⟨H, hle1, hp_q1, hs9⟩ := hs.pub1 hq1; clear hs; have hs := hs9; clear hs9; replace hle := hle.trans hle1; (try replace hlb := hlb.trans hle1)
    have hl1 := hle1
    have hone : Sl H 1 (.slice (some ⟨q1, 0, none⟩) 1 1) 1 [.slice b1 (rdyF x (d0 + n)).length c1] := Sl.block hp_q1 rfl rfl (by simp)
    refine RO.step rfl rfl (OR.append (m := 1) (news := [.slice b1 (rdyF x (d0 + n)).length c1]) (Mo := Mo) (hs.perm (perB (A := [_, _, _, _, _]))) ho T40.und T43 rfl (by omega) rfl rfl rfl (Sl.src hone hs) (Sl.src0 hone) rfl (by omega) (by omega) ?_)
    clear hs; intro v' w Mo' hs ho2 hge
    replace hs := hs.perm (perB (A := [_, _, _, _, _]) (R := relMem false x rb wb l) (Mo := Mo')).symm
    obtain ⟨b3, c3, rfl⟩ := ho2.form
    replace hs := hs.front (i := 2) rfl
    refine RO.stepN rfl (OR.storeAll hs T40 rfl rfl rfl rfl rfl ?_)
    clear hs; intro w hs
    refine RO.done (RX.seq (RC.region ?_))
    refine RO.step rfl rfl (OR.load T27 rfl rfl (hs.cell (hcell.mono (hlH.trans hl1) hg9)) ?_)
    refine RO.step rfl rfl (OR.nilCheck rfl (RO.step rfl rfl (OR.fieldAddr FA120_2 rfl (RO.step rfl rfl (OR.load T22 rfl rfl (hs.cellM (i := 5) rfl rfl) ?_)))))
    refine RO.step rfl rfl (OR.add rfl rfl ?_)
    rw [show IntKind.u64.wrap (((d0 + n : Nat) : Int) + 1) = ((d0 + n + 1 : Nat) : Int) from u64_wrap (d0 + n + 1) (by omega)]
    refine RO.step rfl rfl (OR.nilCheck rfl (RO.step rfl rfl (OR.fieldAddr FA120_2 rfl ?_)))
    replace hs := hs.front (i := 5) rfl
    refine RO.stepN rfl (OR.store hs T22 rfl rfl rfl (Nat.le_of_ble_eq_true rfl) rfl ?_)
    clear hs; intro w hs
    refine RO.done (RX.block ?_)
    replace hs := hs.front (i := 0) rfl
    replace hs := hs.front (i := 5) rfl
    replace hs := hs.front (i := 5) rfl
    replace hs := hs.front (i := 3) rfl
    replace hs := hs.front (i := 5) rfl
    replace hs := hs.front (i := 5) rfl
    refine RX.on hs fun w hs => ⟨rfl, H, _, hs.perm (perA (A := [_, _, _, _, _]) (R := relMem false x rb wb l) (Mo := Mo')).symm, ?_⟩
    refine ⟨hlH.trans hl1, hgood.succ hsol hrd, by omega, _, _, Mo', ?_, ho2, (hch.mono hl1).snoc (hu.mono hl1)⟩
    rw [hLO]
    rfl
  · clear hs
    rintro n H2 M w hlt hsol hrd hs ⟨hlH, hgood, hdn, v, cs, Mo, rfl, ho, hch⟩
    replace hs := hs.perm (perA (A := [_, _, _, _, _]) (R := relMem false x rb wb l) (Mo := Mo))
    rw [hLO] at hs
    refine yieldAt hs rfl (hst.param2 rfl rfl _ _) ?_
    have hle := Hp.le.refl H2
    obtain ⟨b2, c2, rfl⟩ := ho.form
    refine RC.seq (RC.region (RO.step rfl rfl (OR.assign rfl (RO.done (RX.seq (RC.region (RO.step rfl rfl ?_)))))))
    refine OR.assign rfl (RO.done ?_)
    refine RC.assigned hs ?_; clear hs; intro w hs
    refine RC.block (RC.seq (RC.seq (RC.region (RO.step rfl rfl (OR.move rfl (RO.step rfl rfl (OR.neq rfl rfl ?_)))))))
    refine RO.done (RX.seq ?_)
    refine RC.yes rfl (decide_eq_true (by decide)) ?_
    refine RC.seq (RC.region ?_)
    refine RO.step rfl rfl (OR.load T27 rfl rfl (hs.cell (hcell.mono hlH hg9)) ?_)
    refine RO.step rfl rfl (OR.nilCheck rfl (RO.step rfl rfl (OR.fieldAddr FA120_5 rfl ?_)))
    replace hs := hs.front (i := 5) rfl
    refine RO.stepN rfl (OR.store hs T4 rfl rfl rfl (Nat.le_of_ble_eq_true rfl) rfl ?_)
    clear hs; intro w hs
    refine RO.done (RX.seq (RC.seq (RC.region (RO.step rfl rfl (OR.load T40 rfl rfl (hs.cellM (i := 3) rfl rfl) (RO.step rfl rfl (OR.move rfl ?_)))))))
    replace hs := hs.front (i := 5) rfl
    refine RO.stepN rfl (OR.storeAll hs T40 rfl rfl rfl rfl rfl ?_)
    clear hs; intro w hs
    replace hs := hs.front (i := 5) rfl
    refine RO.stepN rfl (OR.storeAll hs T28 rfl rfl rfl rfl rfl ?_)
    clear hs; intro w hs
    refine RO.done (RX.seq (RC.ret (RX.seq_ret (RX.block_ret ?_))))
    replace hs := hs.front (i := 2) rfl
    replace hs := hs.front (i := 2) rfl
    replace hs := hs.front (i := 2) rfl
    replace hs := hs.front (i := 5) rfl
    replace hs := hs.front (i := 5) rfl
    replace hs := hs.front (i := 5) rfl
    refine RX.out hs fun w hs => ⟨⟨_, rfl⟩, ?_⟩
    refine ⟨n, _, _, cs, Mo, hlH, hgood, hlt, hsol, hrd, ho, hch, ?_⟩
    rw [hLO]
    exact hs
  · rintro e w3 ⟨rfl, (⟨n, H3, M3, hstop, hs, hlH, hgood, hdn, v, cs, Mo, rfl, ho, hch⟩ | ⟨n, H3, v, cs, Mo, hlH, hgood, hlt, hsol, hrd, ho, hch, hs⟩)⟩
    · replace hs := hs.perm (perA (A := [_, _, _, _, _]) (R := relMem false x rb wb l) (Mo := Mo))
      rw [hLO] at hs
      refine ⟨⟨_, rfl⟩, H3, _, .ready, none, by decide, hs, fun w hs => ⟨fun _ => ?_, fun c h => by cases h⟩⟩
      obtain ⟨b2, c2, rfl⟩ := ho.form
      have hle := Hp.le.refl H3
      refine WX.block (WX.seq (WC.seq (WC.region (WO.step rfl (OR.load T40 rfl rfl (hs.cellM (i := 2) rfl rfl) ?_)))))
      replace hs := hs.front (i := 4) rfl
      refine WO.stepN (OR.storeAll hs T40 rfl rfl rfl rfl rfl ?_)
      clear hs; intro w hs
      replace hs := hs.front (i := 4) rfl
      refine WO.stepN (OR.storeAll hs T28 rfl rfl rfl rfl rfl ?_)
      clear hs; intro w hs
      refine WO.done (WX.seq (WC.ret ?_))
      replace hs := hs.front (i := 5) rfl
      replace hs := hs.front (i := 2) rfl
      replace hs := hs.front (i := 2) rfl
      replace hs := hs.front (i := 5) rfl
      replace hs := hs.front (i := 4) rfl
      replace hs := hs.front (i := 5) rfl
      refine WX.retM hs fun w hs a ha => ⟨_, results_CC T40 rfl T28 rfl rfl (ha 4 _ rfl) (hs.cellM (i := 4) rfl rfl) (ha 5 _ rfl) (hs.cellM (i := 3) rfl rfl), ?_⟩
      obtain ⟨H4, hle4, hs, hsl, _⟩ := HS.pub (hs.perm (perB (A := [_, _, _, _, _]) (R := relMem false x rb wb l) (Mo := Mo))) ho
      refine ⟨_, H4, [(kb, sinkObj (skD x tot kn false (d0 + n)), true)], rfl, hs.sublist (List.singleton_sublist.2 (by simp)), by simp, n, _, 0, false, rfl, (hch.mono hle4).bytesL hsl, hgood, hdn, rfl, .inl ⟨rfl, rfl, hstop⟩⟩
    · rw [hLO] at hs
      refine ⟨⟨_, rfl⟩, H3, _, .done, some .ret, by decide, hs, fun w hs => ⟨fun h => (by cases h), fun c h => ?_⟩⟩
      cases h
      obtain ⟨b2, c2, rfl⟩ := ho.form
      have hle := Hp.le.refl H3
      refine WC.ret (WX.block_ret (WX.seq_ret ?_))
      replace hs := hs.front (i := 5) rfl
      replace hs := hs.front (i := 5) rfl
      replace hs := hs.front (i := 5) rfl
      replace hs := hs.front (i := 5) rfl
      replace hs := hs.front (i := 4) rfl
      replace hs := hs.front (i := 5) rfl
      refine WX.retM hs fun w hs a ha => ⟨_, results_CC T40 rfl T28 rfl rfl (ha 4 _ rfl) (hs.cellM (i := 4) rfl rfl) (ha 5 _ rfl) (hs.cellM (i := 3) rfl rfl), ?_⟩
      obtain ⟨H4, hle4, hs, hsl, _⟩ := HS.pub (hs.perm (perB (A := [_, _, _, _, _]) (R := relMem false x rb wb l) (Mo := Mo))) ho
      refine ⟨_, H4, [(kb, sinkObj (skD x tot kn true (d0 + n)), true)], rfl, hs.sublist (List.singleton_sublist.2 (by simp)), by simp, n, _, 5, true, rfl, (hch.mono hle4).bytesL hsl, hgood, by omega, rfl, .inr ⟨rfl, rfl, hlt, hsol, hrd⟩⟩
end Go.Bw
namespace Go.Bw
set_option linter.unusedVariables false
set_option linter.unusedSimpArgs false
open Go.Proofs
end Go.Bw
namespace Go.Bw
set_option linter.unusedVariables false
set_option linter.unusedSimpArgs false
open Go.Proofs
theorem HS.relKB {xs : List Nat} {H0 H : Hp} {w0 w : World} {x : RelD} {rb wb kb : Nat} {l : Slots} {A : Mem} {o : Obj} (hs : HS xs H0 w0 H ((kb, o, true) :: (A ++ relMem true x rb wb l)) w) : HS [kb] H w H ((kb, o, true) :: relMem false x rb wb l) w := by
  have hs2 : HS xs H0 w0 H ((kb, o, true) :: (relMem true x rb wb l ++ A)) w := hs.perm (List.Perm.cons _ List.perm_append_comm)
  have hro := HS.relRO (hs2.drop 0)
  refine HS.start [kb] hs.sub (fun b o' t h => ?_) ?_
  · rcases List.mem_cons.1 h with e | h
    · cases e
      have h1 := hs.mem kb o true (by simp)
      exact ⟨h1.1, h1.2.1, fun _ => by simp⟩
    · have h1 := hro.mem b o' t h
      exact ⟨h1.1, h1.2.1, fun ht => by rw [relMem_false h] at ht; cases ht⟩
  · have h1 := hs2.nd
    have e : Mem.keys (relMem false x rb wb l) = Mem.keys (relMem true x rb wb l) := by
      have := slotMem_keys x.g x.s false l
      simp only [Mem.keys] at this
      simp [Mem.keys, relMem, this]
    simp only [Mem.keys, List.map_cons, List.map_append, List.nodup_cons, List.nodup_append, List.mem_append, not_or] at h1 e ⊢
    rw [e]
    exact ⟨h1.1.1, h1.2.1⟩
def relEnd (x : RelD) (d0 n : Nat) (e : Int) (br : Bool) : Prop := (e = 0 ∧ br = false ∧ (d0 + n = 1099511627776 ∨ x.solE (d0 + n) ≠ 0)) ∨ (e = 5 ∧ br = true ∧ d0 + n < 1099511627776 ∧ x.solE (d0 + n) = 0 ∧ rdyE x (d0 + n) ≠ 0)
theorem rel_stop {x : RelD} {d0 n m : Nat} {e : Int} {br : Bool} (hg : goodTo x d0 n) (h : relEnd x d0 n e br) (hm : goodTo x d0 m) (h1 : d0 + m < 1099511627776) (h2 : x.solE (d0 + m) ≠ 0) : n = m ∧ e = 0 ∧ br = false := by
  have e1 : n = m := by
    rcases Nat.lt_trichotomy n m with h3 | h3 | h3
    · have h4 := hm n h3
      rcases h with ⟨_, _, h5 | h5⟩ | ⟨_, _, _, _, h5⟩
      · omega
      · exact absurd h4.1 h5
      · exact absurd h4.2 h5
    · exact h3
    · exact absurd (hg m h3).1 h2
  subst e1
  rcases h with ⟨h3, h4, _⟩ | ⟨_, _, _, h3, _⟩
  · exact ⟨rfl, h3, h4⟩
  · exact absurd h3 h2
end Go.Bw
namespace Go.Bw
set_option linter.unusedVariables false
set_option linter.unusedSimpArgs false
open Go.Proofs
theorem slots_new (H : Hp) (g s width : Nat) : SlotsOk H (newR g s width) (List.replicate 16 none) := by
  refine ⟨by simp, fun i y hy => ?_⟩
  rw [List.getElem?_replicate] at hy
  split at hy
  · obtain rfl := Option.some.inj hy
    rfl
  · cases hy
theorem good1 {x : RelD} {d0 : Nat} (h1 : x.solE (d0 + 0) = 0) (h2 : rdyE x (d0 + 0) = 0) : goodTo x d0 1 := by
  intro i hi
  obtain rfl : i = 0 := by omega
  exact ⟨h1, h2⟩
end Go.Bw
namespace Go.Bw
set_option linter.unusedVariables false
set_option linter.unusedSimpArgs false
open Go.Proofs
-- left out, for this seat has no braidwork/braidworklaw15.SinkKnown: theorem known15_ok (H0
end Go.Bw
