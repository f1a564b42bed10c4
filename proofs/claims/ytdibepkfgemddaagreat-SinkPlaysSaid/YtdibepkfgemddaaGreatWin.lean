/- A window. -/
import Derived.Test.YtdibepkfgemddaaGreatRelD
import Derived.Test.YtdibepkfgemddaaGreatSmall
import Derived.Test.YtdibepkfgemddaaGreatRound
namespace Go.Bw
set_option linter.unusedVariables false
set_option linter.unusedSimpArgs false
open Go.Proofs

def winEnd (base width : Nat) : Nat := min (base + width) 1099511627776
def inWin (base width gen : Nat) : Prop := base ≤ gen ∧ gen < winEnd base width
instance (base width gen : Nat) : Decidable (inWin base width gen) := inferInstanceAs (Decidable (_ ∧ _))
section
variable (wb base width : Nat) (H0 : Hp) (w0 : World)
set_option maxRecDepth 20000 in
set_option maxHeartbeats 2000000 in
theorem wbase_ok (h0 : Sub H0 w0) (hb : w0.heap[wb]? = some (winObj base width)) (hn : H0 wb = none) : Calls Tryz.prog 170 #[ptr wb] w0 (Pure H0 w0 fun v _ => v = .int .u64 (base : Int)) := by
  have hs := HS.startR h0 hb hn
  refine Calls.enter (args := [ptr wb]) Tryz.func170 rfl Tryz.ntmps170 rfl ?_
  refine WC.seq (WC.region (WO.step rfl (OR.assign rfl (WO.done (WX.seq (WC.seq (WC.seq ?_)))))))
  refine WC.region (WO.step rfl (OR.move rfl (WO.step rfl (OR.eqlNilP T123.und rfl rfl (WO.done (WX.seq (WC.no rfl rfl ?_)))))))
  refine WC.skip (WX.seq (WC.seq (WC.region (WO.step rfl (OR.move rfl (WO.step rfl (OR.nilCheck rfl ?_)))))))
  refine WO.step rfl (OR.fieldAddr FA192_0 rfl (WO.step rfl (OR.load T22 rfl rfl (hs.cellM (i := 0) rfl rfl) (WO.step rfl (OR.assign rfl (WO.done (WX.seq ?_)))))))
  refine WC.ret ?_
  refine WX.ret1 rfl rfl ?_
  exact .mk hs rfl
set_option maxRecDepth 20000 in
set_option maxHeartbeats 2000000 in
theorem wwidth_ok (h0 : Sub H0 w0) (hb : w0.heap[wb]? = some (winObj base width)) (hn : H0 wb = none) : Calls Tryz.prog 79 #[ptr wb] w0 (Pure H0 w0 fun v _ => v = .int .i64 (width : Int)) := by
  have hs := HS.startR h0 hb hn
  refine Calls.enter (args := [ptr wb]) Tryz.func79 rfl Tryz.ntmps79 rfl ?_
  refine WC.seq (WC.region (WO.step rfl (OR.assign rfl (WO.done (WX.seq (WC.seq (WC.seq ?_)))))))
  refine WC.region (WO.step rfl (OR.move rfl (WO.step rfl (OR.eqlNilP T123.und rfl rfl (WO.done (WX.seq (WC.no rfl rfl ?_)))))))
  refine WC.skip (WX.seq (WC.seq (WC.region (WO.step rfl (OR.move rfl (WO.step rfl (OR.nilCheck rfl ?_)))))))
  refine WO.step rfl (OR.fieldAddr FA192_1 rfl (WO.step rfl (OR.load T3 rfl rfl (hs.cellM (i := 0) rfl rfl) (WO.step rfl (OR.assign rfl (WO.done (WX.seq ?_)))))))
  refine WC.ret ?_
  refine WX.ret1 rfl rfl ?_
  exact .mk hs rfl
set_option maxRecDepth 20000 in
set_option maxHeartbeats 2000000 in
theorem wend_ok (h0 : Sub H0 w0) (hb : w0.heap[wb]? = some (winObj base width)) (hn : H0 wb = none) (hB : base ≤ 1099511627776) (hW : width ≤ 16) : Calls Tryz.prog 171 #[ptr wb] w0 (Pure H0 w0 fun v _ => v = .int .u64 (winEnd base width : Int)) := by
  have hs := HS.startR h0 hb hn
  have hle := Hp.le.refl H0
  refine Calls.enter (args := [ptr wb]) Tryz.func171 rfl Tryz.ntmps171 rfl ?_
  refine WC.seq (WC.region (WO.step rfl (OR.assign rfl (WO.done (WX.seq (WC.seq (WC.seq ?_)))))))
  refine WC.region (WO.step rfl (OR.move rfl (WO.step rfl (OR.eqlNilP T123.und rfl rfl (WO.done (WX.seq (WC.no rfl rfl ?_)))))))
  refine WC.skip (WX.seq (WC.seq ?_))
  refine WC.draw 9 mixed hs (by kernel_rfl) ?_
  refine ⟨MF.eq _, by intro Mx H w hle hs; refine forVals_nil (ORg.plain (OR.move rfl ?_)); exact ⟨_, [], Hp.le.refl _, hs, rfl, rfl⟩, ?_⟩
  refine ⟨MF.eq _, by intro Mx H w hle hs; refine forVals_eq rfl rfl rfl ?_; refine forVals_nil (ORg.plain (OR.nilCheck rfl ?_)); exact ⟨_, [], Hp.le.refl _, hs, rfl, rfl⟩, ?_⟩
  refine ⟨MF.eq _, by intro Mx H w hle hs; refine forVals_eq rfl rfl rfl ?_; refine forVals_nil (ORg.plain (OR.fieldAddr FA192_0 rfl ?_)); exact ⟨_, [], Hp.le.refl _, hs, rfl, rfl⟩, ?_⟩
  refine ⟨MF.eq _, by intro Mx H w hle hs; refine forVals_eq rfl rfl rfl ?_; refine forVals_nil (ORg.plain (OR.load T22 rfl rfl (hs.right.cellM (i := 0) rfl rfl) ?_)); exact ⟨_, [], Hp.le.refl _, hs, rfl, rfl⟩, ?_⟩
  refine ⟨MF.eq _, by intro Mx H w hle hs; refine forVals_nil (ORg.plain (OR.move rfl ?_)); exact ⟨_, [], Hp.le.refl _, hs, rfl, rfl⟩, ?_⟩
  refine ⟨MF.eq _, by intro Mx H w hle hs; refine forVals_eq rfl rfl rfl ?_; refine forVals_nil (ORg.plain (OR.nilCheck rfl ?_)); exact ⟨_, [], Hp.le.refl _, hs, rfl, rfl⟩, ?_⟩
  refine ⟨MF.eq _, by intro Mx H w hle hs; refine forVals_eq rfl rfl rfl ?_; refine forVals_nil (ORg.plain (OR.fieldAddr FA192_1 rfl ?_)); exact ⟨_, [], Hp.le.refl _, hs, rfl, rfl⟩, ?_⟩
  refine ⟨MF.eq _, by intro Mx H w hle hs; refine forVals_eq rfl rfl rfl ?_; refine forVals_nil (ORg.plain (OR.load T3 rfl rfl (hs.right.cellM (i := 0) rfl rfl) ?_)); exact ⟨_, [], Hp.le.refl _, hs, rfl, rfl⟩, ?_⟩
  refine ⟨MF.eq (.int .u64 (width : Int)), ?_, ?_⟩
  · intro Mx H w hle2 hs; (try replace hle := hle.trans hle2); (try replace hlb := hlb.trans hle2); refine forVals_eq rfl rfl rfl ?_
    refine forVals_nil (ORg.plain (OR.convI T3.und T22.und rfl ?_))
    exact ⟨_, [], Hp.le.refl _, hs, (by rw [u64_wrap _ (by omega)]), rfl⟩
  intro H w hle2; (try replace hle := hle.trans hle2); (try replace hlb := hlb.trans hle2)
  refine forAllVals_eq rfl ?_
  refine forAllVals_eq rfl ?_
  refine forAllVals_eq rfl ?_
  refine forAllVals_eq rfl ?_
  refine forAllVals_eq rfl ?_
  refine forAllVals_eq rfl ?_
  refine forAllVals_eq rfl ?_
  refine forAllVals_eq rfl ?_
  refine forAllVals_eq rfl ?_
  refine forAllVals_nil ?_; (try clear hs); intro hs
  refine WO.step rfl (OR.add rfl rfl ?_)
  rw [show IntKind.u64.wrap ((base : Int) + (width : Int)) = ((base + width : Nat) : Int) from u64_wrap (base + width) (by omega)]
  refine WO.step rfl (OR.minI rfl rfl ?_)
  refine WO.step rfl (OR.assign rfl (WO.done (WX.seq (WC.ret ?_))))
  refine WX.ret1 rfl rfl ?_
  refine .mk hs ?_
  unfold winEnd
  congr 1
  split <;> omega
set_option maxRecDepth 20000 in
set_option maxHeartbeats 2000000 in
theorem win_ok (gen : Nat) (h0 : Sub H0 w0) (hb : w0.heap[wb]? = some (winObj base width)) (hn : H0 wb = none) (hB : base ≤ 1099511627776) (hW : width ≤ 16) : Calls Tryz.prog 135 #[ptr wb, .int .u64 (gen : Int)] w0 (Pure H0 w0 fun v _ => v = .bool (decide (inWin base width gen))) := by
  have hs := HS.startR h0 hb hn
  have hle := Hp.le.refl H0
  refine Calls.enter (args := [ptr wb, .int .u64 (gen : Int)]) Tryz.func135 rfl Tryz.ntmps135 rfl ?_
  refine WC.seq (WC.region (WO.step rfl (OR.assign rfl (WO.done (WX.seq (WC.seq (WC.region ?_)))))))
  refine WO.step rfl (OR.move rfl (WO.step rfl (OR.move rfl ?_)))
  refine WO.step rfl (OR.call hs body170 rfl rfl (wbase_ok wb base width _ _ hs.toSub (hs.blk (i := 0) rfl) (hs.nh (i := 0) rfl)) ?_)
  clear hs; rintro _ H w hs hle1 rfl; replace hle := hle.trans hle1; (try replace hlb := hlb.trans hle1)
  refine WO.step rfl (OR.geq rfl rfl (WO.step rfl (OR.move rfl ?_)))
  refine WO.guardSplit (j := 4) rfl (fun hg => ?_) (fun hg => ?_)
  · refine WO.guardYes rfl (decide_eq_true hg) rfl rfl (OR.move rfl (WO.guardYes rfl (decide_eq_true hg) rfl rfl (OR.move rfl ?_)))
    refine WO.guardYes rfl (decide_eq_true hg) rfl rfl (OR.call hs body171 rfl rfl (wend_ok wb base width _ _ hs.toSub (hs.blk (i := 0) rfl) (hs.nh (i := 0) rfl) hB hW) ?_)
    clear hs; rintro _ H w hs hle1 rfl; replace hle := hle.trans hle1; (try replace hlb := hlb.trans hle1)
    refine WO.guardYes rfl (decide_eq_true hg) rfl rfl (OR.lss rfl rfl (WO.step rfl (OR.pickT rfl (decide_eq_true hg) rfl (WO.step rfl (OR.assign rfl (WO.done (WX.seq ?_)))))))
    refine WC.ret ?_
    refine WX.ret1 rfl rfl ?_
    refine .mk (hs.drop 0) ?_
    congr 1
    rw [decide_eq_decide]
    constructor
    · intro h; exact ⟨by omega, by omega⟩
    · intro h; have := h.2; omega
  · refine WO.guardNo rfl (decide_eq_false hg) rfl rfl (WO.guardNo rfl (decide_eq_false hg) rfl rfl (WO.guardNo rfl (decide_eq_false hg) rfl rfl (WO.guardNo rfl (decide_eq_false hg) rfl rfl (WO.step rfl (OR.pickF rfl (decide_eq_false hg) rfl (WO.step rfl (OR.assign rfl ?_)))))))
    refine WO.done (WX.seq (WC.ret ?_))
    refine WX.ret1 rfl rfl ?_
    refine .mk (hs.drop 0) ?_
    rw [decide_eq_false (fun h => hg (by have := h.1; omega))]
set_option maxRecDepth 20000 in
set_option maxHeartbeats 2000000 in
theorem wslot_ok (gen : Nat) (h0 : Sub H0 w0) (hb : w0.heap[wb]? = some (winObj base width)) (hn : H0 wb = none) (hB : base ≤ 1099511627776) (hW : width ≤ 16) (hW1 : 1 ≤ width) (hg : gen < 18446744073709551616) : Calls Tryz.prog 118 #[ptr wb, .int .u64 (gen : Int)] w0 (Pure H0 w0 fun v _ => v = .tuple #[.int .i64 (if inWin base width gen then ((gen % width : Nat) : Int) else 0), .int .i64 (if inWin base width gen then 0 else 1)]) := by
  have hs := HS.startR h0 hb hn
  have hle := Hp.le.refl H0
  refine Calls.enter (args := [ptr wb, .int .u64 (gen : Int)]) Tryz.func118 rfl Tryz.ntmps118 rfl ?_
  refine WC.seq (WC.region (WO.step rfl (OR.assign rfl (WO.step rfl (OR.assign rfl (WO.done (WX.seq ?_)))))))
  refine WC.seq (WC.block (WC.seq (WC.region (WO.step rfl (OR.move rfl ?_)))))
  refine WO.step rfl (OR.call hs body79 rfl rfl (wwidth_ok wb base width _ _ hs.toSub (hs.blk (i := 0) rfl) (hs.nh (i := 0) rfl)) ?_)
  clear hs; rintro _ H w hs hle1 rfl; replace hle := hle.trans hle1; (try replace hlb := hlb.trans hle1)
  refine WO.step rfl (OR.eql rfl rfl (WO.step rfl (OR.assign rfl (WO.done (WX.seq ?_)))))
  refine WC.no rfl (decide_eq_false (by omega)) ?_
  refine WC.seq (WC.region (WO.step rfl (OR.move rfl (WO.step rfl (OR.move rfl ?_)))))
  refine WO.step rfl (OR.call hs body135 rfl rfl (win_ok wb base width _ _ gen hs.toSub (hs.blk (i := 0) rfl) (hs.nh (i := 0) rfl) hB hW) ?_)
  clear hs; rintro _ H w hs hle1 rfl; replace hle := hle.trans hle1; (try replace hlb := hlb.trans hle1)
  by_cases hin : inWin base width gen
  · rw [decide_eq_true hin, if_pos hin, if_pos hin]
    refine WO.step rfl (OR.not rfl (WO.step rfl (OR.assign rfl (WO.done (WX.seq ?_)))))
    refine WC.no rfl rfl ?_
    refine WC.skip (WX.block (WX.seq (WC.seq (WC.region (WO.step rfl (OR.move rfl (WO.step rfl ?_)))))))
    refine OR.move rfl (WO.step rfl (OR.nilCheck rfl (WO.step rfl (OR.fieldAddr FA192_1 rfl (WO.step rfl (OR.load T3 rfl rfl (hs.cellM (i := 0) rfl rfl) ?_))))))
    refine WO.step rfl (OR.convI T3.und T22.und rfl ?_)
    rw [u64_wrap _ (by omega)]
    refine WO.step rfl (OR.rem rfl rfl (by omega) ?_)
    rw [← Int.ofNat_tmod]
    have hlt := Nat.mod_lt gen (by omega : 0 < width)
    refine WO.step rfl (OR.convI T22.und T3.und rfl ?_)
    rw [IntWalk.i64_in ((gen % width : Nat) : Int) (by omega)]
    refine WO.step rfl (OR.assign rfl (WO.step rfl (OR.assign rfl (WO.done (WX.seq (WC.ret ?_))))))
    refine WX.ret2 rfl rfl rfl ?_
    exact .mk (hs.drop 0) rfl
  · rw [decide_eq_false hin, if_neg hin, if_neg hin]
    refine WO.step rfl (OR.not rfl (WO.step rfl (OR.assign rfl (WO.done (WX.seq ?_)))))
    refine WC.yes rfl rfl ?_
    refine WC.seq (WC.region (WO.step rfl (OR.assign rfl (WO.step rfl (OR.assign rfl (WO.done (WX.seq ?_)))))))
    refine WC.ret (WX.block_ret (WX.seq_ret ?_))
    refine WX.ret2 rfl rfl rfl ?_
    exact .mk (hs.drop 0) rfl
end
set_option maxRecDepth 20000 in
set_option maxHeartbeats 2000000 in
theorem wnewW_ok (width : Int) (H0 : Hp) (w0 : World) (h0 : Sub H0 w0) :
    Calls Tryz.prog 64 #[.int .i64 width] w0 (Ret [] H0 w0 fun v H' M' => H' = H0 ∧ if 1 ≤ width ∧ width ≤ 16 then ∃ b, v = .tuple #[ptr b, .int .i64 0] ∧ M' = [(b, winObj 0 width.toNat, true)] else v = .tuple #[.pointer none, .int .i64 1] ∧ M' = []) := by
  have hs := HS.init h0
  have hle := Hp.le.refl H0
  refine Calls.enter (args := [.int .i64 width]) Tryz.func64 rfl Tryz.ntmps64 rfl ?_
  refine WC.seq (WC.region (WO.step rfl (OR.assign rfl (WO.step rfl (OR.assign rfl (WO.done (WX.seq ?_)))))))
  refine WC.seq (WC.seq (WC.region (WO.step rfl (OR.move rfl (WO.step rfl (OR.lss rfl rfl (WO.step rfl ?_)))))))
  refine OR.move rfl ?_
  refine WO.guardSplit (j := 2) rfl (fun hg => ?_) (fun hg => ?_)
  · refine WO.guardNo rfl (decide_eq_true hg) rfl rfl (WO.guardNo rfl (decide_eq_true hg) rfl rfl (WO.step rfl (OR.pickT rfl (decide_eq_true hg) rfl (WO.done (WX.seq (WC.yes rfl rfl (WC.seq ?_)))))))
    refine WC.region (WO.step rfl (OR.assign rfl (WO.step rfl (OR.assign rfl (WO.done (WX.seq (WC.ret ?_)))))))
    refine WX.seq_ret ?_
    refine WX.ret2 rfl rfl rfl ?_
    refine ⟨_, _, [], rfl, hs, by simp, rfl, ?_⟩
    rw [if_neg (by omega)]
    exact ⟨rfl, rfl⟩
  · refine WO.guardYes rfl (decide_eq_false hg) rfl rfl (OR.move rfl (WO.guardYes rfl (decide_eq_false hg) rfl rfl (OR.gtr rfl rfl (WO.step rfl (OR.pickF rfl (decide_eq_false hg) rfl (WO.done (WX.seq ?_)))))))
    refine WC.condD rfl (fun hbig => ?_) (fun hbig => ?_)
    · refine WC.seq (WC.region (WO.step rfl (OR.assign rfl (WO.step rfl (OR.assign rfl (WO.done (WX.seq ?_)))))))
      refine WC.ret (WX.seq_ret ?_)
      refine WX.ret2 rfl rfl rfl ?_
      refine ⟨_, _, [], rfl, hs, by simp, rfl, ?_⟩
      rw [if_neg (by omega)]
      exact ⟨rfl, rfl⟩
    · refine WC.skip (WX.seq (WC.seq (WC.region (WO.step rfl (OR.move rfl ?_)))))
      refine WO.step rfl (OR.build (cs := #[.int .u64 0, .int .i64 width]) rfl (by intro w; kernel_rfl) ?_)
      refine WO.step rfl (OR.box hs rfl ?_)
      clear hs; intro g1 w hg1 hs
      refine WO.step rfl (OR.assign rfl (WO.step rfl (OR.assign rfl (WO.done (WX.seq (WC.ret ?_))))))
      refine WX.ret2 rfl rfl rfl ?_
      refine ⟨_, _, [_], rfl, hs, by simp, rfl, ?_⟩
      rw [if_pos (by omega)]
      obtain ⟨n, rfl⟩ := Int.eq_ofNat_of_zero_le (show 0 ≤ width by omega)
      exact ⟨g1, rfl, rfl⟩
end Go.Bw
namespace Go.Bw
set_option linter.unusedVariables false
set_option linter.unusedSimpArgs false
open Go.Proofs

set_option maxRecDepth 20000 in
set_option maxHeartbeats 2000000 in
theorem weach_ok (wb base width lp : Nat) (t : Bool) (xs : List Nat) (H0 : Hp) (w0 : World) (hB : base ≤ 1099511627776) (hWd : width ≤ 16) (I : Nat → Hp → Mem → Prop) (hI : ∀ k H H' M, Hp.le H H' → I k H M → I k H' M) (Cx : World → Prop)
    (hround : ∀ k H M w, k < winEnd base width - base → HS xs H0 w0 H ((wb, winObj base width, t) :: M) w → I k H M → YieldAt (fen none) 0 Tryz.prog lp #[.int .u64 ((base + k : Nat) : Int)] w (fun e w' =>
      (e = .returned (.bool true) ∧ ∃ H' M', HS xs H0 w0 H' ((wb, winObj base width, t) :: M') w' ∧ I (k + 1) H' M') ∨ (e = .returned (.bool false) ∧ Cx w')))
    (H1 : Hp) (M1 : Mem) (w1 : World) (hs : HS xs H0 w0 H1 ((wb, winObj base width, t) :: M1) w1) (h0 : I 0 H1 M1) :
    Calls Tryz.prog 134 #[ptr wb, .func (.yield lp) #[] #[]] w1 (fun e w' => e = .returned (.tuple #[]) ∧ ((∃ H' M', HS xs H0 w0 H' ((wb, winObj base width, t) :: M') w' ∧ I (winEnd base width - base) H' M') ∨ Cx w')) := by
  have hle := Hp.le.refl H1
  have hle9 : winEnd base width ≤ 1099511627776 := Nat.min_le_right _ _
  refine Calls.enter (args := [ptr wb, .func (.yield lp) #[] #[]]) Tryz.func134 rfl Tryz.ntmps134 rfl ?_
  refine WC.seq (WC.region (WO.step rfl (OR.move rfl ?_)))
  refine WO.step rfl (OR.call hs body170 rfl rfl (wbase_ok wb base width _ _ hs.toSub (hs.blk (i := 0) rfl) (hs.nh (i := 0) rfl)) ?_)
  clear hs; rintro _ H w hs hle1 rfl; replace hle := hle.trans hle1; (try replace hlb := hlb.trans hle1)
  refine WO.step rfl (OR.assign rfl (WO.done (WX.seq (WC.block ?_))))
  refine WC.loop (ι := Nat) (fun k => [(0, ptr wb), (1, .func (.yield lp) #[] #[]), (4, .int .u64 ((base + k : Nat) : Int))]) (fun k w => (base + k ≤ max base (winEnd base width) ∧ ∃ H M, HS xs H0 w0 H ((wb, winObj base width, t) :: M) w ∧ I k H M)) (fun k => winEnd base width - base - k) 0 ⟨rfl, rfl, rfl,  trivial⟩ ?_ (fun k w hW => ?_)
  · exact ⟨by omega, H, M1, hs, hI _ _ _ _ hle h0⟩
  clear hs hle hle1
  obtain ⟨hk, H, M, hs, hinv⟩ := hW
  have hle := Hp.le.refl H
  refine WC.seq (WC.seq ?_)
  refine WC.regionR ?_
  refine RO.step rfl rfl (OR.move rfl (RO.step rfl rfl (OR.move rfl ?_)))
  refine RO.step rfl rfl (OR.call hs body171 rfl rfl (wend_ok wb base width _ _ hs.toSub (hs.blk (i := 0) rfl) (hs.nh (i := 0) rfl) hB hWd) ?_)
  clear hs; rintro _ H w hs hle1 rfl; replace hle := hle.trans hle1; (try replace hlb := hlb.trans hle1)
  refine RO.step rfl rfl (OR.lss rfl rfl (RO.step rfl rfl (OR.move rfl ?_)))
  refine RO.guardSplit (j := 4) rfl (fun hlt => ?_) (fun hlt => ?_)
  · have hk2 : k < winEnd base width - base := by omega
    refine RO.guardYes rfl (decide_eq_true hlt) rfl rfl rfl (OR.move rfl (RO.guardYes rfl (decide_eq_true hlt) rfl rfl rfl (OR.move rfl ?_)))
    refine RO.yieldG rfl (decide_eq_true hlt) rfl rfl rfl rfl (hround k _ _ _ hk2 hs (hI _ _ _ _ hle hinv)) ?_
    rintro e w hC
    clear hs
    rcases hC with ⟨rfl, H2, M2, hs, hinv2⟩ | ⟨rfl, hx⟩
    · refine ⟨_, rfl, ?_⟩
      refine RO.step rfl rfl (OR.pickT rfl (decide_eq_true hlt) rfl ?_)
      refine RO.doneW ?_
      refine WX.seq ?_
      refine WC.yes rfl rfl ?_
      refine WC.skip (WX.seq (WC.seq (WC.block (WC.skip (WX.block (WX.seq (WC.region ?_)))))))
      refine WO.step rfl (OR.move rfl ?_)
      refine WO.step rfl (OR.add rfl rfl ?_)
      rw [show IntKind.u64.wrap (((base + k : Nat) : Int) + 1) = ((base + (k + 1) : Nat) : Int) from u64_wrap (base + (k + 1)) (by omega)]
      refine WO.step rfl (OR.assign rfl (WO.done ?_))
      refine WX.again (k + 1) ⟨rfl, rfl, rfl,  trivial⟩ ?_ ?_
      · exact ⟨by omega, H2, M2, hs, hinv2⟩
      · omega
    · refine ⟨_, rfl, ?_⟩
      refine RO.step rfl rfl (OR.pickT rfl (decide_eq_true hlt) rfl ?_)
      refine RO.doneW ?_
      refine WX.seq ?_
      refine WC.no rfl rfl ?_
      refine WC.exit (WX.seq_exit (WX.loop_exit (WX.block_hit ?_)))
      refine WX.end0 rfl ?_
      exact ⟨rfl, .inr hx⟩
  · refine RO.guardNo rfl (decide_eq_false hlt) rfl rfl (RO.guardNo rfl (decide_eq_false hlt) rfl rfl (RO.guardNo rfl (decide_eq_false hlt) rfl rfl (RO.step rfl rfl (OR.pickF rfl (decide_eq_false hlt) rfl ?_))))
    refine RO.doneW ?_
    refine WX.seq (WC.no rfl rfl (WC.exit (WX.seq_exit (WX.loop_exit (WX.block_hit ?_)))))
    refine WX.end0 rfl ?_
    have e : k = winEnd base width - base := by omega
    subst e
    exact ⟨rfl, .inl ⟨_, _, hs, hI _ _ _ _ hle hinv⟩⟩

/-- Whole numbers in a slice. -/
def Nums (H : Hp) (v : Value) (l : List Nat) : Prop := Sl H 1 v l.length (l.map fun n : Nat => Value.int .u64 (n : Int))
theorem Nums.mono {H H' : Hp} {v : Value} {l : List Nat} (h : Nums H v l) (hle : Hp.le H H') : Nums H' v l := Sl.mono h hle
def numsC (l : List Nat) : List Value := l.map fun n : Nat => Value.int .u64 (n : Int)
theorem nums_one (l : List Nat) : (numsC l).all (·.oneCell') = true := by
  rw [List.all_eq_true]
  intro u hu
  obtain ⟨n, _, rfl⟩ := List.mem_map.1 hu
  rfl
/-- The numbers that are in a window. -/
def winNums (base n : Nat) : List Nat := (List.range n).map fun k => base + k
theorem winNums_succ (base n : Nat) : winNums base (n + 1) = winNums base n ++ [base + n] := by
  unfold winNums
  rw [List.range_succ, List.map_append]
  rfl
set_option maxRecDepth 20000 in
set_option maxHeartbeats 2000000 in
theorem appendSeq_ok (wb base width : Nat) (H0 : Hp) (w0 : World) (h0 : Sub H0 w0) (hb : w0.heap[wb]? = some (winObj base width)) (hn : H0 wb = none) (hB : base ≤ 1099511627776) (hWd : width ≤ 16) :
    Calls Tryz.prog 181 #[.slice none 0 0, .func (.func 134) #[ptr wb] #[]] w0 (Pure H0 w0 fun v H' => Nums H' v (winNums base (winEnd base width - base))) := by
  have hs := HS.startR h0 hb hn
  have hle := Hp.le.refl H0
  refine Calls.enterM (args := [.slice none 0 0, .func (.func 134) #[ptr wb] #[]]) Tryz.func181 rfl Tryz.ntmps181 rfl ?_
  refine WC.seq (WC.region (WO.step rfl (OR.box hs rfl ?_)))
  clear hs; intro g1 w hg1 hs
  refine WO.step rfl (OR.assign rfl (WO.done (WX.seq (WC.seq (WC.seq (WC.region (WO.step rfl ?_)))))))
  refine OR.move rfl (WO.done (WX.seq (WC.block ?_)))
  refine WC.rangeFunc (fl := [ptr wb]) (lb := []) hs rfl body134 ?_
  clear hs; intro fn tmps D lp w hD hlp hst hs
  refine (weach_ok wb base width lp false [] H0 w0 hB hWd (fun k H M => ∃ v Mo, M = (lp, loopObj .ready none fn tmps _ _ _ D, true) :: (D, .deferred (some []), true) :: (g1, .cells #[v] 152, true) :: Mo ∧ Own w0.heap.size 22 1 v k (numsC (winNums base k)) Mo) (fun k H H' M _ h => h) (fun _ => False) ?_ H0 _ w ((hs.front (i := 3) rfl)) ⟨_, [], rfl, Own.nil _ _ _⟩).mono ?_
  · clear hs
    rintro k H M w hk hs ⟨v, Mo, rfl, ho⟩
    replace hs := hs.front (i := 1) rfl
    refine yieldAt hs rfl (hst.param1 rfl _) ?_
    have hle := Hp.le.refl H
    have hlen : (numsC (winNums base k)).length = k * 1 := by simp [numsC, winNums]
    have hk9 : k ≤ 16 := by have : winEnd base width ≤ base + width := Nat.min_le_left _ _; omega
    refine RC.region (RO.step rfl rfl (OR.assign rfl (RO.done ?_)))
    refine RC.assigned hs ?_; clear hs; intro w hs
    obtain ⟨bo, co, rfl⟩ := ho.form
    refine RC.block (RC.region (RO.step rfl rfl (OR.load T152 rfl rfl (hs.cellM (i := 3) rfl rfl) (RO.step rfl rfl (OR.move rfl ?_)))))
    refine RO.step rfl rfl (OR.buildSlice (vs := [_]) hs T152.und T22 rfl rfl rfl rfl (by simp) ?_)
    clear hs; intro q1 w hq1 hs
    obtain ⟨H, hle1, hp_q1, hs9⟩ := hs.pub1 hq1; clear hs; have hs := hs9; clear hs9; replace hle := hle.trans hle1; (try replace hlb := hlb.trans hle1)
    have hone : Nums H (.slice (some ⟨q1, 0, none⟩) 1 1) [base + k] := Sl.block hp_q1 rfl rfl (by simp)
    refine RO.step rfl rfl (OR.append (m := 1) (news := numsC [base + k]) (Mo := Mo) (M := [_, _, _, _]) (HS.mtail (A := [_, _, _, _]) hs) ho T152.und T22 rfl (by omega) rfl rfl rfl (Sl.src hone hs) (Sl.src0 hone) (nums_one _) (by omega) (by omega) ?_)
    clear hs ho; intro v' w Mo' hs ho hge
    replace hs := HS.mtail (B := [_, _, _, _]) hs
    obtain ⟨bo2, co2, rfl⟩ := ho.form
    replace hs := hs.front (i := 3) rfl
    refine RO.stepN rfl (OR.storeAll hs T152 rfl rfl rfl rfl rfl ?_)
    clear hs; intro w hs
    refine RO.done (RX.block ?_)
    replace hs := hs.front (i := 1) rfl
    refine RX.on hs fun w hs => ?_
    replace hs := hs.front (i := 1) rfl
    replace hs := hs.front (i := 3) rfl
    replace hs := hs.front (i := 2) rfl
    replace hs := hs.front (i := 3) rfl
    refine .inl ⟨rfl, H, _, hs, _, Mo', rfl, ?_⟩
    rw [winNums_succ]
    have e : numsC (winNums base k ++ [base + k]) = numsC (winNums base k) ++ numsC [base + k] := by simp [numsC]
    rw [e]
    exact ho
  · rintro e w3 ⟨rfl, (⟨H3, M3, hs, v, Mo, rfl, ho⟩ | h)⟩
    · refine ⟨⟨_, rfl⟩, H3, _, .ready, none, by decide, hs.front (i := 1) rfl, fun w hs => ⟨fun _ => ?_, fun c h => by cases h⟩⟩
      refine WX.block (WX.seq (WC.seq (WC.region (WO.step rfl (OR.load T152 rfl rfl (hs.cellM (i := 3) rfl rfl) (WO.step rfl (OR.assign rfl ?_)))))))
      refine WO.done (WX.seq (WC.ret ?_))
      replace hs := hs.front (i := 2) rfl
      refine WX.retM hs fun w hs a ha => ⟨_, results_tmp rfl a.tmps _ w, ?_⟩
      rw [ha 4 _ rfl]
      obtain ⟨H4, hle4, hs, hsl, _⟩ := HS.pub (HS.mtail (A := [_, _, _, _]) hs) ho
      have hl : (winNums base (winEnd base width - base)).length = winEnd base width - base := by simp [winNums]
      refine .mk ((((hs.drop 0).drop 0).drop 0).drop 0) ?_
      unfold Nums
      rw [hl]
      exact hsl
    · exact h.elim
end Go.Bw
namespace Go.Bw
set_option linter.unusedVariables false
set_option linter.unusedSimpArgs false
open Go.Proofs

set_option maxRecDepth 20000 in
set_option maxHeartbeats 2000000 in
theorem wall_ok (wb base width : Nat) (H0 : Hp) (w0 : World) (h0 : Sub H0 w0) (hb : w0.heap[wb]? = some (winObj base width)) (hn : H0 wb = none) (hB : base ≤ 1099511627776) (hWd : width ≤ 16) :
    Calls Tryz.prog 141 #[ptr wb] w0 (Pure H0 w0 fun v H' => Nums H' v (winNums base (winEnd base width - base))) := by
  have hs := HS.startR h0 hb hn
  have hle := Hp.le.refl H0
  have hcol : ∀ (H0 : Hp) (w0 : World), Sub H0 w0 → w0.heap[wb]? = some (winObj base width) → H0 wb = none → Calls Tryz.prog 174 #[.func (.func 134) #[ptr wb] #[]] w0 (Pure H0 w0 fun v H' => Nums H' v (winNums base (winEnd base width - base))) := by
    intro H0 w0 h0 hb hn
    have hs := HS.startR h0 hb hn
    have hle := Hp.le.refl H0
    refine Calls.enter (args := [.func (.func 134) #[ptr wb] #[]]) Tryz.func174 rfl Tryz.ntmps174 rfl ?_
    refine WC.seq (WC.region (WO.step rfl (OR.assign rfl (WO.done (WX.seq (WC.seq (WC.region ?_)))))))
    refine WO.step rfl (OR.move rfl ?_)
    refine WO.step rfl (OR.call hs body181 rfl rfl (appendSeq_ok wb base width _ _ hs.toSub (hs.blk (i := 0) rfl) (hs.nh (i := 0) rfl) hB hWd) ?_)
    clear hs; rintro _ H w hs hle1 hr; replace hle := hle.trans hle1; (try replace hlb := hlb.trans hle1)
    refine WO.step rfl (OR.assign rfl (WO.done (WX.seq (WC.ret ?_))))
    refine WX.ret1 rfl rfl ?_
    exact .mk (hs.drop 0) hr
  refine Calls.enter (args := [ptr wb]) Tryz.func141 rfl Tryz.ntmps141 rfl ?_
  refine WC.seq (WC.region (WO.step rfl (OR.assign rfl (WO.done (WX.seq (WC.seq (WC.region ?_)))))))
  refine WO.step rfl (OR.move rfl (WO.step rfl (OR.makeFunc rfl rfl ?_)))
  refine WO.step rfl (OR.call hs body174 rfl rfl (hcol _ _ hs.toSub (hs.blk (i := 0) rfl) (hs.nh (i := 0) rfl)) ?_)
  clear hs; rintro _ H w hs hle1 hr; replace hle := hle.trans hle1; (try replace hlb := hlb.trans hle1)
  refine WO.step rfl (OR.assign rfl (WO.done (WX.seq (WC.ret ?_))))
  refine WX.ret1 rfl rfl ?_
  exact .mk (hs.drop 0) hr

/-- What falls out of a window. -/
def winGone (base width nb k : Nat) : List Nat := (winNums base k).filter fun n => !decide (inWin nb width n)
theorem winGone_succ (base width nb k : Nat) : winGone base width nb (k + 1) = winGone base width nb k ++ (if inWin nb width (base + k) then [] else [base + k]) := by
  unfold winGone
  rw [winNums_succ, List.filter_append]
  congr 1
  by_cases h : inWin nb width (base + k)
  · simp [h]
  · simp [h]
theorem winGone_len (base width nb k : Nat) : (winGone base width nb k).length ≤ k := by
  refine Nat.le_trans (List.length_filter_le _ _) ?_
  simp [winNums]
set_option maxRecDepth 20000 in
set_option maxHeartbeats 2000000 in
theorem wmove_ok (wb base width nb : Nat) (H0 : Hp) (w0 : World) (h0 : Sub H0 w0) (hb : w0.heap[wb]? = some (winObj base width)) (hn : H0 wb = none) (hB : base ≤ 1099511627776) (hWd : width ≤ 16) (hW1 : 1 ≤ width) (hnb : nb < 18446744073709551616) :
    Calls Tryz.prog 78 #[ptr wb, .int .u64 (nb : Int)] w0 (Ret [wb] H0 w0 fun v H' M' => if nb ≤ 1099511627776 then ∃ r, v = .tuple #[r, .int .i64 0] ∧ Nums H' r (winGone base width nb (winEnd base width - base)) ∧ M' = [(wb, winObj nb width, true)]
      else v = .tuple #[.slice none 0 0, .int .i64 1] ∧ M' = [(wb, winObj base width, true)]) := by
  have hs := HS.start1 h0 hb hn
  have hle := Hp.le.refl H0
  refine Calls.enterM (args := [ptr wb, .int .u64 (nb : Int)]) Tryz.func78 rfl Tryz.ntmps78 rfl ?_
  refine WC.seq (WC.region (WO.step rfl (OR.assign rfl (WO.step rfl (OR.assign rfl (WO.done (WX.seq ?_)))))))
  refine WC.seq (WC.block (WC.seq (WC.region (WO.step rfl (OR.move rfl ?_)))))
  refine WO.step rfl (OR.call hs body79 rfl rfl (wwidth_ok wb base width _ _ hs.toSub (hs.blk (i := 0) rfl) (hs.nh (i := 0) rfl)) ?_)
  clear hs; rintro _ H w hs hle1 rfl; replace hle := hle.trans hle1; (try replace hlb := hlb.trans hle1)
  refine WO.step rfl (OR.eql rfl rfl (WO.step rfl (OR.assign rfl (WO.done (WX.seq ?_)))))
  refine WC.no rfl (decide_eq_false (by omega)) ?_
  refine WC.seq (WC.region (WO.step rfl (OR.move rfl (WO.step rfl (OR.gtr rfl rfl (WO.step rfl (OR.assign rfl ?_)))))))
  refine WO.done (WX.seq ?_)
  refine WC.condD rfl (fun hbig => ?_) (fun hbig => ?_)
  · refine WC.seq (WC.region (WO.step rfl (OR.assign rfl (WO.step rfl (OR.assign rfl (WO.done (WX.seq ?_)))))))
    refine WC.ret (WX.block_ret (WX.seq_ret ?_))
    refine WX.retM0 fun a ha => ⟨_, results_tmp2 rfl a.tmps _ w, ?_⟩
    rw [ha 4 _ rfl, ha 5 _ rfl]
    refine ⟨_, _, _, rfl, hs, by simp, ?_⟩
    show ite _ _ _
    rw [if_neg (by omega)]
    exact ⟨rfl, rfl⟩
  · have hnb2 : nb ≤ 1099511627776 := by omega
    refine WC.skip (WX.block (WX.seq (WC.seq (WC.region (WO.step rfl (OR.move rfl (WO.step rfl ?_)))))))
    refine OR.move rfl (WO.step rfl (OR.nilCheck rfl (WO.step rfl (OR.fieldAddr FA192_1 rfl (WO.step rfl (OR.load T3 rfl rfl (hs.cellM (i := 0) rfl rfl) (WO.step rfl ?_)))))))
    refine OR.buildAll T192 rfl rfl PL192 rfl rfl (WO.step rfl (OR.box hs rfl ?_))
    clear hs; intro g1 w hg1 hs
    refine WO.step rfl (OR.alloc hs T123 ?_)
    clear hs; intro g2 w hg2 hs
    refine WO.stepN (OR.storeAll hs T123 rfl rfl rfl rfl rfl ?_)
    clear hs; intro w hs
    refine WO.done (WX.seq (WC.seq (WC.region (WO.step rfl (OR.alloc hs T152 ?_)))))
    clear hs; intro g3 w hg3 hs
    refine WO.done (WX.seq (WC.seq (WC.seq (WC.region (WO.step rfl (OR.move rfl (WO.step rfl ?_)))))))
    refine OR.makeFunc rfl rfl (WO.done (WX.seq (WC.block ?_)))
    refine WC.rangeFunc (fl := [ptr wb]) (lb := []) hs rfl body134 ?_
    clear hs; intro fn tmps D lp w hD hlp hst hs
    refine (weach_ok wb base width lp true [wb] H0 w0 hB hWd (fun k H M => Hp.le H0 H ∧ ∃ v Mo, M = (lp, loopObj .ready none fn tmps _ _ _ D, true) :: (D, .deferred (some []), true) :: (g3, .cells #[v] 152, true) :: (g2, .cells #[ptr g1] 123, true) :: (g1, winObj nb width, true) :: Mo ∧ Own w0.heap.size 22 1 v (winGone base width nb k).length (numsC (winGone base width nb k)) Mo) (fun k H H' M hle h => ⟨h.1.trans hle, h.2⟩) (fun _ => False) ?_ H _ w ((hs.front (i := 5) rfl)) ⟨hle, _, [], rfl, Own.nil _ _ _⟩).mono ?_
    · clear hs
      rintro k H M w hk hs ⟨hle0, v, Mo, rfl, ho⟩
      replace hs := hs.front (i := 1) rfl
      refine yieldAt hs rfl (hst.param1 rfl _) ?_
      have hle := Hp.le.refl H
      have hk9 : k ≤ 16 := by have : winEnd base width ≤ base + width := Nat.min_le_left _ _; omega
      have hgl := winGone_len base width nb k
      obtain ⟨bo, co, rfl⟩ := ho.form
      refine RC.region (RO.step rfl rfl (OR.assign rfl (RO.done ?_)))
      refine RC.assigned hs ?_; clear hs; intro w hs
      refine RC.block (RC.seq (RC.region (RO.step rfl rfl (OR.load T123 rfl rfl (hs.cellM (i := 4) rfl rfl) (RO.step rfl rfl (OR.move rfl ?_))))))
      refine RO.step rfl rfl (OR.call hs body135 rfl rfl (win_ok g1 nb width _ _ (base + k) hs.toSub (hs.blk (i := 5) rfl) (hs.nh (i := 5) rfl) hnb2 hWd) ?_)
      clear hs; rintro _ H w hs hle1 rfl; replace hle := hle.trans hle1; (try replace hlb := hlb.trans hle1)
      refine RO.step rfl rfl (OR.not rfl (RO.done (RX.seq ?_)))
      by_cases hin : inWin nb width (base + k)
      · rw [decide_eq_true hin]
        refine RC.no rfl rfl ?_
        refine RC.skip (RX.block ?_)
        refine RX.on hs fun w hs => ?_
        replace hs := hs.front (i := 1) rfl
        refine .inl ⟨rfl, H, _, hs, hle0.trans hle1, _, Mo, rfl, ?_⟩
        rw [winGone_succ, if_pos hin, List.append_nil]
        exact ho
      · rw [decide_eq_false hin]
        refine RC.yes rfl rfl ?_
        refine RC.region (RO.step rfl rfl (OR.load T152 rfl rfl (hs.cellM (i := 3) rfl rfl) (RO.step rfl rfl (OR.move rfl ?_))))
        refine RO.step rfl rfl (OR.buildSlice (vs := [_]) hs T152.und T22 rfl rfl rfl rfl (by simp) ?_)
        clear hs; intro q1 w hq1 hs
        have hle9 := hle1
        obtain ⟨H, hle1, hp_q1, hs9⟩ := hs.pub1 hq1; clear hs; have hs := hs9; clear hs9; replace hle := hle.trans hle1; (try replace hlb := hlb.trans hle1)
        have hone : Nums H (.slice (some ⟨q1, 0, none⟩) 1 1) [base + k] := Sl.block hp_q1 rfl rfl (by simp)
        refine RO.step rfl rfl (OR.append (m := 1) (news := numsC [base + k]) (Mo := Mo) (M := [_, _, _, _, _, _]) (HS.mtail (A := [_, _, _, _, _, _]) hs) ho T152.und T22 rfl (by omega) rfl rfl rfl (Sl.src hone hs) (Sl.src0 hone) (nums_one _) (by omega) (by omega) ?_)
        clear hs ho; intro v' w Mo' hs ho hge
        replace hs := HS.mtail (B := [_, _, _, _, _, _]) hs
        obtain ⟨bo2, co2, rfl⟩ := ho.form
        replace hs := hs.front (i := 3) rfl
        refine RO.stepN rfl (OR.storeAll hs T152 rfl rfl rfl rfl rfl ?_)
        clear hs; intro w hs
        refine RO.done (RX.block ?_)
        replace hs := hs.front (i := 1) rfl
        refine RX.on hs fun w hs => ?_
        replace hs := hs.front (i := 5) rfl
        replace hs := hs.front (i := 5) rfl
        replace hs := hs.front (i := 3) rfl
        replace hs := hs.front (i := 5) rfl
        replace hs := hs.front (i := 4) rfl
        replace hs := hs.front (i := 5) rfl
        refine .inl ⟨rfl, H, _, hs, hle0.trans (hle9.trans hle1), _, Mo', rfl, ?_⟩
        rw [winGone_succ, if_neg hin]
        have e : numsC (winGone base width nb k ++ [base + k]) = numsC (winGone base width nb k) ++ numsC [base + k] := by simp [numsC]
        rw [e, List.length_append]
        exact ho
    · rintro e w3 ⟨rfl, (⟨H3, M3, hs, hle3, v, Mo, rfl, ho⟩ | h)⟩
      · refine ⟨⟨_, rfl⟩, H3, _, .ready, none, by decide, hs.front (i := 1) rfl, fun w hs => ⟨fun _ => ?_, fun c h => by cases h⟩⟩
        refine WX.block (WX.seq (WC.seq (WC.region (WO.step rfl (OR.move rfl (WO.step rfl (OR.load T123 rfl rfl (hs.cellM (i := 4) rfl rfl) ?_)))))))
        refine WO.step rfl (OR.nilCheck rfl (WO.step rfl (OR.loadAll T192 rfl rfl (hs.blk (i := 5) rfl) rfl (WO.step rfl (OR.nilCheck rfl ?_)))))
        replace hs := hs.front (i := 1) rfl
        refine WO.stepN (OR.storeAll hs T192 rfl rfl rfl rfl rfl ?_)
        clear hs; intro w hs
        refine WO.done (WX.seq (WC.seq (WC.region (WO.step rfl (OR.load T152 rfl rfl (hs.cellM (i := 3) rfl rfl) (WO.step rfl (OR.assign rfl ?_)))))))
        refine WO.step rfl (OR.assign rfl (WO.done (WX.seq (WC.ret ?_))))
        replace hs := hs.front (i := 2) rfl
        refine WX.retM hs fun w hs a ha => ⟨_, results_tmp2 rfl a.tmps _ w, ?_⟩
        rw [ha 4 _ rfl, ha 5 _ rfl]
        obtain ⟨H4, hle4, hs, hsl, _⟩ := HS.pub (HS.mtail (A := [_, _, _, _, _, _]) hs) ho
        refine ⟨_, H4, _, rfl, ((((hs.drop 5).drop 4).drop 3).drop 2).drop 0, by simp, ?_⟩
        show ite _ _ _
        rw [if_pos hnb2]
        exact ⟨_, rfl, hsl, rfl⟩
      · exact h.elim
end Go.Bw
