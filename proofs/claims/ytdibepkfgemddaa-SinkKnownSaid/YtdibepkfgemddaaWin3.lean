/- A window: All, Move. -/
import Derived.Test.YtdibepkfgemddaaWin2
namespace Go.Bw
set_option linter.unusedVariables false
set_option linter.unusedSimpArgs false
open Go.Proofs

set_option maxRecDepth 20000 in
set_option maxHeartbeats 2000000 in
theorem wall_ok (wb base width : Nat) (H0 : Hp) (w0 : World) (h0 : Sub H0 w0) (hb : w0.heap[wb]? = some (winObj base width)) (hn : H0 wb = none) (hB : base ≤ 1099511627776) (hWd : width ≤ 16) :
    Calls Try.prog 79 #[ptr wb] w0 (Pure H0 w0 fun v H' => Nums H' v (winNums base (winEnd base width - base))) := by
  have hs := HS.startR h0 hb hn
  have hle := Hp.le.refl H0
  have hcol : ∀ (H0 : Hp) (w0 : World), Sub H0 w0 → w0.heap[wb]? = some (winObj base width) → H0 wb = none → Calls Try.prog 107 #[.func (.func 106) #[ptr wb] #[]] w0 (Pure H0 w0 fun v H' => Nums H' v (winNums base (winEnd base width - base))) := by
    intro H0 w0 h0 hb hn
    have hs := HS.startR h0 hb hn
    have hle := Hp.le.refl H0
    refine Calls.enter (args := [.func (.func 106) #[ptr wb] #[]]) Try.func107 rfl Try.ntmps107 rfl ?_
    refine WC.seq (WC.region (WO.step rfl (OR.assign rfl (WO.done (WX.seq (WC.seq (WC.region ?_)))))))
    refine WO.step rfl (OR.move rfl ?_)
    refine WO.step rfl (OR.call hs body117 rfl rfl (appendSeq_ok wb base width _ _ hs.toSub (hs.blk (i := 0) rfl) (hs.nh (i := 0) rfl) hB hWd) ?_)
    clear hs; rintro _ H w hs hle1 hr; replace hle := hle.trans hle1; (try replace hlb := hlb.trans hle1)
    refine WO.step rfl (OR.assign rfl (WO.done (WX.seq (WC.ret ?_))))
    refine WX.ret1 rfl rfl ?_
    exact .mk (hs.drop 0) hr
  refine Calls.enter (args := [ptr wb]) Try.func79 rfl Try.ntmps79 rfl ?_
  refine WC.seq (WC.region (WO.step rfl (OR.assign rfl (WO.done (WX.seq (WC.seq (WC.region ?_)))))))
  refine WO.step rfl (OR.move rfl (WO.step rfl (OR.makeFunc rfl rfl ?_)))
  refine WO.step rfl (OR.call hs body107 rfl rfl (hcol _ _ hs.toSub (hs.blk (i := 0) rfl) (hs.nh (i := 0) rfl)) ?_)
  clear hs; rintro _ H w hs hle1 hr; replace hle := hle.trans hle1; (try replace hlb := hlb.trans hle1)
  refine WO.step rfl (OR.assign rfl (WO.done (WX.seq (WC.ret ?_))))
  refine WX.ret1 rfl rfl ?_
  exact .mk (hs.drop 0) hr

/-- What falls out of a window. -/
def winGone (base width nb k : Nat) : List Nat := (winNums base k).filter fun n => !decide (inWin nb width n)
theorem winGone_succ (base width nb k : Nat) : winGone base width nb (k + 1) = winGone base width nb k ++ (if inWin nb width (base + k) then [] else [base + k]) := by
  unfold winGone
  rw [winNums_succ, List.filter_append]
  congr 1
  by_cases h : inWin nb width (base + k)
  · simp [h]
  · simp [h]
theorem winGone_len (base width nb k : Nat) : (winGone base width nb k).length ≤ k := by
  refine Nat.le_trans (List.length_filter_le _ _) ?_
  simp [winNums]
set_option maxRecDepth 20000 in
set_option maxHeartbeats 2000000 in
theorem wmove_ok (wb base width nb : Nat) (H0 : Hp) (w0 : World) (h0 : Sub H0 w0) (hb : w0.heap[wb]? = some (winObj base width)) (hn : H0 wb = none) (hB : base ≤ 1099511627776) (hWd : width ≤ 16) (hW1 : 1 ≤ width) (hnb : nb < 18446744073709551616) :
    Calls Try.prog 77 #[ptr wb, .int .u64 (nb : Int)] w0 (Ret [wb] H0 w0 fun v H' M' => if nb ≤ 1099511627776 then ∃ r, v = .tuple #[r, .int .i64 0] ∧ Nums H' r (winGone base width nb (winEnd base width - base)) ∧ M' = [(wb, winObj nb width, true)]
      else v = .tuple #[.slice none 0 0, .int .i64 1] ∧ M' = [(wb, winObj base width, true)]) := by
  have hs := HS.start1 h0 hb hn
  have hle := Hp.le.refl H0
  refine Calls.enterM (args := [ptr wb, .int .u64 (nb : Int)]) Try.func77 rfl Try.ntmps77 rfl ?_
  refine WC.seq (WC.region (WO.step rfl (OR.assign rfl (WO.step rfl (OR.assign rfl (WO.done (WX.seq ?_)))))))
  refine WC.seq (WC.block (WC.seq (WC.region (WO.step rfl (OR.move rfl ?_)))))
  refine WO.step rfl (OR.call hs body78 rfl rfl (wwidth_ok wb base width _ _ hs.toSub (hs.blk (i := 0) rfl) (hs.nh (i := 0) rfl)) ?_)
  clear hs; rintro _ H w hs hle1 rfl; replace hle := hle.trans hle1; (try replace hlb := hlb.trans hle1)
  refine WO.step rfl (OR.eql rfl rfl (WO.step rfl (OR.assign rfl (WO.done (WX.seq ?_)))))
  refine WC.no rfl (decide_eq_false (by omega)) ?_
  refine WC.seq (WC.region (WO.step rfl (OR.move rfl (WO.step rfl (OR.gtr rfl rfl (WO.step rfl (OR.assign rfl ?_)))))))
  refine WO.done (WX.seq ?_)
  refine WC.condD rfl (fun hbig => ?_) (fun hbig => ?_)
  · refine WC.seq (WC.region (WO.step rfl (OR.assign rfl (WO.step rfl (OR.assign rfl (WO.done (WX.seq ?_)))))))
    refine WC.ret (WX.block_ret (WX.seq_ret ?_))
    refine WX.retM0 fun a ha => ⟨_, results_tmp2 rfl a.tmps _ w, ?_⟩
    rw [ha 4 _ rfl, ha 5 _ rfl]
    refine ⟨_, _, _, rfl, hs, by simp, ?_⟩
    show ite _ _ _
    rw [if_neg (by omega)]
    exact ⟨rfl, rfl⟩
  · have hnb2 : nb ≤ 1099511627776 := by omega
    refine WC.skip (WX.block (WX.seq (WC.seq (WC.region (WO.step rfl (OR.move rfl (WO.step rfl ?_)))))))
    refine OR.move rfl (WO.step rfl (OR.nilCheck rfl (WO.step rfl (OR.fieldAddr FA101_1 rfl (WO.step rfl (OR.load T3 rfl rfl (hs.cellM (i := 0) rfl rfl) (WO.step rfl ?_)))))))
    refine OR.buildAll T101 rfl rfl PL101 rfl rfl (WO.step rfl (OR.box hs rfl ?_))
    clear hs; intro g1 w hg1 hs
    refine WO.step rfl (OR.alloc hs T65 ?_)
    clear hs; intro g2 w hg2 hs
    refine WO.stepN (OR.storeAll hs T65 rfl rfl rfl rfl rfl ?_)
    clear hs; intro w hs
    refine WO.done (WX.seq (WC.seq (WC.region (WO.step rfl (OR.alloc hs T118 ?_)))))
    clear hs; intro g3 w hg3 hs
    refine WO.done (WX.seq (WC.seq (WC.seq (WC.region (WO.step rfl (OR.move rfl (WO.step rfl ?_)))))))
    refine OR.makeFunc rfl rfl (WO.done (WX.seq (WC.block ?_)))
    refine WC.rangeFunc (fl := [ptr wb]) (lb := []) hs rfl body106 ?_
    clear hs; intro fn tmps D lp w hD hlp hst hs
    refine (weach_ok wb base width lp true [wb] H0 w0 hB hWd (fun k H M => Hp.le H0 H ∧ ∃ v Mo, M = (lp, loopObj .ready none fn tmps _ _ _ D, true) :: (D, .deferred (some []), true) :: (g3, .cells #[v] 118, true) :: (g2, .cells #[ptr g1] 65, true) :: (g1, winObj nb width, true) :: Mo ∧ Own w0.heap.size 27 1 v (winGone base width nb k).length (numsC (winGone base width nb k)) Mo) (fun k H H' M hle h => ⟨h.1.trans hle, h.2⟩) (fun _ => False) ?_ H _ w ((hs.front (i := 5) rfl)) ⟨hle, _, [], rfl, Own.nil _ _ _⟩).mono ?_
    · clear hs
      rintro k H M w hk hs ⟨hle0, v, Mo, rfl, ho⟩
      replace hs := hs.front (i := 1) rfl
      refine yieldAt hs rfl (hst.param1 rfl _) ?_
      have hle := Hp.le.refl H
      have hk9 : k ≤ 16 := by have : winEnd base width ≤ base + width := Nat.min_le_left _ _; omega
      have hgl := winGone_len base width nb k
      obtain ⟨bo, co, rfl⟩ := ho.form
      refine RC.region (RO.step rfl rfl (OR.assign rfl (RO.done ?_)))
      refine RC.assigned hs ?_; clear hs; intro w hs
      refine RC.block (RC.seq (RC.region (RO.step rfl rfl (OR.load T65 rfl rfl (hs.cellM (i := 4) rfl rfl) (RO.step rfl rfl (OR.move rfl ?_))))))
      refine RO.step rfl rfl (OR.call hs body100 rfl rfl (win_ok g1 nb width _ _ (base + k) hs.toSub (hs.blk (i := 5) rfl) (hs.nh (i := 5) rfl) hnb2 hWd) ?_)
      clear hs; rintro _ H w hs hle1 rfl; replace hle := hle.trans hle1; (try replace hlb := hlb.trans hle1)
      refine RO.step rfl rfl (OR.not rfl (RO.done (RX.seq ?_)))
      by_cases hin : inWin nb width (base + k)
      · rw [decide_eq_true hin]
        refine RC.no rfl rfl ?_
        refine RC.skip (RX.block ?_)
        refine RX.on hs fun w hs => ?_
        replace hs := hs.front (i := 1) rfl
        refine .inl ⟨rfl, H, _, hs, hle0.trans hle1, _, Mo, rfl, ?_⟩
        rw [winGone_succ, if_pos hin, List.append_nil]
        exact ho
      · rw [decide_eq_false hin]
        refine RC.yes rfl rfl ?_
        refine RC.region (RO.step rfl rfl (OR.load T118 rfl rfl (hs.cellM (i := 3) rfl rfl) (RO.step rfl rfl (OR.move rfl ?_))))
        refine RO.step rfl rfl (OR.buildSlice (vs := [_]) hs T118.und T27 rfl rfl rfl rfl (by simp) ?_)
        clear hs; intro q1 w hq1 hs
        have hle9 := hle1
        obtain ⟨H, hle1, hp_q1, hs9⟩ := hs.pub1 hq1; clear hs; have hs := hs9; clear hs9; replace hle := hle.trans hle1; (try replace hlb := hlb.trans hle1)
        have hone : Nums H (.slice (some ⟨q1, 0, none⟩) 1 1) [base + k] := Sl.block hp_q1 rfl rfl (by simp)
        refine RO.step rfl rfl (OR.append (m := 1) (news := numsC [base + k]) (Mo := Mo) (M := [_, _, _, _, _, _]) (HS.mtail (A := [_, _, _, _, _, _]) hs) ho T118.und T27 rfl (by omega) rfl rfl rfl (Sl.src hone hs) (Sl.src0 hone) (nums_one _) (by omega) (by omega) ?_)
        clear hs ho; intro v' w Mo' hs ho hge
        replace hs := HS.mtail (B := [_, _, _, _, _, _]) hs
        obtain ⟨bo2, co2, rfl⟩ := ho.form
        replace hs := hs.front (i := 3) rfl
        refine RO.stepN rfl (OR.storeAll hs T118 rfl rfl rfl rfl rfl ?_)
        clear hs; intro w hs
        refine RO.done (RX.block ?_)
        replace hs := hs.front (i := 1) rfl
        refine RX.on hs fun w hs => ?_
        replace hs := hs.front (i := 5) rfl
        replace hs := hs.front (i := 5) rfl
        replace hs := hs.front (i := 3) rfl
        replace hs := hs.front (i := 5) rfl
        replace hs := hs.front (i := 4) rfl
        replace hs := hs.front (i := 5) rfl
        refine .inl ⟨rfl, H, _, hs, hle0.trans (hle9.trans hle1), _, Mo', rfl, ?_⟩
        rw [winGone_succ, if_neg hin]
        have e : numsC (winGone base width nb k ++ [base + k]) = numsC (winGone base width nb k) ++ numsC [base + k] := by simp [numsC]
        rw [e, List.length_append]
        exact ho
    · rintro e w3 ⟨rfl, (⟨H3, M3, hs, hle3, v, Mo, rfl, ho⟩ | h)⟩
      · refine ⟨⟨_, rfl⟩, H3, _, .ready, none, by decide, hs.front (i := 1) rfl, fun w hs => ⟨fun _ => ?_, fun c h => by cases h⟩⟩
        refine WX.block (WX.seq (WC.seq (WC.region (WO.step rfl (OR.move rfl (WO.step rfl (OR.load T65 rfl rfl (hs.cellM (i := 4) rfl rfl) ?_)))))))
        refine WO.step rfl (OR.nilCheck rfl (WO.step rfl (OR.loadAll T101 rfl rfl (hs.blk (i := 5) rfl) rfl (WO.step rfl (OR.nilCheck rfl ?_)))))
        replace hs := hs.front (i := 1) rfl
        refine WO.stepN (OR.storeAll hs T101 rfl rfl rfl rfl rfl ?_)
        clear hs; intro w hs
        refine WO.done (WX.seq (WC.seq (WC.region (WO.step rfl (OR.load T118 rfl rfl (hs.cellM (i := 3) rfl rfl) (WO.step rfl (OR.assign rfl ?_)))))))
        refine WO.step rfl (OR.assign rfl (WO.done (WX.seq (WC.ret ?_))))
        replace hs := hs.front (i := 2) rfl
        refine WX.retM hs fun w hs a ha => ⟨_, results_tmp2 rfl a.tmps _ w, ?_⟩
        rw [ha 4 _ rfl, ha 5 _ rfl]
        obtain ⟨H4, hle4, hs, hsl, _⟩ := HS.pub (HS.mtail (A := [_, _, _, _, _, _]) hs) ho
        refine ⟨_, H4, _, rfl, ((((hs.drop 5).drop 4).drop 3).drop 2).drop 0, by simp, ?_⟩
        show ite _ _ _
        rw [if_pos hnb2]
        exact ⟨_, rfl, hsl, rfl⟩
      · exact h.elim
end Go.Bw
