/- The source law's waking test. -/
import Derived.Test.YtbgdgmilcojlbaaSrc6
import Derived.Test.YtbgdgmilcojlbaaSame
import Derived.Test.YtbgdgmilcojlbaaAwake
namespace Go.Bw
set_option linter.unusedVariables false
set_option linter.unusedSimpArgs false
open Go.Proofs

theorem newD_ok {g s : Nat} (h : goodGS g s) : SrcOk (newD g s [] [] false) := ⟨h, rfl, rfl, rfl, Nat.zero_le _⟩
theorem SrcOk.sub {x : SrcD} (h : SrcOk x) (l : List UInt8) (most : Nat) : SrcOk (subD x l most) := by
  unfold subD
  split
  · exact h
  · split
    · rename_i hf
      exact h.long hf.1
    · exact h
theorem SrcOk.flush {x : SrcD} (h : SrcOk x) : SrcOk (flushD x) := by
  unfold flushD
  split
  · exact h
  · exact h.cut
theorem SrcOk.close {x : SrcD} (h : SrcOk x) : SrcOk (closeD x) := by
  unfold closeD
  split
  · exact h
  · exact ⟨h.cut.gs, h.cut.cuts, h.cut.ch, h.cut.op, h.cut.len⟩

def aD0 : SrcD := newD 2 3 [] [] false
def aD1 : SrcD := subD aD0 [97, 98, 99] 9
def aD2 : SrcD := flushD aD1
theorem aE1 : subE aD0 [97, 98, 99] 9 = 0 := by decide +kernel
theorem aG1 : aD1.chunks.length = 1 := by decide +kernel
theorem aC1 : aD1.cl = false := by decide +kernel
theorem aG2 : aD2.chunks.length = 2 := by decide +kernel
theorem aS2 : aD2.s = 3 ∧ aD2.g = 2 := by decide +kernel
theorem aK1 : aD1.cuts.length = 0 := by decide +kernel
theorem aK0 : aD0.cuts.length = 0 := by decide +kernel
theorem aY0 : symF aD2 0 = [[0, 0, 0], [2, 97, 98]] := by decide +kernel
theorem aY1 : symF aD2 1 = [[0, 0, 0], [1, 99, 0]] := by decide +kernel
theorem aR1 : rowF aD2 1 [1, 1] = ([1, 1], [1, 99, 0]) := by
  rw [rowF, if_pos (by decide +kernel), aY1, aS2.1]
  have : comb 3 [[0, 0, 0], [1, 99, 0]] [1, 1] = [1, 99, 0] := by
    simp only [comb, List.zip_cons_cons, List.zip_nil_right, List.foldl_cons, List.foldl_nil, addS, eachR, mul_fast]
    rfl
  rw [this]
theorem aC : sendC aD2 1 [] = [0, 1] := by decide +kernel
theorem aR0 : rowF aD2 0 (sendC aD2 1 []) = ([0, 1], [2, 97, 98]) := by
  rw [aC, rowF, if_pos (by decide +kernel), aY0, aS2.1]
  have : comb 3 [[0, 0, 0], [2, 97, 98]] [0, 1] = [2, 97, 98] := by
    simp only [comb, List.zip_cons_cons, List.zip_nil_right, List.foldl_cons, List.foldl_nil, addS, eachR, mul_fast]
    rfl
  rw [this]

set_option maxRecDepth 20000 in
set_option maxHeartbeats 2000000 in
theorem awake13_ok (H0 : Hp) (w0 : World) (h0 : Sub H0 w0) : Calls Try.prog 28 #[] w0 (Pure H0 w0 fun v _ => v = .bool true) := by
  have hs := HS.init h0
  have hle := Hp.le.refl H0
  refine Calls.enter (args := []) Try.func28 rfl Try.ntmps28 rfl ?_
  refine WC.seq (WC.region (WO.step rfl (OR.assign rfl (WO.done (WX.seq (WC.seq (WC.region ?_)))))))
  refine WO.step rfl (OR.callX (Mx := []) hs body27 rfl rfl (snew_ok 2 3 _ _ hs.toSub (by decide)) rfl rfl ?_)
  clear hs; rintro _ H M' w hs hle1 hnew ⟨b, o, rfl, rfl, hb, hx⟩; replace hle := hle.trans hle1; (try replace hlb := hlb.trans hle1)
  have hok0 : SrcOk aD0 := newD_ok (by decide)
  have hok1 : SrcOk aD1 := hok0.sub _ _
  have hok2 : SrcOk aD2 := hok1.flush
  refine WO.step rfl (OR.move rfl (WO.step rfl (OR.extract rfl rfl (WO.step rfl (OR.extract rfl rfl (WO.step rfl (OR.assign rfl ?_)))))))
  refine WO.step rfl (OR.assign rfl (WO.done (WX.seq (WC.seq (WC.seq (WC.region (WO.step rfl ?_)))))))
  refine OR.move rfl (WO.step rfl (OR.neq rfl rfl (WO.step rfl (OR.move rfl ?_))))
  refine WO.guardYes rfl (decide_eq_false (by decide)) rfl rfl (OR.move rfl ?_)
  refine WO.guardYes rfl (decide_eq_false (by decide)) rfl rfl (OR.buildSlice (vs := [B 97, B 98, B 99]) hs T23.und T5 rfl rfl rfl rfl (by simp) ?_)
  clear hs; intro g1 w hg1 hs
  refine WO.guardYes rfl (decide_eq_false (by decide)) rfl rfl (OR.convText hs T23.und T5.und rfl ?_)
  clear hs; intro w hs
  obtain ⟨H, hle1, hp_g1, hs9⟩ := hs.pub1 hg1; clear hs; have hs := hs9; clear hs9; replace hle := hle.trans hle1; (try replace hlb := hlb.trans hle1)
  have hc := Bytes.block (l := [97, 98, 99]) (cap := 3) hp_g1 rfl (by simp)
  refine WO.guardYes rfl (decide_eq_false (by decide)) rfl rfl (OR.callX (Mx := [(b, _, true)]) hs body29 rfl rfl (submit_ok b aD0 o _ [97, 98, 99] 9 _ _ hs.toSub (hs.blk (i := 0) rfl) (hs.mem b _ true (List.mem_cons_self ..)).2.1 (hx.mono hle1) hok0 hc (by simp) (by rw [aK0]; omega)) rfl rfl ?_)
  clear hs; rintro _ H M' w hs hle1 hnew ⟨rfl, o1, rfl, hx1⟩; replace hle := hle.trans hle1; (try replace hlb := hlb.trans hle1)
  rw [aE1]
  refine WO.guardYes rfl (decide_eq_false (by decide)) rfl rfl (OR.neq rfl rfl (WO.step rfl (OR.pickF rfl (decide_eq_false (by decide)) rfl (WO.step rfl (OR.move rfl ?_)))))
  refine WO.guardYes rfl (decide_eq_false (by decide)) rfl rfl (OR.move rfl ?_)
  refine WO.guardYes rfl rfl rfl rfl (OR.call hs body31 rfl rfl (gens_ok b aD1 o1 _ _ hs.toSub (hs.blk (i := 0) rfl) (hs.mem b _ true (List.mem_cons_self ..)).2.1 hx1 (by rw [aG1]; omega)) ?_)
  clear hs; rintro _ H w hs hle1 rfl; replace hle := hle.trans hle1; (try replace hlb := hlb.trans hle1)
  rw [aG1]
  refine WO.guardYes rfl rfl rfl rfl (OR.neq rfl rfl (WO.step rfl (OR.pickF rfl rfl rfl (WO.step rfl (OR.move rfl ?_)))))
  refine WO.guardYes rfl rfl rfl rfl (OR.move rfl ?_)
  refine WO.guardYes rfl rfl rfl rfl (OR.callX (Mx := [(b, _, true)]) hs body30 rfl rfl (flush_ok b aD1 o1 _ _ hs.toSub (hs.blk (i := 0) rfl) (hs.mem b _ true (List.mem_cons_self ..)).2.1 (hx1.mono hle1) hok1 (by rw [aK1]; omega)) rfl rfl ?_)
  clear hs; rintro _ H M' w hs hle1 hnew ⟨rfl, o2, rfl, hx2⟩; replace hle := hle.trans hle1; (try replace hlb := hlb.trans hle1)
  rw [aC1]
  refine WO.guardYes rfl rfl rfl rfl (OR.neq rfl rfl (WO.step rfl (OR.pickF rfl rfl rfl (WO.step rfl (OR.move rfl ?_)))))
  refine WO.guardYes rfl rfl rfl rfl (OR.move rfl ?_)
  refine WO.guardYes rfl rfl rfl rfl (OR.call hs body31 rfl rfl (gens_ok b aD2 o2 _ _ hs.toSub (hs.blk (i := 0) rfl) (hs.mem b _ true (List.mem_cons_self ..)).2.1 hx2 (by rw [aG2]; omega)) ?_)
  clear hs; rintro _ H w hs hle1 rfl; replace hle := hle.trans hle1; (try replace hlb := hlb.trans hle1)
  rw [aG2]
  refine WO.guardYes rfl rfl rfl rfl (OR.neq rfl rfl (WO.step rfl (OR.pickF rfl rfl rfl (WO.done (WX.seq ?_)))))
  refine WC.no rfl rfl ?_
  replace hx2 := hx2.mono hle1
  refine WC.skip (WX.seq (WC.seq (WC.region (WO.step rfl (OR.move rfl ?_)))))
  refine WO.step rfl (OR.buildSlice (vs := [B 1, B 1]) hs T23.und T5 rfl rfl rfl rfl (by simp) ?_)
  clear hs; intro g2 w hg2 hs
  obtain ⟨H, hle1, hp_g2, hs9⟩ := hs.pub1 hg2; clear hs; have hs := hs9; clear hs9; replace hle := hle.trans hle1; (try replace hlb := hlb.trans hle1)
  have hc := Bytes.block (l := [1, 1]) (cap := 2) hp_g2 rfl (by simp)
  replace hx2 := hx2.mono hle1
  refine WO.step rfl (OR.call hs body32 rfl rfl (srow_ok b 1 _ [1, 1] aD2 o2 _ _ hs.toSub (hs.blk (i := 0) rfl) (hs.mem b _ true (List.mem_cons_self ..)).2.1 hx2 hok2 hc (by simp)) ?_)
  clear hs; rintro _ H w hs hle1 ⟨r, rfl, hr⟩; replace hle := hle.trans hle1; (try replace hlb := hlb.trans hle1)
  rw [aR1] at hr
  obtain ⟨y1, y2, rfl, hy1, hy2⟩ := hr
  obtain ⟨b4, c4, rfl⟩ := hy1.form
  obtain ⟨b5, c5, rfl⟩ := hy2.form
  have he1 : rowE aD2 1 [1, 1] = 0 := by decide +kernel
  rw [he1]
  replace hx2 := hx2.mono hle1
  have hlA := Hp.le.refl H
  refine WO.step rfl (OR.move rfl (WO.step rfl (OR.extract rfl rfl (WO.step rfl (OR.extract rfl rfl (WO.step rfl (OR.alloc hs T35 ?_)))))))
  clear hs; intro g1 w hg1 hs
  refine WO.stepN (OR.storeAll hs T35 rfl rfl rfl rfl rfl ?_)
  clear hs; intro w hs
  refine WO.step rfl (OR.assign rfl (WO.done (WX.seq (WC.seq (WC.region (WO.step rfl (OR.move rfl ?_)))))))
  replace hs := hs.front (i := 1) rfl
  refine WO.step rfl (OR.call hs body35 rfl rfl (ssend_ok b 0 1 _ [] aD2 o2 _ _ hs.toSub (hs.blk (i := 0) rfl) (hs.mem b _ true (List.mem_cons_self ..)).2.1 hx2 hok2 (Sl.empty _ _ _) (by omega)) ?_)
  clear hs; rintro _ H w hs hle1 ⟨r, rfl, hr⟩; replace hle := hle.trans hle1; (try replace hlb := hlb.trans hle1)
  rw [aR0] at hr
  obtain ⟨z1, z2, rfl, hz1, hz2⟩ := hr
  obtain ⟨b6, c6, rfl⟩ := hz1.form
  obtain ⟨b7, c7, rfl⟩ := hz2.form
  have he2 : thereE aD2 0 = 0 := by decide +kernel
  rw [he2]
  replace hy1 := hy1.mono hle1
  replace hy2 := hy2.mono hle1
  refine WO.step rfl (OR.move rfl (WO.step rfl (OR.extract rfl rfl (WO.step rfl (OR.extract rfl rfl (WO.step rfl (OR.alloc hs T35 ?_)))))))
  clear hs; intro g2 w hg2 hs
  refine WO.stepN (OR.storeAll hs T35 rfl rfl rfl rfl rfl ?_)
  clear hs; intro w hs
  refine WO.step rfl (OR.assign rfl (WO.done (WX.seq (WC.seq (WC.region (WO.step rfl (OR.move rfl ?_)))))))
  refine WO.step rfl (OR.eql rfl rfl (WO.step rfl (OR.move rfl ?_)))
  refine WO.guardYes rfl rfl rfl rfl (OR.move rfl (WO.guardYes rfl rfl rfl rfl (OR.eql rfl rfl (WO.step rfl (OR.pickT rfl rfl rfl (WO.step rfl (OR.move rfl ?_)))))))
  refine WO.guardYes rfl rfl rfl rfl (OR.loadAll T35 rfl rfl (hs.blk (i := 2) rfl) rfl (WO.guardYes rfl rfl rfl rfl (OR.loadAll T35 rfl rfl (hs.blk (i := 0) rfl) rfl ?_)))
  refine WO.guardYes rfl rfl rfl rfl (OR.buildSlice (vs := [_, _]) hs T26.und T35 rfl rfl rfl rfl (by simp) ?_)
  clear hs; intro g9 w hg9 hs
  obtain ⟨H, hle1, hp_g9, hs9⟩ := hs.pub1 hg9; clear hs; have hs := hs9; clear hs9; replace hle := hle.trans hle1; (try replace hlb := hlb.trans hle1)
  replace hy1 := hy1.mono hle1
  replace hy2 := hy2.mono hle1
  replace hz1 := hz1.mono hle1
  replace hz2 := hz2.mono hle1
  have hr9 : Rws H (.slice (some ⟨g9, 0, none⟩) 2 2) [([1, 1], [1, 99, 0]), ([0, 1], [2, 97, 98])] := ⟨[(_, _), (_, _)], Sl.block hp_g9 rfl rfl (by omega), RowsOk.snoc (cs := [_]) (rs := [_]) (RowsOk.snoc (cs := []) (rs := []) ⟨rfl, fun i h => by simp at h⟩ hy1 hy2) hz1 hz2⟩
  refine WO.guardYes rfl rfl rfl rfl (OR.buildSlice (vs := [B 1, B 1]) hs T23.und T5 rfl rfl rfl rfl (by simp) ?_)
  clear hs; intro e1 w he1 hs
  obtain ⟨H, hle1, hp_e1, hs9⟩ := hs.pub1 he1; clear hs; have hs := hs9; clear hs9; replace hle := hle.trans hle1; (try replace hlb := hlb.trans hle1)
  replace hr9 := hr9.mono hle1
  have hk1 := Bytes.block (l := [1, 1]) (cap := 2) hp_e1 rfl (by simp)
  refine WO.guardYes rfl rfl rfl rfl (OR.buildSlice (vs := [B 1, B 99, B 0]) hs T23.und T5 rfl rfl rfl rfl (by simp) ?_)
  clear hs; intro e2 w he2 hs
  refine WO.guardYes rfl rfl rfl rfl (OR.buildAll T35 rfl rfl PL35 rfl rfl ?_)
  obtain ⟨H, hle1, hp_e2, hs9⟩ := hs.pub1 he2; clear hs; have hs := hs9; clear hs9; replace hle := hle.trans hle1; (try replace hlb := hlb.trans hle1)
  replace hr9 := hr9.mono hle1
  replace hk1 := hk1.mono hle1
  have hk2 := Bytes.block (l := [1, 99, 0]) (cap := 3) hp_e2 rfl (by simp)
  refine WO.guardYes rfl rfl rfl rfl (OR.buildSlice (vs := [B 0, B 1]) hs T23.und T5 rfl rfl rfl rfl (by simp) ?_)
  clear hs; intro e3 w he3 hs
  obtain ⟨H, hle1, hp_e3, hs9⟩ := hs.pub1 he3; clear hs; have hs := hs9; clear hs9; replace hle := hle.trans hle1; (try replace hlb := hlb.trans hle1)
  replace hr9 := hr9.mono hle1
  replace hk1 := hk1.mono hle1
  replace hk2 := hk2.mono hle1
  have hk3 := Bytes.block (l := [0, 1]) (cap := 2) hp_e3 rfl (by simp)
  refine WO.guardYes rfl rfl rfl rfl (OR.buildSlice (vs := [B 2, B 97, B 98]) hs T23.und T5 rfl rfl rfl rfl (by simp) ?_)
  clear hs; intro e4 w he4 hs
  refine WO.guardYes rfl rfl rfl rfl (OR.buildAll T35 rfl rfl PL35 rfl rfl ?_)
  obtain ⟨H, hle1, hp_e4, hs9⟩ := hs.pub1 he4; clear hs; have hs := hs9; clear hs9; replace hle := hle.trans hle1; (try replace hlb := hlb.trans hle1)
  replace hr9 := hr9.mono hle1
  replace hk1 := hk1.mono hle1
  replace hk2 := hk2.mono hle1
  replace hk3 := hk3.mono hle1
  have hk4 := Bytes.block (l := [2, 97, 98]) (cap := 3) hp_e4 rfl (by simp)
  refine WO.guardYes rfl rfl rfl rfl (OR.buildSlice (vs := [_, _]) hs T26.und T35 rfl rfl rfl rfl (by simp) ?_)
  clear hs; intro e9 w he9 hs
  obtain ⟨H, hle1, hp_e9, hs9⟩ := hs.pub1 he9; clear hs; have hs := hs9; clear hs9; replace hle := hle.trans hle1; (try replace hlb := hlb.trans hle1)
  replace hr9 := hr9.mono hle1
  replace hk1 := hk1.mono hle1
  replace hk2 := hk2.mono hle1
  replace hk3 := hk3.mono hle1
  replace hk4 := hk4.mono hle1
  have hr8 : Rws H (.slice (some ⟨e9, 0, none⟩) 2 2) [([1, 1], [1, 99, 0]), ([0, 1], [2, 97, 98])] := ⟨[(_, _), (_, _)], Sl.block hp_e9 rfl rfl (by omega), RowsOk.snoc (cs := [_]) (rs := [_]) (RowsOk.snoc (cs := []) (rs := []) ⟨rfl, fun i h => by simp at h⟩ hk1 hk2) hk3 hk4⟩
  refine WO.guardYes rfl rfl rfl rfl (OR.call hs body25 rfl rfl (bsame_ok [([1, 1], [1, 99, 0]), ([0, 1], [2, 97, 98])] [([1, 1], [1, 99, 0]), ([0, 1], [2, 97, 98])] _ _ _ _ hs.toSub hr9 hr8 (by simp)) ?_)
  clear hs; rintro _ H w hs hle1 rfl; replace hle := hle.trans hle1; (try replace hlb := hlb.trans hle1)
  refine WO.step rfl (OR.pickT rfl rfl rfl (WO.step rfl (OR.assign rfl (WO.done (WX.seq (WC.ret ?_))))))
  refine WX.ret1 rfl rfl ?_
  refine .mk (((hs.drop 0).drop 0).drop 0) ?_
  rw [decide_eq_true rfl]

end Go.Bw
