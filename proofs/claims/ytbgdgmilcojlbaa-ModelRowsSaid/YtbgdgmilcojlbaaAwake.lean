/- The law's waking test. -/
import Derived.Test.YtbgdgmilcojlbaaLaid
namespace Go.Bw
set_option linter.unusedVariables false
set_option linter.unusedSimpArgs false
open Go.Proofs

theorem mul_fast (a b : UInt8) : mul a b = rmul 8 a b 0 := by
  rw [rmul_ok 8 a b 0 (by have := b.toNat_lt; omega), zero_xor8]
theorem inv_of {a b : UInt8} (h : rmul 8 a b 0 = 1) : inv a = b := by
  rw [← mul_fast] at h
  have ha : a ≠ 0 := by
    intro e
    subst e
    rw [zero_mul] at h
    exact absurd h (by decide)
  have : mul (mul b a) (inv a) = inv a := by rw [mul_comm b a, h, one_mul]
  rw [mul_assoc, mul_inv a ha, mul_one] at this
  exact this.symm
theorem normR_inv (q : RowD) : normR q = (q.1.map (fun x => mul x (inv (q.1.getD (lead q.1).toNat 0))), q.2.map (fun x => mul x (inv (q.1.getD (lead q.1).toNat 0)))) := rfl

theorem aw1 : insR 2 1 [] ([2, 4], [6]) = (true, [([1, 2], [3])]) := by
  have h1 : redR [] (([2, 4], [6]) : RowD) = ([2, 4], [6]) := rfl
  have h2 : lead [2, 4] = 0 := by rfl
  have h3 : inv 2 = 141 := inv_of (by kernel_rfl)
  have h4 : normR (([2, 4], [6]) : RowD) = ([1, 2], [3]) := by
    rw [normR_inv]
    simp only [h2, Int.toNat_zero, List.getD_cons_zero, h3, mul_fast, List.map_cons, List.map_nil]
    rfl
  simp only [insR, h1, h2, h4]
  rfl
theorem aw2 : insR 2 1 [([1, 2], [3])] ([1, 2], [9]) = (false, [([1, 2], [3])]) := by
  have h1 : redR [([1, 2], [3])] (([1, 2], [9]) : RowD) = ([0, 0], [10]) := by
    have h2 : lead [1, 2] = 0 := by rfl
    simp only [redR, List.foldl_cons, List.foldl_nil, stepR, plusR, addS, eachR, h2, mul_fast]
    rfl
  simp only [insR, h1]
  rfl
theorem aw3 : ∃ rs, insR 2 1 [([1, 2], [3])] ([0, 3], [5]) = (true, rs) ∧ rs.length = 2 := by
  have h1 : redR [([1, 2], [3])] (([0, 3], [5]) : RowD) = ([0, 3], [5]) := by
    have h2 : lead [1, 2] = 0 := by rfl
    simp only [redR, List.foldl_cons, List.foldl_nil, stepR, plusR, addS, eachR, h2, mul_fast]
    rfl
  refine ⟨_, by simp only [insR, h1]; rfl, ?_⟩
  rfl

theorem gs1 {g s : Nat} {c p : List UInt8} (h1 : c.length = g) (h2 : p.length = s) : RowGS g s (c, p) := ⟨h1, h2⟩
set_option maxRecDepth 20000 in
set_option maxHeartbeats 2000000 in
theorem awake_ok (H0 : Hp) (w0 : World) (h0 : Sub H0 w0) : Calls Try.prog 16 #[] w0 (Pure H0 w0 fun v _ => v = .bool true) := by
  have hs := HS.init h0
  have hle := Hp.le.refl H0
  refine Calls.enter (args := []) Try.func16 rfl Try.ntmps16 rfl ?_
  refine WC.seq (WC.region (WO.step rfl (OR.assign rfl (WO.done (WX.seq (WC.seq (WC.region ?_)))))))
  refine WO.step rfl (OR.callX (Mx := []) hs body15 rfl rfl (new_ok 2 1 _ _ hs.toSub) rfl rfl ?_)
  clear hs; rintro _ H M' w hs hle1 hnew ⟨_, hn⟩; replace hle := hle.trans hle1; (try replace hlb := hlb.trans hle1)
  rw [if_pos (by omega)] at hn
  obtain ⟨b, hb0, rfl, rfl⟩ := hn
  refine WO.step rfl (OR.move rfl (WO.step rfl (OR.extract rfl rfl (WO.step rfl (OR.extract rfl rfl (WO.step rfl (OR.assign rfl ?_)))))))
  refine WO.step rfl (OR.assign rfl (WO.done (WX.seq (WC.seq (WC.seq (WC.region (WO.step rfl ?_)))))))
  refine OR.move rfl (WO.step rfl (OR.neq rfl rfl (WO.done (WX.seq ?_))))
  refine WC.no rfl (decide_eq_false (by omega)) ?_
  refine WC.skip (WX.seq (WC.seq (WC.region (WO.step rfl (OR.move rfl ?_)))))
  refine WO.step rfl (OR.buildSlice (vs := [B 2, B 4]) hs T23.und T5 rfl rfl rfl rfl (by simp) ?_)
  clear hs; intro g1 w hg1 hs
  obtain ⟨H, hle1, hp_g1, hs9⟩ := hs.pub1 hg1; clear hs; have hs := hs9; clear hs9; replace hle := hle.trans hle1; (try replace hlb := hlb.trans hle1)
  have hc := Bytes.block (l := [2, 4]) (cap := 2) hp_g1 rfl (by simp)
  refine WO.step rfl (OR.buildSlice (vs := [B 6]) hs T23.und T5 rfl rfl rfl rfl (by simp) ?_)
  clear hs; intro g2 w hg2 hs
  obtain ⟨H, hle1, hp_g2, hs9⟩ := hs.pub1 hg2; clear hs; have hs := hs9; clear hs9; replace hle := hle.trans hle1; (try replace hlb := hlb.trans hle1)
  replace hc := hc.mono hle1
  have hp := Bytes.block (l := [6]) (cap := 1) hp_g2 rfl (by simp)
  refine WO.step rfl (OR.call hs body48 rfl rfl (R_ok _ _ (([2, 4], [6]) : RowD) _ _ hs.toSub hc hp) ?_)
  clear hs; rintro _ H w hs hle1 rfl; replace hle := hle.trans hle1; (try replace hlb := hlb.trans hle1)
  replace hc := hc.mono hle1
  replace hp := hp.mono hle1
  refine WO.step rfl (OR.callX (Mx := [(b, _, true)]) hs body18 rfl rfl (insert_ok [] (([2, 4], [6]) : RowD) _ _ _ b 2 1 _ _ hs.toSub (hs.blk (i := 0) rfl) (hs.mem b _ true (List.mem_cons_self ..)).2.1 ⟨[], Sl.nil _ _, rfl, fun i h => by simp at h⟩ hc hp (fun x hx => by cases hx) (by omega) (by omega) (by omega) (by simp)) rfl rfl ?_)
  clear hs; rintro _ H M' w hs hle1 hnew ⟨rv1, rfl, hrv1, rfl⟩; replace hle := hle.trans hle1; (try replace hlb := hlb.trans hle1)
  have e1 : (insR 2 1 [] (([2, 4], [6]) : RowD)).1 = true := by rw [aw1]
  have e2 : (insR 2 1 [] (([2, 4], [6]) : RowD)).2 = [([1, 2], [3])] := by rw [aw1]
  rw [e1]
  rw [e2] at hrv1
  have hr1 : ∀ x ∈ ([([1, 2], [3])] : List RowD), RowGS 2 1 x ∧ 0 ≤ lead x.1 := by
    intro x hx
    have := List.mem_singleton.1 hx
    subst this
    exact ⟨⟨rfl, rfl⟩, by decide⟩
  refine WO.step rfl (OR.move rfl (WO.step rfl (OR.extract rfl rfl (WO.step rfl (OR.extract rfl rfl (WO.step rfl (OR.assign rfl ?_)))))))
  refine WO.step rfl (OR.assign rfl (WO.done (WX.seq (WC.seq (WC.region (WO.step rfl (OR.move rfl ?_)))))))
  refine WO.step rfl (OR.call hs body20 rfl rfl (rows_ok [([1, 2], [3])] _ b 2 1 _ _ hs.toSub (hs.blk (i := 0) rfl) (hs.mem b _ true (List.mem_cons_self ..)).2.1 hrv1 (fun x hx => (hr1 x hx).1) (by omega) (by omega) (by omega) (by simp)) ?_)
  clear hs; rintro _ H w hs hle1 hl; replace hle := hle.trans hle1; (try replace hlb := hlb.trans hle1)
  have hlb := Hp.le.refl H
  replace hrv1 := hrv1.mono hle1
  obtain ⟨bl, cl, rfl⟩ := hl.form
  refine WO.step rfl (OR.assign rfl (WO.done (WX.seq (WC.seq (WC.region (WO.step rfl (OR.move rfl ?_)))))))
  refine WO.step rfl (OR.call hs body23 rfl rfl (solve_ok [([1, 2], [3])] _ b 2 1 _ _ hs.toSub (hs.blk (i := 0) rfl) (hs.mem b _ true (List.mem_cons_self ..)).2.1 hrv1 (fun x hx => (hr1 x hx).1) (by omega) (by omega) (by omega) (by simp)) ?_)
  clear hs; rintro _ H w hs hle1 ⟨r5, rfl, hr5⟩; replace hle := hle.trans hle1; (try replace hlb := hlb.trans hle1)
  rw [if_pos (by decide)]
  refine WO.step rfl (OR.move rfl (WO.step rfl (OR.extract rfl rfl (WO.step rfl (OR.extract rfl rfl (WO.step rfl (OR.assign rfl ?_)))))))
  refine WO.step rfl (OR.assign rfl (WO.done (WX.seq (WC.seq (WC.region (WO.step rfl (OR.move rfl ?_)))))))
  refine WO.step rfl (OR.buildSlice (vs := [B 1, B 2]) hs T23.und T5 rfl rfl rfl rfl (by simp) ?_)
  clear hs; intro g3 w hg3 hs
  obtain ⟨H, hle1, hp_g3, hs9⟩ := hs.pub1 hg3; clear hs; have hs := hs9; clear hs9; replace hle := hle.trans hle1; (try replace hlb := hlb.trans hle1)
  have hc := Bytes.block (l := [1, 2]) (cap := 2) hp_g3 rfl (by simp)
  refine WO.step rfl (OR.buildSlice (vs := [B 9]) hs T23.und T5 rfl rfl rfl rfl (by simp) ?_)
  clear hs; intro g4 w hg4 hs
  obtain ⟨H, hle1, hp_g4, hs9⟩ := hs.pub1 hg4; clear hs; have hs := hs9; clear hs9; replace hle := hle.trans hle1; (try replace hlb := hlb.trans hle1)
  replace hc := hc.mono hle1
  have hp := Bytes.block (l := [9]) (cap := 1) hp_g4 rfl (by simp)
  refine WO.step rfl (OR.call hs body48 rfl rfl (R_ok _ _ (([1, 2], [9]) : RowD) _ _ hs.toSub hc hp) ?_)
  clear hs; rintro _ H w hs hle1 rfl; replace hle := hle.trans hle1; (try replace hlb := hlb.trans hle1)
  replace hc := hc.mono hle1
  replace hp := hp.mono hle1
  refine WO.step rfl (OR.callX (Mx := [(b, _, true)]) hs body18 rfl rfl (insert_ok [([1, 2], [3])] (([1, 2], [9]) : RowD) _ _ _ b 2 1 _ _ hs.toSub (hs.blk (i := 0) rfl) (hs.mem b _ true (List.mem_cons_self ..)).2.1 (hrv1.mono hlb) hc hp hr1 (by omega) (by omega) (by omega) (by simp)) rfl rfl ?_)
  clear hs; rintro _ H M' w hs hle1 hnew ⟨rv2, rfl, hrv2, rfl⟩; replace hle := hle.trans hle1; (try replace hlb := hlb.trans hle1)
  try replace hlb := hlb.trans hle1
  have e3 : (insR 2 1 [([1, 2], [3])] (([1, 2], [9]) : RowD)).1 = false := by rw [aw2]
  have e4 : (insR 2 1 [([1, 2], [3])] (([1, 2], [9]) : RowD)).2 = [([1, 2], [3])] := by rw [aw2]
  rw [e3]
  rw [e4] at hrv2
  refine WO.step rfl (OR.move rfl (WO.step rfl (OR.extract rfl rfl (WO.step rfl (OR.extract rfl rfl (WO.step rfl (OR.assign rfl ?_)))))))
  refine WO.step rfl (OR.assign rfl (WO.done (WX.seq (WC.seq (WC.region (WO.step rfl (OR.move rfl ?_)))))))
  refine WO.step rfl (OR.buildSlice (vs := [B 0, B 3]) hs T23.und T5 rfl rfl rfl rfl (by simp) ?_)
  clear hs; intro g5 w hg5 hs
  obtain ⟨H, hle1, hp_g5, hs9⟩ := hs.pub1 hg5; clear hs; have hs := hs9; clear hs9; replace hle := hle.trans hle1; (try replace hlb := hlb.trans hle1)
  have hc := Bytes.block (l := [0, 3]) (cap := 2) hp_g5 rfl (by simp)
  replace hrv2 := hrv2.mono hle1
  refine WO.step rfl (OR.buildSlice (vs := [B 5]) hs T23.und T5 rfl rfl rfl rfl (by simp) ?_)
  clear hs; intro g6 w hg6 hs
  obtain ⟨H, hle1, hp_g6, hs9⟩ := hs.pub1 hg6; clear hs; have hs := hs9; clear hs9; replace hle := hle.trans hle1; (try replace hlb := hlb.trans hle1)
  replace hrv2 := hrv2.mono hle1
  replace hc := hc.mono hle1
  have hp := Bytes.block (l := [5]) (cap := 1) hp_g6 rfl (by simp)
  refine WO.step rfl (OR.call hs body48 rfl rfl (R_ok _ _ (([0, 3], [5]) : RowD) _ _ hs.toSub hc hp) ?_)
  clear hs; rintro _ H w hs hle1 rfl; replace hle := hle.trans hle1; (try replace hlb := hlb.trans hle1)
  replace hrv2 := hrv2.mono hle1
  replace hc := hc.mono hle1
  replace hp := hp.mono hle1
  refine WO.step rfl (OR.callX (Mx := [(b, _, true)]) hs body18 rfl rfl (insert_ok [([1, 2], [3])] (([0, 3], [5]) : RowD) _ _ _ b 2 1 _ _ hs.toSub (hs.blk (i := 0) rfl) (hs.mem b _ true (List.mem_cons_self ..)).2.1 hrv2 hc hp hr1 (by omega) (by omega) (by omega) (by simp)) rfl rfl ?_)
  clear hs; rintro _ H M' w hs hle1 hnew ⟨rv3, rfl, hrv3, rfl⟩; replace hle := hle.trans hle1; (try replace hlb := hlb.trans hle1)
  obtain ⟨rs3, e5, hl3⟩ := aw3
  rw [e5]
  rw [e5] at hrv3
  simp only at hrv3
  have hlc := Hp.le.refl H
  refine WO.step rfl (OR.move rfl (WO.step rfl (OR.extract rfl rfl (WO.step rfl (OR.extract rfl rfl (WO.step rfl (OR.assign rfl ?_)))))))
  refine WO.step rfl (OR.assign rfl (WO.done (WX.seq (WC.seq (WC.region (WO.step rfl (OR.move rfl ?_)))))))
  refine WO.step rfl (OR.move rfl ?_)
  refine WO.guardYes rfl rfl rfl rfl (OR.move rfl (WO.guardYes rfl rfl rfl rfl (OR.not rfl (WO.step rfl (OR.pickT rfl rfl rfl (WO.step rfl (OR.move rfl ?_)))))))
  refine WO.guardYes rfl rfl rfl rfl (OR.move rfl (WO.step rfl (OR.pickT rfl rfl rfl (WO.step rfl (OR.move rfl ?_)))))
  refine WO.guardYes rfl rfl rfl rfl (OR.move rfl ?_)
  refine WO.guardYes rfl rfl rfl rfl (OR.call hs body19 rfl rfl (rank_ok b 2 1 _ rs3 _ _ hs.toSub (hs.blk (i := 0) rfl) (hs.mem b _ true (List.mem_cons_self ..)).2.1 (by omega) hrv3) ?_)
  clear hs; rintro _ H w hs hle1 rfl; replace hle := hle.trans hle1; (try replace hlb := hlb.trans hle1)
  refine WO.guardYes rfl rfl rfl rfl (OR.eql rfl rfl (WO.step rfl (OR.pickT rfl rfl rfl (WO.step rfl (OR.move rfl ?_)))))
  refine WO.guardYes rfl (decide_eq_true (by rw [hl3]; rfl : (rs3.length : Int) = 2)) rfl rfl (OR.move rfl (WO.guardYes rfl (decide_eq_true (by rw [hl3]; rfl : (rs3.length : Int) = 2)) rfl rfl (OR.eql rfl rfl (WO.step rfl (OR.pickT rfl (decide_eq_true (by rw [hl3]; rfl : (rs3.length : Int) = 2)) rfl (WO.step rfl (OR.move rfl ?_)))))))
  refine WO.guardYes rfl rfl rfl rfl (OR.move rfl ?_)
  refine WO.guardYes rfl rfl rfl rfl (OR.buildSlice (vs := [B 1, B 2]) hs T23.und T5 rfl rfl rfl rfl (by simp) ?_)
  clear hs; intro g7 w hg7 hs
  obtain ⟨H, hle1, hp_g7, hs9⟩ := hs.pub1 hg7; clear hs; have hs := hs9; clear hs9; replace hle := hle.trans hle1; (try replace hlb := hlb.trans hle1)
  have hc := Bytes.block (l := [1, 2]) (cap := 2) hp_g7 rfl (by simp)
  refine WO.guardYes rfl rfl rfl rfl (OR.buildSlice (vs := [B 3]) hs T23.und T5 rfl rfl rfl rfl (by simp) ?_)
  clear hs; intro g8 w hg8 hs
  obtain ⟨H, hle1, hp_g8, hs9⟩ := hs.pub1 hg8; clear hs; have hs := hs9; clear hs9; replace hle := hle.trans hle1; (try replace hlb := hlb.trans hle1)
  replace hc := hc.mono hle1
  have hp := Bytes.block (l := [3]) (cap := 1) hp_g8 rfl (by simp)
  refine WO.guardYes rfl rfl rfl rfl (OR.call hs body48 rfl rfl (R_ok _ _ (([1, 2], [3]) : RowD) _ _ hs.toSub hc hp) ?_)
  clear hs; rintro _ H w hs hle1 rfl; replace hle := hle.trans hle1; (try replace hlb := hlb.trans hle1)
  replace hc := hc.mono hle1
  replace hp := hp.mono hle1
  refine WO.guardYes rfl rfl rfl rfl (OR.buildSlice (vs := [_]) hs T26.und T35 rfl rfl rfl rfl (by simp) ?_)
  clear hs; intro g9 w hg9 hs
  obtain ⟨H, hle1, hp_g9, hs9⟩ := hs.pub1 hg9; clear hs; have hs := hs9; clear hs9; replace hle := hle.trans hle1; (try replace hlb := hlb.trans hle1)
  replace hc := hc.mono hle1
  replace hp := hp.mono hle1
  have hr9 : Rws H (.slice (some ⟨g9, 0, none⟩) 1 1) [([1, 2], [3])] := ⟨[(_, _)], Sl.block hp_g9 rfl rfl (by omega), RowsOk.snoc (cs := []) (rs := []) ⟨rfl, fun i h => by simp at h⟩ hc hp⟩
  refine WO.guardYes rfl rfl rfl rfl (OR.call hs body25 rfl rfl (bsame_ok [([1, 2], [3])] [([1, 2], [3])] _ _ _ _ hs.toSub (hl.mono hlb) hr9 (by simp)) ?_)
  clear hs; rintro _ H w hs hle1 rfl; replace hle := hle.trans hle1; (try replace hlb := hlb.trans hle1)
  refine WO.step rfl (OR.pickT rfl rfl rfl (WO.step rfl (OR.assign rfl (WO.done (WX.seq (WC.ret ?_))))))
  refine WX.ret1 rfl rfl ?_
  refine .mk (hs.drop 0) ?_
  rw [decide_eq_true rfl]

end Go.Bw
