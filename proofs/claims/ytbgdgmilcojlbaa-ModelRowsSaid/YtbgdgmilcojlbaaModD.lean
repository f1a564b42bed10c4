/- A model: the chapter's rows. -/
import Derived.Test.YtbgdgmilcojlbaaModC
namespace Go.Bw
set_option linter.unusedVariables false
set_option linter.unusedSimpArgs false
open Go.Proofs

theorem cutD_len (x : SrcD) : (cutD x).cuts.length ≤ x.cuts.length + 1 := by
  unfold cutD
  split
  · omega
  · simp
theorem mSubX_ok {x : SrcD} (h : SrcOk x) (l : List UInt8) : SrcOk (mSubX x l) ∧ (mSubX x l).cuts = x.cuts ∧ (mSubX x l).g = x.g ∧ (mSubX x l).s = x.s := by
  unfold mSubX mSubD
  split
  · exact ⟨h, rfl, rfl, rfl⟩
  · split
    · exact ⟨h.long (by assumption), rfl, rfl, rfl⟩
    · exact ⟨h, rfl, rfl, rfl⟩
theorem cutD_gs (x : SrcD) : (cutD x).g = x.g ∧ (cutD x).s = x.s := by
  unfold cutD
  split <;> exact ⟨rfl, rfl⟩
theorem mFluX_ok {x : SrcD} (h : SrcOk x) : SrcOk (mFluX x) ∧ (mFluX x).cuts.length ≤ x.cuts.length + 1 ∧ (mFluX x).g = x.g ∧ (mFluX x).s = x.s := by
  unfold mFluX
  split
  · exact ⟨h, by omega, rfl, rfl⟩
  · exact ⟨h.cut, cutD_len x, (cutD_gs x).1, (cutD_gs x).2⟩
theorem mCloX_ok {x : SrcD} (h : SrcOk x) : SrcOk (mCloX x) ∧ (mCloX x).cuts.length ≤ x.cuts.length + 1 ∧ (mCloX x).g = x.g ∧ (mCloX x).s = x.s := by
  unfold mCloX mClD
  split
  · exact ⟨h, by omega, rfl, rfl⟩
  · obtain ⟨h1, h2, h3, h4, h5⟩ := h.cut
    exact ⟨⟨h1, h2, h3, h4, h5⟩, cutD_len x, (cutD_gs x).1, (cutD_gs x).2⟩
def wk0 : SrcD := newD 2 3 [] [] false
def wk1 : SrcD := mSubX wk0 [97, 98, 99]
def wk2 : SrcD := mFluX wk1
def wk3 : SrcD := mSubX wk2 [100]
def wk4 : SrcD := mCloX wk3
theorem wk_E : mSubE wk0 [97, 98, 99] = 0 ∧ mFluE wk1 = 0 ∧ mSubE wk2 [100] = 0 ∧ mFluE wk3 = 0 ∧ mSubE wk4 [120] = 27 := by decide +kernel
theorem wk_C : wk1.chunks.length = 1 ∧ wk2.chunks.length = 2 ∧ wk4.chunks = [[97, 98], [99], [100]] := by decide +kernel
theorem wk_N : nextE wk4 0 2 = 0 ∧ nextF wk4 0 2 = [97, 98] ∧ mgotE wk4 0 [97] = 5 ∧ mgotK wk4 0 [97] = 0 ∧ mgotE wk4 0 [97, 98] = 0 ∧ mgotK wk4 0 [97, 98] = 1 ∧ mgotE wk4 1 [99] = 0 ∧ mgotK wk4 1 [99] = 2 ∧ nextE wk4 2 1 = 6 := by decide +kernel
theorem wk_S : thereE wk4 0 = 0 ∧ symF wk4 0 = [[0, 0, 0], [2, 97, 98]] := by decide +kernel
theorem wk_ok : SrcOk wk0 ∧ SrcOk wk1 ∧ SrcOk wk2 ∧ SrcOk wk3 ∧ SrcOk wk4 := by
  have h0 : SrcOk wk0 := newD_ok (by decide)
  have h1 : SrcOk wk1 := (mSubX_ok h0 _).1
  have h2 : SrcOk wk2 := (mFluX_ok h1).1
  have h3 : SrcOk wk3 := (mSubX_ok h2 _).1
  exact ⟨h0, h1, h2, h3, (mCloX_ok h3).1⟩
theorem wk_cuts : wk0.cuts.length ≤ 9 ∧ wk1.cuts.length ≤ 9 ∧ wk2.cuts.length ≤ 9 ∧ wk3.cuts.length ≤ 9 ∧ wk4.cuts.length ≤ 9 := by decide +kernel
theorem wk_gs : wk0.g = 2 ∧ wk1.g = 2 ∧ wk2.g = 2 ∧ wk3.g = 2 ∧ wk4.g = 2 ∧ wk0.s = 3 ∧ wk1.s = 3 ∧ wk2.s = 3 ∧ wk3.s = 3 ∧ wk4.s = 3 := by decide +kernel
end Go.Bw
namespace Go.Bw
set_option linter.unusedVariables false
set_option linter.unusedSimpArgs false
open Go.Proofs

theorem Flow1.of {H : Hp} {v : Value} {x : SrcD} (h : Flow1 H v 2 3) (hg : x.g = 2) (hs : x.s = 3) : Flow1 H v x.g x.s := by
  rw [hg, hs]
  exact h
set_option maxRecDepth 20000 in
set_option maxHeartbeats 2000000 in
theorem mwakes_ok (H0 : Hp) (w0 : World) (h0 : Sub H0 w0) : Calls Try.prog 74 #[] w0 (Pure H0 w0 fun v _ => v = .bool true) := by
  have hs := HS.init h0
  have hle := Hp.le.refl H0
  obtain ⟨k0, k1, k2, k3, k4⟩ := wk_ok
  obtain ⟨c0, c1, c2, c3, c4⟩ := wk_cuts
  obtain ⟨a0, a1, a2, a3, a4, s0, s1, s2, s3, s4⟩ := wk_gs
  obtain ⟨e0, e1, e2, e3, e4⟩ := wk_E
  obtain ⟨l1, l2, l4⟩ := wk_C
  obtain ⟨n1, n2, n3, n4, n5, n6, n7, n8, n9⟩ := wk_N
  obtain ⟨y1, y2⟩ := wk_S
  refine Calls.enter (args := []) Try.func74 rfl Try.ntmps74 rfl ?_
  refine WC.seq (WC.region (WO.step rfl (OR.assign rfl (WO.done (WX.seq (WC.seq (WC.region ?_)))))))
  refine WO.step rfl (OR.callX (Mx := []) hs body68 rfl rfl (three_ok _ _ hs.toSub) rfl rfl ?_)
  clear hs; rintro _ H M' w hs hle1 hnew ⟨fb, sv, rfl, rfl, hfb, hsv⟩; replace hle := hle.trans hle1; (try replace hlb := hlb.trans hle1)
  obtain ⟨H, hle1, hp_fb, hs9⟩ := hs.pub1 hfb; clear hs; have hs := hs9; clear hs9; replace hle := hle.trans hle1; (try replace hlb := hlb.trans hle1)
  have hfl : Flow1 H (.slice (some ⟨fb, 0, none⟩) 1 1) 2 3 := ⟨fb, 0, 1, sv, rfl, Nat.le_refl _, hsv.mono hle1, fun j u hj => by
    rw [add_off, Nat.zero_add]
    refine hcell_of hp_fb ?_
    rw [nth_eq]
    exact hj⟩
  refine WO.step rfl (OR.callX (Mx := []) hs body69 rfl rfl (mnew_ok 2 3 _ _ _ hs.toSub (by decide) hfl) rfl rfl ?_)
  clear hs; rintro _ H M' w hs hle1 hnew ⟨mb, pb, gb, vf, rfl, rfl, hf⟩; replace hle := hle.trans hle1; (try replace hlb := hlb.trans hle1)
  have hx : PartIn H wk0 (partObj (.slice none 0 0) (.slice none 0 0) false) := ⟨_, _, rfl, Sl.empty _ _ _, Sl.empty _ _ _⟩
  refine WO.step rfl (OR.move rfl (WO.step rfl (OR.extract rfl rfl (WO.step rfl (OR.extract rfl rfl (WO.step rfl (OR.assign rfl ?_)))))))
  refine WO.step rfl (OR.assign rfl (WO.done (WX.seq (WC.seq (WC.seq (WC.region (WO.step rfl ?_)))))))
  refine OR.move rfl (WO.step rfl (OR.neq rfl rfl (WO.step rfl (OR.move rfl ?_))))
  replace hs := hs.front (i := 1) rfl
  replace hs := hs.front (i := 1) rfl
  replace hs := hs.front (i := 2) rfl
  refine WO.guardYes rfl rfl rfl rfl (OR.move rfl ?_)
  refine WO.guardYes rfl rfl rfl rfl (OR.buildSlice (vs := [B 97, B 98, B 99]) hs T23.und T5 rfl rfl rfl rfl (by simp) ?_)
  clear hs; intro q1 w hq1 hs
  refine WO.guardYes rfl rfl rfl rfl (OR.convText hs T23.und T5.und rfl ?_)
  clear hs; intro w hs
  obtain ⟨H, hle1, hp_q1, hs9⟩ := hs.pub1 hq1; clear hs; have hs := hs9; clear hs9; replace hle := hle.trans hle1; (try replace hlb := hlb.trans hle1)
  have hc := Bytes.block (l := [97, 98, 99]) (cap := 3) hp_q1 rfl (by simp)
  replace hf := hf.mono hle1
  replace hx := hx.mono hle1
  refine WO.guardYes rfl rfl rfl rfl (OR.callX (Mx := [(pb, _, true)]) hs body70 rfl rfl (msubmit_ok mb pb gb vf _ wk0 _ _ _ [97, 98, 99] ((hs.drop 2).begin [true]) (hf.of a0 s0) hx k0 (by omega) hc (by simp)) rfl rfl ?_)
  clear hs; rintro _ H M' w hs hle1 hnew ⟨rfl, o1, rfl, hx⟩; replace hle := hle.trans hle1; (try replace hlb := hlb.trans hle1)
  rw [e0]
  replace hx : PartIn H wk1 o1 := hx
  replace hf := hf.mono hle1
  refine WO.guardYes rfl rfl rfl rfl (OR.neq rfl rfl (WO.step rfl (OR.pickF rfl rfl rfl (WO.step rfl (OR.move rfl ?_)))))
  refine WO.guardYes rfl rfl rfl rfl (OR.move rfl ?_)
  refine WO.guardYes rfl rfl rfl rfl (OR.call hs body72 rfl rfl (mgens_ok mb pb gb vf o1 wk1 _ _ ((hs.drop 2).begin []) (hf.of a1 s1) hx k1 (by omega)) ?_)
  clear hs; rintro _ H w hs hle1 rfl; replace hle := hle.trans hle1; (try replace hlb := hlb.trans hle1)
  rw [l1]
  refine WO.guardYes rfl rfl rfl rfl (OR.neq rfl rfl (WO.step rfl (OR.pickF rfl rfl rfl (WO.step rfl (OR.move rfl ?_)))))
  replace hf := hf.mono hle1
  replace hx := hx.mono hle1
  refine WO.guardYes rfl rfl rfl rfl (OR.move rfl ?_)
  refine WO.guardYes rfl rfl rfl rfl (OR.callX (Mx := [(pb, _, true)]) hs body133 rfl rfl (mflush_ok mb pb gb vf _ wk1 _ _ ((hs.drop 2).begin [true]) (hf.of a1 s1) hx k1 (by omega)) rfl rfl ?_)
  clear hs; rintro _ H M' w hs hle1 hnew ⟨rfl, o2, rfl, hx⟩; replace hle := hle.trans hle1; (try replace hlb := hlb.trans hle1)
  rw [e1]
  replace hx : PartIn H wk2 o2 := hx
  replace hf := hf.mono hle1
  refine WO.guardYes rfl rfl rfl rfl (OR.neq rfl rfl (WO.step rfl (OR.pickF rfl rfl rfl (WO.step rfl (OR.move rfl ?_)))))
  refine WO.guardYes rfl rfl rfl rfl (OR.move rfl ?_)
  refine WO.guardYes rfl rfl rfl rfl (OR.call hs body72 rfl rfl (mgens_ok mb pb gb vf o2 wk2 _ _ ((hs.drop 2).begin []) (hf.of a2 s2) hx k2 (by omega)) ?_)
  clear hs; rintro _ H w hs hle1 rfl; replace hle := hle.trans hle1; (try replace hlb := hlb.trans hle1)
  rw [l2]
  replace hx := hx.mono hle1
  replace hf := hf.mono hle1
  refine WO.guardYes rfl rfl rfl rfl (OR.neq rfl rfl (WO.step rfl (OR.pickF rfl rfl rfl (WO.step rfl (OR.move rfl ?_)))))
  refine WO.guardYes rfl rfl rfl rfl (OR.move rfl ?_)
  refine WO.guardYes rfl rfl rfl rfl (OR.buildSlice (vs := [B 100]) hs T23.und T5 rfl rfl rfl rfl (by simp) ?_)
  clear hs; intro q2 w hq2 hs
  refine WO.guardYes rfl rfl rfl rfl (OR.convText hs T23.und T5.und rfl ?_)
  clear hs; intro w hs
  obtain ⟨H, hle1, hp_q2, hs9⟩ := hs.pub1 hq2; clear hs; have hs := hs9; clear hs9; replace hle := hle.trans hle1; (try replace hlb := hlb.trans hle1)
  have hc := Bytes.block (l := [100]) (cap := 1) hp_q2 rfl (by simp)
  replace hf := hf.mono hle1
  replace hx := hx.mono hle1
  refine WO.guardYes rfl rfl rfl rfl (OR.callX (Mx := [(pb, _, true)]) hs body70 rfl rfl (msubmit_ok mb pb gb vf _ wk2 _ _ _ [100] ((hs.drop 2).begin [true]) (hf.of a2 s2) hx k2 (by omega) hc (by simp)) rfl rfl ?_)
  clear hs; rintro _ H M' w hs hle1 hnew ⟨rfl, o3, rfl, hx⟩; replace hle := hle.trans hle1; (try replace hlb := hlb.trans hle1)
  rw [e2]
  replace hx : PartIn H wk3 o3 := hx
  replace hf := hf.mono hle1
  refine WO.guardYes rfl rfl rfl rfl (OR.neq rfl rfl (WO.step rfl (OR.pickF rfl rfl rfl (WO.step rfl (OR.move rfl ?_)))))
  refine WO.guardYes rfl rfl rfl rfl (OR.move rfl ?_)
  refine WO.guardYes rfl rfl rfl rfl (OR.callX (Mx := [(pb, _, true)]) hs body71 rfl rfl (mclose_ok mb pb gb vf _ wk3 _ _ ((hs.drop 2).begin [true]) (hf.of a3 s3) hx k3 (by omega)) rfl rfl ?_)
  clear hs; rintro _ H M' w hs hle1 hnew ⟨rfl, o4, rfl, hx⟩; replace hle := hle.trans hle1; (try replace hlb := hlb.trans hle1)
  rw [e3]
  replace hx : PartIn H wk4 o4 := hx
  replace hf := hf.mono hle1
  refine WO.guardYes rfl rfl rfl rfl (OR.neq rfl rfl (WO.step rfl (OR.pickF rfl rfl rfl (WO.step rfl (OR.move rfl ?_)))))
  refine WO.guardYes rfl rfl rfl rfl (OR.move rfl ?_)
  refine WO.guardYes rfl rfl rfl rfl (OR.call hs body72 rfl rfl (mgens_ok mb pb gb vf o4 wk4 _ _ ((hs.drop 2).begin []) (hf.of a4 s4) hx k4 (by omega)) ?_)
  clear hs; rintro _ H w hs hle1 rfl; replace hle := hle.trans hle1; (try replace hlb := hlb.trans hle1)
  rw [l4]
  replace hx := hx.mono hle1
  replace hf := hf.mono hle1
  refine WO.guardYes rfl rfl rfl rfl (OR.neq rfl rfl (WO.step rfl (OR.pickF rfl rfl rfl (WO.done (WX.seq ?_)))))
  refine WC.no rfl rfl ?_
  have hg0 : GotO (.map #[] 0) 0 := .inl ⟨rfl, rfl⟩
  refine WC.skip (WX.seq (WC.seq (WC.region (WO.step rfl (OR.move rfl ?_)))))
  refine WO.step rfl (OR.call hs body134 rfl rfl (mnext_ok mb pb gb 0 2 vf o4 _ wk4 _ _ (hs.begin []) (hf.of a4 s4) hx k4 (by omega) hg0 (by omega) (.inr rfl)) ?_)
  clear hs; rintro _ H w hs hle1 ⟨r, rfl, hr⟩; replace hle := hle.trans hle1; (try replace hlb := hlb.trans hle1)
  rw [n1]
  rw [n2] at hr
  replace hx := hx.mono hle1
  replace hf := hf.mono hle1
  obtain ⟨b1, c1, rfl⟩ := hr.form
  refine WO.step rfl (OR.move rfl (WO.step rfl (OR.extract rfl rfl (WO.step rfl (OR.extract rfl rfl (WO.step rfl (OR.assign rfl ?_)))))))
  refine WO.step rfl (OR.assign rfl (WO.done (WX.seq (WC.seq (WC.seq (WC.region (WO.step rfl ?_)))))))
  refine OR.move rfl (WO.step rfl (OR.neq rfl rfl (WO.step rfl (OR.move rfl ?_))))
  refine WO.guardYes rfl rfl rfl rfl (OR.move rfl ?_)
  refine WO.guardYes rfl rfl rfl rfl (OR.toStr hs T23.und T9.und T5.und rfl hr ?_)
  refine WO.guardYes rfl rfl rfl rfl (OR.neqStr rfl rfl (WO.step rfl (OR.pickF rfl rfl rfl (WO.step rfl (OR.move rfl ?_)))))
  refine WO.guardYes rfl rfl rfl rfl (OR.move rfl ?_)
  refine WO.guardYes rfl rfl rfl rfl (OR.buildSlice (vs := [B 97]) hs T23.und T5 rfl rfl rfl rfl (by simp) ?_)
  clear hs; intro q3 w hq3 hs
  refine WO.guardYes rfl rfl rfl rfl (OR.convText hs T23.und T5.und rfl ?_)
  clear hs; intro w hs
  obtain ⟨H, hle1, hp_q3, hs9⟩ := hs.pub1 hq3; clear hs; have hs := hs9; clear hs9; replace hle := hle.trans hle1; (try replace hlb := hlb.trans hle1)
  have hc := Bytes.block (l := [97]) (cap := 1) hp_q3 rfl (by simp)
  replace hx := hx.mono hle1
  replace hf := hf.mono hle1
  replace hr := hr.mono hle1
  replace hs := hs.front (i := 2) rfl
  refine WO.guardYes rfl rfl rfl rfl (OR.callX (Mx := [(gb, _, true)]) hs body135 rfl rfl (mgot_ok mb pb gb 0 vf _ [97] o4 _ wk4 _ _ (hs.begin [true]) (hf.of a4 s4) hx k4 (by omega) hc hg0 (by omega)) rfl rfl ?_)
  clear hs; rintro _ H M' w hs hle1 hnew ⟨rfl, om, rfl, hg⟩; replace hle := hle.trans hle1; (try replace hlb := hlb.trans hle1)
  rw [n3]
  rw [n4] at hg
  replace hx := hx.mono hle1
  replace hf := hf.mono hle1
  replace hr := hr.mono hle1
  refine WO.guardYes rfl rfl rfl rfl (OR.neq rfl rfl (WO.step rfl (OR.pickF rfl rfl rfl (WO.step rfl (OR.move rfl ?_)))))
  refine WO.guardYes rfl rfl rfl rfl (OR.move rfl (WO.guardYes rfl rfl rfl rfl (OR.move rfl ?_)))
  refine WO.guardYes rfl rfl rfl rfl (OR.callX (Mx := [(gb, _, true)]) hs body135 rfl rfl (mgot_ok mb pb gb 0 vf _ [97, 98] o4 _ wk4 _ _ (hs.begin [true]) (hf.of a4 s4) hx k4 (by omega) hr hg (by omega)) rfl rfl ?_)
  clear hs; rintro _ H M' w hs hle1 hnew ⟨rfl, om, rfl, hg⟩; replace hle := hle.trans hle1; (try replace hlb := hlb.trans hle1)
  rw [n5]
  rw [n6] at hg
  replace hx := hx.mono hle1
  replace hf := hf.mono hle1
  refine WO.guardYes rfl rfl rfl rfl (OR.neq rfl rfl (WO.step rfl (OR.pickF rfl rfl rfl (WO.step rfl (OR.move rfl ?_)))))
  refine WO.guardYes rfl rfl rfl rfl (OR.move rfl ?_)
  refine WO.guardYes rfl rfl rfl rfl (OR.buildSlice (vs := [B 99]) hs T23.und T5 rfl rfl rfl rfl (by simp) ?_)
  clear hs; intro q4 w hq4 hs
  refine WO.guardYes rfl rfl rfl rfl (OR.convText hs T23.und T5.und rfl ?_)
  clear hs; intro w hs
  obtain ⟨H, hle1, hp_q4, hs9⟩ := hs.pub1 hq4; clear hs; have hs := hs9; clear hs9; replace hle := hle.trans hle1; (try replace hlb := hlb.trans hle1)
  have hc := Bytes.block (l := [99]) (cap := 1) hp_q4 rfl (by simp)
  replace hx := hx.mono hle1
  replace hf := hf.mono hle1
  refine WO.guardYes rfl rfl rfl rfl (OR.callX (Mx := [(gb, _, true)]) hs body135 rfl rfl (mgot_ok mb pb gb 1 vf _ [99] o4 _ wk4 _ _ (hs.begin [true]) (hf.of a4 s4) hx k4 (by omega) hc hg (by omega)) rfl rfl ?_)
  clear hs; rintro _ H M' w hs hle1 hnew ⟨rfl, om, rfl, hg⟩; replace hle := hle.trans hle1; (try replace hlb := hlb.trans hle1)
  rw [n7]
  rw [n8] at hg
  replace hx := hx.mono hle1
  replace hf := hf.mono hle1
  refine WO.guardYes rfl rfl rfl rfl (OR.neq rfl rfl (WO.step rfl (OR.pickF rfl rfl rfl (WO.step rfl (OR.move rfl ?_)))))
  refine WO.guardYes rfl rfl rfl rfl (OR.move rfl ?_)
  replace hs := hs.front (i := 2) rfl
  replace hs := hs.front (i := 1) rfl
  refine WO.guardYes rfl rfl rfl rfl (OR.call hs body136 rfl rfl (mcount_ok mb pb gb 2 vf om _ _ ((hs.drop 2).begin []) hg) ?_)
  clear hs; rintro _ H w hs hle1 rfl; replace hle := hle.trans hle1; (try replace hlb := hlb.trans hle1)
  replace hx := hx.mono hle1
  replace hf := hf.mono hle1
  refine WO.guardYes rfl rfl rfl rfl (OR.neq rfl rfl (WO.step rfl (OR.pickF rfl rfl rfl (WO.done (WX.seq ?_)))))
  refine WC.no rfl rfl ?_
  refine WC.skip (WX.seq (WC.seq (WC.region (WO.step rfl (OR.move rfl ?_)))))
  replace hs := hs.front (i := 0) rfl
  replace hs := hs.front (i := 1) rfl
  replace hs := hs.front (i := 2) rfl
  refine WO.step rfl (OR.call hs body134 rfl rfl (mnext_ok mb pb gb 2 1 vf o4 _ wk4 _ _ (hs.begin []) (hf.of a4 s4) hx k4 (by omega) hg (by omega) (.inl rfl)) ?_)
  clear hs; rintro _ H w hs hle1 ⟨r, rfl, hr⟩; replace hle := hle.trans hle1; (try replace hlb := hlb.trans hle1)
  rw [n9]
  replace hx := hx.mono hle1
  replace hf := hf.mono hle1
  obtain ⟨b3, c3', rfl⟩ := hr.form
  refine WO.step rfl (OR.move rfl (WO.step rfl (OR.extract rfl rfl (WO.step rfl (OR.extract rfl rfl (WO.step rfl (OR.assign rfl ?_)))))))
  refine WO.step rfl (OR.assign rfl (WO.done (WX.seq (WC.seq (WC.region (WO.step rfl (OR.move rfl ?_)))))))
  refine WO.step rfl (OR.call hs body132 rfl rfl (msymbols_ok mb pb gb 0 vf o4 wk4 _ _ ((hs.drop 2).begin []) (hf.of a4 s4) hx k4 (by omega)) ?_)
  clear hs; rintro _ H w hs hle1 ⟨r, rfl, hy⟩; replace hle := hle.trans hle1; (try replace hlb := hlb.trans hle1)
  rw [y1]
  rw [y2] at hy
  replace hx := hx.mono hle1
  replace hf := hf.mono hle1
  obtain ⟨b5, c5, rfl⟩ := hy.form
  refine WO.step rfl (OR.move rfl (WO.step rfl (OR.extract rfl rfl (WO.step rfl (OR.extract rfl rfl (WO.step rfl (OR.assign rfl ?_)))))))
  refine WO.step rfl (OR.assign rfl (WO.done (WX.seq (WC.seq (WC.region (WO.step rfl (OR.move rfl ?_)))))))
  refine WO.step rfl (OR.eql rfl rfl (WO.step rfl (OR.move rfl ?_)))
  refine WO.guardYes rfl rfl rfl rfl (OR.move rfl ?_)
  refine WO.guardYes rfl rfl rfl rfl (OR.buildSlice (vs := [B 120]) hs T23.und T5 rfl rfl rfl rfl (by simp) ?_)
  clear hs; intro q5 w hq5 hs
  refine WO.guardYes rfl rfl rfl rfl (OR.convText hs T23.und T5.und rfl ?_)
  clear hs; intro w hs
  obtain ⟨H, hle1, hp_q5, hs9⟩ := hs.pub1 hq5; clear hs; have hs := hs9; clear hs9; replace hle := hle.trans hle1; (try replace hlb := hlb.trans hle1)
  have hc := Bytes.block (l := [120]) (cap := 1) hp_q5 rfl (by simp)
  replace hx := hx.mono hle1
  replace hf := hf.mono hle1
  replace hy := hy.mono hle1
  refine WO.guardYes rfl rfl rfl rfl (OR.callX (Mx := [(pb, _, true)]) hs body70 rfl rfl (msubmit_ok mb pb gb vf _ wk4 _ _ _ [120] ((hs.drop 2).begin [true]) (hf.of a4 s4) hx k4 (by omega) hc (by simp)) rfl rfl ?_)
  clear hs; rintro _ H M' w hs hle1 hnew ⟨rfl, o5, rfl, _⟩; replace hle := hle.trans hle1; (try replace hlb := hlb.trans hle1)
  rw [e4]
  replace hy := hy.mono hle1
  refine WO.guardYes rfl rfl rfl rfl (OR.eql rfl rfl (WO.step rfl (OR.pickT rfl rfl rfl (WO.step rfl (OR.move rfl ?_)))))
  refine WO.guardYes rfl rfl rfl rfl (OR.move rfl (WO.guardYes rfl rfl rfl rfl (OR.eql rfl rfl (WO.step rfl (OR.pickT rfl rfl rfl (WO.step rfl (OR.move rfl ?_)))))))
  refine WO.guardYes rfl rfl rfl rfl (OR.move rfl (WO.guardYes rfl rfl rfl rfl (OR.lenSlice T22.und rfl (WO.guardYes rfl rfl rfl rfl (OR.eql rfl rfl (WO.step rfl (OR.pickT rfl rfl rfl ?_)))))))
  refine WO.step rfl (OR.move rfl ?_)
  obtain ⟨cs, hsl, hcl, hcs⟩ := hy
  obtain ⟨ob, oo, rfl, hco⟩ := hsl.pos (by simp)
  have hcl2 : cs.length = 2 := hcl
  refine WO.guardYes rfl rfl rfl rfl (OR.move rfl ?_)
  refine WO.guardYes rfl rfl rfl rfl (OR.idx 0 T22.und T23 rfl rfl rfl (by simp) ?_)
  refine WO.guardYes rfl rfl rfl rfl (OR.load T23 rfl rfl (hs.cell (hco 0 cs[0] (List.getElem?_eq_getElem (by omega)))) ?_)
  refine WO.guardYes rfl rfl rfl rfl (OR.toStr hs T23.und T9.und T5.und rfl (hcs 0 (by simp) (by omega)) ?_)
  refine WO.guardYes rfl rfl rfl rfl (OR.eqlStr rfl rfl (WO.step rfl (OR.pickT rfl rfl rfl (WO.step rfl (OR.move rfl ?_)))))
  refine WO.guardYes rfl rfl rfl rfl (OR.move rfl ?_)
  refine WO.guardYes rfl rfl rfl rfl (OR.idx 1 T22.und T23 rfl rfl rfl (by simp) ?_)
  refine WO.guardYes rfl rfl rfl rfl (OR.load T23 rfl rfl (hs.cell (hco 1 cs[1] (List.getElem?_eq_getElem (by omega)))) ?_)
  refine WO.guardYes rfl rfl rfl rfl (OR.toStr hs T23.und T9.und T5.und rfl (hcs 1 (by simp) (by omega)) ?_)
  refine WO.guardYes rfl rfl rfl rfl (OR.eqlStr rfl rfl (WO.step rfl (OR.pickT rfl rfl rfl (WO.step rfl (OR.assign rfl (WO.done (WX.seq ?_)))))))
  refine WC.ret ?_
  refine WX.ret1 rfl rfl ?_
  exact .mk (((hs.drop 0).drop 0).drop 0) rfl
end Go.Bw
