/- SourceKnown walked. -/
import Derived.Test.YtbgdgmilcojlbaaFlat
namespace Go.Bw
set_option linter.unusedVariables false
set_option linter.unusedSimpArgs false
open Go.Proofs

theorem Bytes.zeros2 {H : Hp} {g n : Nat} {e : TypeId} (hp : H g = some (.cells (List.replicate n (B 0)).toArray e)) : Bytes H (.slice (some ⟨g, 0, none⟩) n n) (List.replicate n 0) := by
  have := Bytes.block (l := List.replicate n 0) (cap := n) hp (by simp) (by simp)
  rwa [List.length_replicate] at this
set_option maxRecDepth 20000 in
set_option maxHeartbeats 2000000 in
theorem there_nil (gen : Nat) (H0 : Hp) (w0 : World) (h0 : Sub H0 w0) :
    Calls Try.prog 106 #[.pointer none, .int .u64 (gen : Int)] w0 (Pure H0 w0 fun v H' => ∃ gg gx, v = .func (.func 159) #[] #[ptr gg, ptr gx]) := by
  have hs := HS.init h0
  have hle := Hp.le.refl H0
  refine Calls.enter (args := [.pointer none, .int .u64 (gen : Int)]) Try.func106 rfl Try.ntmps106 rfl ?_
  refine WC.seq (WC.region (WO.step rfl (OR.box hs rfl ?_)))
  clear hs; intro g1 w hg1 hs
  refine WO.step rfl (OR.box hs rfl ?_)
  clear hs; intro g2 w hg2 hs
  refine WO.step rfl (OR.assign rfl (WO.done (WX.seq (WC.seq (WC.region (WO.step rfl (OR.makeFunc rfl rfl ?_)))))))
  refine WO.step rfl (OR.assign rfl (WO.done (WX.seq (WC.ret ?_))))
  obtain ⟨H, hle1, hp_g2, hs9⟩ := hs.pub1 hg2; clear hs; have hs := hs9; clear hs9; replace hle := hle.trans hle1; (try replace hlb := hlb.trans hle1)
  obtain ⟨H, hle1, hp_g1, hs9⟩ := hs.pub1 hg1; clear hs; have hs := hs9; clear hs9; replace hle := hle.trans hle1; (try replace hlb := hlb.trans hle1)
  refine WX.ret1 rfl rfl ?_
  exact .mk hs ⟨g2, g1, rfl⟩
set_option maxRecDepth 20000 in
set_option maxHeartbeats 2000000 in
theorem symbols_nil (gen : Nat) (H0 : Hp) (w0 : World) (h0 : Sub H0 w0) :
    Calls Try.prog 34 #[.pointer none, .int .u64 (gen : Int)] w0 (Pure H0 w0 fun v H' => v = .tuple #[.slice none 0 0, .int .i64 2]) := by
  have hs := HS.init h0
  have hle := Hp.le.refl H0
  refine Calls.enter (args := [.pointer none, .int .u64 (gen : Int)]) Try.func34 rfl Try.ntmps34 rfl ?_
  refine WC.seq (WC.region (WO.step rfl (OR.assign rfl (WO.step rfl (OR.assign rfl (WO.done (WX.seq ?_)))))))
  refine WC.seq (WC.seq (WC.region (WO.step rfl (OR.move rfl (WO.step rfl (OR.makeFunc rfl rfl (WO.step rfl ?_)))))))
  refine OR.move rfl (WO.step rfl (OR.move rfl ?_))
  refine WO.step rfl (OR.call hs body106 rfl rfl (there_nil gen _ _ hs.toSub) ?_)
  clear hs; rintro _ H w hs hle1 ⟨gg, gx, rfl⟩; replace hle := hle.trans hle1; (try replace hlb := hlb.trans hle1)
  refine WO.step rfl (OR.buildSlice (vs := [_, _]) hs T219.und T59 rfl rfl rfl rfl (by simp) ?_)
  clear hs; intro g4 w hg4 hs
  refine WO.step rfl (OR.call hs body94 rfl rfl (first_nil [_] g4 2 2 rfl _ _ hs.toSub (hs.blk (i := 0) rfl) (by omega)) ?_)
  clear hs; rintro _ H w hs hle1 rfl; replace hle := hle.trans hle1; (try replace hlb := hlb.trans hle1)
  refine WO.step rfl (OR.assign rfl (WO.done (WX.seq (WC.seq (WC.region (WO.step rfl (OR.move rfl ?_)))))))
  refine WO.step rfl (OR.neq rfl rfl (WO.done (WX.seq ?_)))
  refine WC.yes rfl (decide_eq_true (by decide)) ?_
  refine WC.seq (WC.region (WO.step rfl (OR.move rfl (WO.step rfl (OR.assign rfl (WO.step rfl (OR.assign rfl ?_)))))))
  refine WO.done (WX.seq (WC.ret (WX.seq_ret ?_)))
  refine WX.ret2 rfl rfl rfl ?_
  exact .mk (hs.drop 0) rfl
set_option maxRecDepth 20000 in
set_option maxHeartbeats 2000000 in
theorem srow_nil (gen : Nat) (vd : Value) (hvd : vd.oneCell' = true) (H0 : Hp) (w0 : World) (h0 : Sub H0 w0) :
    Calls Try.prog 32 #[.pointer none, .int .u64 (gen : Int), vd] w0 (Pure H0 w0 fun v H' => v = .tuple #[.agg #[.slice none 0 0, .slice none 0 0], .int .i64 2]) := by
  have hs := HS.init h0
  have hle := Hp.le.refl H0
  refine Calls.enter (args := [.pointer none, .int .u64 (gen : Int), vd]) Try.func32 rfl Try.ntmps32 rfl ?_
  refine WC.seq (WC.region (WO.step rfl (OR.alloc hs T35 ?_)))
  clear hs; intro g1 w hg1 hs
  refine WO.step rfl (OR.assign rfl (WO.done (WX.seq (WC.seq (WC.region (WO.step rfl (OR.move rfl ?_)))))))
  refine WO.step rfl (OR.move rfl ?_)
  refine WO.step rfl (OR.call hs body34 rfl rfl (symbols_nil gen _ _ hs.toSub) ?_)
  clear hs; rintro _ H w hs hle1 rfl; replace hle := hle.trans hle1; (try replace hlb := hlb.trans hle1)
  refine WO.step rfl (OR.move rfl (WO.step rfl (OR.extract rfl rfl (WO.step rfl (OR.extract rfl rfl (WO.step rfl (OR.assign rfl ?_)))))))
  refine WO.step rfl (OR.assign rfl (WO.done (WX.seq (WC.seq (WC.block (WC.seq (WC.region ?_)))))))
  refine WO.step rfl (OR.move rfl (WO.step rfl (OR.neq rfl rfl (WO.step rfl (OR.assign rfl (WO.done (WX.seq ?_)))))))
  refine WC.yes rfl (decide_eq_true (by decide)) ?_
  refine WC.seq (WC.region (WO.step rfl (OR.buildZero T35 PL35 (WO.step rfl (OR.move rfl (WO.stepN (OR.storeAll hs T35 rfl rfl rfl rfl rfl ?_)))))))
  clear hs; intro w hs
  refine WO.step rfl (OR.assign rfl (WO.done (WX.seq (WC.ret (WX.block_ret (WX.seq_ret ?_))))))
  refine WX.retCT T35 rfl rfl rfl rfl rfl (hs.blk (i := 0) rfl) ?_
  exact .mk (hs.drop 0) rfl
set_option maxRecDepth 20000 in
set_option maxHeartbeats 2000000 in
theorem ssend_nil (gen sent : Nat) (vd : Value) (hvd : vd.oneCell' = true) (H0 : Hp) (w0 : World) (h0 : Sub H0 w0) :
    Calls Try.prog 35 #[.pointer none, .int .u64 (gen : Int), .int .u64 (sent : Int), vd] w0 (Pure H0 w0 fun v H' => v = .tuple #[.agg #[.slice none 0 0, .slice none 0 0], .int .i64 2]) := by
  have hs := HS.init h0
  have hle := Hp.le.refl H0
  refine Calls.enter (args := [.pointer none, .int .u64 (gen : Int), .int .u64 (sent : Int), vd]) Try.func35 rfl Try.ntmps35 rfl ?_
  refine WC.seq (WC.region (WO.step rfl (OR.alloc hs T35 ?_)))
  clear hs; intro g1 w hg1 hs
  refine WO.step rfl (OR.assign rfl (WO.done (WX.seq (WC.seq (WC.seq (WC.region (WO.step rfl ?_)))))))
  refine OR.move rfl (WO.step rfl (OR.makeFunc rfl rfl (WO.step rfl (OR.move rfl (WO.step rfl (OR.move rfl ?_))))))
  refine WO.step rfl (OR.call hs body106 rfl rfl (there_nil gen _ _ hs.toSub) ?_)
  clear hs; rintro _ H w hs hle1 ⟨gg, gx, rfl⟩; replace hle := hle.trans hle1; (try replace hlb := hlb.trans hle1)
  refine WO.step rfl (OR.buildSlice (vs := [_, _]) hs T219.und T59 rfl rfl rfl rfl (by simp) ?_)
  clear hs; intro g4 w hg4 hs
  refine WO.step rfl (OR.call hs body94 rfl rfl (first_nil [_] g4 2 2 rfl _ _ hs.toSub (hs.blk (i := 0) rfl) (by omega)) ?_)
  clear hs; rintro _ H w hs hle1 rfl; replace hle := hle.trans hle1; (try replace hlb := hlb.trans hle1)
  refine WO.step rfl (OR.assign rfl (WO.done (WX.seq (WC.seq (WC.region (WO.step rfl (OR.move rfl ?_)))))))
  refine WO.step rfl (OR.neq rfl rfl (WO.done (WX.seq ?_)))
  refine WC.yes rfl (decide_eq_true (by decide)) ?_
  refine WC.seq (WC.region (WO.step rfl (OR.buildZero T35 PL35 (WO.step rfl (OR.move rfl ?_)))))
  replace hs := hs.front (i := 1) rfl
  refine WO.stepN (OR.storeAll hs T35 rfl rfl rfl rfl rfl ?_)
  clear hs; intro w hs
  refine WO.step rfl (OR.assign rfl (WO.done (WX.seq (WC.ret (WX.seq_ret ?_)))))
  refine WX.retCT T35 rfl rfl rfl rfl rfl (hs.blk (i := 0) rfl) ?_
  exact .mk ((hs.drop 0).drop 0) rfl

def kD0 : SrcD := newD 2 3 [] [] false
def kD1 : SrcD := subD kD0 [97, 98, 99, 100, 101] 2
def kD2 : SrcD := subD kD1 [] 0
def kD3 : SrcD := subD kD2 [97, 98] 1
def kD4 : SrcD := closeD kD3
def kD5 : SrcD := subD kD4 [120] 9
def kD6 : SrcD := flushD kD5
theorem kE1 : subE kD0 [97, 98, 99, 100, 101] 2 = 7 ∧ subE kD1 [] 0 = 0 ∧ thereE kD2 0 = 23 ∧ subE kD4 [120] 9 = 27 ∧ rowE kD3 0 [1] = 21 := by decide +kernel
theorem kE2 : kD3.cl = false ∧ kD5.cl = true ∧ kD6.cl = true := by decide +kernel
theorem kE3 : kD0.cuts.length = 0 ∧ kD1.cuts.length = 0 ∧ kD2.cuts.length = 0 ∧ kD3.cuts.length = 0 ∧ kD4.cuts.length = 0 ∧ kD5.cuts.length = 0 ∧ kD6.cuts.length = 0 := by decide +kernel
theorem kR : rowF kD3 0 [1] = ([], []) := by rw [rowF, if_neg (by decide +kernel)]
def kY0 : SrcD := newD 255 65535 [] [] false
def kY1 : SrcD := subD kY0 (List.replicate 262144 0) 1
theorem kY : subE kY0 (List.replicate 262144 0) 1 = 0 ∧ subE kY1 [1] 1 = 7 ∧ kY0.cuts = [] ∧ kY1.cuts = [] := by
  have hl : (List.replicate 262144 (0 : UInt8)).length = 262144 := List.length_replicate ..
  unfold kY1
  generalize List.replicate 262144 (0 : UInt8) = z at hl
  have hch : (longD kY0 z).chunks = [] := by
    show chunksF (255 * 65535 - 4) ([] ++ z) [] = []
    rw [List.nil_append, chunksF]
    show [] ++ wholeL _ z 0 ((z.length - 0) / (255 * 65535 - 4)) = []
    rw [hl]
    rfl
  have hf : subFits kY0 z 1 := by
    refine ⟨by show 0 + z.length ≤ _; omega, ?_⟩
    unfold needs
    rw [hch]
    split <;> simp
  have hD : subD kY0 z 1 = longD kY0 z := by rw [subD, if_neg (by show ¬ false = true; decide), if_pos hf]
  have hn : ¬ subFits (longD kY0 z) [1] 1 := by
    rintro ⟨h, _⟩
    have : (longD kY0 z).st.length = 262144 := by show ([] ++ z).length = _; rw [List.nil_append, hl]
    rw [this] at h
    simp at h
  refine ⟨by rw [subE, if_neg (by show ¬ false = true; decide), if_pos hf], ?_, rfl, by rw [hD]; rfl⟩
  rw [hD, subE, if_neg (by show ¬ false = true; decide), if_neg hn]

set_option maxRecDepth 20000 in
set_option maxHeartbeats 2000000 in
theorem known13_ok (H0 : Hp) (w0 : World) (h0 : Sub H0 w0) : Calls Try.prog 9 #[] w0 (Pure H0 w0 fun v _ => v = .bool true) := by
  have hs := HS.init h0
  have hle := Hp.le.refl H0
  obtain ⟨q1, q2, q3, q4, q5⟩ := kE1
  obtain ⟨l1, l2, l3⟩ := kE2
  obtain ⟨n0, n1, n2, n3, n4, n5, n6⟩ := kE3
  obtain ⟨y1, y2, y3, y4⟩ := kY
  have o0 : SrcOk kD0 := newD_ok (by decide)
  have o1 : SrcOk kD1 := o0.sub _ _
  have o2 : SrcOk kD2 := o1.sub _ _
  have o3 : SrcOk kD3 := o2.sub _ _
  have o4 : SrcOk kD4 := o3.close
  have o5 : SrcOk kD5 := o4.sub _ _
  have o6 : SrcOk kD6 := o5.flush
  have p0 : SrcOk kY0 := newD_ok (by decide)
  have p1 : SrcOk kY1 := p0.sub _ _
  refine Calls.enter (args := []) Try.func9 rfl Try.ntmps9 rfl ?_
  refine WC.seq (WC.region (WO.step rfl (OR.assign rfl (WO.done (WX.seq (WC.seq (WC.seq ?_)))))))
  refine WC.region (WO.step rfl (OR.move rfl ?_))
  refine WO.guardYes rfl rfl rfl rfl (OR.call hs body28 rfl rfl (awake13_ok _ _ hs.toSub) ?_)
  clear hs; rintro _ H w hs hle1 rfl; replace hle := hle.trans hle1; (try replace hlb := hlb.trans hle1)
  refine WO.guardYes rfl rfl rfl rfl (OR.not rfl (WO.step rfl (OR.pickF rfl rfl rfl (WO.done (WX.seq ?_)))))
  refine WC.no rfl rfl ?_
  refine WC.skip (WX.seq (WC.seq (WC.region ?_)))
  refine WO.step rfl (OR.callX (Mx := []) hs body27 rfl rfl (snew_ok 2 3 _ _ hs.toSub (by decide)) rfl rfl ?_)
  clear hs; rintro _ H M' w hs hle1 hnew ⟨x, o, rfl, rfl, hb, hx⟩; replace hle := hle.trans hle1; (try replace hlb := hlb.trans hle1)
  refine WO.step rfl (OR.move rfl (WO.step rfl (OR.extract rfl rfl (WO.step rfl (OR.extract rfl rfl (WO.step rfl (OR.assign rfl ?_)))))))
  refine WO.step rfl (OR.assign rfl (WO.done (WX.seq (WC.seq (WC.region (WO.step rfl (OR.move rfl ?_)))))))
  refine WO.step rfl (OR.buildSlice (vs := [B 97, B 98, B 99, B 100, B 101]) hs T23.und T5 rfl rfl rfl rfl (by simp) ?_)
  clear hs; intro g1 w hg1 hs
  refine WO.step rfl (OR.convText hs T23.und T5.und rfl ?_)
  clear hs; intro w hs
  obtain ⟨H, hle1, hp_g1, hs9⟩ := hs.pub1 hg1; clear hs; have hs := hs9; clear hs9; replace hle := hle.trans hle1; (try replace hlb := hlb.trans hle1)
  have hc := Bytes.block (l := [97, 98, 99, 100, 101]) (cap := 5) hp_g1 rfl (by simp)
  refine WO.step rfl (OR.callX (Mx := [(x, _, true)]) hs body29 rfl rfl (submit_ok x kD0 o _ [97, 98, 99, 100, 101] 2 _ _ hs.toSub (hs.blk (i := 0) rfl) (hs.mem x _ true (List.mem_cons_self ..)).2.1 (hx.mono hle1) o0 hc (by simp) (by omega)) rfl rfl ?_)
  clear hs; rintro _ H M' w hs hle1 hnew ⟨rfl, o1', rfl, hx1⟩; replace hle := hle.trans hle1; (try replace hlb := hlb.trans hle1)
  rw [q1]
  refine WO.step rfl (OR.assign rfl (WO.done (WX.seq (WC.seq (WC.region (WO.step rfl (OR.move rfl ?_)))))))
  refine WO.step rfl (OR.callX (Mx := [(x, _, true)]) hs body29 rfl rfl (submit_ok x kD1 o1' _ [] 0 _ _ hs.toSub (hs.blk (i := 0) rfl) (hs.mem x _ true (List.mem_cons_self ..)).2.1 hx1 o1 (Sl.empty _ _ _) (by simp) (by omega)) rfl rfl ?_)
  clear hs; rintro _ H M' w hs hle1 hnew ⟨rfl, o2', rfl, hx2⟩; replace hle := hle.trans hle1; (try replace hlb := hlb.trans hle1)
  rw [q2]
  refine WO.step rfl (OR.assign rfl (WO.done (WX.seq (WC.seq (WC.region (WO.step rfl (OR.move rfl ?_)))))))
  refine WO.step rfl (OR.call hs body34 rfl rfl (symbols_ok x 0 kD2 o2' _ _ hs.toSub (hs.blk (i := 0) rfl) (hs.mem x _ true (List.mem_cons_self ..)).2.1 hx2 o2) ?_)
  clear hs; rintro _ H w hs hle1 ⟨r, rfl, hr⟩; replace hle := hle.trans hle1; (try replace hlb := hlb.trans hle1)
  rw [q3]
  obtain ⟨b1, c1, rfl⟩ := hr.form
  replace hx2 := hx2.mono hle1
  refine WO.step rfl (OR.move rfl (WO.step rfl (OR.extract rfl rfl (WO.step rfl (OR.extract rfl rfl (WO.step rfl (OR.assign rfl ?_)))))))
  refine WO.step rfl (OR.assign rfl (WO.done (WX.seq (WC.seq (WC.region (WO.step rfl (OR.move rfl ?_)))))))
  refine WO.step rfl (OR.buildSlice (vs := [B 97, B 98]) hs T23.und T5 rfl rfl rfl rfl (by simp) ?_)
  clear hs; intro g2 w hg2 hs
  refine WO.step rfl (OR.convText hs T23.und T5.und rfl ?_)
  clear hs; intro w hs
  obtain ⟨H, hle1, hp_g2, hs9⟩ := hs.pub1 hg2; clear hs; have hs := hs9; clear hs9; replace hle := hle.trans hle1; (try replace hlb := hlb.trans hle1)
  have hc := Bytes.block (l := [97, 98]) (cap := 2) hp_g2 rfl (by simp)
  refine WO.step rfl (OR.callX (Mx := [(x, _, true)]) hs body29 rfl rfl (submit_ok x kD2 o2' _ [97, 98] 1 _ _ hs.toSub (hs.blk (i := 0) rfl) (hs.mem x _ true (List.mem_cons_self ..)).2.1 (hx2.mono hle1) o2 hc (by simp) (by omega)) rfl rfl ?_)
  clear hs; rintro _ H M' w hs hle1 hnew ⟨rfl, o3', rfl, hx3⟩; replace hle := hle.trans hle1; (try replace hlb := hlb.trans hle1)
  refine WO.done (WX.seq (WC.seq (WC.region (WO.step rfl (OR.move rfl ?_)))))
  refine WO.step rfl (OR.buildSlice (vs := [B 1]) hs T23.und T5 rfl rfl rfl rfl (by simp) ?_)
  clear hs; intro g3 w hg3 hs
  obtain ⟨H, hle1, hp_g3, hs9⟩ := hs.pub1 hg3; clear hs; have hs := hs9; clear hs9; replace hle := hle.trans hle1; (try replace hlb := hlb.trans hle1)
  have hc := Bytes.block (l := [1]) (cap := 1) hp_g3 rfl (by simp)
  replace hx3 := SrcIn.mono hx3 hle1
  refine WO.step rfl (OR.call hs body32 rfl rfl (srow_ok x 0 _ [1] kD3 o3' _ _ hs.toSub (hs.blk (i := 0) rfl) (hs.mem x _ true (List.mem_cons_self ..)).2.1 hx3 o3 hc (by simp)) ?_)
  clear hs; rintro _ H w hs hle1 ⟨r, rfl, hr⟩; replace hle := hle.trans hle1; (try replace hlb := hlb.trans hle1)
  rw [q5]
  obtain ⟨z1, z2, rfl, hz1, hz2⟩ := hr
  obtain ⟨b2, c2, rfl⟩ := hz1.form
  obtain ⟨b3, c3, rfl⟩ := hz2.form
  replace hx3 := hx3.mono hle1
  refine WO.step rfl (OR.move rfl (WO.step rfl (OR.extract rfl rfl (WO.step rfl (OR.extract rfl rfl (WO.step rfl (OR.alloc hs T35 ?_)))))))
  clear hs; intro g1 w hg1 hs
  refine WO.stepN (OR.storeAll hs T35 rfl rfl rfl rfl rfl ?_)
  clear hs; intro w hs
  refine WO.step rfl (OR.assign rfl (WO.done (WX.seq (WC.seq (WC.region (WO.step rfl (OR.move rfl ?_)))))))
  replace hs := hs.front (i := 1) rfl
  refine WO.step rfl (OR.callX (Mx := [(x, _, true)]) hs body49 rfl rfl (close_ok x kD3 o3' _ _ hs.toSub (hs.blk (i := 0) rfl) (hs.mem x _ true (List.mem_cons_self ..)).2.1 hx3 o3 (by omega)) rfl rfl ?_)
  clear hs; rintro _ H M' w hs hle1 hnew ⟨rfl, o4', rfl, hx4⟩; replace hle := hle.trans hle1; (try replace hlb := hlb.trans hle1)
  rw [l1]
  refine WO.step rfl (OR.assign rfl (WO.done (WX.seq (WC.seq (WC.region (WO.step rfl (OR.move rfl ?_)))))))
  refine WO.step rfl (OR.buildSlice (vs := [B 120]) hs T23.und T5 rfl rfl rfl rfl (by simp) ?_)
  clear hs; intro g4 w hg4 hs
  refine WO.step rfl (OR.convText hs T23.und T5.und rfl ?_)
  clear hs; intro w hs
  obtain ⟨H, hle1, hp_g4, hs9⟩ := hs.pub1 hg4; clear hs; have hs := hs9; clear hs9; replace hle := hle.trans hle1; (try replace hlb := hlb.trans hle1)
  have hc := Bytes.block (l := [120]) (cap := 1) hp_g4 rfl (by simp)
  refine WO.step rfl (OR.callX (Mx := [(x, _, true)]) hs body29 rfl rfl (submit_ok x kD4 o4' _ [120] 9 _ _ hs.toSub (hs.blk (i := 0) rfl) (hs.mem x _ true (List.mem_cons_self ..)).2.1 (hx4.mono hle1) o4 hc (by simp) (by omega)) rfl rfl ?_)
  clear hs; rintro _ H M' w hs hle1 hnew ⟨rfl, o5', rfl, hx5⟩; replace hle := hle.trans hle1; (try replace hlb := hlb.trans hle1)
  rw [q4]
  refine WO.step rfl (OR.move rfl ?_)
  refine WO.step rfl (OR.callX (Mx := [(x, _, true)]) hs body30 rfl rfl (flush_ok x kD5 o5' _ _ hs.toSub (hs.blk (i := 0) rfl) (hs.mem x _ true (List.mem_cons_self ..)).2.1 hx5 o5 (by omega)) rfl rfl ?_)
  clear hs; rintro _ H M' w hs hle1 hnew ⟨rfl, o6', rfl, hx6⟩; replace hle := hle.trans hle1; (try replace hlb := hlb.trans hle1)
  rw [l2]
  refine WO.step rfl (OR.move rfl ?_)
  refine WO.step rfl (OR.callX (Mx := [(x, _, true)]) hs body49 rfl rfl (close_ok x kD6 o6' _ _ hs.toSub (hs.blk (i := 0) rfl) (hs.mem x _ true (List.mem_cons_self ..)).2.1 hx6 o6 (by omega)) rfl rfl ?_)
  clear hs; rintro _ H M' w hs hle1 hnew ⟨rfl, o7', rfl, hx7⟩; replace hle := hle.trans hle1; (try replace hlb := hlb.trans hle1)
  rw [l3]
  refine WO.step rfl (OR.assign rfl (WO.step rfl (OR.assign rfl (WO.step rfl (OR.assign rfl (WO.done (WX.seq ?_)))))))
  refine WC.seq (WC.region ?_)
  refine WO.step rfl (OR.call hs body27 rfl rfl (snew_bad 1 4 _ _ hs.toSub (by decide)) ?_)
  clear hs; rintro _ H w hs hle1 rfl; replace hle := hle.trans hle1; (try replace hlb := hlb.trans hle1)
  refine WO.step rfl (OR.move rfl (WO.step rfl (OR.extract rfl rfl (WO.step rfl (OR.extract rfl rfl (WO.step rfl (OR.assign rfl ?_)))))))
  refine WO.step rfl (OR.assign rfl (WO.done (WX.seq (WC.seq (WC.region ?_)))))
  refine WO.step rfl (OR.buildSlice (vs := [B 97]) hs T23.und T5 rfl rfl rfl rfl (by simp) ?_)
  clear hs; intro g5 w hg5 hs
  refine WO.step rfl (OR.convText hs T23.und T5.und rfl ?_)
  clear hs; intro w hs
  obtain ⟨H, hle1, hp_g5, hs9⟩ := hs.pub1 hg5; clear hs; have hs := hs9; clear hs9; replace hle := hle.trans hle1; (try replace hlb := hlb.trans hle1)
  have hc := Bytes.block (l := [97]) (cap := 1) hp_g5 rfl (by simp)
  refine WO.step rfl (OR.callX (Mx := []) hs body50 rfl rfl (restore_ok 2 3 _ _ [97] [] true _ _ hs.toSub (by decide) hc (Sl.empty _ _ _) (by simp) (by simp)) rfl rfl ?_)
  clear hs; rintro _ H M' w hs hle1 hnew hres; replace hle := hle.trans hle1; (try replace hlb := hlb.trans hle1)
  rw [if_neg (by decide)] at hres
  subst hres
  replace hs := hs.right
  refine WO.step rfl (OR.move rfl (WO.step rfl (OR.extract rfl rfl (WO.step rfl (OR.extract rfl rfl (WO.step rfl (OR.assign rfl ?_)))))))
  refine WO.step rfl (OR.assign rfl (WO.done (WX.seq (WC.seq (WC.region ?_)))))
  refine WO.step rfl (OR.buildSlice (vs := [B 97]) hs T23.und T5 rfl rfl rfl rfl (by simp) ?_)
  clear hs; intro g6 w hg6 hs
  refine WO.step rfl (OR.convText hs T23.und T5.und rfl ?_)
  clear hs; intro w hs
  obtain ⟨H, hle1, hp_g6, hs9⟩ := hs.pub1 hg6; clear hs; have hs := hs9; clear hs9; replace hle := hle.trans hle1; (try replace hlb := hlb.trans hle1)
  have hc := Bytes.block (l := [97]) (cap := 1) hp_g6 rfl (by simp)
  refine WO.step rfl (OR.buildSlice (vs := [.int .i64 2]) hs T87.und T3 rfl rfl rfl rfl (by simp) ?_)
  clear hs; intro g7 w hg7 hs
  obtain ⟨H, hle1, hp_g7, hs9⟩ := hs.pub1 hg7; clear hs; have hs := hs9; clear hs9; replace hle := hle.trans hle1; (try replace hlb := hlb.trans hle1)
  have hi : Ints H (.slice (some ⟨g7, 0, none⟩) 1 1) [2] := Sl.block hp_g7 rfl rfl (by simp)
  refine WO.step rfl (OR.callX (Mx := []) hs body50 rfl rfl (restore_ok 2 3 _ _ [97] [2] false _ _ hs.toSub (by decide) (hc.mono hle1) hi (by simp) (by simp)) rfl rfl ?_)
  clear hs; rintro _ H M' w hs hle1 hnew hres; replace hle := hle.trans hle1; (try replace hlb := hlb.trans hle1)
  rw [if_neg (by decide)] at hres
  subst hres
  replace hs := hs.right
  refine WO.step rfl (OR.move rfl (WO.step rfl (OR.extract rfl rfl (WO.step rfl (OR.extract rfl rfl (WO.step rfl (OR.assign rfl ?_)))))))
  refine WO.step rfl (OR.assign rfl (WO.done (WX.seq (WC.seq (WC.region ?_)))))
  refine WO.step rfl (OR.make1 (m := 262145) hs T23.und T5 rfl rfl rfl (by omega) (by omega) ?_)
  clear hs; intro g8 w hg8 hs
  replace hs := hs.drop (i := 0)
  refine WO.step rfl (OR.call hs body50 rfl rfl (restore_bad 2 3 _ none 262145 0 _ 0 false _ _ hs.toSub (.inr (by omega))) ?_)
  clear hs; rintro _ H w hs hle1 rfl; replace hle := hle.trans hle1; (try replace hlb := hlb.trans hle1)
  refine WO.step rfl (OR.move rfl (WO.step rfl (OR.extract rfl rfl (WO.step rfl (OR.extract rfl rfl (WO.step rfl (OR.assign rfl ?_)))))))
  refine WO.step rfl (OR.assign rfl (WO.done (WX.seq (WC.seq (WC.region ?_)))))
  refine WO.step rfl (OR.callX (Mx := []) hs body27 rfl rfl (snew_ok 255 65535 _ _ hs.toSub (by decide)) rfl rfl ?_)
  clear hs; rintro _ H M' w hs hle1 hnew ⟨y, oy, rfl, rfl, hyb, hy⟩; replace hle := hle.trans hle1; (try replace hlb := hlb.trans hle1)
  refine WO.step rfl (OR.move rfl (WO.step rfl (OR.extract rfl rfl (WO.step rfl (OR.extract rfl rfl (WO.step rfl (OR.assign rfl ?_)))))))
  refine WO.step rfl (OR.assign rfl (WO.done (WX.seq (WC.seq (WC.region (WO.step rfl (OR.move rfl ?_)))))))
  refine WO.step rfl (OR.make1 (m := 262144) hs T23.und T5 rfl rfl rfl (by omega) (by omega) ?_)
  clear hs; intro g9 w hg9 hs
  obtain ⟨H, hle1, hp_g9, hs9⟩ := hs.pub1 hg9; clear hs; have hs := hs9; clear hs9; replace hle := hle.trans hle1; (try replace hlb := hlb.trans hle1)
  have hc1 : Bytes H (.slice (some ⟨g9, 0, none⟩) 262144 262144) (List.replicate 262144 0) := Bytes.zeros2 hp_g9
  refine WO.step rfl (OR.callX (Mx := [(y, _, true)]) hs body29 rfl rfl (submit_ok y kY0 oy _ (List.replicate 262144 0) 1 _ _ hs.toSub (hs.blk (i := 0) rfl) (hs.mem y _ true (List.mem_cons_self ..)).2.1 (hy.mono hle1) p0 hc1 (by rw [List.length_replicate]; omega) (by rw [y3]; simp)) rfl rfl ?_)
  clear hs; rintro _ H M' w hs hle1 hnew ⟨rfl, oy1, rfl, hy1⟩; replace hle := hle.trans hle1; (try replace hlb := hlb.trans hle1)
  rw [y1]
  refine WO.step rfl (OR.assign rfl (WO.done (WX.seq (WC.seq (WC.region (WO.step rfl (OR.move rfl ?_)))))))
  refine WO.step rfl (OR.buildSlice (vs := [B 1]) hs T23.und T5 rfl rfl rfl rfl (by simp) ?_)
  clear hs; intro h1 w hh1 hs
  obtain ⟨H, hle1, hp_h1, hs9⟩ := hs.pub1 hh1; clear hs; have hs := hs9; clear hs9; replace hle := hle.trans hle1; (try replace hlb := hlb.trans hle1)
  have hc := Bytes.block (l := [1]) (cap := 1) hp_h1 rfl (by simp)
  refine WO.step rfl (OR.callX (Mx := [(y, _, true)]) hs body29 rfl rfl (submit_ok y kY1 oy1 _ [1] 1 _ _ hs.toSub (hs.blk (i := 0) rfl) (hs.mem y _ true (List.mem_cons_self ..)).2.1 (SrcIn.mono hy1 hle1) p1 hc (by simp) (by rw [y4]; simp)) rfl rfl ?_)
  clear hs; rintro _ H M' w hs hle1 hnew ⟨rfl, oy2, rfl, hy2⟩; replace hle := hle.trans hle1; (try replace hlb := hlb.trans hle1)
  rw [y2]
  refine WO.step rfl (OR.assign rfl (WO.done (WX.seq (WC.seq (WC.region (WO.step rfl (OR.assign rfl ?_)))))))
  refine WO.done (WX.seq (WC.seq (WC.region (WO.step rfl (OR.move rfl ?_)))))
  refine WO.step rfl (OR.call hs body34 rfl rfl (symbols_nil 0 _ _ hs.toSub) ?_)
  clear hs; rintro _ H w hs hle1 rfl; replace hle := hle.trans hle1; (try replace hlb := hlb.trans hle1)
  refine WO.step rfl (OR.move rfl (WO.step rfl (OR.extract rfl rfl (WO.step rfl (OR.extract rfl rfl (WO.step rfl (OR.assign rfl ?_)))))))
  refine WO.step rfl (OR.assign rfl (WO.done (WX.seq (WC.seq (WC.region (WO.step rfl (OR.move rfl ?_)))))))
  refine WO.step rfl (OR.call hs body32 rfl rfl (srow_nil 0 _ rfl _ _ hs.toSub) ?_)
  clear hs; rintro _ H w hs hle1 rfl; replace hle := hle.trans hle1; (try replace hlb := hlb.trans hle1)
  refine WO.step rfl (OR.move rfl (WO.step rfl (OR.extract rfl rfl (WO.step rfl (OR.extract rfl rfl (WO.step rfl (OR.alloc hs T35 ?_)))))))
  clear hs; intro g2 w hg2 hs
  refine WO.stepN (OR.storeAll hs T35 rfl rfl rfl rfl rfl ?_)
  clear hs; intro w hs
  refine WO.step rfl (OR.assign rfl (WO.done (WX.seq (WC.seq (WC.region (WO.step rfl (OR.move rfl ?_)))))))
  refine WO.step rfl (OR.call hs body35 rfl rfl (ssend_nil 0 0 _ rfl _ _ hs.toSub) ?_)
  clear hs; rintro _ H w hs hle1 rfl; replace hle := hle.trans hle1; (try replace hlb := hlb.trans hle1)
  refine WO.step rfl (OR.move rfl (WO.step rfl (OR.extract rfl rfl (WO.step rfl (OR.extract rfl rfl (WO.step rfl (OR.alloc hs T35 ?_)))))))
  clear hs; intro g3 w hg3 hs
  refine WO.stepN (OR.storeAll hs T35 rfl rfl rfl rfl rfl ?_)
  clear hs; intro w hs
  refine WO.step rfl (OR.assign rfl (WO.done (WX.seq (WC.seq (WC.region (WO.step rfl (OR.move rfl ?_)))))))
  refine WO.step rfl (OR.eql rfl rfl (WO.step rfl (OR.move rfl ?_)))
  refine WO.guardYes rfl rfl rfl rfl (OR.move rfl (WO.guardYes rfl rfl rfl rfl (OR.eql rfl rfl (WO.step rfl (OR.pickT rfl rfl rfl (WO.step rfl (OR.move rfl ?_)))))))
  refine WO.guardYes rfl rfl rfl rfl (OR.move rfl (WO.guardYes rfl rfl rfl rfl (OR.eql rfl rfl (WO.step rfl (OR.pickT rfl rfl rfl (WO.step rfl (OR.move rfl ?_)))))))
  refine WO.guardYes rfl rfl rfl rfl (OR.move rfl (WO.guardYes rfl rfl rfl rfl (OR.eql rfl rfl (WO.step rfl (OR.pickT rfl rfl rfl (WO.step rfl (OR.move rfl ?_)))))))
  refine WO.guardYes rfl rfl rfl rfl (OR.move rfl (WO.guardYes rfl rfl rfl rfl (OR.eql rfl rfl (WO.step rfl (OR.pickT rfl rfl rfl (WO.step rfl (OR.move rfl ?_)))))))
  refine WO.guardYes rfl rfl rfl rfl (OR.move rfl (WO.guardYes rfl rfl rfl rfl (OR.eql rfl rfl (WO.step rfl (OR.pickT rfl rfl rfl (WO.step rfl (OR.move rfl ?_)))))))
  refine WO.guardYes rfl rfl rfl rfl (OR.move rfl (WO.guardYes rfl rfl rfl rfl (OR.eql rfl rfl (WO.step rfl (OR.pickT rfl rfl rfl (WO.step rfl (OR.move rfl ?_)))))))
  refine WO.guardYes rfl rfl rfl rfl (OR.move rfl (WO.guardYes rfl rfl rfl rfl (OR.eql rfl rfl (WO.step rfl (OR.pickT rfl rfl rfl (WO.step rfl (OR.move rfl ?_)))))))
  refine WO.guardYes rfl rfl rfl rfl (OR.move rfl (WO.guardYes rfl rfl rfl rfl (OR.eql rfl rfl (WO.step rfl (OR.pickT rfl rfl rfl (WO.step rfl (OR.move rfl ?_)))))))
  refine WO.guardYes rfl rfl rfl rfl (OR.move rfl (WO.guardYes rfl rfl rfl rfl (OR.eql rfl rfl (WO.step rfl (OR.pickT rfl rfl rfl (WO.step rfl (OR.move rfl ?_)))))))
  refine WO.guardYes rfl rfl rfl rfl (OR.move rfl (WO.guardYes rfl rfl rfl rfl (OR.eql rfl rfl (WO.step rfl (OR.pickT rfl rfl rfl (WO.step rfl (OR.move rfl ?_)))))))
  refine WO.guardYes rfl rfl rfl rfl (OR.move rfl (WO.guardYes rfl rfl rfl rfl (OR.eql rfl rfl (WO.step rfl (OR.pickT rfl rfl rfl (WO.step rfl (OR.move rfl ?_)))))))
  refine WO.guardYes rfl rfl rfl rfl (OR.move rfl (WO.guardYes rfl rfl rfl rfl (OR.eql rfl rfl (WO.step rfl (OR.pickT rfl rfl rfl (WO.step rfl (OR.move rfl ?_)))))))
  refine WO.guardYes rfl rfl rfl rfl (OR.move rfl (WO.guardYes rfl rfl rfl rfl (OR.eql rfl rfl (WO.step rfl (OR.pickT rfl rfl rfl (WO.step rfl (OR.move rfl ?_)))))))
  refine WO.guardYes rfl rfl rfl rfl (OR.move rfl (WO.guardYes rfl rfl rfl rfl (OR.eql rfl rfl (WO.step rfl (OR.pickT rfl rfl rfl (WO.step rfl (OR.move rfl ?_)))))))
  refine WO.guardYes rfl rfl rfl rfl (OR.move rfl (WO.guardYes rfl rfl rfl rfl (OR.eql rfl rfl (WO.step rfl (OR.pickT rfl rfl rfl (WO.step rfl (OR.move rfl ?_)))))))
  refine WO.guardYes rfl rfl rfl rfl (OR.move rfl (WO.guardYes rfl rfl rfl rfl (OR.eql rfl rfl (WO.step rfl (OR.pickT rfl rfl rfl (WO.step rfl (OR.move rfl ?_)))))))
  refine WO.guardYes rfl rfl rfl rfl (OR.move rfl (WO.guardYes rfl rfl rfl rfl (OR.eql rfl rfl (WO.step rfl (OR.pickT rfl rfl rfl (WO.step rfl (OR.move rfl ?_)))))))
  refine WO.guardYes rfl rfl rfl rfl (OR.move rfl ?_)
  refine WO.guardYes rfl rfl rfl rfl (OR.call hs body29 rfl rfl (ssub_nil none 0 0 0 _ _ hs.toSub) ?_)
  clear hs; rintro _ H w hs hle1 rfl; replace hle := hle.trans hle1; (try replace hlb := hlb.trans hle1)
  refine WO.guardYes rfl rfl rfl rfl (OR.eql rfl rfl (WO.step rfl (OR.pickT rfl rfl rfl (WO.step rfl (OR.move rfl (WO.guardYes rfl rfl rfl rfl (OR.move rfl ?_)))))))
  refine WO.guardYes rfl rfl rfl rfl (OR.call hs body30 rfl rfl (sflush_nil _ _ hs.toSub) ?_)
  clear hs; rintro _ H w hs hle1 rfl; replace hle := hle.trans hle1; (try replace hlb := hlb.trans hle1)
  refine WO.guardYes rfl rfl rfl rfl (OR.eql rfl rfl (WO.step rfl (OR.pickT rfl rfl rfl (WO.step rfl (OR.move rfl (WO.guardYes rfl rfl rfl rfl (OR.move rfl ?_)))))))
  refine WO.guardYes rfl rfl rfl rfl (OR.call hs body49 rfl rfl (sclose_nil _ _ hs.toSub) ?_)
  clear hs; rintro _ H w hs hle1 rfl; replace hle := hle.trans hle1; (try replace hlb := hlb.trans hle1)
  refine WO.guardYes rfl rfl rfl rfl (OR.eql rfl rfl (WO.step rfl (OR.pickT rfl rfl rfl (WO.step rfl (OR.move rfl (WO.guardYes rfl rfl rfl rfl (OR.move rfl ?_)))))))
  refine WO.guardYes rfl rfl rfl rfl (OR.call hs body51 rfl rfl (sclosed_nil _ _ hs.toSub) ?_)
  clear hs; rintro _ H w hs hle1 rfl; replace hle := hle.trans hle1; (try replace hlb := hlb.trans hle1)
  refine WO.guardYes rfl rfl rfl rfl (OR.not rfl (WO.step rfl (OR.pickT rfl rfl rfl (WO.step rfl (OR.move rfl (WO.guardYes rfl rfl rfl rfl (OR.move rfl ?_)))))))
  refine WO.guardYes rfl rfl rfl rfl (OR.call hs body31 rfl rfl (gens_nil _ _ hs.toSub) ?_)
  clear hs; rintro _ H w hs hle1 rfl; replace hle := hle.trans hle1; (try replace hlb := hlb.trans hle1)
  refine WO.guardYes rfl rfl rfl rfl (OR.eql rfl rfl (WO.step rfl (OR.pickT rfl rfl rfl (WO.step rfl (OR.move rfl (WO.guardYes rfl rfl rfl rfl (OR.move rfl ?_)))))))
  refine WO.guardYes rfl rfl rfl rfl (OR.call hs body52 rfl rfl (stream_nil _ _ hs.toSub) ?_)
  clear hs; rintro _ H w hs hle1 rfl; replace hle := hle.trans hle1; (try replace hlb := hlb.trans hle1)
  refine WO.guardYes rfl rfl rfl rfl (OR.lenSlice T23.und rfl (WO.guardYes rfl rfl rfl rfl (OR.eql rfl rfl (WO.step rfl (OR.pickT rfl rfl rfl (WO.step rfl (OR.move rfl ?_)))))))
  refine WO.guardYes rfl rfl rfl rfl (OR.move rfl ?_)
  refine WO.guardYes rfl rfl rfl rfl (OR.call hs body53 rfl rfl (cuts_nil _ _ hs.toSub) ?_)
  clear hs; rintro _ H w hs hle1 rfl; replace hle := hle.trans hle1; (try replace hlb := hlb.trans hle1)
  refine WO.guardYes rfl rfl rfl rfl (OR.lenSlice T87.und rfl (WO.guardYes rfl rfl rfl rfl (OR.eql rfl rfl (WO.step rfl (OR.pickT rfl rfl rfl (WO.step rfl (OR.assign rfl ?_)))))))
  refine WO.done (WX.seq (WC.ret ?_))
  refine WX.ret1 rfl rfl ?_
  exact .mk (hs.drop 0) rfl

end Go.Bw
