/- The document's own source, walked: calls. -/
import Derived.Test.YtbgdgmilcojlbaaRefS4
namespace Go.Bw
set_option linter.unusedVariables false
set_option linter.unusedSimpArgs false
open Go.Proofs

set_option maxRecDepth 20000 in
set_option maxHeartbeats 2000000 in
theorem rsNew_bad (g s : Int) (H0 : Hp) (w0 : World) (h0 : Sub H0 w0) (hbad : ¬ goodGS g s) :
    Calls Try.prog 55 #[.int .i64 g, .int .i64 s] w0 (Pure H0 w0 fun v _ => v = .tuple #[.pointer none, .int .i64 1]) := by
  have hs := HS.init h0
  have hle := Hp.le.refl H0
  refine Calls.enter (args := [.int .i64 g, .int .i64 s]) Try.func55 rfl Try.ntmps55 rfl ?_
  refine WC.seq (WC.region (WO.step rfl (OR.assign rfl (WO.step rfl (OR.assign rfl (WO.done (WX.seq ?_)))))))
  refine WC.seq (WC.region (WO.step rfl (OR.move rfl (WO.step rfl (OR.move rfl ?_)))))
  refine WO.step rfl (OR.call hs body56 rfl rfl (rsRestore_bad g s none none 0 0 0 0 false _ _ hs.toSub hbad) ?_)
  clear hs; rintro _ H w hs hle1 rfl; replace hle := hle.trans hle1; (try replace hlb := hlb.trans hle1)
  refine WO.step rfl (OR.extract rfl rfl (WO.step rfl (OR.extract rfl rfl (WO.step rfl (OR.assign rfl (WO.step rfl (OR.assign rfl ?_)))))))
  refine WO.done (WX.seq (WC.ret ?_))
  refine WX.ret2 rfl rfl rfl ?_
  exact .mk hs rfl
set_option maxRecDepth 20000 in
set_option maxHeartbeats 2000000 in
theorem rsNew_ok (g s : Nat) (H0 : Hp) (w0 : World) (h0 : Sub H0 w0) (hgs : goodGS g s) :
    Calls Try.prog 55 #[.int .i64 (g : Int), .int .i64 (s : Int)] w0 (Ret [] H0 w0 fun v H' M' => ∃ b o, v = .tuple #[ptr b, .int .i64 0] ∧ M' = [(b, o, true)] ∧ w0.heap.size ≤ b ∧ RsIn H' (newD g s [] [] false) o) := by
  have hs := HS.init h0
  have hle := Hp.le.refl H0
  refine Calls.enter (args := [.int .i64 (g : Int), .int .i64 (s : Int)]) Try.func55 rfl Try.ntmps55 rfl ?_
  refine WC.seq (WC.region (WO.step rfl (OR.assign rfl (WO.step rfl (OR.assign rfl (WO.done (WX.seq ?_)))))))
  refine WC.seq (WC.region (WO.step rfl (OR.move rfl (WO.step rfl (OR.move rfl ?_)))))
  refine WO.step rfl (OR.callX (Mx := []) hs body56 rfl rfl (rsRestore_ok g s (.slice none 0 0) (.slice none 0 0) [] [] false _ _ hs.toSub hgs (Sl.empty _ _ _) (Sl.empty _ _ _) (by simp) (by simp)) rfl rfl ?_)
  clear hs; rintro _ H M' w hs hle1 hnew hres; replace hle := hle.trans hle1; (try replace hlb := hlb.trans hle1)
  obtain ⟨_, b, o, rfl, rfl, hb, hsrc⟩ := hres.resolve_right (fun h => h.1 ⟨rfl, fun h => by cases h⟩)
  refine WO.step rfl (OR.extract rfl rfl (WO.step rfl (OR.extract rfl rfl (WO.step rfl (OR.assign rfl (WO.step rfl (OR.assign rfl ?_)))))))
  refine WO.done (WX.seq (WC.ret ?_))
  refine WX.ret2 rfl rfl rfl ?_
  exact ⟨_, H, _, rfl, hs, by simp, b, o, rfl, rfl, hb, hsrc⟩

set_option maxRecDepth 20000 in
set_option maxHeartbeats 2000000 in
theorem rsSubmit_ok (b : Nat) (x : SrcD) (o : Obj) (bv : Value) (l : List UInt8) (most : Nat) (H0 : Hp) (w0 : World) (h0 : Sub H0 w0) (hb : w0.heap[b]? = some o) (hn : H0 b = none)
    (hx : RsIn H0 x o) (hok : SrcOk x) (hl : Bytes H0 bv l) (hll : l.length ≤ 1000000000) (hcl : x.cuts.length ≤ 1000000000) :
    Calls Try.prog 58 #[ptr b, bv, .int .u64 (most : Int)] w0 (Ret [b] H0 w0 fun v H' M' => v = .int .i64 (subE x l most) ∧ ∃ o', M' = [(b, o', true)] ∧ RsIn H' (subD x l most) o') := by
  have hs := HS.start1 h0 hb hn
  have hle := Hp.le.refl H0
  have hxl := hok.len
  obtain ⟨b5, c5, rfl⟩ := hl.form
  obtain ⟨vs, vc, rfl, hst, hcu⟩ := hx
  obtain ⟨b1, c1, rfl⟩ := hst.form
  obtain ⟨b2, c2, rfl⟩ := hcu.form
  have hxin : RsIn H0 x (rsObj x.g x.s (.slice b1 x.st.length c1) (.slice b2 x.cuts.length c2) x.cl) := ⟨_, _, rfl, hst, hcu⟩
  refine Calls.enter (args := [ptr b, .slice b5 l.length c5, .int .u64 (most : Int)]) Try.func58 rfl Try.ntmps58 rfl ?_
  refine WC.seq (WC.region (WO.step rfl (OR.assign rfl (WO.done (WX.seq (WC.seq (WC.seq ?_)))))))
  refine WC.region (WO.step rfl (OR.move rfl (WO.step rfl (OR.nilCheck rfl (WO.step rfl (OR.fieldAddr FA111_4 rfl (WO.step rfl ?_)))))))
  refine OR.load T4 rfl rfl (hs.cellM (i := 0) rfl rfl) (WO.done (WX.seq ?_))
  refine WC.cond rfl (fun hcl0 => ?_) (fun hcl0 => ?_)
  · refine WC.seq (WC.region (WO.step rfl (OR.assign rfl (WO.done (WX.seq (WC.ret (WX.seq_ret ?_)))))))
    refine WX.ret1 rfl rfl ?_
    exact ⟨_, H0, _, rfl, hs, by simp, by rw [subE, if_pos hcl0], _, rfl, by rw [subD, if_pos hcl0]; exact hxin⟩
  · have hne : ¬ x.cl = true := by rw [hcl0]; decide
    have hE : subE x l most = if subFits x l most then 0 else 7 := by rw [subE, if_neg hne]
    have hD : subD x l most = if subFits x l most then longD x l else x := by rw [subD, if_neg hne]
    refine WC.skip (WX.seq (WC.seq (WC.seq (WC.region (WO.step rfl (OR.move rfl (WO.step rfl ?_)))))))
    refine OR.nilCheck rfl (WO.step rfl (OR.fieldAddr FA111_2 rfl (WO.step rfl (OR.load T23 rfl rfl (hs.cellM (i := 0) rfl rfl) (WO.step rfl (OR.lenSlice T23.und rfl (WO.step rfl ?_)))))))
    refine OR.move rfl (WO.step rfl (OR.lenSlice T23.und rfl (WO.step rfl (OR.addI rfl rfl (by omega) (by omega) (WO.step rfl (OR.gtr rfl rfl (WO.done ?_)))))))
    refine WX.seq ?_
    refine WC.condD rfl (fun hbig => ?_) (fun hbig => ?_)
    · have hnf : ¬ subFits x l most := fun h => by have := h.1; omega
      refine WC.seq (WC.region (WO.step rfl (OR.assign rfl (WO.done (WX.seq (WC.ret (WX.seq_ret ?_)))))))
      refine WX.ret1 rfl rfl ?_
      exact ⟨_, H0, _, rfl, hs, by simp, by rw [hE, if_neg hnf], _, rfl, by rw [hD, if_neg hnf]; exact hxin⟩
    · have hfit : x.st.length + l.length ≤ 262144 := by omega
      have hok2 := hok.long (l := l) hfit
      have hc2 := hok2.cuts
      have hchl := hok2.chl
      have hopl := hok2.opl
      have hsub : subFits x l most ↔ needs (longD x l) ≤ most := ⟨fun h => h.2, fun h => ⟨hfit, h⟩⟩
      have hLs : (longD x l).st = x.st ++ l := rfl
      have hlen2 : (x.st ++ l).length = x.st.length + l.length := List.length_append
      generalize hLD : longD x l = LD at hc2 hchl hopl hsub hLs hok2 hD
      have hLch : LD.chunks = chunksF (x.g * x.s - 4) (x.st ++ l) x.cuts := by rw [← hLD]; rfl
      have hLop : LD.opn = openF (x.g * x.s - 4) (x.st ++ l) x.cuts := by rw [← hLD]; rfl
      have hLc : LD.cuts = x.cuts := by rw [← hLD]; rfl
      rw [hLs, hLc] at hc2
      refine WC.skip (WX.seq (WC.seq ?_))
      refine WC.drawT 19 14 12 mixed hs (by kernel_rfl) ?_
      refine ⟨MF.eq _, by intro Mx H w hle hs; refine forVals_nil (ORg.plain (OR.move rfl ?_)); exact ⟨_, [], Hp.le.refl _, hs, rfl, rfl⟩, ?_⟩
      refine ⟨MF.eq _, by intro Mx H w hle hs; refine forVals_eq rfl rfl rfl ?_; refine forVals_nil (ORg.plain (OR.nilCheck rfl ?_)); exact ⟨_, [], Hp.le.refl _, hs, rfl, rfl⟩, ?_⟩
      refine ⟨MF.eq _, by intro Mx H w hle hs; refine forVals_eq rfl rfl rfl ?_; refine forVals_nil (ORg.plain (OR.fieldAddr FA111_0 rfl ?_)); exact ⟨_, [], Hp.le.refl _, hs, rfl, rfl⟩, ?_⟩
      refine ⟨MF.eq _, by intro Mx H w hle hs; refine forVals_eq rfl rfl rfl ?_; refine forVals_nil (ORg.plain (OR.load T3 rfl rfl (hs.right.cellM (i := 0) rfl rfl) ?_)); exact ⟨_, [], Hp.le.refl _, hs, rfl, rfl⟩, ?_⟩
      refine ⟨MF.eq _, by intro Mx H w hle hs; refine forVals_nil (ORg.plain (OR.move rfl ?_)); exact ⟨_, [], Hp.le.refl _, hs, rfl, rfl⟩, ?_⟩
      refine ⟨MF.eq _, by intro Mx H w hle hs; refine forVals_eq rfl rfl rfl ?_; refine forVals_nil (ORg.plain (OR.nilCheck rfl ?_)); exact ⟨_, [], Hp.le.refl _, hs, rfl, rfl⟩, ?_⟩
      refine ⟨MF.eq _, by intro Mx H w hle hs; refine forVals_eq rfl rfl rfl ?_; refine forVals_nil (ORg.plain (OR.fieldAddr FA111_1 rfl ?_)); exact ⟨_, [], Hp.le.refl _, hs, rfl, rfl⟩, ?_⟩
      refine ⟨MF.eq _, by intro Mx H w hle hs; refine forVals_eq rfl rfl rfl ?_; refine forVals_nil (ORg.plain (OR.load T3 rfl rfl (hs.right.cellM (i := 0) rfl rfl) ?_)); exact ⟨_, [], Hp.le.refl _, hs, rfl, rfl⟩, ?_⟩
      refine ⟨MF.eq _, by intro Mx H w hle hs; refine forVals_nil (ORg.plain (OR.move rfl ?_)); exact ⟨_, [], Hp.le.refl _, hs, rfl, rfl⟩, ?_⟩
      refine ⟨MF.eq _, by intro Mx H w hle hs; refine forVals_eq rfl rfl rfl ?_; refine forVals_nil (ORg.plain (OR.nilCheck rfl ?_)); exact ⟨_, [], Hp.le.refl _, hs, rfl, rfl⟩, ?_⟩
      refine ⟨MF.eq _, by intro Mx H w hle hs; refine forVals_eq rfl rfl rfl ?_; refine forVals_nil (ORg.plain (OR.fieldAddr FA111_2 rfl ?_)); exact ⟨_, [], Hp.le.refl _, hs, rfl, rfl⟩, ?_⟩
      refine ⟨MF.eq _, by intro Mx H w hle hs; refine forVals_eq rfl rfl rfl ?_; refine forVals_nil (ORg.plain (OR.load T23 rfl rfl (hs.right.cellM (i := 0) rfl rfl) ?_)); exact ⟨_, [], Hp.le.refl _, hs, rfl, rfl⟩, ?_⟩
      refine ⟨MF.own w0.heap.size 5 1 x.st.length (x.st.map B), ?_, ?_⟩
      · intro Mx H w hle2 hs; (try replace hle := hle.trans hle2); (try replace hlb := hlb.trans hle2); refine forVals_eq rfl rfl rfl ?_
        have hN := hs.size
        refine forVals_nil (ORg.plain (OR.callX (Mx := []) hs body111 rfl rfl (refOwn_ok _ x.st _ _ hs.toSub (hst.mono hle) (by omega)) rfl rfl ?_))
        have hsz := hs.size
        clear hs; rintro v H1 M1 w hs hle1 hnew ⟨rfl, ho⟩
        exact ⟨_, M1, hle1, hs, ho.mono hsz⟩
      refine ⟨MF.eq _, by intro Mx H w hle hs; refine forVals_nil (ORg.plain (OR.move rfl ?_)); exact ⟨_, [], Hp.le.refl _, hs, rfl, rfl⟩, ?_⟩
      refine ⟨MF.own w0.heap.size 5 1 (x.st.length + l.length) ((x.st ++ l).map B), _, rfl, ⟨_, rfl, ?_⟩, ?_⟩
      · intro vj Mj Mx H w hle2 hs hFj; (try replace hle := hle.trans hle2); (try replace hlb := hlb.trans hle2); refine forVals_eq rfl rfl rfl ?_; refine forVals_eq rfl rfl rfl ?_
        refine forVals_nil (ORg.plain (OR.append (m := l.length) (news := l.map B) (Mo := Mj) hs hFj T23.und T5 rfl (by omega) rfl rfl (by simp) (Sl.src (hl.mono hle) hs) (Sl.src0 hl) (bytes_one l) (by omega) (by omega) ?_))
        clear hs; intro v' w Mo' hs ho' hge
        exact ⟨_, Mo', Hp.le.refl _, hs, (by rw [List.map_append]; exact ho')⟩
      refine ⟨MF.eq _, by intro Mx H w hle hs; refine forVals_nil (ORg.plain (OR.move rfl ?_)); exact ⟨_, [], Hp.le.refl _, hs, rfl, rfl⟩, ?_⟩
      refine ⟨MF.eq _, by intro Mx H w hle hs; refine forVals_eq rfl rfl rfl ?_; refine forVals_nil (ORg.plain (OR.nilCheck rfl ?_)); exact ⟨_, [], Hp.le.refl _, hs, rfl, rfl⟩, ?_⟩
      refine ⟨MF.eq _, by intro Mx H w hle hs; refine forVals_eq rfl rfl rfl ?_; refine forVals_nil (ORg.plain (OR.fieldAddr FA111_3 rfl ?_)); exact ⟨_, [], Hp.le.refl _, hs, rfl, rfl⟩, ?_⟩
      refine ⟨MF.eq _, by intro Mx H w hle hs; refine forVals_eq rfl rfl rfl ?_; refine forVals_nil (ORg.plain (OR.load T87 rfl rfl (hs.right.cellM (i := 0) rfl rfl) ?_)); exact ⟨_, [], Hp.le.refl _, hs, rfl, rfl⟩, ?_⟩
      intro H w hle2; (try replace hle := hle.trans hle2); (try replace hlb := hlb.trans hle2)
      refine forAllVals_eq rfl ?_
      refine forAllVals_eq rfl ?_
      refine forAllVals_eq rfl ?_
      refine forAllVals_eq rfl ?_
      refine forAllVals_eq rfl ?_
      refine forAllVals_eq rfl ?_
      refine forAllVals_eq rfl ?_
      refine forAllVals_eq rfl ?_
      refine forAllVals_eq rfl ?_
      refine forAllVals_eq rfl ?_
      refine forAllVals_eq rfl ?_
      refine forAllVals_eq rfl ?_
      refine forAllVals_gone rfl ?_; intro v12
      refine forAllVals_eq rfl ?_
      refine forAllVals_cons rfl ?_; intro v14 M14 h14
      refine forAllVals_eq rfl ?_
      refine forAllVals_eq rfl ?_
      refine forAllVals_eq rfl ?_
      refine forAllVals_eq rfl ?_
      refine forAllVals_nil ?_; (try clear hs); intro hs
      have hle0 := hle
      obtain ⟨H3, hle3, hs, hsl3, _⟩ := HS.pub hs h14
      replace hle := hle.trans hle3
      have hlong : Bytes H3 v14 (x.st ++ l) := by unfold Bytes; rw [hlen2]; exact hsl3
      obtain ⟨b6, c6, rfl⟩ := hlong.form
      have hlb := Hp.le.refl H3
      obtain ⟨HB, hHB⟩ : ∃ X, X = H3 := ⟨_, rfl⟩
      subst hHB
      refine WO.step rfl (OR.build (cs := #[.int .i64 (x.g : Int), .int .i64 (x.s : Int), .slice b6 (x.st ++ l).length c6, .slice b2 x.cuts.length c2, .bool false]) rfl (by intro w; kernel_rfl) ?_)
      refine WO.step rfl (OR.box hs rfl ?_)
      clear hs; intro g1 w hg1 hs
      refine WO.step rfl (OR.assign rfl (WO.done (WX.seq (WC.seq (WC.region (WO.step rfl (OR.move rfl ?_)))))))
      refine WO.step rfl (OR.call hs body119 rfl rfl (rsChunks_ok g1 x.g x.s (.slice b6 (x.st ++ l).length c6) (.slice b2 x.cuts.length c2) false (x.st ++ l) x.cuts _ _ hs.toSub (hs.blk (i := 0) rfl) (hs.none (i := 0) rfl) hok.gs (hlong.mono hlb) (hcu.mono hle) (by omega) (by omega) hc2) ?_)
      clear hs; rintro _ H w hs hle1 ⟨r1, r2, rfl, hr1, hr2⟩; replace hle := hle.trans hle1; (try replace hlb := hlb.trans hle1)
      rw [← hLch] at hr1
      rw [← hLop] at hr2
      obtain ⟨b7, c7, rfl⟩ := hr1.form
      obtain ⟨b8, c8, rfl⟩ := hr2.form
      refine WO.step rfl (OR.move rfl (WO.step rfl (OR.extract rfl rfl (WO.step rfl (OR.extract rfl rfl (WO.step rfl (OR.assign rfl ?_)))))))
      refine WO.step rfl (OR.assign rfl (WO.done (WX.seq (WC.seq (WC.region (WO.step rfl (OR.move rfl ?_)))))))
      refine WO.step rfl (OR.lenSlice T22.und rfl ?_)
      refine WO.step rfl (OR.convI T3.und T58.und rfl ?_)
      rw [u64_wrap _ (by omega)]
      refine WO.step rfl (OR.assign rfl (WO.done (WX.seq (WC.seq ?_))))
      refine WC.joinK (ι := Unit) (fun ix => [(0, ptr b), (1, .slice b5 l.length c5), (2, .int .u64 (most : Int)), (7, ptr g1), (10, .int .u64 (needs LD : Int))]) (fun ix w => (HS [b] H0 w0 H [(g1, rsObj x.g x.s (.slice b6 (x.st ++ l).length c6) (.slice b2 x.cuts.length c2) false, true), (b, rsObj x.g x.s (.slice b1 x.st.length c1) (.slice b2 x.cuts.length c2) x.cl, true)] w)) ?_ (fun ix w hW => ?_)
      · refine WC.seq (WC.region (WO.step rfl (OR.move rfl (WO.step rfl (OR.lenSlice T23.und rfl (WO.step rfl (OR.gtr rfl rfl ?_)))))))
        refine WO.done (WX.seq ?_)
        refine WC.condD rfl (fun hopn => ?_) (fun hopn => ?_)
        · refine WC.region (WO.step rfl (OR.move rfl ?_))
          refine WO.step rfl (OR.add rfl rfl ?_)
          have hne3 : ¬ LD.opn = [] := fun e => by rw [e] at hopn; exact absurd hopn (by decide)
          have hnd : IntKind.u64.wrap ((LD.chunks.length : Int) + 1) = (needs LD : Int) := by
            have := u64_wrap (LD.chunks.length + 1) (by omega)
            rw [needs, if_neg hne3, ← this]; rfl
          rw [hnd]
          refine WO.step rfl (OR.assign rfl (WO.done ?_))
          refine WX.arrive (()) ⟨rfl, rfl, rfl, rfl, rfl,  trivial⟩ ?_
          exact hs
        · have he : LD.opn = [] := List.eq_nil_of_length_eq_zero (by omega)
          have hnd : (LD.chunks.length : Int) = (needs LD : Int) := by rw [needs, if_pos he, Nat.add_zero]
          rw [hnd]
          refine WC.skip ?_
          refine WX.arrive (()) ⟨rfl, rfl, rfl, rfl, rfl,  trivial⟩ ?_
          exact hs
      · clear hs
        have hs := hW
        clear hW
        refine WC.seq (WC.seq (WC.region (WO.step rfl (OR.move rfl (WO.step rfl (OR.move rfl (WO.step rfl ?_)))))))
        refine OR.gtr rfl rfl (WO.done (WX.seq ?_))
        refine WC.condD rfl (fun hmost => ?_) (fun hmost => ?_)
        · have hnf : ¬ subFits x l most := fun h => by have := hsub.1 h; omega
          refine WC.seq (WC.region (WO.step rfl (OR.assign rfl (WO.done (WX.seq (WC.ret (WX.seq_ret ?_)))))))
          refine WX.ret1 rfl rfl ?_
          exact ⟨_, H, _, rfl, hs.drop 0, by simp [dropAt], by rw [hE, if_neg hnf], _, rfl, by rw [hD, if_neg hnf]; exact hxin.mono hle⟩
        · have hf : subFits x l most := hsub.2 (by omega)
          refine WC.skip (WX.seq (WC.seq (WC.region (WO.step rfl (OR.move rfl (WO.step rfl (OR.move rfl ?_)))))))
          refine WO.step rfl (OR.nilCheck rfl (WO.step rfl (OR.fieldAddr FA111_2 rfl (WO.step rfl (OR.load T23 rfl rfl (hs.cellM (i := 0) rfl rfl) (WO.step rfl (OR.nilCheck rfl ?_)))))))
          refine WO.step rfl (OR.fieldAddr FA111_2 rfl ?_)
          replace hs := hs.front (i := 1) rfl
          refine WO.stepN (OR.store hs T23 rfl rfl rfl (Nat.le_of_ble_eq_true rfl) rfl ?_)
          clear hs; intro w hs
          refine WO.done (WX.seq (WC.seq (WC.region (WO.step rfl (OR.assign rfl (WO.done (WX.seq ?_)))))))
          refine WC.ret ?_
          replace hs := hs.front (i := 0) rfl
          refine WX.ret1 rfl rfl ?_
          refine ⟨_, H, _, rfl, hs.drop 1, by simp [dropAt], by rw [hE, if_pos hf], _, rfl, ?_⟩
          rw [hD, if_pos hf, ← hLD]
          exact ⟨_, _, rfl, hlong.mono hlb, hcu.mono hle⟩

set_option maxRecDepth 20000 in
set_option maxHeartbeats 2000000 in
theorem rsFlush_ok (b : Nat) (x : SrcD) (o : Obj) (H0 : Hp) (w0 : World) (h0 : Sub H0 w0) (hb : w0.heap[b]? = some o) (hn : H0 b = none)
    (hx : RsIn H0 x o) (hok : SrcOk x) (hcl : x.cuts.length ≤ 1000000000) :
    Calls Try.prog 59 #[ptr b] w0 (Ret [b] H0 w0 fun v H' M' => v = .int .i64 (if x.cl = true then 27 else 0) ∧ ∃ o', M' = [(b, o', true)] ∧ RsIn H' (flushD x) o') := by
  have hs := HS.start1 h0 hb hn
  have hle := Hp.le.refl H0
  have hxl := hok.len
  have hop := hok.op
  have hopl := hok.opl
  obtain ⟨vs, vc, rfl, hst, hcu⟩ := hx
  obtain ⟨b1, c1, rfl⟩ := hst.form
  obtain ⟨b2, c2, rfl⟩ := hcu.form
  refine Calls.enter (args := [ptr b]) Try.func59 rfl Try.ntmps59 rfl ?_
  refine WC.seq (WC.region (WO.step rfl (OR.assign rfl (WO.done (WX.seq (WC.seq (WC.seq ?_)))))))
  refine WC.region (WO.step rfl (OR.move rfl (WO.step rfl (OR.nilCheck rfl (WO.step rfl (OR.fieldAddr FA111_4 rfl (WO.step rfl ?_)))))))
  refine OR.load T4 rfl rfl (hs.cellM (i := 0) rfl rfl) (WO.done (WX.seq ?_))
  refine WC.cond rfl (fun hcl0 => ?_) (fun hcl0 => ?_)
  · refine WC.seq (WC.region (WO.step rfl (OR.assign rfl (WO.done (WX.seq (WC.ret (WX.seq_ret ?_)))))))
    refine WX.ret1 rfl rfl ?_
    exact ⟨_, H0, _, rfl, hs, by simp, by rw [if_pos hcl0], _, rfl, by rw [flushD, if_pos hcl0]; exact ⟨_, _, rfl, hst, hcu⟩⟩
  · have hne : ¬ x.cl = true := by rw [hcl0]; decide
    have hF : flushD x = cutD x := by rw [flushD, if_neg hne]
    refine WC.skip (WX.seq (WC.seq (WC.region (WO.step rfl (OR.move rfl ?_)))))
    refine WO.step rfl (OR.call hs body119 rfl rfl (rsChunks_ok b x.g x.s _ _ x.cl x.st x.cuts _ _ hs.toSub (hs.blk (i := 0) rfl) (hs.none (i := 0) rfl) hok.gs (hst.mono hle) (hcu.mono hle) (by omega) (by omega) hok.cuts) ?_)
    clear hs; rintro _ H w hs hle1 ⟨r1, r2, rfl, hr1, hr2⟩; replace hle := hle.trans hle1; (try replace hlb := hlb.trans hle1)
    rw [← hop] at hr2
    obtain ⟨b3, c3, rfl⟩ := hr1.form
    obtain ⟨b4, c4, rfl⟩ := hr2.form
    refine WO.step rfl (OR.move rfl (WO.step rfl (OR.extract rfl rfl (WO.step rfl (OR.extract rfl rfl (WO.step rfl (OR.assign rfl ?_)))))))
    refine WO.step rfl (OR.assign rfl (WO.done (WX.seq (WC.seq (WC.seq (WC.region (WO.step rfl ?_)))))))
    refine OR.move rfl (WO.step rfl (OR.lenSlice T23.und rfl (WO.step rfl (OR.gtr rfl rfl (WO.done (WX.seq ?_))))))
    refine WC.condD rfl (fun ho => ?_) (fun ho => ?_)
    · have hne2 : ¬ x.opn = [] := fun e => by rw [e] at ho; exact absurd ho (by decide)
      have hs2 : HS [b] H0 w0 H ([] ++ [(b, rsObj x.g x.s (.slice b1 x.st.length c1) (.slice b2 x.cuts.length c2) x.cl, true)]) w := hs
      refine WC.seq (WC.region (WO.step rfl (OR.assign rfl (WO.done (WX.seq (WC.seq (WC.region ?_)))))))
      refine WO.step rfl (OR.move rfl (WO.step rfl (OR.move rfl (WO.step rfl (OR.nilCheck rfl (WO.step rfl (OR.fieldAddr FA111_3 rfl ?_)))))))
      refine WO.step rfl (OR.load T87 rfl rfl (hs.cellM (i := 0) rfl rfl) ?_)
      refine WO.step rfl (OR.append (n := 0) (cs := []) (news := x.cuts.map fun i => .int .i64 i) (Mo := []) hs2 (Own.nil _ _ _) T87.und T3 rfl (by omega) rfl rfl (by simp) (Sl.src (hcu.mono hle) hs) (Sl.src0 hcu) (ints_one x.cuts) (by omega) (by omega) ?_)
      clear hs hs2; intro v' w Mo hs ho hge
      rw [Nat.zero_add, List.nil_append] at ho
      replace hs : HS [b] H0 w0 H ((b, rsObj x.g x.s (.slice b1 x.st.length c1) (.slice b2 x.cuts.length c2) x.cl, true) :: Mo) w := hs.perm (List.perm_append_comm (l₁ := [_]) (l₂ := Mo))
      refine WO.step rfl (OR.assign rfl (WO.done (WX.seq (WC.region (WO.step rfl (OR.move rfl (WO.step rfl ?_)))))))
      refine OR.move rfl (WO.step rfl (OR.move rfl (WO.step rfl (OR.nilCheck rfl (WO.step rfl (OR.fieldAddr FA111_2 rfl (WO.step rfl ?_)))))))
      refine OR.load T23 rfl rfl (hs.cellM (i := 0) rfl rfl) (WO.step rfl (OR.lenSlice T23.und rfl ?_))
      refine WO.step rfl (OR.buildSlice (vs := [_]) hs T87.und T3 rfl rfl rfl rfl (by simp) ?_)
      clear hs; intro g3 w hg3 hs
      have hb9 := hs.blk (i := 0) rfl
      replace hs : HS [b] H0 w0 H (Mo ++ [(g3, _, true), (b, rsObj x.g x.s (.slice b1 x.st.length c1) (.slice b2 x.cuts.length c2) x.cl, true)]) w := hs.perm (List.perm_append_comm (l₁ := Mo) (l₂ := [_, _]))
      refine WO.step rfl (OR.append (m := 1) (news := [.int .i64 (x.st.length : Int)]) hs ho T87.und T3 rfl (by omega) rfl rfl rfl (cells_of hb9) (fun h => by cases h) rfl (by omega) (by omega) ?_)
      clear hs ho; intro vo' w Mo' hs ho hge
      obtain ⟨H4, hle4, hs, hsl4, _⟩ := HS.pub hs ho
      replace hle := hle.trans hle4
      replace hs := hs.drop 0
      have hv3 : Ints H4 vo' (x.cuts ++ [(x.st.length : Int)]) := by unfold Ints; rw [List.length_append, List.length_singleton, List.map_append]; exact hsl4
      obtain ⟨b7, c7, rfl⟩ := hv3.form
      refine WO.step rfl (OR.nilCheck rfl (WO.step rfl (OR.fieldAddr FA111_3 rfl (WO.stepN (OR.store hs T87 rfl rfl rfl (Nat.le_of_ble_eq_true rfl) rfl ?_)))))
      clear hs; intro w hs
      refine WO.done (WX.seq (WC.seq (WC.region (WO.step rfl (OR.assign rfl (WO.done (WX.seq ?_)))))))
      refine WC.ret ?_
      refine WX.ret1 rfl rfl ?_
      refine ⟨_, H4, _, rfl, hs, by simp, by rw [if_neg hne], _, rfl, ?_⟩
      rw [hF, cutD, if_neg hne2]
      exact ⟨_, _, rfl, hst.mono hle, hv3⟩
    · have he : x.opn = [] := List.eq_nil_of_length_eq_zero (by omega)
      refine WC.skip (WX.seq (WC.seq (WC.region (WO.step rfl (OR.assign rfl (WO.done (WX.seq ?_)))))))
      refine WC.ret ?_
      refine WX.ret1 rfl rfl ?_
      refine ⟨_, H, _, rfl, hs, by simp, by rw [if_neg hne], _, rfl, ?_⟩
      rw [hF, cutD, if_pos he]
      exact ⟨_, _, rfl, hst.mono hle, hcu.mono hle⟩

set_option maxRecDepth 20000 in
set_option maxHeartbeats 2000000 in
theorem rsClose_ok (b : Nat) (x : SrcD) (o : Obj) (H0 : Hp) (w0 : World) (h0 : Sub H0 w0) (hb : w0.heap[b]? = some o) (hn : H0 b = none)
    (hx : RsIn H0 x o) (hok : SrcOk x) (hcl : x.cuts.length ≤ 1000000000) :
    Calls Try.prog 60 #[ptr b] w0 (Ret [b] H0 w0 fun v H' M' => v = .int .i64 (if x.cl = true then 27 else 0) ∧ ∃ o', M' = [(b, o', true)] ∧ RsIn H' (closeD x) o') := by
  have hs := HS.start1 h0 hb hn
  have hle := Hp.le.refl H0
  refine Calls.enter (args := [ptr b]) Try.func60 rfl Try.ntmps60 rfl ?_
  refine WC.seq (WC.region (WO.step rfl (OR.assign rfl (WO.done (WX.seq (WC.seq (WC.region ?_)))))))
  refine WO.step rfl (OR.move rfl ?_)
  refine WO.step rfl (OR.callX (Mx := [(b, _, true)]) hs body59 rfl rfl (rsFlush_ok b x o _ _ hs.toSub (hs.blk (i := 0) rfl) (hs.none (i := 0) rfl) (hx.mono hle) hok hcl) rfl rfl ?_)
  clear hs; rintro _ H M' w hs hle1 hnew ⟨rfl, o', rfl, hsrc⟩; replace hle := hle.trans hle1; (try replace hlb := hlb.trans hle1)
  obtain ⟨vs, vc, rfl, hst, hcu⟩ := hsrc
  by_cases hc : x.cl = true
  · rw [if_pos hc]
    refine WO.step rfl (OR.assign rfl (WO.done (WX.seq (WC.seq (WC.seq (WC.region (WO.step rfl ?_)))))))
    refine OR.move rfl (WO.step rfl (OR.eql rfl rfl (WO.done (WX.seq ?_))))
    refine WC.no rfl (decide_eq_false (by omega)) ?_
    refine WC.skip (WX.seq (WC.seq (WC.region (WO.step rfl (OR.move rfl (WO.step rfl (OR.assign rfl ?_)))))))
    refine WO.done (WX.seq (WC.ret ?_))
    refine WX.ret1 rfl rfl ?_
    refine ⟨_, H, _, rfl, hs, by simp, rfl, _, rfl, ?_⟩
    have e : closeD x = flushD x := by rw [closeD, flushD, if_pos hc, if_pos hc]
    rw [e]
    exact ⟨_, _, rfl, hst, hcu⟩
  · rw [if_neg hc]
    refine WO.step rfl (OR.assign rfl (WO.done (WX.seq (WC.seq (WC.seq (WC.region (WO.step rfl ?_)))))))
    refine OR.move rfl (WO.step rfl (OR.eql rfl rfl (WO.done (WX.seq ?_))))
    refine WC.yes rfl (decide_eq_true rfl) ?_
    refine WC.region (WO.step rfl (OR.move rfl (WO.step rfl (OR.nilCheck rfl (WO.step rfl (OR.fieldAddr FA111_4 rfl (WO.stepN ?_)))))))
    refine OR.store hs T4 rfl rfl rfl (Nat.le_of_ble_eq_true rfl) rfl ?_
    clear hs; intro w hs
    refine WO.done (WX.seq (WC.seq (WC.region (WO.step rfl (OR.move rfl (WO.step rfl (OR.assign rfl ?_)))))))
    refine WO.done (WX.seq (WC.ret ?_))
    refine WX.ret1 rfl rfl ?_
    refine ⟨_, H, _, rfl, hs, by simp, rfl, _, rfl, ?_⟩
    have e1 : flushD x = cutD x := by rw [flushD, if_neg hc]
    rw [e1] at hst hcu ⊢
    rw [closeD, if_neg hc]
    exact ⟨_, _, rfl, hst, hcu⟩
end Go.Bw
