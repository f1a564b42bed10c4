/- The document's own source, walked: symbols and rows. -/
import Derived.Test.YtbgdgmilcojlbaaRefS5
namespace Go.Bw
set_option linter.unusedVariables false
set_option linter.unusedSimpArgs false
open Go.Proofs

set_option maxRecDepth 20000 in
set_option maxHeartbeats 2000000 in
theorem rsSymbols_ok (b : Nat) (gen : Nat) (x : SrcD) (o : Obj) (H0 : Hp) (w0 : World) (h0 : Sub H0 w0) (hb : w0.heap[b]? = some o) (hn : H0 b = none) (hx : RsIn H0 x o) (hok : SrcOk x) (hcl : x.cuts.length ≤ 1000000000) :
    Calls Try.prog 61 #[ptr b, .int .u64 (gen : Int)] w0 (Pure H0 w0 fun v H' => TupL H' v (symF x gen) (thereE x gen)) := by
  have hs := HS.startR h0 hb hn
  have hle := Hp.le.refl H0
  have hch := hok.ch
  have hchl := hok.chl
  have hxl := hok.len
  obtain ⟨vs, vc, rfl, hst, hcu⟩ := hx
  refine Calls.enter (args := [ptr b, .int .u64 (gen : Int)]) Try.func61 rfl Try.ntmps61 rfl ?_
  refine WC.seq (WC.region (WO.step rfl (OR.assign rfl (WO.step rfl (OR.assign rfl (WO.done (WX.seq ?_)))))))
  refine WC.seq (WC.region (WO.step rfl (OR.move rfl ?_)))
  refine WO.step rfl (OR.call hs body119 rfl rfl (rsChunks_ok b x.g x.s vs vc x.cl x.st x.cuts _ _ hs.toSub (hs.blk (i := 0) rfl) (hs.none (i := 0) rfl) hok.gs (hst.mono hle) (hcu.mono hle) (by omega) (by omega) hok.cuts) ?_)
  clear hs; rintro _ H w hs hle1 ⟨r1, r2, rfl, hr1, hr2⟩; replace hle := hle.trans hle1; (try replace hlb := hlb.trans hle1)
  rw [← hch] at hr1
  obtain ⟨b3, c3, rfl⟩ := hr1.form
  refine WO.step rfl (OR.move rfl (WO.step rfl (OR.extract rfl rfl (WO.step rfl (OR.extract rfl rfl (WO.step rfl (OR.assign rfl ?_)))))))
  refine WO.step rfl (OR.assign rfl (WO.done (WX.seq (WC.seq (WC.seq (WC.region (WO.step rfl ?_)))))))
  refine OR.move rfl (WO.step rfl (OR.move rfl (WO.step rfl (OR.lenSlice T22.und rfl ?_))))
  refine WO.step rfl (OR.convI T3.und T58.und rfl ?_)
  rw [u64_wrap _ (by omega)]
  refine WO.step rfl (OR.geq rfl rfl (WO.done (WX.seq ?_)))
  refine WC.condD rfl (fun hge => ?_) (fun hge => ?_)
  · refine WC.seq (WC.region (WO.step rfl (OR.assign rfl (WO.step rfl (OR.assign rfl (WO.done (WX.seq ?_)))))))
    refine WC.ret (WX.seq_ret ?_)
    refine WX.ret2 rfl rfl rfl ?_
    refine .mk (hs.drop 0) ⟨_, by rw [thereE, if_neg (by omega)], ?_⟩
    rw [symF, List.getElem?_eq_none (by omega)]
    exact ⟨[], Sl.empty _ _ _, rfl, fun i h => by simp at h⟩
  · have hlt : gen < x.chunks.length := by omega
    obtain ⟨cs, hsl, hcl, hcs⟩ := hr1
    obtain ⟨ob, oo, rfl, hco⟩ := hsl.pos (by omega)
    have hgc : gen < cs.length := by omega
    have hcell' := hco gen cs[gen] (List.getElem?_eq_getElem hgc)
    have hcb := hcs gen hlt hgc
    have hmem := hok.mem x.chunks[gen] (List.getElem_mem hlt)
    have hsym : symF x gen = layF x.g x.s x.chunks[gen] := by rw [symF, List.getElem?_eq_getElem hlt]
    have hlb := Hp.le.refl H
    refine WC.skip (WX.seq (WC.seq ?_))
    refine WC.sub [(0, ptr b), (1, .int .u64 (gen : Int)), (6, .slice (some ⟨ob, oo, none⟩) x.chunks.length c3)] ⟨rfl, rfl, rfl,  trivial⟩ ?_
    refine WC.draw 17 mixed hs (by kernel_rfl) ?_
    refine ⟨MF.eq _, by intro Mx H w hle hs; refine forVals_nil (ORg.plain (OR.move rfl ?_)); exact ⟨_, [], Hp.le.refl _, hs, rfl, rfl⟩, ?_⟩
    refine ⟨MF.eq _, by intro Mx H w hle hs; refine forVals_nil (ORg.plain (OR.move rfl ?_)); exact ⟨_, [], Hp.le.refl _, hs, rfl, rfl⟩, ?_⟩
    refine ⟨MF.eq (.pointer (some ⟨ob, oo + gen, none⟩)), ?_, ?_⟩
    · intro Mx H w hle2 hs; (try replace hle := hle.trans hle2); (try replace hlb := hlb.trans hle2); refine forVals_eq rfl rfl rfl ?_; refine forVals_eq rfl rfl rfl ?_
      refine forVals_nil (ORg.plain (OR.idx gen T22.und T23 rfl rfl rfl hlt ?_))
      exact ⟨_, [], Hp.le.refl _, hs, rfl, rfl⟩
    refine ⟨MF.eq cs[gen], ?_, ?_⟩
    · intro Mx H w hle2 hs; (try replace hle := hle.trans hle2); (try replace hlb := hlb.trans hle2); refine forVals_eq rfl rfl rfl ?_
      refine forVals_nil (ORg.plain (OR.load T23 rfl rfl (hs.cell (hcell.mono hlb hcell')) ?_))
      exact ⟨_, [], Hp.le.refl _, hs, rfl, rfl⟩
    refine ⟨MF.eq _, by intro Mx H w hle hs; refine forVals_nil (ORg.plain (OR.move rfl ?_)); exact ⟨_, [], Hp.le.refl _, hs, rfl, rfl⟩, ?_⟩
    refine ⟨MF.eq _, by intro Mx H w hle hs; refine forVals_eq rfl rfl rfl ?_; refine forVals_nil (ORg.plain (OR.nilCheck rfl ?_)); exact ⟨_, [], Hp.le.refl _, hs, rfl, rfl⟩, ?_⟩
    refine ⟨MF.eq _, by intro Mx H w hle hs; refine forVals_eq rfl rfl rfl ?_; refine forVals_nil (ORg.plain (OR.fieldAddr FA111_0 rfl ?_)); exact ⟨_, [], Hp.le.refl _, hs, rfl, rfl⟩, ?_⟩
    refine ⟨MF.eq _, by intro Mx H w hle hs; refine forVals_eq rfl rfl rfl ?_; refine forVals_nil (ORg.plain (OR.load T3 rfl rfl (hs.right.cellM (i := 0) rfl rfl) ?_)); exact ⟨_, [], Hp.le.refl _, hs, rfl, rfl⟩, ?_⟩
    refine ⟨MF.eq _, by intro Mx H w hle hs; refine forVals_nil (ORg.plain (OR.move rfl ?_)); exact ⟨_, [], Hp.le.refl _, hs, rfl, rfl⟩, ?_⟩
    refine ⟨MF.eq _, by intro Mx H w hle hs; refine forVals_eq rfl rfl rfl ?_; refine forVals_nil (ORg.plain (OR.nilCheck rfl ?_)); exact ⟨_, [], Hp.le.refl _, hs, rfl, rfl⟩, ?_⟩
    refine ⟨MF.eq _, by intro Mx H w hle hs; refine forVals_eq rfl rfl rfl ?_; refine forVals_nil (ORg.plain (OR.fieldAddr FA111_1 rfl ?_)); exact ⟨_, [], Hp.le.refl _, hs, rfl, rfl⟩, ?_⟩
    refine ⟨MF.eq _, by intro Mx H w hle hs; refine forVals_eq rfl rfl rfl ?_; refine forVals_nil (ORg.plain (OR.load T3 rfl rfl (hs.right.cellM (i := 0) rfl rfl) ?_)); exact ⟨_, [], Hp.le.refl _, hs, rfl, rfl⟩, ?_⟩
    refine ⟨MF.tupL (layF x.g x.s x.chunks[gen]) 0, ?_, ?_⟩
    · intro Mx H w hle2 hs; (try replace hle := hle.trans hle2); (try replace hlb := hlb.trans hle2); refine forVals_eq rfl rfl rfl ?_; refine forVals_eq rfl rfl rfl ?_; refine forVals_eq rfl rfl rfl ?_
      refine forVals_nil (ORg.plain (OR.call hs body120 rfl rfl (refLay_ok x.g x.s cs[gen] x.chunks[gen] _ _ hs.toSub hok.nat (hcb.mono hlb) hmem.1 hmem.2) ?_))
      clear hs; rintro _ H w hs hle1 ⟨r, rfl, hr⟩
      exact ⟨_, [], hle1, hs, ⟨r, rfl, hr⟩, rfl⟩
    refine ⟨MF.bytesL (layF x.g x.s x.chunks[gen]), ?_, ?_⟩
    · intro Mx H w hle2 hs; (try replace hle := hle.trans hle2); (try replace hlb := hlb.trans hle2); refine forVals_of rfl rfl rfl ?_; intro v12 h12
      obtain ⟨r, rfl, hr⟩ := h12
      refine forVals_nil (ORg.plain (OR.extract rfl rfl ?_))
      exact ⟨_, [], Hp.le.refl _, hs, hr, rfl⟩
    refine ⟨MF.eq (.int .i64 0), ?_, ?_⟩
    · intro Mx H w hle2 hs; (try replace hle := hle.trans hle2); (try replace hlb := hlb.trans hle2); refine forVals_of rfl rfl rfl ?_; intro v12 h12
      obtain ⟨r, rfl, hr⟩ := h12
      refine forVals_nil (ORg.plain (OR.extract rfl rfl ?_))
      exact ⟨_, [], Hp.le.refl _, hs, rfl, rfl⟩
    refine ⟨MF.bytesL (layF x.g x.s x.chunks[gen]), ?_, ?_⟩
    · intro Mx H w hle2 hs; (try replace hle := hle.trans hle2); (try replace hlb := hlb.trans hle2); refine forVals_of rfl rfl rfl ?_; intro v13 h13
      refine forVals_nil (ORg.plain (OR.assign rfl ?_))
      exact ⟨_, [], Hp.le.refl _, hs, h13, rfl⟩
    refine ⟨MF.eq _, by intro Mx H w hle hs; refine forVals_eq rfl rfl rfl ?_; refine forVals_nil (ORg.plain (OR.assign rfl ?_)); exact ⟨_, [], Hp.le.refl _, hs, rfl, rfl⟩, ?_⟩
    intro H w hle2; (try replace hle := hle.trans hle2); (try replace hlb := hlb.trans hle2)
    refine forAllVals_eq rfl ?_
    refine forAllVals_eq rfl ?_
    refine forAllVals_eq rfl ?_
    refine forAllVals_eq rfl ?_
    refine forAllVals_eq rfl ?_
    refine forAllVals_eq rfl ?_
    refine forAllVals_eq rfl ?_
    refine forAllVals_eq rfl ?_
    refine forAllVals_eq rfl ?_
    refine forAllVals_eq rfl ?_
    refine forAllVals_eq rfl ?_
    refine forAllVals_eq rfl ?_
    refine forAllVals_of rfl ?_; intro v12 h12
    refine forAllVals_of rfl ?_; intro v13 h13
    refine forAllVals_eq rfl ?_
    refine forAllVals_of rfl ?_; intro v15 h15
    refine forAllVals_eq rfl ?_
    refine forAllVals_nil ?_; (try clear hs); intro hs
    refine WO.done (WX.seq (WC.ret ?_))
    refine WX.ret2 rfl rfl rfl ?_
    rw [hsym]
    exact .mk (hs.drop 0) ⟨_, by rw [thereE, if_pos hlt], h15⟩

set_option maxRecDepth 20000 in
set_option maxHeartbeats 2000000 in
theorem rsRow_ok (b : Nat) (gen : Nat) (vd : Value) (c : List UInt8) (x : SrcD) (o : Obj) (H0 : Hp) (w0 : World) (h0 : Sub H0 w0) (hb : w0.heap[b]? = some o) (hn : H0 b = none) (hx : RsIn H0 x o) (hok : SrcOk x) (hcl : x.cuts.length ≤ 1000000000) (hc : Bytes H0 vd c) (hl : c.length ≤ 140737488355328) :
    Calls Try.prog 63 #[ptr b, .int .u64 (gen : Int), vd] w0 (Pure H0 w0 fun v H' => TupR H' v (rowF x gen c) (rowE x gen c)) := by
  have hs := HS.startR h0 hb hn
  have hle := Hp.le.refl H0
  have hx0 := hx
  obtain ⟨hn1, hn2, hn3, hn4, hn5⟩ := hok.nat
  obtain ⟨b1, c1, rfl⟩ := hc.form
  obtain ⟨vs, vc, rfl, hst, hcu⟩ := hx0
  have hz : RowV H0 (.agg #[.slice none 0 0, .slice none 0 0]) ([], []) := ⟨_, _, rfl, Sl.empty _ _ _, Sl.empty _ _ _⟩
  refine Calls.enter (args := [ptr b, .int .u64 (gen : Int), .slice b1 c.length c1]) Try.func63 rfl Try.ntmps63 rfl ?_
  refine WC.seq (WC.region (WO.step rfl (OR.alloc hs T35 ?_)))
  clear hs; intro g1 w hg1 hs
  refine WO.step rfl (OR.assign rfl (WO.done (WX.seq (WC.seq (WC.region (WO.step rfl (OR.move rfl ?_)))))))
  refine WO.step rfl (OR.move rfl ?_)
  refine WO.step rfl (OR.call hs body61 rfl rfl (rsSymbols_ok b gen x _ _ _ hs.toSub (hs.blk (i := 1) rfl) (hs.none (i := 1) rfl) (hx.mono hle) hok hcl) ?_)
  clear hs; rintro _ H w hs hle1 ⟨r, rfl, hr⟩; replace hle := hle.trans hle1; (try replace hlb := hlb.trans hle1)
  obtain ⟨b2, c2, rfl⟩ := hr.form
  by_cases hlt : gen < x.chunks.length
  · have hE : thereE x gen = 0 := by rw [thereE, if_pos hlt]
    rw [hE]
    refine WO.step rfl (OR.move rfl (WO.step rfl (OR.extract rfl rfl (WO.step rfl (OR.extract rfl rfl (WO.step rfl (OR.assign rfl ?_)))))))
    refine WO.step rfl (OR.assign rfl (WO.done (WX.seq (WC.seq (WC.seq (WC.region (WO.step rfl ?_)))))))
    refine OR.move rfl (WO.step rfl (OR.neq rfl rfl (WO.done (WX.seq ?_))))
    refine WC.no rfl (decide_eq_false (by decide)) ?_
    refine WC.skip (WX.seq (WC.seq (WC.seq (WC.region (WO.step rfl (OR.move rfl (WO.step rfl ?_)))))))
    refine OR.lenSlice T23.und rfl (WO.step rfl (OR.move rfl (WO.step rfl (OR.nilCheck rfl (WO.step rfl (OR.fieldAddr FA111_0 rfl (WO.step rfl ?_)))))))
    refine OR.load T3 rfl rfl (hs.cellM (i := 1) rfl rfl) (WO.step rfl (OR.neq rfl rfl (WO.done (WX.seq ?_))))
    refine WC.condD rfl (fun hne => ?_) (fun hne => ?_)
    · refine WC.seq (WC.region (WO.step rfl (OR.buildZero T35 PL35 (WO.stepN (OR.storeAll hs T35 rfl rfl rfl rfl rfl ?_)))))
      clear hs; intro w hs
      refine WO.step rfl (OR.assign rfl (WO.done (WX.seq (WC.ret (WX.seq_ret ?_)))))
      refine WX.retCT T35 rfl rfl rfl rfl rfl (hs.blk (i := 0) rfl) ?_
      have e1 : rowE x gen c = 21 := by rw [rowE, if_pos hlt, if_neg (by omega)]
      have e2 : rowF x gen c = ([], []) := by rw [rowF, if_neg (by omega)]
      rw [e1, e2]
      exact .mk (hs.drop 0) ⟨_, rfl, hz.mono hle⟩
    · have hcl : c.length = x.g := by omega
      have hsl := symF_len hok hlt
      have hlb := Hp.le.refl H
      refine WC.skip (WX.seq (WC.seq ?_))
      refine WC.sub [(0, ptr b), (2, .slice b1 c.length c1), (6, ptr g1), (8, .slice b2 (symF x gen).length c2)] ⟨rfl, rfl, rfl, rfl,  trivial⟩ ?_
      refine WC.draw 10 mixed hs (by kernel_rfl) ?_
      refine ⟨MF.eq _, by intro Mx H w hle hs; refine forVals_nil (ORg.plain (OR.move rfl ?_)); exact ⟨_, [], Hp.le.refl _, hs, rfl, rfl⟩, ?_⟩
      refine ⟨MF.bytes c, ?_, ?_⟩
      · intro Mx H w hle2 hs; (try replace hle := hle.trans hle2); (try replace hlb := hlb.trans hle2); refine forVals_eq rfl rfl rfl ?_
        refine forVals_nil (ORg.plain (OR.call hs body111 rfl rfl (refOwn_p _ c _ _ hs.toSub (hc.mono hle) (by omega)) ?_))
        clear hs; rintro _ H w hs hle1 hb
        exact ⟨_, [], hle1, hs, hb, rfl⟩
      refine ⟨MF.eq _, by intro Mx H w hle hs; refine forVals_nil (ORg.plain (OR.move rfl ?_)); exact ⟨_, [], Hp.le.refl _, hs, rfl, rfl⟩, ?_⟩
      refine ⟨MF.eq _, by intro Mx H w hle hs; refine forVals_nil (ORg.plain (OR.move rfl ?_)); exact ⟨_, [], Hp.le.refl _, hs, rfl, rfl⟩, ?_⟩
      refine ⟨MF.eq _, by intro Mx H w hle hs; refine forVals_nil (ORg.plain (OR.move rfl ?_)); exact ⟨_, [], Hp.le.refl _, hs, rfl, rfl⟩, ?_⟩
      refine ⟨MF.eq _, by intro Mx H w hle hs; refine forVals_eq rfl rfl rfl ?_; refine forVals_nil (ORg.plain (OR.nilCheck rfl ?_)); exact ⟨_, [], Hp.le.refl _, hs, rfl, rfl⟩, ?_⟩
      refine ⟨MF.eq _, by intro Mx H w hle hs; refine forVals_eq rfl rfl rfl ?_; refine forVals_nil (ORg.plain (OR.fieldAddr FA111_1 rfl ?_)); exact ⟨_, [], Hp.le.refl _, hs, rfl, rfl⟩, ?_⟩
      refine ⟨MF.eq _, by intro Mx H w hle hs; refine forVals_eq rfl rfl rfl ?_; refine forVals_nil (ORg.plain (OR.load T3 rfl rfl (hs.right.cellM (i := 1) rfl rfl) ?_)); exact ⟨_, [], Hp.le.refl _, hs, rfl, rfl⟩, ?_⟩
      refine ⟨MF.bytes (comb x.s (symF x gen) c), ?_, ?_⟩
      · intro Mx H w hle2 hs; (try replace hle := hle.trans hle2); (try replace hlb := hlb.trans hle2); refine forVals_eq rfl rfl rfl ?_; refine forVals_eq rfl rfl rfl ?_; refine forVals_eq rfl rfl rfl ?_
        refine forVals_nil (ORg.plain (OR.call hs body22 rfl rfl (times_ok _ _ c (symF x gen) x.s _ _ hs.toSub (hc.mono hle) (hr.mono hlb) (symF_row hok hlt) (by omega) (by omega) (by omega)) ?_))
        clear hs; rintro _ H w hs hle1 hb
        exact ⟨_, [], hle1, hs, hb, rfl⟩
      refine ⟨MF.row (c, comb x.s (symF x gen) c), ?_, ?_⟩
      · intro Mx H w hle2 hs; (try replace hle := hle.trans hle2); (try replace hlb := hlb.trans hle2); refine forVals_of rfl rfl rfl ?_; intro v1 h1; refine forVals_of rfl rfl rfl ?_; intro v8 h8
        obtain ⟨_, _, rfl⟩ := h1.form
        obtain ⟨_, _, rfl⟩ := h8.form
        refine forVals_nil (ORg.plain (OR.buildAll T35 rfl rfl PL35 rfl rfl ?_))
        exact ⟨_, [], Hp.le.refl _, hs, ⟨_, _, rfl, h1, h8⟩, rfl⟩
      intro H w hle2; (try replace hle := hle.trans hle2); (try replace hlb := hlb.trans hle2)
      refine forAllVals_eq rfl ?_
      refine forAllVals_of rfl ?_; intro v1 h1
      refine forAllVals_eq rfl ?_
      refine forAllVals_eq rfl ?_
      refine forAllVals_eq rfl ?_
      refine forAllVals_eq rfl ?_
      refine forAllVals_eq rfl ?_
      refine forAllVals_eq rfl ?_
      refine forAllVals_of rfl ?_; intro v8 h8
      refine forAllVals_of rfl ?_; intro v9 h9
      refine forAllVals_nil ?_; (try clear hs); intro hs
      obtain ⟨nc, np, rfl, hnc, hnp⟩ := h9
      obtain ⟨_, _, rfl⟩ := hnc.form
      obtain ⟨_, _, rfl⟩ := hnp.form
      refine WO.stepN (OR.storeAll hs T35 rfl rfl rfl rfl rfl ?_)
      clear hs; intro w hs
      refine WO.step rfl (OR.assign rfl (WO.done (WX.seq (WC.ret ?_))))
      refine WX.retCT T35 rfl rfl rfl rfl rfl (hs.blk (i := 0) rfl) ?_
      have e1 : rowE x gen c = 0 := by rw [rowE, if_pos hlt, if_pos hcl]
      have e2 : rowF x gen c = (c, comb x.s (symF x gen) c) := by rw [rowF, if_pos ⟨hlt, hcl⟩]
      rw [e1, e2]
      exact .mk (hs.drop 0) ⟨_, rfl, _, _, rfl, hnc, hnp⟩
  · have hE : thereE x gen = 23 := by rw [thereE, if_neg hlt]
    rw [hE]
    refine WO.step rfl (OR.move rfl (WO.step rfl (OR.extract rfl rfl (WO.step rfl (OR.extract rfl rfl (WO.step rfl (OR.assign rfl ?_)))))))
    refine WO.step rfl (OR.assign rfl (WO.done (WX.seq (WC.seq (WC.seq (WC.region (WO.step rfl ?_)))))))
    refine OR.move rfl (WO.step rfl (OR.neq rfl rfl (WO.done (WX.seq ?_))))
    refine WC.yes rfl (decide_eq_true (by decide)) ?_
    refine WC.seq (WC.region (WO.step rfl (OR.buildZero T35 PL35 (WO.step rfl (OR.move rfl (WO.stepN (OR.storeAll hs T35 rfl rfl rfl rfl rfl ?_)))))))
    clear hs; intro w hs
    refine WO.step rfl (OR.assign rfl (WO.done (WX.seq (WC.ret (WX.seq_ret ?_)))))
    refine WX.retCT T35 rfl rfl rfl rfl rfl (hs.blk (i := 0) rfl) ?_
    have e1 : rowE x gen c = 23 := by rw [rowE, if_neg hlt]
    have e2 : rowF x gen c = ([], []) := by rw [rowF, if_neg (by omega)]
    rw [e1, e2]
    exact .mk (hs.drop 0) ⟨_, rfl, hz.mono hle⟩

theorem unit_coef (n i : Nat) (l : List UInt8) (h : i < n) : (List.replicate n (0 : UInt8)).set i 1 = coefF n (i % n) [] := by
  rw [coefF, padTo_nil, if_pos (zeros_lead n), Nat.mod_eq_of_lt h]
set_option maxRecDepth 20000 in
set_option maxHeartbeats 2000000 in
theorem rsSend_ok (b : Nat) (gen sent : Nat) (vd : Value) (l : List UInt8) (x : SrcD) (o : Obj) (H0 : Hp) (w0 : World) (h0 : Sub H0 w0) (hb : w0.heap[b]? = some o) (hn : H0 b = none) (hx : RsIn H0 x o) (hok : SrcOk x) (hcl : x.cuts.length ≤ 1000000000) (hl : Bytes H0 vd l) (hst : sent < 18446744073709551616) :
    Calls Try.prog 65 #[ptr b, .int .u64 (gen : Int), .int .u64 (sent : Int), vd] w0 (Pure H0 w0 fun v H' => TupR H' v (rowF x gen (sendC x sent l)) (thereE x gen)) := by
  have hs := HS.startR h0 hb hn
  have hle := Hp.le.refl H0
  have hx0 := hx
  have hchl := hok.chl
  obtain ⟨hn1, hn2, hn3, hn4, hn5⟩ := hok.nat
  have hz : RowV H0 (.agg #[.slice none 0 0, .slice none 0 0]) ([], []) := ⟨_, _, rfl, Sl.empty _ _ _, Sl.empty _ _ _⟩
  obtain ⟨b1, c1, rfl⟩ := hl.form
  obtain ⟨vs, vc, rfl, hst1, hcu⟩ := hx0
  have hsc : (sendC x sent l).length = x.g := coefF_len _ _ _
  refine Calls.enter (args := [ptr b, .int .u64 (gen : Int), .int .u64 (sent : Int), .slice b1 l.length c1]) Try.func65 rfl Try.ntmps65 rfl ?_
  refine WC.seq (WC.region (WO.step rfl (OR.alloc hs T35 ?_)))
  clear hs; intro g1 w hg1 hs
  refine WO.step rfl (OR.assign rfl (WO.done (WX.seq (WC.seq (WC.seq (WC.region (WO.step rfl ?_)))))))
  refine OR.move rfl (WO.step rfl (OR.move rfl ?_))
  refine WO.step rfl (OR.call hs body66 rfl rfl (rsGens_ok b x _ _ _ hs.toSub (hs.blk (i := 1) rfl) (hs.none (i := 1) rfl) (hx.mono hle) hok (by omega)) ?_)
  clear hs; rintro _ H w hs hle1 rfl; replace hle := hle.trans hle1; (try replace hlb := hlb.trans hle1)
  refine WO.step rfl (OR.geq rfl rfl (WO.done (WX.seq ?_)))
  refine WC.condD rfl (fun hge => ?_) (fun hge => ?_)
  · refine WC.seq (WC.region (WO.step rfl (OR.buildZero T35 PL35 (WO.stepN (OR.storeAll hs T35 rfl rfl rfl rfl rfl ?_)))))
    clear hs; intro w hs
    refine WO.step rfl (OR.assign rfl (WO.done (WX.seq (WC.ret (WX.seq_ret ?_)))))
    refine WX.retCT T35 rfl rfl rfl rfl rfl (hs.blk (i := 0) rfl) ?_
    have e2 : rowF x gen (sendC x sent l) = ([], []) := by rw [rowF, if_neg (by omega)]
    rw [thereE, if_neg (by omega), e2]
    exact .mk (hs.drop 0) ⟨_, rfl, hz.mono hle⟩
  · have hlt : gen < x.chunks.length := by omega
    have hE : thereE x gen = 0 := by rw [thereE, if_pos hlt]
    have e1 : rowE x gen (sendC x sent l) = 0 := by rw [rowE, if_pos hlt, if_pos hsc]
    rw [hE]
    refine WC.skip (WX.seq (WC.seq (WC.seq (WC.region (WO.step rfl (OR.move rfl (WO.step rfl ?_)))))))
    refine OR.move rfl (WO.step rfl (OR.nilCheck rfl (WO.step rfl (OR.fieldAddr FA111_0 rfl (WO.step rfl (OR.load T3 rfl rfl (hs.cellM (i := 1) rfl rfl) ?_))))))
    refine WO.step rfl (OR.convI T3.und T58.und rfl ?_)
    rw [u64_wrap _ (by omega)]
    refine WO.step rfl (OR.lss rfl rfl (WO.done (WX.seq ?_)))
    refine WC.condD rfl (fun hsg => ?_) (fun hsg => ?_)
    · have hsg' : sent < x.g := by omega
      have hsc' : sendC x sent l = coefF x.g (sent % x.g) [] := by rw [sendC, if_pos hsg']
      refine WC.seq (WC.region (WO.step rfl (OR.move rfl (WO.step rfl (OR.nilCheck rfl (WO.step rfl (OR.fieldAddr FA111_0 rfl ?_)))))))
      refine WO.step rfl (OR.load T3 rfl rfl (hs.cellM (i := 1) rfl rfl) ?_)
      refine WO.step rfl (OR.make1 (m := x.g) hs T23.und T5 rfl rfl rfl (by omega) (by omega) ?_)
      clear hs; intro gm w hgm hs
      refine WO.step rfl (OR.assign rfl (WO.done (WX.seq (WC.seq (WC.region (WO.step rfl (OR.move rfl ?_)))))))
      refine WO.step rfl (OR.move rfl ?_)
      refine WO.step rfl (OR.idx sent T23.und T5 rfl rfl rfl hsg' ?_)
      refine WO.stepN (OR.store hs T5 rfl rfl rfl (by simp; omega) rfl ?_)
      clear hs; intro w hs
      have hsum : (setL (List.replicate x.g (Value.int .u8 0)).toArray.toList (0 + sent) (Value.int .u8 1).cells.toList).toArray = ((sendC x sent l).map B).toArray := by
        rw [hsc', ← unit_coef x.g sent l hsg', List.map_set, List.map_replicate, Nat.zero_add]
        show (setL _ sent [B 1]).toArray = _
        rw [setL_one]
        rfl
      rw [hsum] at hs
      have hgH := (hs.mem gm (.cells ((sendC x sent l).map B).toArray 5) true (by simp)).2.1
      have hpH := Hp.le_put hgH (.cells ((sendC x sent l).map B).toArray 5)
      replace hs := hs.publish hgm
      have hall := Bytes.block (c := ((sendC x sent l).map B).toArray) (l := sendC x sent l) (cap := x.g) (Hp.put_same H gm (.cells ((sendC x sent l).map B).toArray 5)) (by rw [hsc, List.take_of_length_le (by simp [hsc])]) (by omega)
      rw [hsc] at hall
      replace hle := hle.trans hpH
      obtain ⟨HB, hHB⟩ : ∃ X, X = H.put gm (.cells ((sendC x sent l).map B).toArray 5) := ⟨_, rfl⟩
      rw [← hHB] at hs hall hle
      refine WO.done (WX.seq (WC.seq (WC.region (WO.step rfl (OR.move rfl (WO.step rfl (OR.move rfl ?_)))))))
      refine WO.step rfl (OR.move rfl ?_)
      refine WO.step rfl (OR.call hs body63 rfl rfl (rsRow_ok b gen _ (sendC x sent l) x (rsObj x.g x.s vs vc x.cl) _ _ hs.toSub (hs.blk (i := 1) rfl) (hs.none (i := 1) rfl) (hx.mono hle) hok hcl hall (by omega)) ?_)
      clear hs; rintro _ H w hs hle1 ⟨r2, rfl, hr2⟩; replace hle := hle.trans hle1; (try replace hlb := hlb.trans hle1)
      rw [e1]
      obtain ⟨y1, y2, rfl, hy1, hy2⟩ := hr2
      obtain ⟨b4, c4, rfl⟩ := hy1.form
      obtain ⟨b5, c5, rfl⟩ := hy2.form
      refine WO.step rfl (OR.extract rfl rfl (WO.step rfl (OR.extract rfl rfl (WO.stepN (OR.storeAll hs T35 rfl rfl rfl rfl rfl ?_)))))
      clear hs; intro w hs
      refine WO.step rfl (OR.assign rfl (WO.done (WX.seq (WC.ret (WX.seq_ret ?_)))))
      refine WX.retCT T35 rfl rfl rfl rfl rfl (hs.blk (i := 0) rfl) ?_
      exact .mk (hs.drop 0) ⟨_, rfl, _, _, rfl, hy1, hy2⟩
    · have hsg' : ¬ sent < x.g := by omega
      have hsc' : sendC x sent l = coefF x.g (sent % x.g) l := by rw [sendC, if_neg hsg']
      refine WC.skip (WX.seq (WC.seq (WC.region (WO.step rfl (OR.move rfl (WO.step rfl (OR.move rfl ?_)))))))
      refine WO.step rfl (OR.nilCheck rfl (WO.step rfl (OR.fieldAddr FA111_0 rfl (WO.step rfl (OR.load T3 rfl rfl (hs.cellM (i := 1) rfl rfl) ?_)))))
      refine WO.step rfl (OR.call hs body121 rfl rfl (refTurn_ok sent x.g _ _ hs.toSub ⟨hn1, hn2⟩ hst) ?_)
      clear hs; rintro _ H w hs hle1 rfl; replace hle := hle.trans hle1; (try replace hlb := hlb.trans hle1)
      refine WO.step rfl (OR.move rfl (WO.step rfl (OR.extract rfl rfl (WO.step rfl (OR.extract rfl rfl (WO.step rfl (OR.assign rfl ?_)))))))
      refine WO.step rfl (OR.assign rfl (WO.done (WX.seq (WC.seq (WC.region (WO.step rfl (OR.move rfl ?_)))))))
      refine WO.step rfl (OR.move rfl (WO.step rfl (OR.nilCheck rfl (WO.step rfl (OR.fieldAddr FA111_0 rfl (WO.step rfl (OR.load T3 rfl rfl (hs.cellM (i := 1) rfl rfl) ?_)))))))
      refine WO.step rfl (OR.move rfl ?_)
      refine WO.step rfl (OR.call hs body122 rfl rfl (refCoefs_ok _ l x.g (sent % x.g) _ _ hs.toSub (hl.mono hle) ⟨hn1, hn2⟩ (Nat.mod_lt _ hn1)) ?_)
      clear hs; rintro _ H w hs hle1 ⟨r, rfl, hr⟩; replace hle := hle.trans hle1; (try replace hlb := hlb.trans hle1)
      rw [← hsc'] at hr
      obtain ⟨b6, c6, rfl⟩ := hr.form
      refine WO.step rfl (OR.move rfl (WO.step rfl (OR.extract rfl rfl (WO.step rfl (OR.extract rfl rfl (WO.step rfl (OR.assign rfl ?_)))))))
      refine WO.step rfl (OR.assign rfl (WO.done (WX.seq (WC.seq (WC.region (WO.step rfl (OR.move rfl ?_)))))))
      refine WO.step rfl (OR.move rfl (WO.step rfl (OR.move rfl ?_)))
      refine WO.step rfl (OR.call hs body63 rfl rfl (rsRow_ok b gen _ (sendC x sent l) x (rsObj x.g x.s vs vc x.cl) _ _ hs.toSub (hs.blk (i := 1) rfl) (hs.none (i := 1) rfl) (hx.mono hle) hok hcl hr (by omega)) ?_)
      clear hs; rintro _ H w hs hle1 ⟨r2, rfl, hr2⟩; replace hle := hle.trans hle1; (try replace hlb := hlb.trans hle1)
      rw [e1]
      obtain ⟨y1, y2, rfl, hy1, hy2⟩ := hr2
      obtain ⟨b4, c4, rfl⟩ := hy1.form
      obtain ⟨b5, c5, rfl⟩ := hy2.form
      refine WO.step rfl (OR.extract rfl rfl (WO.step rfl (OR.extract rfl rfl (WO.stepN (OR.storeAll hs T35 rfl rfl rfl rfl rfl ?_)))))
      clear hs; intro w hs
      refine WO.step rfl (OR.assign rfl (WO.done (WX.seq (WC.ret ?_))))
      refine WX.retCT T35 rfl rfl rfl rfl rfl (hs.blk (i := 0) rfl) ?_
      exact .mk (hs.drop 0) ⟨_, rfl, _, _, rfl, hy1, hy2⟩
end Go.Bw
