/- A model: what is done with a flow. -/
import Derived.Test.YtbgdgmilcojlbaaModA
import Derived.Test.YtbgdgmilcojlbaaOps6
namespace Go.Bw
set_option linter.unusedVariables false
set_option linter.unusedSimpArgs false
open Go.Proofs

section
variable (mb pb gb : Nat) (vf : Value) (H0 : Hp) (w0 : World)
set_option maxRecDepth 20000 in
set_option maxHeartbeats 2000000 in
theorem mnone_ok (h0 : Sub H0 w0) (hb : w0.heap[mb]? = some (modObj vf pb gb)) (hn : H0 mb = none) : Calls Try.prog 170 #[ptr mb] w0 (Pure H0 w0 fun v _ => v = .bool false) := by
  have hs := HS.startR h0 hb hn
  refine Calls.enter (args := [ptr mb]) Try.func170 rfl Try.ntmps170 rfl ?_
  refine WC.seq (WC.region (WO.step rfl (OR.assign rfl (WO.done (WX.seq (WC.seq (WC.region ?_)))))))
  refine WO.step rfl (OR.move rfl (WO.step rfl (OR.eqlNilP T121.und rfl rfl (WO.step rfl (OR.move rfl (WO.guardYes rfl rfl rfl rfl (OR.move rfl ?_)))))))
  refine WO.guardYes rfl rfl rfl rfl (OR.nilCheck rfl (WO.guardYes rfl rfl rfl rfl (OR.fieldAddr FA185_2 rfl (WO.guardYes rfl rfl rfl rfl (OR.load T180 rfl rfl (hs.cellM (i := 0) rfl rfl) ?_)))))
  refine WO.guardYes rfl rfl rfl rfl (OR.eqlNilM T180.und rfl rfl ?_)
  refine WO.step rfl (OR.pickF rfl rfl rfl (WO.step rfl (OR.assign rfl (WO.done (WX.seq (WC.ret ?_))))))
  refine WX.ret1 rfl rfl ?_
  exact .mk hs rfl
end
def PartIn (H : Hp) (x : SrcD) (o : Obj) : Prop := ∃ vs vc, o = partObj vs vc x.cl ∧ Bytes H vs x.st ∧ Ints H vc x.cuts
theorem PartIn.mono {H H' : Hp} {x : SrcD} {o : Obj} (h : PartIn H x o) (hle : Hp.le H H') : PartIn H' x o := by
  obtain ⟨vs, vc, h1, h2, h3⟩ := h
  exact ⟨vs, vc, h1, h2.mono hle, h3.mono hle⟩

theorem SrcOk.gs5 {x : SrcD} (h : SrcOk x) : 1 ≤ x.g ∧ x.g ≤ 255 ∧ 1 ≤ x.s ∧ x.s ≤ 65535 ∧ 4 < x.g * x.s := by
  obtain ⟨h1, h2, h3, h4, h5⟩ := h.gs
  rw [← Int.natCast_mul] at h5
  omega
set_option maxRecDepth 20000 in
set_option maxHeartbeats 2000000 in
/-- What is done with a flow's part. -/
theorem mof_ok (mb pb gb f : Nat) (first cap : List Value) (vf : Value) (o : Obj) (x : SrcD) (tm tp : Bool) (xs : List Nat) (H0 H1 : Hp) (Mr : Mem) (w0 w1 : World) (C : Ending → World → Prop)
    (hs : HS xs H0 w0 H1 ((pb, o, tp) :: (mb, modObj vf pb gb, tm) :: Mr) w1) (hf : Flow1 H1 vf x.g x.s) (hx : PartIn H1 x o) (hok : SrcOk x) (hcl : x.cuts.length ≤ 1000000000) (hb : Body Try.prog f)
    (hC : ∀ e w, C e w → ∃ i : Int, e = .returned (.int .i64 i))
    (hdo : ∀ H w v1 v2, Hp.le H1 H → HS xs H0 w0 H ((pb, o, tp) :: (mb, modObj vf pb gb, tm) :: Mr) w → BytesL H v1 x.chunks → Bytes H v2 x.opn → Calls Try.prog f (first ++ [ptr pb, v1, v2] ++ cap).toArray w C) :
    Calls Try.prog 130 #[ptr mb, .int .i64 0, .func (.func f) first.toArray cap.toArray] w1 C := by
  have hle := Hp.le.refl H1
  have hxl := hok.len
  obtain ⟨vs, vc, rfl, hst, hcu⟩ := hx
  have hf0 := hf
  obtain ⟨fb, fo, cf, vk, rfl, hcf, hvk, hcc⟩ := hf0
  obtain ⟨b1, c1, rfl⟩ := hst.form
  obtain ⟨b2, c2, rfl⟩ := hcu.form
  obtain ⟨b3, c3, rfl⟩ := hvk.form
  refine Calls.enter (args := [ptr mb, .int .i64 0, .func (.func f) first.toArray cap.toArray]) Try.func130 rfl Try.ntmps130 rfl ?_
  refine WC.seq (WC.region (WO.step rfl (OR.assign rfl (WO.done (WX.seq (WC.seq (WC.block ?_)))))))
  refine WC.seq (WC.region (WO.step rfl (OR.move rfl ?_)))
  refine WO.step rfl (OR.call hs body170 rfl rfl (mnone_ok mb pb gb _ _ _ hs.toSub (hs.blk (i := 1) rfl) (hs.nh (i := 1) rfl)) ?_)
  clear hs; rintro _ H w hs hle1 rfl; replace hle := hle.trans hle1; (try replace hlb := hlb.trans hle1)
  refine WO.step rfl (OR.assign rfl (WO.done (WX.seq ?_)))
  refine WC.no rfl rfl ?_
  refine WC.seq (WC.region (WO.step rfl (OR.move rfl (WO.step rfl (OR.lss rfl rfl (WO.step rfl (OR.move rfl ?_)))))))
  refine WO.guardYes rfl rfl rfl rfl (OR.move rfl (WO.guardYes rfl rfl rfl rfl (OR.move rfl (WO.guardYes rfl rfl rfl rfl (OR.nilCheck rfl (WO.guardYes rfl rfl rfl rfl (OR.fieldAddr FA185_1 rfl ?_)))))))
  refine WO.guardYes rfl rfl rfl rfl (OR.load T179 rfl rfl (hs.cellM (i := 1) rfl rfl) (WO.guardYes rfl rfl rfl rfl (OR.lenSlice T179.und rfl (WO.guardYes rfl rfl rfl rfl (OR.geq rfl rfl (WO.step rfl (OR.pickF rfl rfl rfl ?_)))))))
  refine WO.step rfl (OR.assign rfl (WO.done (WX.seq ?_)))
  refine WC.no rfl (decide_eq_false (by omega)) ?_
  have hlb := Hp.le.refl H
  have hs1 := hs.size
  refine WC.skip (WX.block (WX.seq (WC.seq ?_)))
  refine WC.draw 16 mixed hs (by kernel_rfl) ?_
  refine ⟨MF.eq _, by intro Mx H w hle hs; refine forVals_nil (ORg.plain (OR.move rfl ?_)); exact ⟨_, [], Hp.le.refl _, hs, rfl, rfl⟩, ?_⟩
  refine ⟨MF.eq _, by intro Mx H w hle hs; refine forVals_eq rfl rfl rfl ?_; refine forVals_nil (ORg.plain (OR.nilCheck rfl ?_)); exact ⟨_, [], Hp.le.refl _, hs, rfl, rfl⟩, ?_⟩
  refine ⟨MF.eq _, by intro Mx H w hle hs; refine forVals_eq rfl rfl rfl ?_; refine forVals_nil (ORg.plain (OR.fieldAddr FA185_1 rfl ?_)); exact ⟨_, [], Hp.le.refl _, hs, rfl, rfl⟩, ?_⟩
  refine ⟨MF.eq _, by intro Mx H w hle hs; refine forVals_eq rfl rfl rfl ?_; refine forVals_nil (ORg.plain (OR.load T179 rfl rfl (hs.right.cellM (i := 1) rfl rfl) ?_)); exact ⟨_, [], Hp.le.refl _, hs, rfl, rfl⟩, ?_⟩
  refine ⟨MF.eq _, by intro Mx H w hle hs; refine forVals_nil (ORg.plain (OR.move rfl ?_)); exact ⟨_, [], Hp.le.refl _, hs, rfl, rfl⟩, ?_⟩
  refine ⟨MF.eq (ptr pb), ?_, ?_⟩
  · intro Mx H w hle2 hs; (try replace hle := hle.trans hle2); (try replace hlb := hlb.trans hle2); refine forVals_eq rfl rfl rfl ?_; refine forVals_eq rfl rfl rfl ?_
    refine forVals_nil (ORg.plain (OR.idxN 0 T179.und T189 rfl rfl rfl (by omega) ?_))
    exact ⟨_, [], Hp.le.refl _, hs, rfl, rfl⟩
  refine ⟨MF.eq _, by intro Mx H w hle hs; refine forVals_nil (ORg.plain (OR.move rfl ?_)); exact ⟨_, [], Hp.le.refl _, hs, rfl, rfl⟩, ?_⟩
  refine ⟨MF.eq _, by intro Mx H w hle hs; refine forVals_eq rfl rfl rfl ?_; refine forVals_nil (ORg.plain (OR.nilCheck rfl ?_)); exact ⟨_, [], Hp.le.refl _, hs, rfl, rfl⟩, ?_⟩
  refine ⟨MF.eq _, by intro Mx H w hle hs; refine forVals_eq rfl rfl rfl ?_; refine forVals_nil (ORg.plain (OR.fieldAddr FA185_0 rfl ?_)); exact ⟨_, [], Hp.le.refl _, hs, rfl, rfl⟩, ?_⟩
  refine ⟨MF.eq _, by intro Mx H w hle hs; refine forVals_eq rfl rfl rfl ?_; refine forVals_nil (ORg.plain (OR.fieldAddr FA117_1 rfl ?_)); exact ⟨_, [], Hp.le.refl _, hs, rfl, rfl⟩, ?_⟩
  refine ⟨MF.eq _, by intro Mx H w hle hs; refine forVals_eq rfl rfl rfl ?_; refine forVals_nil (ORg.plain (OR.load T115 rfl rfl (hs.right.cellM (i := 1) rfl rfl) ?_)); exact ⟨_, [], Hp.le.refl _, hs, rfl, rfl⟩, ?_⟩
  refine ⟨MF.eq _, by intro Mx H w hle hs; refine forVals_nil (ORg.plain (OR.move rfl ?_)); exact ⟨_, [], Hp.le.refl _, hs, rfl, rfl⟩, ?_⟩
  refine ⟨MF.eq (.pointer (some ⟨fb, fo, none⟩)), ?_, ?_⟩
  · intro Mx H w hle2 hs; (try replace hle := hle.trans hle2); (try replace hlb := hlb.trans hle2); refine forVals_eq rfl rfl rfl ?_; refine forVals_eq rfl rfl rfl ?_
    refine forVals_nil (ORg.plain (OR.idxN 0 T115.und T120 rfl rfl rfl (by omega) ?_))
    exact ⟨_, [], Hp.le.refl _, hs, rfl, rfl⟩
  refine ⟨MF.eq (.agg #[.int .i64 (x.g : Int), .int .i64 (x.s : Int), .int .i64 0, .slice b3 [(2 : Int)].length c3]), ?_, ?_⟩
  · intro Mx H w hle2 hs; (try replace hle := hle.trans hle2); (try replace hlb := hlb.trans hle2); refine forVals_eq rfl rfl rfl ?_
    refine forVals_nil (ORg.plain (OR.loadN (cs := [.int .i64 (x.g : Int), .int .i64 (x.s : Int), .int .i64 0, .slice b3 [(2 : Int)].length c3]) T120 rfl rfl rfl (fun j u hj => hs.cell (hcell.mono hle (hcc j u hj))) ?_))
    exact ⟨_, [], Hp.le.refl _, hs, rfl, rfl⟩
  refine ⟨MF.ptr w0.heap.size _, by intro Mx H w hle hs; refine forVals_nil (ORg.plain (OR.alloc hs T120 ?_)); intro g w hg hs; exact ⟨_, [_], Hp.le.refl _, hs, g, hg, rfl, rfl⟩, ?_⟩
  refine ⟨MF.eq _, by intro Mx H w hle hs; refine forVals_eq rfl rfl rfl ?_; refine forVals_nil (ORg.plain (OR.assign rfl ?_)); exact ⟨_, [], Hp.le.refl _, hs, rfl, rfl⟩, ?_⟩
  intro H w hle2; (try replace hle := hle.trans hle2); (try replace hlb := hlb.trans hle2)
  refine forAllVals_eq rfl ?_
  refine forAllVals_eq rfl ?_
  refine forAllVals_eq rfl ?_
  refine forAllVals_eq rfl ?_
  refine forAllVals_eq rfl ?_
  refine forAllVals_eq rfl ?_
  refine forAllVals_eq rfl ?_
  refine forAllVals_eq rfl ?_
  refine forAllVals_eq rfl ?_
  refine forAllVals_eq rfl ?_
  refine forAllVals_eq rfl ?_
  refine forAllVals_eq rfl ?_
  refine forAllVals_eq rfl ?_
  refine forAllVals_eq rfl ?_
  refine forAllVals_ptr rfl ?_; intro g1 hg1
  refine forAllVals_eq rfl ?_
  refine forAllVals_nil ?_; (try clear hs); intro hs
  refine WO.stepN (OR.storeAll hs T120 rfl rfl rfl rfl rfl ?_)
  clear hs; intro w hs
  refine WO.done (WX.seq (WC.seq ?_))
  have hlc := hlb
  clear hlb
  have hlb := Hp.le.refl H
  replace hst := hst.mono hle
  replace hcu := hcu.mono hle
  refine WC.draw 20 mixed hs (by kernel_rfl) ?_
  refine ⟨MF.eq _, by intro Mx H w hle hs; refine forVals_nil (ORg.plain (OR.move rfl ?_)); exact ⟨_, [], Hp.le.refl _, hs, rfl, rfl⟩, ?_⟩
  refine ⟨MF.eq _, by intro Mx H w hle hs; refine forVals_eq rfl rfl rfl ?_; refine forVals_nil (ORg.plain (OR.nilCheck rfl ?_)); exact ⟨_, [], Hp.le.refl _, hs, rfl, rfl⟩, ?_⟩
  refine ⟨MF.eq _, by intro Mx H w hle hs; refine forVals_eq rfl rfl rfl ?_; refine forVals_nil (ORg.plain (OR.fieldAddr FA189_0 rfl ?_)); exact ⟨_, [], Hp.le.refl _, hs, rfl, rfl⟩, ?_⟩
  refine ⟨MF.eq _, by intro Mx H w hle hs; refine forVals_eq rfl rfl rfl ?_; refine forVals_nil (ORg.plain (OR.load T23 rfl rfl (hs.right.cellM (i := 1) rfl rfl) ?_)); exact ⟨_, [], Hp.le.refl _, hs, rfl, rfl⟩, ?_⟩
  refine ⟨MF.eq _, by intro Mx H w hle hs; refine forVals_nil (ORg.plain (OR.move rfl ?_)); exact ⟨_, [], Hp.le.refl _, hs, rfl, rfl⟩, ?_⟩
  refine ⟨MF.eq _, by intro Mx H w hle hs; refine forVals_eq rfl rfl rfl ?_; refine forVals_nil (ORg.plain (OR.nilCheck rfl ?_)); exact ⟨_, [], Hp.le.refl _, hs, rfl, rfl⟩, ?_⟩
  refine ⟨MF.eq _, by intro Mx H w hle hs; refine forVals_eq rfl rfl rfl ?_; refine forVals_nil (ORg.plain (OR.fieldAddr FA189_1 rfl ?_)); exact ⟨_, [], Hp.le.refl _, hs, rfl, rfl⟩, ?_⟩
  refine ⟨MF.eq _, by intro Mx H w hle hs; refine forVals_eq rfl rfl rfl ?_; refine forVals_nil (ORg.plain (OR.load T87 rfl rfl (hs.right.cellM (i := 1) rfl rfl) ?_)); exact ⟨_, [], Hp.le.refl _, hs, rfl, rfl⟩, ?_⟩
  refine ⟨MF.eq _, by intro Mx H w hle hs; refine forVals_nil (ORg.plain (OR.fieldAddr FA120_0 rfl ?_)); exact ⟨_, [], Hp.le.refl _, hs, rfl, rfl⟩, ?_⟩
  refine ⟨MF.eq _, by intro Mx H w hle hs; refine forVals_eq rfl rfl rfl ?_; refine forVals_nil (ORg.plain (OR.load T3 rfl rfl (hs.right.cellM (i := 0) rfl rfl) ?_)); exact ⟨_, [], Hp.le.refl _, hs, rfl, rfl⟩, ?_⟩
  refine ⟨MF.eq _, by intro Mx H w hle hs; refine forVals_nil (ORg.plain (OR.fieldAddr FA120_1 rfl ?_)); exact ⟨_, [], Hp.le.refl _, hs, rfl, rfl⟩, ?_⟩
  refine ⟨MF.eq _, by intro Mx H w hle hs; refine forVals_eq rfl rfl rfl ?_; refine forVals_nil (ORg.plain (OR.load T3 rfl rfl (hs.right.cellM (i := 0) rfl rfl) ?_)); exact ⟨_, [], Hp.le.refl _, hs, rfl, rfl⟩, ?_⟩
  refine ⟨MF.tup3 x.chunks x.opn 0, ?_, ?_⟩
  · intro Mx H w hle2 hs; (try replace hle := hle.trans hle2); (try replace hlb := hlb.trans hle2); refine forVals_eq rfl rfl rfl ?_; refine forVals_eq rfl rfl rfl ?_; refine forVals_eq rfl rfl rfl ?_; refine forVals_eq rfl rfl rfl ?_
    have hcok := hok.cuts
    refine forVals_nil (ORg.plain (OR.call hs body98 rfl rfl (chunks_ok x.g x.s _ _ x.st x.cuts _ _ hs.toSub hok.gs5 (hst.mono hlb) (hcu.mono hlb) (by omega) (by omega)) ?_))
    clear hs; rintro _ H w hs hle1 ⟨r1, r2, rfl, hr1, hr2⟩
    exact ⟨_, [], hle1, hs, ⟨_, _, by rw [if_pos hcok], by rw [hok.ch]; rw [if_pos hcok] at hr1; exact hr1, by rw [hok.op]; rw [if_pos hcok] at hr2; exact hr2⟩, rfl⟩
  refine ⟨MF.tup3 x.chunks x.opn 0, ?_, ?_⟩
  · intro Mx H w hle2 hs; (try replace hle := hle.trans hle2); (try replace hlb := hlb.trans hle2); refine forVals_of rfl rfl rfl ?_; intro v12 h12
    refine forVals_nil (ORg.plain (OR.move rfl ?_))
    exact ⟨_, [], Hp.le.refl _, hs, h12, rfl⟩
  refine ⟨MF.bytesL x.chunks, ?_, ?_⟩
  · intro Mx H w hle2 hs; (try replace hle := hle.trans hle2); (try replace hlb := hlb.trans hle2); refine forVals_of rfl rfl rfl ?_; intro v13 h13
    obtain ⟨r1, r2, rfl, hr1, hr2⟩ := h13
    refine forVals_nil (ORg.plain (OR.extract rfl rfl ?_))
    exact ⟨_, [], Hp.le.refl _, hs, hr1, rfl⟩
  refine ⟨MF.bytes x.opn, ?_, ?_⟩
  · intro Mx H w hle2 hs; (try replace hle := hle.trans hle2); (try replace hlb := hlb.trans hle2); refine forVals_of rfl rfl rfl ?_; intro v13 h13
    obtain ⟨r1, r2, rfl, hr1, hr2⟩ := h13
    refine forVals_nil (ORg.plain (OR.extract rfl rfl ?_))
    exact ⟨_, [], Hp.le.refl _, hs, hr2, rfl⟩
  refine ⟨MF.eq (.int .i64 0), ?_, ?_⟩
  · intro Mx H w hle2 hs; (try replace hle := hle.trans hle2); (try replace hlb := hlb.trans hle2); refine forVals_of rfl rfl rfl ?_; intro v13 h13
    obtain ⟨r1, r2, rfl, hr1, hr2⟩ := h13
    refine forVals_nil (ORg.plain (OR.extract rfl rfl ?_))
    exact ⟨_, [], Hp.le.refl _, hs, rfl, rfl⟩
  refine ⟨MF.bytesL x.chunks, ?_, ?_⟩
  · intro Mx H w hle2 hs; (try replace hle := hle.trans hle2); (try replace hlb := hlb.trans hle2); refine forVals_of rfl rfl rfl ?_; intro v14 h14
    refine forVals_nil (ORg.plain (OR.assign rfl ?_))
    exact ⟨_, [], Hp.le.refl _, hs, h14, rfl⟩
  refine ⟨MF.bytes x.opn, ?_, ?_⟩
  · intro Mx H w hle2 hs; (try replace hle := hle.trans hle2); (try replace hlb := hlb.trans hle2); refine forVals_of rfl rfl rfl ?_; intro v15 h15
    refine forVals_nil (ORg.plain (OR.assign rfl ?_))
    exact ⟨_, [], Hp.le.refl _, hs, h15, rfl⟩
  refine ⟨MF.eq (.int .i64 0), ?_, ?_⟩
  · intro Mx H w hle2 hs; (try replace hle := hle.trans hle2); (try replace hlb := hlb.trans hle2); refine forVals_eq rfl rfl rfl ?_
    refine forVals_nil (ORg.plain (OR.assign rfl ?_))
    exact ⟨_, [], Hp.le.refl _, hs, rfl, rfl⟩
  intro H w hle2; (try replace hle := hle.trans hle2); (try replace hlb := hlb.trans hle2)
  refine forAllVals_eq rfl ?_
  refine forAllVals_eq rfl ?_
  refine forAllVals_eq rfl ?_
  refine forAllVals_eq rfl ?_
  refine forAllVals_eq rfl ?_
  refine forAllVals_eq rfl ?_
  refine forAllVals_eq rfl ?_
  refine forAllVals_eq rfl ?_
  refine forAllVals_eq rfl ?_
  refine forAllVals_eq rfl ?_
  refine forAllVals_eq rfl ?_
  refine forAllVals_eq rfl ?_
  refine forAllVals_of rfl ?_; intro v12 h12
  refine forAllVals_of rfl ?_; intro v13 h13
  refine forAllVals_of rfl ?_; intro v14 h14
  refine forAllVals_of rfl ?_; intro v15 h15
  refine forAllVals_eq rfl ?_
  refine forAllVals_of rfl ?_; intro v17 h17
  refine forAllVals_of rfl ?_; intro v18 h18
  refine forAllVals_eq rfl ?_
  refine forAllVals_nil ?_; (try clear hs); intro hs
  refine WO.done (WX.seq (WC.seq (WC.region (WO.step rfl (OR.move rfl (WO.step rfl (OR.move rfl ?_)))))))
  refine WO.step rfl (OR.move rfl (WO.step rfl (OR.move rfl ?_)))
  replace hs := hs.drop (i := 0)
  refine WO.step rfl (OR.callW hb rfl rfl (hdo _ _ _ _ hle hs h17 h18) ?_)
  intro e w hCe
  obtain ⟨i, rfl⟩ := hC e w hCe
  refine ⟨_, rfl, ?_⟩
  refine WO.step rfl (OR.assign rfl (WO.done (WX.seq (WC.ret ?_))))
  refine WX.ret1 rfl rfl ?_
  exact hCe
end Go.Bw
namespace Go.Bw
set_option linter.unusedVariables false
set_option linter.unusedSimpArgs false
open Go.Proofs

set_option maxRecDepth 20000 in
set_option maxHeartbeats 2000000 in
/-- What is done with a flow that is not closed. -/
theorem mchange1_ok (pb gd f : Nat) (first cap : List Value) (v1 v2 : Value) (o : Obj) (x : SrcD) (tp : Bool) (xs : List Nat) (H0 H1 : Hp) (Mr : Mem) (w0 w1 : World) (C : Ending → World → Prop)
    (hs : HS xs H0 w0 H1 ((pb, o, tp) :: Mr) w1) (hx : PartIn H1 x o) (hb : Body Try.prog f) (hgd : hcell H1 ⟨gd, 0, none⟩ = some (.func (.func f) first.toArray cap.toArray))
    (hC : ∀ e w, C e w → ∃ i : Int, e = .returned (.int .i64 i)) (hcl : x.cl = true → C (.returned (.int .i64 27)) w1)
    (hdo : x.cl = false → Calls Try.prog f (first ++ [ptr pb, v2] ++ cap).toArray w1 C) :
    Calls Try.prog 168 #[ptr pb, v1, v2, ptr gd] w1 C := by
  obtain ⟨vs, vc, rfl, hst, hcu⟩ := hx
  refine Calls.enter (args := [ptr pb, v1, v2, ptr gd]) Try.func168 rfl Try.ntmps168 rfl ?_
  refine WC.seq (WC.region (WO.step rfl (OR.assign rfl (WO.done (WX.seq (WC.seq (WC.seq ?_)))))))
  refine WC.region (WO.step rfl (OR.move rfl (WO.step rfl (OR.nilCheck rfl (WO.step rfl (OR.fieldAddr FA189_2 rfl (WO.step rfl ?_)))))))
  refine OR.load T4 rfl rfl (hs.cellM (i := 0) rfl rfl) (WO.done (WX.seq ?_))
  refine WC.cond rfl (fun hc => ?_) (fun hc => ?_)
  · refine WC.seq (WC.region (WO.step rfl (OR.assign rfl (WO.done (WX.seq (WC.ret (WX.seq_ret ?_)))))))
    refine WX.ret1 rfl rfl ?_
    exact hcl hc
  · refine WC.skip (WX.seq (WC.seq (WC.region ?_)))
    refine WO.step rfl (OR.load T191 rfl rfl (hs.cell hgd) ?_)
    refine WO.step rfl (OR.move rfl (WO.step rfl (OR.move rfl ?_)))
    refine WO.step rfl (OR.callW hb rfl rfl (hdo hc) ?_)
    intro e w hCe
    obtain ⟨i, rfl⟩ := hC e w hCe
    refine ⟨_, rfl, ?_⟩
    refine WO.step rfl (OR.assign rfl (WO.done (WX.seq (WC.ret ?_))))
    refine WX.ret1 rfl rfl ?_
    exact hCe
set_option maxRecDepth 20000 in
set_option maxHeartbeats 2000000 in
theorem mchange_ok (mb pb gb f : Nat) (first cap : List Value) (vf : Value) (o : Obj) (x : SrcD) (tm tp : Bool) (xs : List Nat) (H0 H1 : Hp) (Mr : Mem) (w0 w1 : World) (C : Ending → World → Prop)
    (hs : HS xs H0 w0 H1 ((pb, o, tp) :: (mb, modObj vf pb gb, tm) :: Mr) w1) (hf : Flow1 H1 vf x.g x.s) (hx : PartIn H1 x o) (hok : SrcOk x) (hncl : x.cuts.length ≤ 1000000000) (hb : Body Try.prog f)
    (hC : ∀ e w, C e w → ∃ i : Int, e = .returned (.int .i64 i))
    (hcl : x.cl = true → ∀ H w, Hp.le H1 H → HS xs H0 w0 H ((pb, o, tp) :: (mb, modObj vf pb gb, tm) :: Mr) w → C (.returned (.int .i64 27)) w)
    (hdo : x.cl = false → ∀ H w v2, Hp.le H1 H → HS xs H0 w0 H ((pb, o, tp) :: (mb, modObj vf pb gb, tm) :: Mr) w → Bytes H v2 x.opn → Calls Try.prog f (first ++ [ptr pb, v2] ++ cap).toArray w C) :
    Calls Try.prog 125 #[ptr mb, .int .i64 0, .func (.func f) first.toArray cap.toArray] w1 C := by
  have hle := Hp.le.refl H1
  refine Calls.enter (args := [ptr mb, .int .i64 0, .func (.func f) first.toArray cap.toArray]) Try.func125 rfl Try.ntmps125 rfl ?_
  refine WC.seq (WC.region (WO.step rfl (OR.box hs rfl ?_)))
  clear hs; intro g1 w hg1 hs
  refine WO.step rfl (OR.assign rfl (WO.done (WX.seq (WC.seq (WC.region (WO.step rfl (OR.move rfl ?_)))))))
  refine WO.step rfl (OR.move rfl (WO.step rfl (OR.makeFunc rfl rfl ?_)))
  obtain ⟨H, hle1, hp_g1, hs9⟩ := hs.pub1 hg1; clear hs; have hs := hs9; clear hs9; replace hle := hle.trans hle1; (try replace hlb := hlb.trans hle1)
  refine WO.step rfl (OR.callW body130 rfl rfl (mof_ok mb pb gb 168 [] [ptr g1] vf o x tm tp xs H0 H Mr w0 _ C hs (hf.mono hle) (hx.mono hle) hok hncl body168 hC (fun H2 w2 v1 v2 hl2 hs2 h1 h2 => mchange1_ok pb g1 f first cap v1 v2 o x tp xs H0 H2 _ w0 w2 C hs2 (hx.mono (hle.trans hl2)) hb (hcell.mono hl2 (hcell_of hp_g1 rfl)) hC (fun hc => hcl hc _ _ (hle.trans hl2) hs2) (fun hc => hdo hc _ _ _ (hle.trans hl2) hs2 h2))) ?_)
  intro e w hCe
  obtain ⟨i, rfl⟩ := hC e w hCe
  refine ⟨_, rfl, ?_⟩
  refine WO.step rfl (OR.assign rfl (WO.done (WX.seq (WC.ret ?_))))
  refine WX.ret1 rfl rfl ?_
  exact hCe

/-- A flow's part, when bytes are laid behind its stream, or a cut. -/
def mSubD (x : SrcD) (l : List UInt8) : SrcD := if x.st.length + l.length ≤ 262144 then longD x l else x
set_option maxRecDepth 20000 in
set_option maxHeartbeats 2000000 in
theorem msubmit1_ok (pb gB : Nat) (bv v2 : Value) (o : Obj) (x : SrcD) (l : List UInt8) (H0 : Hp) (w0 : World) (hs : HS [pb] H0 w0 H0 [(pb, o, true)] w0) (hx : PartIn H0 x o) (hxl : x.st.length ≤ 262144)
    (hgB : hcell H0 ⟨gB, 0, none⟩ = some bv) (hl : Bytes H0 bv l) (hll : l.length ≤ 1000000000) :
    Calls Try.prog 126 #[ptr pb, v2, ptr gB] w0 (Ret [pb] H0 w0 fun v H' M' => v = .int .i64 (if x.st.length + l.length ≤ 262144 then 0 else 7) ∧ ∃ o', M' = [(pb, o', true)] ∧ PartIn H' (mSubD x l) o') := by
  have hle := Hp.le.refl H0
  obtain ⟨vs, vc, rfl, hst, hcu⟩ := hx
  obtain ⟨b1, c1, rfl⟩ := hst.form
  obtain ⟨b2, c2, rfl⟩ := hcu.form
  obtain ⟨b3, c3, rfl⟩ := hl.form
  have hlb := hle
  refine Calls.enter (args := [ptr pb, v2, ptr gB]) Try.func126 rfl Try.ntmps126 rfl ?_
  refine WC.seq (WC.region (WO.step rfl (OR.assign rfl (WO.done (WX.seq (WC.seq (WC.seq ?_)))))))
  refine WC.draw 9 mixed hs (by kernel_rfl) ?_
  refine ⟨MF.eq _, by intro Mx H w hle hs; refine forVals_nil (ORg.plain (OR.move rfl ?_)); exact ⟨_, [], Hp.le.refl _, hs, rfl, rfl⟩, ?_⟩
  refine ⟨MF.eq _, by intro Mx H w hle hs; refine forVals_eq rfl rfl rfl ?_; refine forVals_nil (ORg.plain (OR.nilCheck rfl ?_)); exact ⟨_, [], Hp.le.refl _, hs, rfl, rfl⟩, ?_⟩
  refine ⟨MF.eq _, by intro Mx H w hle hs; refine forVals_eq rfl rfl rfl ?_; refine forVals_nil (ORg.plain (OR.fieldAddr FA189_0 rfl ?_)); exact ⟨_, [], Hp.le.refl _, hs, rfl, rfl⟩, ?_⟩
  refine ⟨MF.eq _, by intro Mx H w hle hs; refine forVals_eq rfl rfl rfl ?_; refine forVals_nil (ORg.plain (OR.load T23 rfl rfl (hs.right.cellM (i := 0) rfl rfl) ?_)); exact ⟨_, [], Hp.le.refl _, hs, rfl, rfl⟩, ?_⟩
  refine ⟨MF.eq _, by intro Mx H w hle hs; refine forVals_eq rfl rfl rfl ?_; refine forVals_nil (ORg.plain (OR.lenSlice T23.und rfl ?_)); exact ⟨_, [], Hp.le.refl _, hs, rfl, rfl⟩, ?_⟩
  refine ⟨MF.eq (.slice b3 l.length c3), ?_, ?_⟩
  · intro Mx H w hle2 hs; (try replace hle := hle.trans hle2); (try replace hlb := hlb.trans hle2)
    refine forVals_nil (ORg.plain (OR.load T23 rfl rfl (hs.cell (hcell.mono hlb hgB)) ?_))
    exact ⟨_, [], Hp.le.refl _, hs, rfl, rfl⟩
  refine ⟨MF.eq _, by intro Mx H w hle hs; refine forVals_eq rfl rfl rfl ?_; refine forVals_nil (ORg.plain (OR.lenSlice T23.und rfl ?_)); exact ⟨_, [], Hp.le.refl _, hs, rfl, rfl⟩, ?_⟩
  refine ⟨MF.eq _, by intro Mx H w hle hs; refine forVals_eq rfl rfl rfl ?_; refine forVals_eq rfl rfl rfl ?_; refine forVals_nil (ORg.plain (OR.addI rfl rfl (by omega) (by omega) ?_)); exact ⟨_, [], Hp.le.refl _, hs, rfl, rfl⟩, ?_⟩
  refine ⟨MF.eq _, by intro Mx H w hle hs; refine forVals_eq rfl rfl rfl ?_; refine forVals_nil (ORg.plain (OR.gtr rfl rfl ?_)); exact ⟨_, [], Hp.le.refl _, hs, rfl, rfl⟩, ?_⟩
  intro H w hle2; (try replace hle := hle.trans hle2); (try replace hlb := hlb.trans hle2)
  refine forAllVals_eq rfl ?_
  refine forAllVals_eq rfl ?_
  refine forAllVals_eq rfl ?_
  refine forAllVals_eq rfl ?_
  refine forAllVals_eq rfl ?_
  refine forAllVals_eq rfl ?_
  refine forAllVals_eq rfl ?_
  refine forAllVals_eq rfl ?_
  refine forAllVals_eq rfl ?_
  refine forAllVals_nil ?_; (try clear hs); intro hs
  refine WO.done (WX.seq ?_)
  refine WC.condD rfl (fun hbig => ?_) (fun hbig => ?_)
  · refine WC.seq (WC.region (WO.step rfl (OR.assign rfl (WO.done (WX.seq (WC.ret (WX.seq_ret ?_)))))))
    refine WX.ret1 rfl rfl ?_
    refine ⟨_, _, _, rfl, hs, by simp, ?_, _, rfl, ?_⟩
    · rw [if_neg (by omega)]
    · rw [mSubD, if_neg (by omega)]
      exact ⟨_, _, rfl, hst.mono hle, hcu.mono hle⟩
  · replace hst := hst.mono hle
    replace hcu := hcu.mono hle
    replace hl := hl.mono hle
    refine WC.skip (WX.seq (WC.seq ?_))
    have hlc := hlb
    clear hlb
    have hlb := Hp.le.refl H
    refine WC.draw 8 mixed hs (by kernel_rfl) ?_
    refine ⟨MF.eq _, by intro Mx H w hle hs; refine forVals_nil (ORg.plain (OR.move rfl ?_)); exact ⟨_, [], Hp.le.refl _, hs, rfl, rfl⟩, ?_⟩
    refine ⟨MF.eq _, by intro Mx H w hle hs; refine forVals_nil (ORg.plain (OR.move rfl ?_)); exact ⟨_, [], Hp.le.refl _, hs, rfl, rfl⟩, ?_⟩
    refine ⟨MF.eq _, by intro Mx H w hle hs; refine forVals_eq rfl rfl rfl ?_; refine forVals_nil (ORg.plain (OR.nilCheck rfl ?_)); exact ⟨_, [], Hp.le.refl _, hs, rfl, rfl⟩, ?_⟩
    refine ⟨MF.eq _, by intro Mx H w hle hs; refine forVals_eq rfl rfl rfl ?_; refine forVals_nil (ORg.plain (OR.fieldAddr FA189_0 rfl ?_)); exact ⟨_, [], Hp.le.refl _, hs, rfl, rfl⟩, ?_⟩
    refine ⟨MF.eq _, by intro Mx H w hle hs; refine forVals_eq rfl rfl rfl ?_; refine forVals_nil (ORg.plain (OR.load T23 rfl rfl (hs.right.cellM (i := 0) rfl rfl) ?_)); exact ⟨_, [], Hp.le.refl _, hs, rfl, rfl⟩, ?_⟩
    refine ⟨MF.eq (.slice b3 l.length c3), ?_, ?_⟩
    · intro Mx H w hle2 hs; (try replace hle := hle.trans hle2); (try replace hlb := hlb.trans hle2)
      refine forVals_nil (ORg.plain (OR.load T23 rfl rfl (hs.cell (hcell.mono hle hgB)) ?_))
      exact ⟨_, [], Hp.le.refl _, hs, rfl, rfl⟩
    refine ⟨MF.bytesL [x.st, l], ?_, ?_⟩
    · intro Mx H w hle2 hs; (try replace hle := hle.trans hle2); (try replace hlb := hlb.trans hle2); refine forVals_eq rfl rfl rfl ?_; refine forVals_eq rfl rfl rfl ?_
      refine forVals_nil (ORg.plain (OR.buildSlice (vs := [_, _]) hs T22.und T23 rfl rfl rfl rfl (by simp) ?_))
      intro gn w hgn hs
      obtain ⟨H, hle1, hp, hs⟩ := hs.pub1 hgn
      exact ⟨_, [], hle1, hs, ⟨_, Sl.block hp rfl rfl (by simp), rfl, fun i h h' => (by match i, h with | 0, _ => exact hst.mono (hlb.trans hle1) | 1, _ => exact hl.mono (hlb.trans hle1))⟩, rfl⟩
    refine ⟨MF.bytes (x.st ++ l), ?_, ?_⟩
    · intro Mx H w hle2 hs; (try replace hle := hle.trans hle2); (try replace hlb := hlb.trans hle2); refine forVals_of rfl rfl rfl ?_; intro v6 h6
      refine forVals_nil (ORg.plain (OR.call hs body127 rfl rfl (concat_ok _ [x.st, l] _ _ hs.toSub h6 (by simp; omega) (by simp)) ?_))
      clear hs; rintro _ H w hs hle1 hr
      exact ⟨_, [], hle1, hs, (by rw [List.flatten_cons, List.flatten_cons, List.flatten_nil, List.append_nil] at hr; exact hr), rfl⟩
    intro H w hle2; (try replace hle := hle.trans hle2); (try replace hlb := hlb.trans hle2)
    refine forAllVals_eq rfl ?_
    refine forAllVals_eq rfl ?_
    refine forAllVals_eq rfl ?_
    refine forAllVals_eq rfl ?_
    refine forAllVals_eq rfl ?_
    refine forAllVals_eq rfl ?_
    refine forAllVals_of rfl ?_; intro v6 h6
    refine forAllVals_of rfl ?_; intro v7 h7
    refine forAllVals_nil ?_; (try clear hs); intro hs
    obtain ⟨b7, c7, rfl⟩ := h7.form
    refine WO.step rfl (OR.nilCheck rfl (WO.step rfl (OR.fieldAddr FA189_0 rfl (WO.stepN (OR.store hs T23 rfl rfl rfl (Nat.le_of_ble_eq_true rfl) rfl ?_)))))
    clear hs; intro w hs
    refine WO.done (WX.seq (WC.seq (WC.region (WO.step rfl (OR.assign rfl (WO.done (WX.seq ?_)))))))
    refine WC.ret ?_
    refine WX.ret1 rfl rfl ?_
    refine ⟨_, _, _, rfl, hs, by simp, ?_, _, rfl, ?_⟩
    · rw [if_pos (by omega)]
    · rw [mSubD, if_pos (by omega)]
      exact ⟨_, _, rfl, h7, hcu.mono hlb⟩

set_option maxRecDepth 20000 in
set_option maxHeartbeats 2000000 in
theorem mflushed_ok (pb : Nat) (v2 : Value) (o : Obj) (x : SrcD) (H0 : Hp) (w0 : World) (hs : HS [pb] H0 w0 H0 [(pb, o, true)] w0) (hx : PartIn H0 x o) (hxl : x.st.length ≤ 262144) (hcl : x.cuts.length ≤ 1000000000)
    (h2 : Bytes H0 v2 x.opn) :
    Calls Try.prog 129 #[ptr pb, v2] w0 (Ret [pb] H0 w0 fun v H' M' => v = .int .i64 0 ∧ ∃ o', M' = [(pb, o', true)] ∧ PartIn H' (cutD x) o') := by
  have hle := Hp.le.refl H0
  obtain ⟨vs, vc, rfl, hst, hcu⟩ := hx
  obtain ⟨b1, c1, rfl⟩ := hst.form
  obtain ⟨b2, c2, rfl⟩ := hcu.form
  obtain ⟨b3, c3, rfl⟩ := h2.form
  have hlb := hle
  refine Calls.enter (args := [ptr pb, .slice b3 x.opn.length c3]) Try.func129 rfl Try.ntmps129 rfl ?_
  refine WC.seq (WC.region (WO.step rfl (OR.assign rfl (WO.done (WX.seq (WC.seq (WC.seq ?_)))))))
  refine WC.region (WO.step rfl (OR.move rfl (WO.step rfl (OR.lenSlice T23.und rfl (WO.step rfl (OR.gtr rfl rfl (WO.done ?_)))))))
  refine WX.seq ?_
  refine WC.condD rfl (fun hpos => ?_) (fun hpos => ?_)
  · have hne : ¬ x.opn = [] := fun e => by rw [e] at hpos; simp at hpos
    refine WC.drawT 13 12 5 mixed hs (by kernel_rfl) ?_
    refine ⟨MF.eq _, by intro Mx H w hle hs; refine forVals_nil (ORg.plain (OR.move rfl ?_)); exact ⟨_, [], Hp.le.refl _, hs, rfl, rfl⟩, ?_⟩
    refine ⟨MF.eq _, by intro Mx H w hle hs; refine forVals_nil (ORg.plain (OR.move rfl ?_)); exact ⟨_, [], Hp.le.refl _, hs, rfl, rfl⟩, ?_⟩
    refine ⟨MF.eq _, by intro Mx H w hle hs; refine forVals_eq rfl rfl rfl ?_; refine forVals_nil (ORg.plain (OR.nilCheck rfl ?_)); exact ⟨_, [], Hp.le.refl _, hs, rfl, rfl⟩, ?_⟩
    refine ⟨MF.eq _, by intro Mx H w hle hs; refine forVals_eq rfl rfl rfl ?_; refine forVals_nil (ORg.plain (OR.fieldAddr FA189_1 rfl ?_)); exact ⟨_, [], Hp.le.refl _, hs, rfl, rfl⟩, ?_⟩
    refine ⟨MF.eq _, by intro Mx H w hle hs; refine forVals_eq rfl rfl rfl ?_; refine forVals_nil (ORg.plain (OR.load T87 rfl rfl (hs.right.cellM (i := 0) rfl rfl) ?_)); exact ⟨_, [], Hp.le.refl _, hs, rfl, rfl⟩, ?_⟩
    refine ⟨MF.own w0.heap.size 3 1 x.cuts.length (x.cuts.map fun i => .int .i64 i), ?_, ?_⟩
    · intro Mx H w hle2 hs; (try replace hle := hle.trans hle2); (try replace hlb := hlb.trans hle2); refine forVals_eq rfl rfl rfl ?_
      refine forVals_nil (ORg.plain (OR.callX (Mx := []) hs body117 rfl rfl (cloneInts_ok _ x.cuts _ _ hs.toSub (hcu.mono hlb) (by omega)) rfl rfl ?_))
      have hsz := hs.size
      clear hs; rintro v H1 M1 w hs hle1 hnew ⟨rfl, ho⟩
      exact ⟨_, M1, hle1, hs, ho.mono hsz⟩
    refine ⟨MF.eq _, by intro Mx H w hle hs; refine forVals_nil (ORg.plain (OR.move rfl ?_)); exact ⟨_, [], Hp.le.refl _, hs, rfl, rfl⟩, ?_⟩
    refine ⟨MF.eq _, by intro Mx H w hle hs; refine forVals_eq rfl rfl rfl ?_; refine forVals_nil (ORg.plain (OR.nilCheck rfl ?_)); exact ⟨_, [], Hp.le.refl _, hs, rfl, rfl⟩, ?_⟩
    refine ⟨MF.eq _, by intro Mx H w hle hs; refine forVals_eq rfl rfl rfl ?_; refine forVals_nil (ORg.plain (OR.fieldAddr FA189_0 rfl ?_)); exact ⟨_, [], Hp.le.refl _, hs, rfl, rfl⟩, ?_⟩
    refine ⟨MF.eq _, by intro Mx H w hle hs; refine forVals_eq rfl rfl rfl ?_; refine forVals_nil (ORg.plain (OR.load T23 rfl rfl (hs.right.cellM (i := 0) rfl rfl) ?_)); exact ⟨_, [], Hp.le.refl _, hs, rfl, rfl⟩, ?_⟩
    refine ⟨MF.eq _, by intro Mx H w hle hs; refine forVals_eq rfl rfl rfl ?_; refine forVals_nil (ORg.plain (OR.lenSlice T23.und rfl ?_)); exact ⟨_, [], Hp.le.refl _, hs, rfl, rfl⟩, ?_⟩
    refine ⟨MF.ints [(x.st.length : Int)], ?_, ?_⟩
    · intro Mx H w hle2 hs; (try replace hle := hle.trans hle2); (try replace hlb := hlb.trans hle2); refine forVals_eq rfl rfl rfl ?_
      refine forVals_nil (ORg.plain (OR.buildSlice (vs := [_]) hs T87.und T3 rfl rfl rfl rfl (by simp) ?_))
      intro gn w hgn hs
      obtain ⟨H, hle1, hp, hs⟩ := hs.pub1 hgn
      exact ⟨_, [], hle1, hs, (Sl.block hp rfl rfl (by simp)), rfl⟩
    refine ⟨MF.own w0.heap.size 3 1 (x.cuts.length + 1) ((x.cuts ++ [(x.st.length : Int)]).map fun i => .int .i64 i), _, rfl, ⟨_, rfl, ?_⟩, ?_⟩
    · intro vj Mj Mx H w hle2 hs hFj; (try replace hle := hle.trans hle2); (try replace hlb := hlb.trans hle2); refine forVals_eq rfl rfl rfl ?_; refine forVals_of rfl rfl rfl ?_; intro v11 h11
      obtain ⟨b15, c15, rfl⟩ := h11.form
      refine forVals_nil (ORg.plain (OR.append (m := 1) (news := [_]) (Mo := Mj) hs hFj T87.und T3 rfl (by omega) rfl rfl rfl (Sl.src h11 hs) (Sl.src0 h11) rfl (by omega) (by omega) ?_))
      clear hs; intro v' w Mo' hs ho' hge
      exact ⟨_, Mo', Hp.le.refl _, hs, (by rw [List.map_append]; exact ho')⟩
    intro H w hle2; (try replace hle := hle.trans hle2); (try replace hlb := hlb.trans hle2)
    refine forAllVals_eq rfl ?_
    refine forAllVals_eq rfl ?_
    refine forAllVals_eq rfl ?_
    refine forAllVals_eq rfl ?_
    refine forAllVals_eq rfl ?_
    refine forAllVals_gone rfl ?_; intro v5
    refine forAllVals_eq rfl ?_
    refine forAllVals_eq rfl ?_
    refine forAllVals_eq rfl ?_
    refine forAllVals_eq rfl ?_
    refine forAllVals_eq rfl ?_
    refine forAllVals_of rfl ?_; intro v11 h11
    refine forAllVals_cons rfl ?_; intro v12 M12 h12
    refine forAllVals_nil ?_; (try clear hs); intro hs
    obtain ⟨H3, hle3, hs, hsl3, _⟩ := HS.pub hs h12
    replace hle := hle.trans hle3
    have hv3 : Ints H3 v12 (x.cuts ++ [(x.st.length : Int)]) := by unfold Ints; rw [List.length_append, List.length_singleton]; exact hsl3
    obtain ⟨b9, c9, rfl⟩ := hv3.form
    refine WO.step rfl (OR.nilCheck rfl (WO.step rfl (OR.fieldAddr FA189_1 rfl (WO.stepN (OR.store hs T87 rfl rfl rfl (Nat.le_of_ble_eq_true rfl) rfl ?_)))))
    clear hs; intro w hs
    refine WO.done (WX.seq (WC.seq (WC.region (WO.step rfl (OR.assign rfl (WO.done (WX.seq ?_)))))))
    refine WC.ret ?_
    refine WX.ret1 rfl rfl ?_
    refine ⟨_, _, _, rfl, hs, by simp, rfl, _, rfl, ?_⟩
    rw [cutD, if_neg hne]
    exact ⟨_, _, rfl, hst.mono hle, hv3⟩
  · have hn : x.opn = [] := List.eq_nil_of_length_eq_zero (by omega)
    refine WC.skip (WX.seq (WC.seq (WC.region (WO.step rfl (OR.assign rfl (WO.done (WX.seq ?_)))))))
    refine WC.ret ?_
    refine WX.ret1 rfl rfl ?_
    refine ⟨_, _, _, rfl, hs, by simp, rfl, _, rfl, ?_⟩
    rw [cutD, if_pos hn]
    exact ⟨_, _, rfl, hst, hcu⟩
def mClD (x : SrcD) : SrcD := { cutD x with cl := true }
set_option maxRecDepth 20000 in
set_option maxHeartbeats 2000000 in
theorem mclose1_ok (pb : Nat) (v2 : Value) (o : Obj) (x : SrcD) (H0 : Hp) (w0 : World) (hs : HS [pb] H0 w0 H0 [(pb, o, true)] w0) (hx : PartIn H0 x o) (hxl : x.st.length ≤ 262144) (hcl : x.cuts.length ≤ 1000000000)
    (h2 : Bytes H0 v2 x.opn) :
    Calls Try.prog 128 #[ptr pb, v2] w0 (Ret [pb] H0 w0 fun v H' M' => v = .int .i64 0 ∧ ∃ o', M' = [(pb, o', true)] ∧ PartIn H' (mClD x) o') := by
  have hle := Hp.le.refl H0
  obtain ⟨vs, vc, rfl, hst, hcu⟩ := hx
  refine Calls.enter (args := [ptr pb, v2]) Try.func128 rfl Try.ntmps128 rfl ?_
  refine WC.seq (WC.region (WO.step rfl (OR.assign rfl (WO.done (WX.seq (WC.seq (WC.region ?_)))))))
  refine WO.step rfl (OR.move rfl (WO.step rfl (OR.nilCheck rfl (WO.step rfl (OR.fieldAddr FA189_2 rfl (WO.stepN (OR.store hs T4 rfl rfl rfl (Nat.le_of_ble_eq_true rfl) rfl ?_)))))))
  clear hs; intro w hs
  refine WO.done (WX.seq (WC.seq (WC.region (WO.step rfl (OR.move rfl (WO.step rfl (OR.move rfl ?_)))))))
  have hx2 : PartIn H0 { x with cl := true } (partObj vs vc true) := ⟨_, _, rfl, hst, hcu⟩
  refine WO.step rfl (OR.callX (Mx := [(pb, _, true)]) hs body129 rfl rfl (mflushed_ok pb v2 _ { x with cl := true } _ _ (hs.begin [true]) hx2 hxl hcl h2) rfl rfl ?_)
  clear hs; rintro _ H M' w hs hle1 hnew ⟨rfl, o', rfl, hx3⟩; replace hle := hle.trans hle1; (try replace hlb := hlb.trans hle1)
  refine WO.step rfl (OR.assign rfl (WO.done (WX.seq (WC.ret ?_))))
  refine WX.ret1 rfl rfl ?_
  refine ⟨_, _, _, rfl, hs, by simp, rfl, _, rfl, ?_⟩
  have e : mClD x = cutD { x with cl := true } := by
    unfold mClD cutD
    by_cases h : x.opn = []
    · rw [if_pos h, if_pos h]
    · rw [if_neg h, if_neg h]
  rw [e]
  exact hx3
end Go.Bw
namespace Go.Bw
set_option linter.unusedVariables false
set_option linter.unusedSimpArgs false
open Go.Proofs

theorem partEnd {pb : Nat} {o : Obj} {X : SrcD} {E : Int} {H0 H : Hp} {Mr : Mem} {w0 w w' : World} {e : Ending} (hs : HS [pb] H0 w0 H ((pb, o, true) :: Mr) w)
    (h : Ret [pb] H w (fun v H' M' => v = .int .i64 E ∧ ∃ o', M' = [(pb, o', true)] ∧ PartIn H' X o') e w') :
    ∃ H' o', e = .returned (.int .i64 E) ∧ HS [pb] H0 w0 H' ((pb, o', true) :: Mr) w' ∧ PartIn H' X o' := by
  obtain ⟨v, H', M', rfl, k, ht, rfl, o', rfl, hx⟩ := h
  exact ⟨H', o', rfl, hs.after k (Mx := [(pb, o, true)]) rfl rfl (by simp) ht, hx⟩
/-- What a Submit, a Flush, a Close answers, and makes. -/
def mSubE (x : SrcD) (l : List UInt8) : Int := if x.cl = true then 27 else if x.st.length + l.length ≤ 262144 then 0 else 7
def mSubX (x : SrcD) (l : List UInt8) : SrcD := if x.cl = true then x else mSubD x l
def mFluE (x : SrcD) : Int := if x.cl = true then 27 else 0
def mFluX (x : SrcD) : SrcD := if x.cl = true then x else cutD x
def mCloX (x : SrcD) : SrcD := if x.cl = true then x else mClD x

theorem mE_no {x : SrcD} (l : List UInt8) (hc : x.cl = false) : mSubE x l = (if x.st.length + l.length ≤ 262144 then 0 else 7) ∧ mSubX x l = mSubD x l ∧ mFluE x = 0 ∧ mFluX x = cutD x ∧ mCloX x = mClD x := by
  simp [mSubE, mSubX, mFluE, mFluX, mCloX, hc]
theorem mE_yes {x : SrcD} (l : List UInt8) (hc : x.cl = true) : mSubE x l = 27 ∧ mSubX x l = x ∧ mFluE x = 27 ∧ mFluX x = x ∧ mCloX x = x := by
  simp [mSubE, mSubX, mFluE, mFluX, mCloX, hc]
def partC (pb mb gb : Nat) (vf : Value) (E : Int) (X : SrcD) (H0 : Hp) (w0 : World) (e : Ending) (w' : World) : Prop :=
  ∃ H' o', e = .returned (.int .i64 E) ∧ HS [pb] H0 w0 H' [(pb, o', true), (mb, modObj vf pb gb, false)] w' ∧ PartIn H' X o'
theorem partC_int {pb mb gb : Nat} {vf : Value} {E : Int} {X : SrcD} {H0 : Hp} {w0 : World} (e : Ending) (w' : World) (h : partC pb mb gb vf E X H0 w0 e w') : ∃ i : Int, e = .returned (.int .i64 i) := by
  obtain ⟨_, _, h, _⟩ := h
  exact ⟨_, h⟩
section
variable (mb pb gb : Nat) (vf : Value) (o : Obj) (x : SrcD) (H0 : Hp) (w0 : World)
set_option maxRecDepth 20000 in
set_option maxHeartbeats 2000000 in
theorem msubmit_ok (bv : Value) (l : List UInt8) (hs : HS [pb] H0 w0 H0 [(pb, o, true), (mb, modObj vf pb gb, false)] w0) (hf : Flow1 H0 vf x.g x.s) (hx : PartIn H0 x o) (hok : SrcOk x) (hcl : x.cuts.length ≤ 1000000000) (hl : Bytes H0 bv l) (hll : l.length ≤ 1000000000) :
    Calls Try.prog 70 #[ptr mb, .int .i64 0, bv] w0 (Ret [pb] H0 w0 fun v H' M' => v = .int .i64 (mSubE x l) ∧ ∃ o', M' = [(pb, o', true)] ∧ PartIn H' (mSubX x l) o') := by
  have hle := Hp.le.refl H0
  obtain ⟨b1, c1, rfl⟩ := hl.form
  refine Calls.enter (args := [ptr mb, .int .i64 0, .slice b1 l.length c1]) Try.func70 rfl Try.ntmps70 rfl ?_
  refine WC.seq (WC.region (WO.step rfl (OR.box hs rfl ?_)))
  clear hs; intro g1 w hg1 hs
  refine WO.step rfl (OR.assign rfl (WO.done (WX.seq (WC.seq (WC.region (WO.step rfl (OR.move rfl ?_)))))))
  refine WO.step rfl (OR.move rfl (WO.step rfl (OR.makeFunc rfl rfl ?_)))
  obtain ⟨H, hle1, hp_g1, hs9⟩ := hs.pub1 hg1; clear hs; have hs := hs9; clear hs9; replace hle := hle.trans hle1; (try replace hlb := hlb.trans hle1)
  have hdo : x.cl = false → ∀ H2 w2 v2, Hp.le H H2 → HS [pb] H0 w0 H2 [(pb, o, true), (mb, modObj vf pb gb, false)] w2 → Bytes H2 v2 x.opn → Calls Try.prog 126 ([] ++ [ptr pb, v2] ++ [ptr g1]).toArray w2 (partC pb mb gb vf (mSubE x l) (mSubX x l) H0 w0) := by
    intro hc H2 w2 v2 hl2 hs2 h2
    refine (msubmit1_ok pb g1 _ v2 o x l H2 w2 ((hs2.drop 1).begin [true]) (hx.mono (hle.trans hl2)) hok.len (hcell.mono hl2 (hcell_of hp_g1 rfl)) (hl.mono (hle.trans hl2)) hll).mono fun e w' h => ?_
    have h' := partEnd hs2 h
    obtain ⟨q1, q2, q3, q4, q5⟩ := mE_no l hc
    unfold partC
    simp only [q1, q2, q3, q4, q5]
    exact h'
  have hcl' : x.cl = true → ∀ H2 w2, Hp.le H H2 → HS [pb] H0 w0 H2 [(pb, o, true), (mb, modObj vf pb gb, false)] w2 → partC pb mb gb vf (mSubE x l) (mSubX x l) H0 w0 (.returned (.int .i64 27)) w2 := by
    intro hc H2 w2 hl2 hs2
    obtain ⟨q1, q2, q3, q4, q5⟩ := mE_yes l hc
    unfold partC
    simp only [q1, q2, q3, q4, q5]
    exact ⟨H2, o, trivial, hs2, hx.mono (hle.trans hl2)⟩
  refine WO.step rfl (OR.callW body125 rfl rfl (mchange_ok mb pb gb 126 [] [ptr g1] vf o x false true [pb] H0 H [] w0 _ (partC pb mb gb vf (mSubE x l) (mSubX x l) H0 w0) hs (hf.mono hle) (hx.mono hle) hok hcl body126 partC_int hcl' hdo) ?_)
  rintro e w ⟨H', o', rfl, hs, hx'⟩
  refine ⟨_, rfl, ?_⟩
  refine WO.step rfl (OR.assign rfl (WO.done (WX.seq (WC.ret ?_))))
  refine WX.ret1 rfl rfl ?_
  exact ⟨_, H', _, rfl, hs.drop 1, by simp [dropAt], rfl, o', rfl, hx'⟩
set_option maxRecDepth 20000 in
set_option maxHeartbeats 2000000 in
theorem mflush_ok (hs : HS [pb] H0 w0 H0 [(pb, o, true), (mb, modObj vf pb gb, false)] w0) (hf : Flow1 H0 vf x.g x.s) (hx : PartIn H0 x o) (hok : SrcOk x) (hcl : x.cuts.length ≤ 1000000000) :
    Calls Try.prog 133 #[ptr mb, .int .i64 0] w0 (Ret [pb] H0 w0 fun v H' M' => v = .int .i64 (mFluE x) ∧ ∃ o', M' = [(pb, o', true)] ∧ PartIn H' (mFluX x) o') := by
  have hle := Hp.le.refl H0
  refine Calls.enter (args := [ptr mb, .int .i64 0]) Try.func133 rfl Try.ntmps133 rfl ?_
  have hdo : x.cl = false → ∀ H2 w2 v2, Hp.le H0 H2 → HS [pb] H0 w0 H2 [(pb, o, true), (mb, modObj vf pb gb, false)] w2 → Bytes H2 v2 x.opn → Calls Try.prog 129 ([] ++ [ptr pb, v2] ++ []).toArray w2 (partC pb mb gb vf (mFluE x) (mFluX x) H0 w0) := by
    intro hc H2 w2 v2 hl2 hs2 h2
    refine (mflushed_ok pb v2 o x H2 w2 ((hs2.drop 1).begin [true]) (hx.mono (hle.trans hl2)) hok.len hcl h2).mono fun e w' h => ?_
    have h' := partEnd hs2 h
    obtain ⟨q1, q2, q3, q4, q5⟩ := mE_no [] hc
    unfold partC
    simp only [q1, q2, q3, q4, q5]
    exact h'
  have hcl' : x.cl = true → ∀ H2 w2, Hp.le H0 H2 → HS [pb] H0 w0 H2 [(pb, o, true), (mb, modObj vf pb gb, false)] w2 → partC pb mb gb vf (mFluE x) (mFluX x) H0 w0 (.returned (.int .i64 27)) w2 := by
    intro hc H2 w2 hl2 hs2
    obtain ⟨q1, q2, q3, q4, q5⟩ := mE_yes [] hc
    unfold partC
    simp only [q1, q2, q3, q4, q5]
    exact ⟨H2, o, trivial, hs2, hx.mono (hle.trans hl2)⟩
  refine WC.seq (WC.region (WO.step rfl (OR.assign rfl (WO.done (WX.seq (WC.seq (WC.region ?_)))))))
  refine WO.step rfl (OR.move rfl (WO.step rfl (OR.move rfl ?_)))
  refine WO.step rfl (OR.callW body125 rfl rfl (mchange_ok mb pb gb 129 [] [] vf o x false true [pb] H0 H0 [] w0 _ (partC pb mb gb vf (mFluE x) (mFluX x) H0 w0) hs (hf.mono hle) (hx.mono hle) hok hcl body129 partC_int hcl' hdo) ?_)
  rintro e w ⟨H', o', rfl, hs, hx'⟩
  refine ⟨_, rfl, ?_⟩
  refine WO.step rfl (OR.assign rfl (WO.done (WX.seq (WC.ret ?_))))
  refine WX.ret1 rfl rfl ?_
  exact ⟨_, H', _, rfl, hs.drop 1, by simp [dropAt], rfl, o', rfl, hx'⟩
set_option maxRecDepth 20000 in
set_option maxHeartbeats 2000000 in
theorem mclose_ok (hs : HS [pb] H0 w0 H0 [(pb, o, true), (mb, modObj vf pb gb, false)] w0) (hf : Flow1 H0 vf x.g x.s) (hx : PartIn H0 x o) (hok : SrcOk x) (hcl : x.cuts.length ≤ 1000000000) :
    Calls Try.prog 71 #[ptr mb, .int .i64 0] w0 (Ret [pb] H0 w0 fun v H' M' => v = .int .i64 (mFluE x) ∧ ∃ o', M' = [(pb, o', true)] ∧ PartIn H' (mCloX x) o') := by
  have hle := Hp.le.refl H0
  refine Calls.enter (args := [ptr mb, .int .i64 0]) Try.func71 rfl Try.ntmps71 rfl ?_
  have hdo : x.cl = false → ∀ H2 w2 v2, Hp.le H0 H2 → HS [pb] H0 w0 H2 [(pb, o, true), (mb, modObj vf pb gb, false)] w2 → Bytes H2 v2 x.opn → Calls Try.prog 128 ([] ++ [ptr pb, v2] ++ []).toArray w2 (partC pb mb gb vf (mFluE x) (mCloX x) H0 w0) := by
    intro hc H2 w2 v2 hl2 hs2 h2
    refine (mclose1_ok pb v2 o x H2 w2 ((hs2.drop 1).begin [true]) (hx.mono (hle.trans hl2)) hok.len hcl h2).mono fun e w' h => ?_
    have h' := partEnd hs2 h
    obtain ⟨q1, q2, q3, q4, q5⟩ := mE_no [] hc
    unfold partC
    simp only [q1, q2, q3, q4, q5]
    exact h'
  have hcl' : x.cl = true → ∀ H2 w2, Hp.le H0 H2 → HS [pb] H0 w0 H2 [(pb, o, true), (mb, modObj vf pb gb, false)] w2 → partC pb mb gb vf (mFluE x) (mCloX x) H0 w0 (.returned (.int .i64 27)) w2 := by
    intro hc H2 w2 hl2 hs2
    obtain ⟨q1, q2, q3, q4, q5⟩ := mE_yes [] hc
    unfold partC
    simp only [q1, q2, q3, q4, q5]
    exact ⟨H2, o, trivial, hs2, hx.mono (hle.trans hl2)⟩
  refine WC.seq (WC.region (WO.step rfl (OR.assign rfl (WO.done (WX.seq (WC.seq (WC.region ?_)))))))
  refine WO.step rfl (OR.move rfl (WO.step rfl (OR.move rfl ?_)))
  refine WO.step rfl (OR.callW body125 rfl rfl (mchange_ok mb pb gb 128 [] [] vf o x false true [pb] H0 H0 [] w0 _ (partC pb mb gb vf (mFluE x) (mCloX x) H0 w0) hs (hf.mono hle) (hx.mono hle) hok hcl body128 partC_int hcl' hdo) ?_)
  rintro e w ⟨H', o', rfl, hs, hx'⟩
  refine ⟨_, rfl, ?_⟩
  refine WO.step rfl (OR.assign rfl (WO.done (WX.seq (WC.ret ?_))))
  refine WX.ret1 rfl rfl ?_
  exact ⟨_, H', _, rfl, hs.drop 1, by simp [dropAt], rfl, o', rfl, hx'⟩
end
set_option maxRecDepth 20000 in
set_option maxHeartbeats 2000000 in
/-- The numbers of generations. -/
theorem mgens1_ok (gn : Nat) (v0 v1 v2 u : Value) (ll : List (List UInt8)) (H0 : Hp) (w0 : World) (hs : HS [gn] H0 w0 H0 [(gn, .cells #[u] 58, true)] w0) (hl : BytesL H0 v1 ll) (hll : ll.length < 9223372036854775807) :
    Calls Try.prog 131 #[v0, v1, v2, ptr gn] w0 (Ret [gn] H0 w0 fun v H' M' => v = .int .i64 0 ∧ M' = [(gn, .cells #[.int .u64 (ll.length : Int)] 58, true)]) := by
  obtain ⟨b1, c1, rfl⟩ := hl.form
  refine Calls.enter (args := [v0, .slice b1 ll.length c1, v2, ptr gn]) Try.func131 rfl Try.ntmps131 rfl ?_
  refine WC.seq (WC.region (WO.step rfl (OR.assign rfl (WO.done (WX.seq (WC.seq (WC.region ?_)))))))
  refine WO.step rfl (OR.move rfl (WO.step rfl (OR.lenSlice T22.und rfl ?_)))
  refine WO.step rfl (OR.convI T3.und T58.und rfl ?_)
  rw [u64_wrap _ (by omega)]
  refine WO.stepN (OR.storeAll hs T58 rfl rfl rfl rfl rfl ?_)
  clear hs; intro w hs
  refine WO.done (WX.seq (WC.seq (WC.region (WO.step rfl (OR.assign rfl (WO.done (WX.seq ?_)))))))
  refine WC.ret ?_
  refine WX.ret1 rfl rfl ?_
  exact ⟨_, _, _, rfl, hs, by simp, rfl, rfl⟩
set_option maxRecDepth 20000 in
set_option maxHeartbeats 2000000 in
theorem mgens_ok (mb pb gb : Nat) (vf : Value) (o : Obj) (x : SrcD) (H0 : Hp) (w0 : World) (hs : HS [] H0 w0 H0 [(pb, o, false), (mb, modObj vf pb gb, false)] w0) (hf : Flow1 H0 vf x.g x.s) (hx : PartIn H0 x o) (hok : SrcOk x) (hcl : x.cuts.length ≤ 1000000000) :
    Calls Try.prog 72 #[ptr mb, .int .i64 0] w0 (Pure H0 w0 fun v H' => v = .int .u64 (x.chunks.length : Int)) := by
  have hle := Hp.le.refl H0
  have hchl := hok.chl
  refine Calls.enter (args := [ptr mb, .int .i64 0]) Try.func72 rfl Try.ntmps72 rfl ?_
  refine WC.seq (WC.region (WO.step rfl (OR.alloc hs T58 ?_)))
  clear hs; intro g1 w hg1 hs
  refine WO.done (WX.seq (WC.seq (WC.region (WO.step rfl (OR.move rfl (WO.step rfl (OR.move rfl ?_)))))))
  refine WO.step rfl (OR.makeFunc rfl rfl ?_)
  replace hs := hs.front (i := 2) rfl
  replace hs := hs.front (i := 2) rfl
  have hdo : ∀ H2 w2 v1 v2, Hp.le H0 H2 → HS [] H0 w0 H2 [(pb, o, false), (mb, modObj vf pb gb, false), (g1, .cells #[.int .u64 0] 58, true)] w2 → BytesL H2 v1 x.chunks → Bytes H2 v2 x.opn → Calls Try.prog 131 ([] ++ [ptr pb, v1, v2] ++ [ptr g1]).toArray w2 (fun e w' => ∃ H', e = .returned (.int .i64 0) ∧ HS [] H0 w0 H' [(g1, .cells #[.int .u64 (x.chunks.length : Int)] 58, true)] w') := by
    intro H2 w2 v1 v2 hl2 hs2 h1 h2
    have hs3 := (hs2.drop 0).drop 0
    refine (mgens1_ok g1 (ptr pb) v1 v2 _ x.chunks H2 w2 (hs3.begin [true]) h1 (by omega)).mono fun e w' h => ?_
    obtain ⟨v, H', M', rfl, k, ht, rfl, rfl⟩ := h
    exact ⟨H', rfl, hs3.after k (Mx := [(g1, _, true)]) rfl rfl (by simp) ht⟩
  refine WO.step rfl (OR.callW body130 rfl rfl (mof_ok mb pb gb 131 [] [ptr g1] vf o x false false [] H0 H0 _ w0 _ _ hs hf hx hok hcl body131 (fun e w ⟨_, h, _⟩ => ⟨_, h⟩) hdo) ?_)
  clear hs
  rintro e w ⟨H, rfl, hs⟩
  refine ⟨_, rfl, ?_⟩
  refine WO.done (WX.seq (WC.seq (WC.region (WO.step rfl (OR.load T58 rfl rfl (hs.cellM (i := 0) rfl rfl) (WO.stepN (OR.storeAll hs T58 rfl rfl rfl rfl rfl ?_)))))))
  clear hs; intro w hs
  refine WO.done (WX.seq (WC.ret ?_))
  refine WX.retCellS T58 rfl rfl rfl (hs.cellM (i := 0) rfl rfl) ?_
  exact .mk (hs.drop 0) rfl
end Go.Bw
