/- The document's own source, walked: what reads it, and how one is made. -/
import Derived.Test.YtbgdgmilcojlbaaRefS3
namespace Go.Bw
set_option linter.unusedVariables false
set_option linter.unusedSimpArgs false
open Go.Proofs

def rsObj (g s : Int) (vs vc : Value) (cl : Bool) : Obj := .cells #[.int .i64 g, .int .i64 s, vs, vc, .bool cl] 111
def RsIn (H : Hp) (x : SrcD) (o : Obj) : Prop := ∃ vs vc, o = rsObj x.g x.s vs vc x.cl ∧ Bytes H vs x.st ∧ Ints H vc x.cuts
theorem RsIn.mono {H H' : Hp} {x : SrcD} {o : Obj} (h : RsIn H x o) (hle : Hp.le H H') : RsIn H' x o := by
  obtain ⟨vs, vc, h1, h2, h3⟩ := h
  exact ⟨vs, vc, h1, h2.mono hle, h3.mono hle⟩
def Tup2 (H : Hp) (v : Value) (ll : List (List UInt8)) (l : List UInt8) : Prop := ∃ r1 r2, v = .tuple #[r1, r2] ∧ BytesL H r1 ll ∧ Bytes H r2 l
set_option maxRecDepth 20000 in
set_option maxHeartbeats 2000000 in
/-- Its pieces. -/
theorem rsChunks_ok (b g s : Nat) (vs vc : Value) (cl : Bool) (st : List UInt8) (cuts : List Int) (H0 : Hp) (w0 : World) (h0 : Sub H0 w0) (hb : w0.heap[b]? = some (rsObj g s vs vc cl)) (hn : H0 b = none)
    (hgs : goodGS g s) (hst : Bytes H0 vs st) (hcu : Ints H0 vc cuts) (hlen : st.length ≤ 10000000000) (hcl : cuts.length ≤ 10000000000) (hT : cutsOk st.length 0 cuts = true) :
    Calls Try.prog 119 #[ptr b] w0 (Pure H0 w0 fun v H' => Tup2 H' v (chunksF (g * s - 4) st cuts) (openF (g * s - 4) st cuts)) := by
  have hs := HS.startR h0 hb hn
  have hle := Hp.le.refl H0
  obtain ⟨b1, c1, rfl⟩ := hst.form
  obtain ⟨b2, c2, rfl⟩ := hcu.form
  obtain ⟨g1, g2, g3, g4, g5⟩ := hgs
  have hgs' : 1 ≤ g ∧ g ≤ 255 ∧ 1 ≤ s ∧ s ≤ 65535 ∧ 4 < g * s := ⟨by omega, by omega, by omega, by omega, by rw [← Int.natCast_mul] at g5; omega⟩
  generalize hCF : chunksF (g * s - 4) st cuts = CF
  generalize hOF : openF (g * s - 4) st cuts = OF
  refine Calls.enter (args := [ptr b]) Try.func119 rfl Try.ntmps119 rfl ?_
  refine WC.seq (WC.region (WO.step rfl (OR.assign rfl (WO.step rfl (OR.assign rfl (WO.done (WX.seq ?_)))))))
  refine WC.seq ?_
  refine WC.draw 24 mixed hs (by kernel_rfl) ?_
  refine ⟨MF.eq _, by intro Mx H w hle hs; refine forVals_nil (ORg.plain (OR.move rfl ?_)); exact ⟨_, [], Hp.le.refl _, hs, rfl, rfl⟩, ?_⟩
  refine ⟨MF.eq _, by intro Mx H w hle hs; refine forVals_eq rfl rfl rfl ?_; refine forVals_nil (ORg.plain (OR.nilCheck rfl ?_)); exact ⟨_, [], Hp.le.refl _, hs, rfl, rfl⟩, ?_⟩
  refine ⟨MF.eq _, by intro Mx H w hle hs; refine forVals_eq rfl rfl rfl ?_; refine forVals_nil (ORg.plain (OR.fieldAddr FA111_2 rfl ?_)); exact ⟨_, [], Hp.le.refl _, hs, rfl, rfl⟩, ?_⟩
  refine ⟨MF.eq _, by intro Mx H w hle hs; refine forVals_eq rfl rfl rfl ?_; refine forVals_nil (ORg.plain (OR.load T23 rfl rfl (hs.right.cellM (i := 0) rfl rfl) ?_)); exact ⟨_, [], Hp.le.refl _, hs, rfl, rfl⟩, ?_⟩
  refine ⟨MF.eq _, by intro Mx H w hle hs; refine forVals_nil (ORg.plain (OR.move rfl ?_)); exact ⟨_, [], Hp.le.refl _, hs, rfl, rfl⟩, ?_⟩
  refine ⟨MF.eq _, by intro Mx H w hle hs; refine forVals_eq rfl rfl rfl ?_; refine forVals_nil (ORg.plain (OR.nilCheck rfl ?_)); exact ⟨_, [], Hp.le.refl _, hs, rfl, rfl⟩, ?_⟩
  refine ⟨MF.eq _, by intro Mx H w hle hs; refine forVals_eq rfl rfl rfl ?_; refine forVals_nil (ORg.plain (OR.fieldAddr FA111_3 rfl ?_)); exact ⟨_, [], Hp.le.refl _, hs, rfl, rfl⟩, ?_⟩
  refine ⟨MF.eq _, by intro Mx H w hle hs; refine forVals_eq rfl rfl rfl ?_; refine forVals_nil (ORg.plain (OR.load T87 rfl rfl (hs.right.cellM (i := 0) rfl rfl) ?_)); exact ⟨_, [], Hp.le.refl _, hs, rfl, rfl⟩, ?_⟩
  refine ⟨MF.eq _, by intro Mx H w hle hs; refine forVals_nil (ORg.plain (OR.move rfl ?_)); exact ⟨_, [], Hp.le.refl _, hs, rfl, rfl⟩, ?_⟩
  refine ⟨MF.eq _, by intro Mx H w hle hs; refine forVals_eq rfl rfl rfl ?_; refine forVals_nil (ORg.plain (OR.nilCheck rfl ?_)); exact ⟨_, [], Hp.le.refl _, hs, rfl, rfl⟩, ?_⟩
  refine ⟨MF.eq _, by intro Mx H w hle hs; refine forVals_eq rfl rfl rfl ?_; refine forVals_nil (ORg.plain (OR.fieldAddr FA111_0 rfl ?_)); exact ⟨_, [], Hp.le.refl _, hs, rfl, rfl⟩, ?_⟩
  refine ⟨MF.eq _, by intro Mx H w hle hs; refine forVals_eq rfl rfl rfl ?_; refine forVals_nil (ORg.plain (OR.load T3 rfl rfl (hs.right.cellM (i := 0) rfl rfl) ?_)); exact ⟨_, [], Hp.le.refl _, hs, rfl, rfl⟩, ?_⟩
  refine ⟨MF.eq _, by intro Mx H w hle hs; refine forVals_nil (ORg.plain (OR.move rfl ?_)); exact ⟨_, [], Hp.le.refl _, hs, rfl, rfl⟩, ?_⟩
  refine ⟨MF.eq _, by intro Mx H w hle hs; refine forVals_eq rfl rfl rfl ?_; refine forVals_nil (ORg.plain (OR.nilCheck rfl ?_)); exact ⟨_, [], Hp.le.refl _, hs, rfl, rfl⟩, ?_⟩
  refine ⟨MF.eq _, by intro Mx H w hle hs; refine forVals_eq rfl rfl rfl ?_; refine forVals_nil (ORg.plain (OR.fieldAddr FA111_1 rfl ?_)); exact ⟨_, [], Hp.le.refl _, hs, rfl, rfl⟩, ?_⟩
  refine ⟨MF.eq _, by intro Mx H w hle hs; refine forVals_eq rfl rfl rfl ?_; refine forVals_nil (ORg.plain (OR.load T3 rfl rfl (hs.right.cellM (i := 0) rfl rfl) ?_)); exact ⟨_, [], Hp.le.refl _, hs, rfl, rfl⟩, ?_⟩
  refine ⟨MF.tup3 CF OF 0, ?_, ?_⟩
  · intro Mx H w hle2 hs; (try replace hle := hle.trans hle2); (try replace hlb := hlb.trans hle2); refine forVals_eq rfl rfl rfl ?_; refine forVals_eq rfl rfl rfl ?_; refine forVals_eq rfl rfl rfl ?_; refine forVals_eq rfl rfl rfl ?_
    refine forVals_nil (ORg.plain (OR.call hs body118 rfl rfl (refChunks_ok g s _ _ st cuts _ _ hs.toSub hgs' (hst.mono hle) (hcu.mono hle) hlen hcl) ?_))
    clear hs; rintro _ H w hs hle1 ⟨r1, r2, rfl, hr1, hr2⟩
    exact ⟨_, [], hle1, hs, ⟨_, _, by rw [if_pos hT], by rw [if_pos hT, hCF] at hr1; exact hr1, by rw [if_pos hT, hOF] at hr2; exact hr2⟩, rfl⟩
  refine ⟨MF.tup3 CF OF 0, ?_, ?_⟩
  · intro Mx H w hle2 hs; (try replace hle := hle.trans hle2); (try replace hlb := hlb.trans hle2); refine forVals_of rfl rfl rfl ?_; intro v16 h16
    obtain ⟨r1, r2, rfl, hr1, hr2⟩ := h16
    refine forVals_nil (ORg.plain (OR.move rfl ?_))
    exact ⟨_, [], Hp.le.refl _, hs, ⟨_, _, rfl, hr1, hr2⟩, rfl⟩
  refine ⟨MF.bytesL CF, ?_, ?_⟩
  · intro Mx H w hle2 hs; (try replace hle := hle.trans hle2); (try replace hlb := hlb.trans hle2); refine forVals_of rfl rfl rfl ?_; intro v17 h17
    obtain ⟨r1, r2, rfl, hr1, hr2⟩ := h17
    refine forVals_nil (ORg.plain (OR.extract rfl rfl ?_))
    exact ⟨_, [], Hp.le.refl _, hs, hr1, rfl⟩
  refine ⟨MF.bytes OF, ?_, ?_⟩
  · intro Mx H w hle2 hs; (try replace hle := hle.trans hle2); (try replace hlb := hlb.trans hle2); refine forVals_of rfl rfl rfl ?_; intro v17 h17
    obtain ⟨r1, r2, rfl, hr1, hr2⟩ := h17
    refine forVals_nil (ORg.plain (OR.extract rfl rfl ?_))
    exact ⟨_, [], Hp.le.refl _, hs, hr2, rfl⟩
  refine ⟨MF.eq (.int .i64 0), ?_, ?_⟩
  · intro Mx H w hle2 hs; (try replace hle := hle.trans hle2); (try replace hlb := hlb.trans hle2); refine forVals_of rfl rfl rfl ?_; intro v17 h17
    obtain ⟨r1, r2, rfl, hr1, hr2⟩ := h17
    refine forVals_nil (ORg.plain (OR.extract rfl rfl ?_))
    exact ⟨_, [], Hp.le.refl _, hs, rfl, rfl⟩
  refine ⟨MF.bytesL CF, ?_, ?_⟩
  · intro Mx H w hle2 hs; (try replace hle := hle.trans hle2); (try replace hlb := hlb.trans hle2); refine forVals_of rfl rfl rfl ?_; intro v18 h18
    refine forVals_nil (ORg.plain (OR.assign rfl ?_))
    exact ⟨_, [], Hp.le.refl _, hs, h18, rfl⟩
  refine ⟨MF.bytes OF, ?_, ?_⟩
  · intro Mx H w hle2 hs; (try replace hle := hle.trans hle2); (try replace hlb := hlb.trans hle2); refine forVals_of rfl rfl rfl ?_; intro v19 h19
    refine forVals_nil (ORg.plain (OR.assign rfl ?_))
    exact ⟨_, [], Hp.le.refl _, hs, h19, rfl⟩
  refine ⟨MF.eq _, by intro Mx H w hle hs; refine forVals_eq rfl rfl rfl ?_; refine forVals_nil (ORg.plain (OR.assign rfl ?_)); exact ⟨_, [], Hp.le.refl _, hs, rfl, rfl⟩, ?_⟩
  intro H w hle2; (try replace hle := hle.trans hle2); (try replace hlb := hlb.trans hle2)
  refine forAllVals_eq rfl ?_
  refine forAllVals_eq rfl ?_
  refine forAllVals_eq rfl ?_
  refine forAllVals_eq rfl ?_
  refine forAllVals_eq rfl ?_
  refine forAllVals_eq rfl ?_
  refine forAllVals_eq rfl ?_
  refine forAllVals_eq rfl ?_
  refine forAllVals_eq rfl ?_
  refine forAllVals_eq rfl ?_
  refine forAllVals_eq rfl ?_
  refine forAllVals_eq rfl ?_
  refine forAllVals_eq rfl ?_
  refine forAllVals_eq rfl ?_
  refine forAllVals_eq rfl ?_
  refine forAllVals_eq rfl ?_
  refine forAllVals_of rfl ?_; intro v16 h16
  refine forAllVals_of rfl ?_; intro v17 h17
  refine forAllVals_of rfl ?_; intro v18 h18
  refine forAllVals_of rfl ?_; intro v19 h19
  refine forAllVals_eq rfl ?_
  refine forAllVals_of rfl ?_; intro v21 h21
  refine forAllVals_of rfl ?_; intro v22 h22
  refine forAllVals_eq rfl ?_
  refine forAllVals_nil ?_; (try clear hs); intro hs
  refine WO.done (WX.seq (WC.seq (WC.region (WO.step rfl (OR.move rfl (WO.step rfl (OR.move rfl ?_)))))))
  refine WO.step rfl (OR.assign rfl (WO.step rfl (OR.assign rfl (WO.done (WX.seq (WC.ret ?_))))))
  refine WX.ret2 rfl rfl rfl ?_
  exact .mk (hs.drop 0) ⟨_, _, rfl, h21, h22⟩

set_option maxRecDepth 20000 in
set_option maxHeartbeats 2000000 in
theorem rsGens_ok (b : Nat) (x : SrcD) (o : Obj) (H0 : Hp) (w0 : World) (h0 : Sub H0 w0) (hb : w0.heap[b]? = some o) (hn : H0 b = none) (hx : RsIn H0 x o) (hok : SrcOk x) (hcl : x.cuts.length ≤ 10000000000) :
    Calls Try.prog 66 #[ptr b] w0 (Pure H0 w0 fun v _ => v = .int .u64 (x.chunks.length : Int)) := by
  have hch := hok.ch
  have hchl := hok.chl
  have hxl := hok.len
  obtain ⟨vs, vc, rfl, hst, hcu⟩ := hx
  have hs := HS.startR h0 hb hn
  have hle := Hp.le.refl H0
  refine Calls.enter (args := [ptr b]) Try.func66 rfl Try.ntmps66 rfl ?_
  refine WC.seq (WC.region (WO.step rfl (OR.assign rfl (WO.done (WX.seq (WC.seq (WC.region ?_)))))))
  refine WO.step rfl (OR.move rfl ?_)
  refine WO.step rfl (OR.call hs body119 rfl rfl (rsChunks_ok b x.g x.s vs vc x.cl x.st x.cuts _ _ hs.toSub (hs.blk (i := 0) rfl) (hs.none (i := 0) rfl) hok.gs (hst.mono hle) (hcu.mono hle) (by omega) hcl hok.cuts) ?_)
  clear hs; rintro _ H w hs hle1 ⟨r1, r2, rfl, hr1, hr2⟩; replace hle := hle.trans hle1; (try replace hlb := hlb.trans hle1)
  rw [← hch] at hr1
  obtain ⟨b3, c3, rfl⟩ := hr1.form
  refine WO.step rfl (OR.move rfl (WO.step rfl (OR.extract rfl rfl (WO.step rfl (OR.extract rfl rfl (WO.step rfl (OR.assign rfl ?_)))))))
  refine WO.step rfl (OR.assign rfl (WO.done (WX.seq (WC.seq (WC.region (WO.step rfl (OR.move rfl ?_)))))))
  refine WO.step rfl (OR.lenSlice T22.und rfl ?_)
  refine WO.step rfl (OR.convI T3.und T58.und rfl ?_)
  rw [u64_wrap _ (by omega)]
  refine WO.step rfl (OR.assign rfl (WO.done (WX.seq (WC.ret ?_))))
  refine WX.ret1 rfl rfl ?_
  exact .mk (hs.drop 0) rfl

set_option maxRecDepth 20000 in
set_option maxHeartbeats 2000000 in
theorem rsRestore_bad (g s : Int) (b1 b2 : Option Addr) (n1 n2 c1 c2 : Nat) (cl : Bool) (H0 : Hp) (w0 : World) (h0 : Sub H0 w0) (hbad : ¬ goodGS g s) :
    Calls Try.prog 56 #[.int .i64 g, .int .i64 s, .slice b1 n1 c1, .slice b2 n2 c2, .bool cl] w0 (Pure H0 w0 fun v _ => v = .tuple #[.pointer none, .int .i64 1]) := by
  have hs := HS.init h0
  have hle := Hp.le.refl H0
  refine Calls.enter (args := [.int .i64 g, .int .i64 s, .slice b1 n1 c1, .slice b2 n2 c2, .bool cl]) Try.func56 rfl Try.ntmps56 rfl ?_
  refine WC.seq (WC.region (WO.step rfl (OR.assign rfl (WO.step rfl (OR.assign rfl (WO.done (WX.seq ?_)))))))
  refine WC.seq (WC.region (WO.step rfl (OR.move rfl (WO.step rfl (OR.move rfl (WO.step rfl (OR.move rfl ?_)))))))
  refine WO.step rfl (OR.move rfl ?_)
  refine WO.step rfl (OR.call hs body118 rfl rfl (refChunks_bad g s _ _ _ _ hs.toSub hbad rfl rfl) ?_)
  clear hs; rintro _ H w hs hle1 rfl; replace hle := hle.trans hle1; (try replace hlb := hlb.trans hle1)
  refine WO.step rfl (OR.move rfl (WO.step rfl (OR.extract rfl rfl (WO.step rfl (OR.extract rfl rfl (WO.step rfl (OR.extract rfl rfl ?_)))))))
  refine WO.step rfl (OR.assign rfl (WO.step rfl (OR.assign rfl (WO.step rfl (OR.assign rfl (WO.done (WX.seq ?_)))))))
  refine WC.seq (WC.seq (WC.region (WO.step rfl (OR.move rfl (WO.step rfl (OR.neq rfl rfl (WO.step rfl ?_)))))))
  refine OR.move rfl ?_
  refine WO.guardNo rfl rfl rfl rfl (WO.guardNo rfl rfl rfl rfl (WO.guardNo rfl rfl rfl rfl (WO.step rfl (OR.pickT rfl rfl rfl (WO.step rfl (OR.move rfl (WO.guardNo rfl rfl rfl rfl ?_)))))))
  refine WO.guardNo rfl rfl rfl rfl (WO.guardGone rfl rfl rfl (WO.guardGone rfl rfl rfl (WO.guardGone rfl rfl rfl (WO.guardNo rfl rfl rfl rfl (WO.step rfl (OR.pickT rfl rfl rfl (WO.done ?_)))))))
  refine WX.seq (WC.yes rfl rfl (WC.seq (WC.region (WO.step rfl (OR.assign rfl (WO.step rfl (OR.assign rfl ?_)))))))
  refine WO.done (WX.seq (WC.ret (WX.seq_ret ?_)))
  refine WX.ret2 rfl rfl rfl ?_
  exact .mk hs rfl
def rsGood (g s : Nat) (st : List UInt8) (cuts : List Int) (cl : Bool) : Prop := cutsOk st.length 0 cuts = true ∧ (cl = true → openF (g * s - 4) st cuts = [])
set_option maxRecDepth 20000 in
set_option maxHeartbeats 2000000 in
theorem rsRestore_ok (g s : Nat) (vs vc : Value) (st : List UInt8) (cuts : List Int) (cl : Bool) (H0 : Hp) (w0 : World) (h0 : Sub H0 w0) (hgs : goodGS g s) (h1 : Bytes H0 vs st) (h2 : Ints H0 vc cuts) (hl : st.length ≤ 262144) (hl2 : cuts.length ≤ 1000000000) :
    Calls Try.prog 56 #[.int .i64 (g : Int), .int .i64 (s : Int), vs, vc, .bool cl] w0 (Ret [] H0 w0 fun v H' M' => (rsGood g s st cuts cl ∧ ∃ b o, v = .tuple #[ptr b, .int .i64 0] ∧ M' = [(b, o, true)] ∧ w0.heap.size ≤ b ∧ RsIn H' (newD g s st cuts cl) o) ∨ (¬ rsGood g s st cuts cl ∧ v = .tuple #[.pointer none, .int .i64 1] ∧ M' = [])) := by
  have hs := HS.init h0
  have hle := Hp.le.refl H0
  obtain ⟨b1, c1, rfl⟩ := h1.form
  obtain ⟨b2, c2, rfl⟩ := h2.form
  obtain ⟨g1, g2, g3, g4, g5⟩ := hgs
  have hgs' : 1 ≤ g ∧ g ≤ 255 ∧ 1 ≤ s ∧ s ≤ 65535 ∧ 4 < g * s := ⟨by omega, by omega, by omega, by omega, by rw [← Int.natCast_mul] at g5; omega⟩
  refine Calls.enter (args := [.int .i64 (g : Int), .int .i64 (s : Int), .slice b1 st.length c1, .slice b2 cuts.length c2, .bool cl]) Try.func56 rfl Try.ntmps56 rfl ?_
  refine WC.seq (WC.region (WO.step rfl (OR.assign rfl (WO.step rfl (OR.assign rfl (WO.done (WX.seq ?_)))))))
  refine WC.seq (WC.region (WO.step rfl (OR.move rfl (WO.step rfl (OR.move rfl (WO.step rfl (OR.move rfl ?_)))))))
  refine WO.step rfl (OR.move rfl ?_)
  refine WO.step rfl (OR.call hs body118 rfl rfl (refChunks_ok g s _ _ st cuts _ _ hs.toSub hgs' (h1.mono hle) (h2.mono hle) (by omega) (by omega)) ?_)
  clear hs; rintro _ H w hs hle1 ⟨r1, r2, rfl, hr1, hr2⟩; replace hle := hle.trans hle1; (try replace hlb := hlb.trans hle1)
  by_cases hT : cutsOk st.length 0 cuts = true
  · rw [if_pos hT] at hr1 hr2 ⊢
    obtain ⟨b3, c3, rfl⟩ := hr1.form
    obtain ⟨b4, c4, rfl⟩ := hr2.form
    refine WO.step rfl (OR.move rfl (WO.step rfl (OR.extract rfl rfl (WO.step rfl (OR.extract rfl rfl (WO.step rfl (OR.extract rfl rfl ?_)))))))
    refine WO.step rfl (OR.assign rfl (WO.step rfl (OR.assign rfl (WO.step rfl (OR.assign rfl (WO.done (WX.seq ?_)))))))
    refine WC.seq (WC.seq (WC.region (WO.step rfl (OR.move rfl (WO.step rfl (OR.neq rfl rfl (WO.step rfl ?_)))))))
    refine OR.move rfl ?_
    refine WO.guardYes rfl rfl rfl rfl (OR.move rfl (WO.guardYes rfl rfl rfl rfl (OR.lenSlice T23.und rfl (WO.guardYes rfl rfl rfl rfl (OR.gtr rfl rfl (WO.step rfl (OR.pickF rfl rfl rfl ?_)))))))
    refine WO.step rfl (OR.move rfl ?_)
    cases cl with
    | false =>
      have hgd : rsGood g s st cuts false := ⟨hT, fun h => by cases h⟩
      refine WO.guardYes rfl (decide_eq_false (by omega : ¬ (st.length : Int) > 262144)) rfl rfl (OR.move rfl (WO.guardYes rfl (decide_eq_false (by omega : ¬ (st.length : Int) > 262144)) rfl rfl (OR.move rfl ?_)))
      refine WO.guardNo rfl rfl rfl rfl (WO.guardNo rfl rfl rfl rfl (WO.guardNo rfl rfl rfl rfl (WO.guardYes rfl (decide_eq_false (by omega : ¬ (st.length : Int) > 262144)) rfl rfl (OR.pickF rfl rfl rfl (WO.step rfl (OR.pickF rfl (decide_eq_false (by omega : ¬ (st.length : Int) > 262144)) rfl (WO.done ?_)))))))
      refine WX.seq (WC.no rfl rfl (WC.skip (WX.seq (WC.seq (WC.region (WO.step rfl (OR.assign rfl ?_)))))))
      refine WO.done (WX.seq (WC.seq (WC.region (WO.step rfl (OR.move rfl (WO.step rfl (OR.move rfl ?_)))))))
      refine WO.step rfl (OR.move rfl ?_)
      refine WO.step rfl (OR.call hs body111 rfl rfl (refOwn_p _ _ _ _ hs.toSub (h1.mono hle) (by omega)) ?_)
      clear hs; rintro _ H w hs hle1 hr3; replace hle := hle.trans hle1; (try replace hlb := hlb.trans hle1)
      refine WO.step rfl (OR.move rfl (WO.step rfl (OR.move rfl ?_)))
      refine WO.step rfl (OR.append (n := 0) (cs := []) (news := cuts.map fun i => .int .i64 i) (Mo := []) hs (Own.nil _ _ _) T87.und T3 rfl (by omega) rfl rfl (by simp) (Sl.src (h2.mono hle) hs) (Sl.src0 h2) (ints_one cuts) (by omega) (by omega) ?_)
      clear hs; intro v' w Mo hs ho hge
      rw [Nat.zero_add, List.nil_append] at ho
      obtain ⟨H4, hle4, hs, hsl4, _⟩ := HS.pub hs ho
      replace hle := hle.trans hle4
      replace hr3 := hr3.mono hle4
      obtain ⟨b6, c6, rfl⟩ := hr3.form
      obtain ⟨b7, c7, rfl⟩ := ho.form
      refine WO.step rfl (OR.move rfl (WO.step rfl (OR.buildAll T111 rfl rfl PL111 rfl rfl (WO.step rfl (OR.box hs rfl ?_)))))
      clear hs; intro g1 w hg1 hs
      refine WO.step rfl (OR.assign rfl (WO.step rfl (OR.assign rfl (WO.done (WX.seq (WC.ret ?_))))))
      refine WX.ret2 rfl rfl rfl ?_
      exact ⟨_, H4, _, rfl, hs, by simp, .inl ⟨hgd, _, _, rfl, rfl, hg1, _, _, rfl, hr3, hsl4⟩⟩
    | true =>
      have _ := 0
      refine WO.guardYes rfl (decide_eq_false (by omega : ¬ (st.length : Int) > 262144)) rfl rfl (OR.move rfl (WO.guardYes rfl (decide_eq_false (by omega : ¬ (st.length : Int) > 262144)) rfl rfl (OR.move rfl ?_)))
      refine WO.guardYes rfl rfl rfl rfl (OR.move rfl (WO.guardYes rfl rfl rfl rfl (OR.lenSlice T23.und rfl (WO.guardYes rfl rfl rfl rfl (OR.gtr rfl rfl (WO.guardYes rfl (decide_eq_false (by omega : ¬ (st.length : Int) > 262144)) rfl rfl (OR.pickT rfl rfl rfl ?_)))))))
      refine WO.step rfl (OR.pickF rfl (decide_eq_false (by omega : ¬ (st.length : Int) > 262144)) rfl (WO.done (WX.seq ?_)))
      refine WC.condD rfl (fun hopn => ?_) (fun hopn => ?_)
      · have hne : ¬ openF (g * s - 4) st cuts = [] := fun e => by rw [e] at hopn; exact absurd hopn (by decide)
        refine WC.seq (WC.region (WO.step rfl (OR.assign rfl (WO.step rfl (OR.assign rfl (WO.done (WX.seq ?_)))))))
        refine WC.ret (WX.seq_ret ?_)
        refine WX.ret2 rfl rfl rfl ?_
        exact ⟨_, H, _, rfl, hs, by simp, .inr ⟨fun h => hne (h.2 rfl), rfl, rfl⟩⟩
      · have he : openF (g * s - 4) st cuts = [] := List.eq_nil_of_length_eq_zero (by omega)
        have hgd : rsGood g s st cuts true := ⟨hT, fun _ => he⟩
        refine WC.skip (WX.seq (WC.seq (WC.region (WO.step rfl (OR.assign rfl (WO.done (WX.seq ?_)))))))
        refine WC.seq (WC.region (WO.step rfl (OR.move rfl (WO.step rfl (OR.move rfl (WO.step rfl (OR.move rfl ?_)))))))
        refine WO.step rfl (OR.call hs body111 rfl rfl (refOwn_p _ _ _ _ hs.toSub (h1.mono hle) (by omega)) ?_)
        clear hs; rintro _ H w hs hle1 hr3; replace hle := hle.trans hle1; (try replace hlb := hlb.trans hle1)
        refine WO.step rfl (OR.move rfl (WO.step rfl (OR.move rfl ?_)))
        refine WO.step rfl (OR.append (n := 0) (cs := []) (news := cuts.map fun i => .int .i64 i) (Mo := []) hs (Own.nil _ _ _) T87.und T3 rfl (by omega) rfl rfl (by simp) (Sl.src (h2.mono hle) hs) (Sl.src0 h2) (ints_one cuts) (by omega) (by omega) ?_)
        clear hs; intro v' w Mo hs ho hge
        rw [Nat.zero_add, List.nil_append] at ho
        obtain ⟨H4, hle4, hs, hsl4, _⟩ := HS.pub hs ho
        replace hle := hle.trans hle4
        replace hr3 := hr3.mono hle4
        obtain ⟨b6, c6, rfl⟩ := hr3.form
        obtain ⟨b7, c7, rfl⟩ := ho.form
        refine WO.step rfl (OR.move rfl (WO.step rfl (OR.buildAll T111 rfl rfl PL111 rfl rfl (WO.step rfl (OR.box hs rfl ?_)))))
        clear hs; intro g1 w hg1 hs
        refine WO.step rfl (OR.assign rfl (WO.step rfl (OR.assign rfl (WO.done (WX.seq (WC.ret ?_))))))
        refine WX.ret2 rfl rfl rfl ?_
        exact ⟨_, H4, _, rfl, hs, by simp, .inl ⟨hgd, _, _, rfl, rfl, hg1, _, _, rfl, hr3, hsl4⟩⟩
  · rw [if_neg hT] at hr1 hr2 ⊢
    obtain ⟨b3, c3, rfl⟩ := hr1.form
    obtain ⟨b4, c4, rfl⟩ := hr2.form
    refine WO.step rfl (OR.move rfl (WO.step rfl (OR.extract rfl rfl (WO.step rfl (OR.extract rfl rfl (WO.step rfl (OR.extract rfl rfl ?_)))))))
    refine WO.step rfl (OR.assign rfl (WO.step rfl (OR.assign rfl (WO.step rfl (OR.assign rfl (WO.done (WX.seq ?_)))))))
    refine WC.seq (WC.seq (WC.region (WO.step rfl (OR.move rfl (WO.step rfl (OR.neq rfl rfl (WO.step rfl ?_)))))))
    refine OR.move rfl ?_
    refine WO.guardNo rfl rfl rfl rfl (WO.guardNo rfl rfl rfl rfl (WO.guardNo rfl rfl rfl rfl (WO.step rfl (OR.pickT rfl rfl rfl (WO.step rfl (OR.move rfl (WO.guardNo rfl rfl rfl rfl ?_)))))))
    refine WO.guardNo rfl rfl rfl rfl (WO.guardGone rfl rfl rfl (WO.guardGone rfl rfl rfl (WO.guardGone rfl rfl rfl (WO.guardNo rfl rfl rfl rfl (WO.step rfl (OR.pickT rfl rfl rfl (WO.done ?_)))))))
    refine WX.seq (WC.yes rfl rfl (WC.seq (WC.region (WO.step rfl (OR.assign rfl (WO.step rfl (OR.assign rfl ?_)))))))
    refine WO.done (WX.seq (WC.ret (WX.seq_ret ?_)))
    refine WX.ret2 rfl rfl rfl ?_
    exact ⟨_, H, _, rfl, hs, by simp, .inr ⟨fun h => hT h.1, rfl, rfl⟩⟩
end Go.Bw
