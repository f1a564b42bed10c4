/- A model: Symbols, Row. -/
import Derived.Test.YtbgdgmilcojlbaaModB
import Derived.Test.YtbgdgmilcojlbaaDrawL
import Derived.Test.YtbgdgmilcojlbaaDrawS
namespace Go.Bw
set_option linter.unusedVariables false
set_option linter.unusedSimpArgs false
open Go.Proofs

theorem Flow1.cells {H : Hp} {v : Value} {g s : Nat} (h : Flow1 H v g s) : ∃ fb fo cf vs, v = .slice (some ⟨fb, fo, none⟩) 1 cf ∧ hcell H ⟨fb, fo, none⟩ = some (.int .i64 (g : Int)) ∧ hcell H ⟨fb, fo + 1, none⟩ = some (.int .i64 (s : Int)) ∧ hcell H ⟨fb, fo + 3, none⟩ = some vs ∧ Ints H vs [2] := by
  obtain ⟨fb, fo, cf, vs, h1, _, h2, h3⟩ := h
  exact ⟨fb, fo, cf, vs, h1, h3 0 _ rfl, h3 1 _ rfl, h3 3 _ rfl, h2⟩
set_option maxRecDepth 20000 in
set_option maxHeartbeats 2000000 in
theorem msymbols1_ok (mb pb gb gG gM gF gL gen : Nat) (v0 v1 v2 u vf : Value) (x : SrcD) (H0 : Hp) (w0 : World) (hs : HS [gL] H0 w0 H0 [(gL, .cells #[u] 22, true), (mb, modObj vf pb gb, false)] w0) (hf : Flow1 H0 vf x.g x.s) (hok : SrcOk x)
    (h1 : BytesL H0 v1 x.chunks) (hG : hcell H0 ⟨gG, 0, none⟩ = some (.int .u64 (gen : Int))) (hM : hcell H0 ⟨gM, 0, none⟩ = some (ptr mb)) (hF : hcell H0 ⟨gF, 0, none⟩ = some (.int .i64 0)) (hu : u = .slice none 0 0) :
    Calls Try.prog 171 #[v0, v1, v2, ptr gG, ptr gM, ptr gF, ptr gL] w0 (Ret [gL] H0 w0 fun v H' M' => v = .int .i64 (thereE x gen) ∧ ∃ r, M' = [(gL, .cells #[r] 22, true)] ∧ BytesL H' r (symF x gen)) := by
  have hle := Hp.le.refl H0
  have hchl := hok.chl
  obtain ⟨b1, c1, rfl⟩ := h1.form
  obtain ⟨fb, fo, cf, vs, rfl, hf1, hf2, _, _⟩ := hf.cells
  refine Calls.enter (args := [v0, .slice b1 x.chunks.length c1, v2, ptr gG, ptr gM, ptr gF, ptr gL]) Try.func171 rfl Try.ntmps171 rfl ?_
  refine WC.seq (WC.region (WO.step rfl (OR.assign rfl (WO.done (WX.seq (WC.seq (WC.seq ?_)))))))
  refine WC.region ?_
  refine WO.step rfl (OR.load T58 rfl rfl (hs.cell hG) ?_)
  refine WO.step rfl (OR.move rfl (WO.step rfl (OR.lenSlice T22.und rfl ?_)))
  refine WO.step rfl (OR.convI T3.und T58.und rfl ?_)
  rw [u64_wrap _ (by omega)]
  refine WO.step rfl (OR.geq rfl rfl (WO.done (WX.seq ?_)))
  refine WC.condD rfl (fun hge => ?_) (fun hge => ?_)
  · refine WC.seq (WC.region (WO.step rfl (OR.assign rfl (WO.done (WX.seq (WC.ret (WX.seq_ret ?_)))))))
    refine WX.ret1 rfl rfl ?_
    refine ⟨_, _, _, rfl, hs.drop 1, by simp [dropAt], by rw [thereE, if_neg (by omega)], _, rfl, ?_⟩
    subst hu
    rw [symF, List.getElem?_eq_none (by omega)]
    exact ⟨[], Sl.empty _ _ _, rfl, fun i h => by simp at h⟩
  · have hlt : gen < x.chunks.length := by omega
    obtain ⟨cs, hsl, hcl, hcs⟩ := h1
    obtain ⟨ob, oo, rfl, hco⟩ := hsl.pos (by omega)
    have hgc : gen < cs.length := by omega
    have hcell' := hco gen cs[gen] (List.getElem?_eq_getElem hgc)
    have hcb := hcs gen hlt hgc
    have hmem := hok.mem x.chunks[gen] (List.getElem_mem hlt)
    have hsym : symF x gen = layF x.g x.s x.chunks[gen] := by rw [symF, List.getElem?_eq_getElem hlt]
    refine WC.skip (WX.seq (WC.seq ?_))
    refine WC.drawL 26 25 mixed hs (by kernel_rfl) ?_
    refine ⟨MF.eq _, by intro Mx H w hle hs; refine forVals_nil (ORg.plain (OR.move rfl ?_)); exact ⟨_, [], Hp.le.refl _, hs, rfl, rfl⟩, ?_⟩
    refine ⟨MF.eq (.int .u64 (gen : Int)), ?_, ?_⟩
    · intro Mx H w hle2 hs; (try replace hle := hle.trans hle2); (try replace hlb := hlb.trans hle2)
      refine forVals_nil (ORg.plain (OR.load T58 rfl rfl (hs.cell (hcell.mono hle hG)) ?_))
      exact ⟨_, [], Hp.le.refl _, hs, rfl, rfl⟩
    refine ⟨MF.eq (.pointer (some ⟨ob, oo + gen, none⟩)), ?_, ?_⟩
    · intro Mx H w hle2 hs; (try replace hle := hle.trans hle2); (try replace hlb := hlb.trans hle2); refine forVals_eq rfl rfl rfl ?_; refine forVals_eq rfl rfl rfl ?_
      refine forVals_nil (ORg.plain (OR.idx gen T22.und T23 rfl rfl rfl hlt ?_))
      exact ⟨_, [], Hp.le.refl _, hs, rfl, rfl⟩
    refine ⟨MF.eq cs[gen], ?_, ?_⟩
    · intro Mx H w hle2 hs; (try replace hle := hle.trans hle2); (try replace hlb := hlb.trans hle2); refine forVals_eq rfl rfl rfl ?_
      refine forVals_nil (ORg.plain (OR.load T23 rfl rfl (hs.cell (hcell.mono hle hcell')) ?_))
      exact ⟨_, [], Hp.le.refl _, hs, rfl, rfl⟩
    refine ⟨MF.eq (ptr mb), ?_, ?_⟩
    · intro Mx H w hle2 hs; (try replace hle := hle.trans hle2); (try replace hlb := hlb.trans hle2)
      refine forVals_nil (ORg.plain (OR.load T121 rfl rfl (hs.cell (hcell.mono hle hM)) ?_))
      exact ⟨_, [], Hp.le.refl _, hs, rfl, rfl⟩
    refine ⟨MF.eq _, by intro Mx H w hle hs; refine forVals_eq rfl rfl rfl ?_; refine forVals_nil (ORg.plain (OR.nilCheck rfl ?_)); exact ⟨_, [], Hp.le.refl _, hs, rfl, rfl⟩, ?_⟩
    refine ⟨MF.eq _, by intro Mx H w hle hs; refine forVals_eq rfl rfl rfl ?_; refine forVals_nil (ORg.plain (OR.fieldAddr FA185_0 rfl ?_)); exact ⟨_, [], Hp.le.refl _, hs, rfl, rfl⟩, ?_⟩
    refine ⟨MF.eq _, by intro Mx H w hle hs; refine forVals_eq rfl rfl rfl ?_; refine forVals_nil (ORg.plain (OR.fieldAddr FA117_1 rfl ?_)); exact ⟨_, [], Hp.le.refl _, hs, rfl, rfl⟩, ?_⟩
    refine ⟨MF.eq _, by intro Mx H w hle hs; refine forVals_eq rfl rfl rfl ?_; refine forVals_nil (ORg.plain (OR.load T115 rfl rfl (hs.right.cellM (i := 1) rfl rfl) ?_)); exact ⟨_, [], Hp.le.refl _, hs, rfl, rfl⟩, ?_⟩
    refine ⟨MF.eq (.int .i64 0), ?_, ?_⟩
    · intro Mx H w hle2 hs; (try replace hle := hle.trans hle2); (try replace hlb := hlb.trans hle2)
      refine forVals_nil (ORg.plain (OR.load T3 rfl rfl (hs.cell (hcell.mono hle hF)) ?_))
      exact ⟨_, [], Hp.le.refl _, hs, rfl, rfl⟩
    refine ⟨MF.eq (.pointer (some ⟨fb, fo, none⟩)), ?_, ?_⟩
    · intro Mx H w hle2 hs; (try replace hle := hle.trans hle2); (try replace hlb := hlb.trans hle2); refine forVals_eq rfl rfl rfl ?_; refine forVals_eq rfl rfl rfl ?_
      refine forVals_nil (ORg.plain (OR.idxN 0 T115.und T120 rfl rfl rfl (by omega) ?_))
      exact ⟨_, [], Hp.le.refl _, hs, rfl, rfl⟩
    refine ⟨MF.eq _, by intro Mx H w hle hs; refine forVals_eq rfl rfl rfl ?_; refine forVals_nil (ORg.plain (OR.fieldAddr FA120_0 rfl ?_)); exact ⟨_, [], Hp.le.refl _, hs, rfl, rfl⟩, ?_⟩
    refine ⟨MF.eq (.int .i64 (x.g : Int)), ?_, ?_⟩
    · intro Mx H w hle2 hs; (try replace hle := hle.trans hle2); (try replace hlb := hlb.trans hle2); refine forVals_eq rfl rfl rfl ?_
      refine forVals_nil (ORg.plain (OR.load T3 rfl rfl (hs.cell (hcell.mono hle hf1)) ?_))
      exact ⟨_, [], Hp.le.refl _, hs, rfl, rfl⟩
    refine ⟨MF.eq (ptr mb), ?_, ?_⟩
    · intro Mx H w hle2 hs; (try replace hle := hle.trans hle2); (try replace hlb := hlb.trans hle2)
      refine forVals_nil (ORg.plain (OR.load T121 rfl rfl (hs.cell (hcell.mono hle hM)) ?_))
      exact ⟨_, [], Hp.le.refl _, hs, rfl, rfl⟩
    refine ⟨MF.eq _, by intro Mx H w hle hs; refine forVals_eq rfl rfl rfl ?_; refine forVals_nil (ORg.plain (OR.nilCheck rfl ?_)); exact ⟨_, [], Hp.le.refl _, hs, rfl, rfl⟩, ?_⟩
    refine ⟨MF.eq _, by intro Mx H w hle hs; refine forVals_eq rfl rfl rfl ?_; refine forVals_nil (ORg.plain (OR.fieldAddr FA185_0 rfl ?_)); exact ⟨_, [], Hp.le.refl _, hs, rfl, rfl⟩, ?_⟩
    refine ⟨MF.eq _, by intro Mx H w hle hs; refine forVals_eq rfl rfl rfl ?_; refine forVals_nil (ORg.plain (OR.fieldAddr FA117_1 rfl ?_)); exact ⟨_, [], Hp.le.refl _, hs, rfl, rfl⟩, ?_⟩
    refine ⟨MF.eq _, by intro Mx H w hle hs; refine forVals_eq rfl rfl rfl ?_; refine forVals_nil (ORg.plain (OR.load T115 rfl rfl (hs.right.cellM (i := 1) rfl rfl) ?_)); exact ⟨_, [], Hp.le.refl _, hs, rfl, rfl⟩, ?_⟩
    refine ⟨MF.eq (.int .i64 0), ?_, ?_⟩
    · intro Mx H w hle2 hs; (try replace hle := hle.trans hle2); (try replace hlb := hlb.trans hle2)
      refine forVals_nil (ORg.plain (OR.load T3 rfl rfl (hs.cell (hcell.mono hle hF)) ?_))
      exact ⟨_, [], Hp.le.refl _, hs, rfl, rfl⟩
    refine ⟨MF.eq (.pointer (some ⟨fb, fo, none⟩)), ?_, ?_⟩
    · intro Mx H w hle2 hs; (try replace hle := hle.trans hle2); (try replace hlb := hlb.trans hle2); refine forVals_eq rfl rfl rfl ?_; refine forVals_eq rfl rfl rfl ?_
      refine forVals_nil (ORg.plain (OR.idxN 0 T115.und T120 rfl rfl rfl (by omega) ?_))
      exact ⟨_, [], Hp.le.refl _, hs, rfl, rfl⟩
    refine ⟨MF.eq _, by intro Mx H w hle hs; refine forVals_eq rfl rfl rfl ?_; refine forVals_nil (ORg.plain (OR.fieldAddr FA120_1 rfl ?_)); exact ⟨_, [], Hp.le.refl _, hs, rfl, rfl⟩, ?_⟩
    refine ⟨MF.eq (.int .i64 (x.s : Int)), ?_, ?_⟩
    · intro Mx H w hle2 hs; (try replace hle := hle.trans hle2); (try replace hlb := hlb.trans hle2); refine forVals_eq rfl rfl rfl ?_
      refine forVals_nil (ORg.plain (OR.load T3 rfl rfl (hs.cell (hcell.mono hle hf2)) ?_))
      exact ⟨_, [], Hp.le.refl _, hs, rfl, rfl⟩
    refine ⟨MF.tupL (layF x.g x.s x.chunks[gen]) 0, ?_, ?_⟩
    · intro Mx H w hle2 hs; (try replace hle := hle.trans hle2); (try replace hlb := hlb.trans hle2); refine forVals_eq rfl rfl rfl ?_; refine forVals_eq rfl rfl rfl ?_; refine forVals_eq rfl rfl rfl ?_
      refine forVals_nil (ORg.plain (OR.call hs body107 rfl rfl (lay_ok x.g x.s cs[gen] x.chunks[gen] _ _ hs.toSub hok.nat (hcb.mono hle) hmem.1 hmem.2) ?_))
      clear hs; rintro _ H w hs hle1 ⟨r, rfl, hr⟩
      exact ⟨_, [], hle1, hs, ⟨r, rfl, hr⟩, rfl⟩
    refine ⟨MF.tupL (layF x.g x.s x.chunks[gen]) 0, ?_, ?_⟩
    · intro Mx H w hle2 hs; (try replace hle := hle.trans hle2); (try replace hlb := hlb.trans hle2); refine forVals_of rfl rfl rfl ?_; intro v22 h22
      refine forVals_nil (ORg.plain (OR.move rfl ?_))
      exact ⟨_, [], Hp.le.refl _, hs, h22, rfl⟩
    refine ⟨MF.bytesL (layF x.g x.s x.chunks[gen]), ?_, ?_⟩
    · intro Mx H w hle2 hs; (try replace hle := hle.trans hle2); (try replace hlb := hlb.trans hle2); refine forVals_of rfl rfl rfl ?_; intro v23 h23
      obtain ⟨r, rfl, hr⟩ := h23
      refine forVals_nil (ORg.plain (OR.extract rfl rfl ?_))
      exact ⟨_, [], Hp.le.refl _, hs, hr, rfl⟩
    refine ⟨MF.eq (.int .i64 0), ?_, ?_⟩
    · intro Mx H w hle2 hs; (try replace hle := hle.trans hle2); (try replace hlb := hlb.trans hle2); refine forVals_of rfl rfl rfl ?_; intro v23 h23
      obtain ⟨r, rfl, hr⟩ := h23
      refine forVals_nil (ORg.plain (OR.extract rfl rfl ?_))
      exact ⟨_, [], Hp.le.refl _, hs, rfl, rfl⟩
    intro H w hle2; (try replace hle := hle.trans hle2); (try replace hlb := hlb.trans hle2)
    refine forAllVals_eq rfl ?_
    refine forAllVals_eq rfl ?_
    refine forAllVals_eq rfl ?_
    refine forAllVals_eq rfl ?_
    refine forAllVals_eq rfl ?_
    refine forAllVals_eq rfl ?_
    refine forAllVals_eq rfl ?_
    refine forAllVals_eq rfl ?_
    refine forAllVals_eq rfl ?_
    refine forAllVals_eq rfl ?_
    refine forAllVals_eq rfl ?_
    refine forAllVals_eq rfl ?_
    refine forAllVals_eq rfl ?_
    refine forAllVals_eq rfl ?_
    refine forAllVals_eq rfl ?_
    refine forAllVals_eq rfl ?_
    refine forAllVals_eq rfl ?_
    refine forAllVals_eq rfl ?_
    refine forAllVals_eq rfl ?_
    refine forAllVals_eq rfl ?_
    refine forAllVals_eq rfl ?_
    refine forAllVals_eq rfl ?_
    refine forAllVals_of rfl ?_; intro v22 h22
    refine forAllVals_of rfl ?_; intro v23 h23
    refine forAllVals_of rfl ?_; intro v24 h24
    refine forAllVals_eq rfl ?_
    refine forAllVals_nil ?_; (try clear hs); intro hs
    obtain ⟨b24, c24, rfl⟩ := h24.form
    refine WO.stepN (OR.storeAll hs T22 rfl rfl rfl rfl rfl ?_)
    clear hs; intro w hs
    refine WO.step rfl (OR.assign rfl (WO.done (WX.seq (WC.seq (WC.region (WO.step rfl (OR.move rfl ?_)))))))
    refine WO.step rfl (OR.assign rfl (WO.done (WX.seq (WC.ret ?_))))
    refine WX.ret1 rfl rfl ?_
    refine ⟨_, _, _, rfl, hs.drop 1, by simp [dropAt], by rw [thereE, if_pos hlt], _, rfl, ?_⟩
    rw [hsym]
    exact h24
set_option maxRecDepth 20000 in
set_option maxHeartbeats 2000000 in
theorem msymbols_ok (mb pb gb gen : Nat) (vf : Value) (o : Obj) (x : SrcD) (H0 : Hp) (w0 : World) (hs : HS [] H0 w0 H0 [(pb, o, false), (mb, modObj vf pb gb, false)] w0) (hf : Flow1 H0 vf x.g x.s) (hx : PartIn H0 x o) (hok : SrcOk x) (hcl : x.cuts.length ≤ 1000000000) :
    Calls Try.prog 132 #[ptr mb, .int .i64 0, .int .u64 (gen : Int)] w0 (Pure H0 w0 fun v H' => TupL H' v (symF x gen) (thereE x gen)) := by
  have hle := Hp.le.refl H0
  refine Calls.enter (args := [ptr mb, .int .i64 0, .int .u64 (gen : Int)]) Try.func132 rfl Try.ntmps132 rfl ?_
  refine WC.seq (WC.region (WO.step rfl (OR.box hs rfl ?_)))
  clear hs; intro g1 w hg1 hs
  refine WO.step rfl (OR.box hs rfl ?_)
  clear hs; intro g2 w hg2 hs
  refine WO.step rfl (OR.box hs rfl ?_)
  clear hs; intro g3 w hg3 hs
  refine WO.step rfl (OR.alloc hs T22 ?_)
  clear hs; intro g4 w hg4 hs
  refine WO.step rfl (OR.assign rfl (WO.done (WX.seq (WC.seq (WC.region (WO.step rfl (OR.load T121 rfl rfl (hs.cellM (i := 3) rfl rfl) ?_)))))))
  refine WO.step rfl (OR.load T3 rfl rfl (hs.cellM (i := 2) rfl rfl) (WO.step rfl (OR.makeFunc rfl rfl ?_)))
  replace hs := hs.front (i := 3) rfl
  obtain ⟨H, hle1, hp_g1, hs9⟩ := hs.pub1 hg1; clear hs; have hs := hs9; clear hs9; replace hle := hle.trans hle1; (try replace hlb := hlb.trans hle1)
  have hM := hcell_of hp_g1 (i := 0) rfl
  replace hs := hs.front (i := 2) rfl
  obtain ⟨H, hle1, hp_g2, hs9⟩ := hs.pub1 hg2; clear hs; have hs := hs9; clear hs9; replace hle := hle.trans hle1; (try replace hlb := hlb.trans hle1)
  replace hM := hcell.mono hle1 hM
  have hF := hcell_of hp_g2 (i := 0) rfl
  replace hs := hs.front (i := 1) rfl
  obtain ⟨H, hle1, hp_g3, hs9⟩ := hs.pub1 hg3; clear hs; have hs := hs9; clear hs9; replace hle := hle.trans hle1; (try replace hlb := hlb.trans hle1)
  replace hM := hcell.mono hle1 hM
  replace hF := hcell.mono hle1 hF
  have hG := hcell_of hp_g3 (i := 0) rfl
  replace hs := hs.front (i := 2) rfl
  replace hs := hs.front (i := 2) rfl
  have hdo : ∀ H2 w2 v1 v2, Hp.le H H2 → HS [] H0 w0 H2 [(pb, o, false), (mb, modObj vf pb gb, false), (g4, .cells #[.slice none 0 0] 22, true)] w2 → BytesL H2 v1 x.chunks → Bytes H2 v2 x.opn → Calls Try.prog 171 ([] ++ [ptr pb, v1, v2] ++ [ptr g3, ptr g1, ptr g2, ptr g4]).toArray w2 (fun e w' => ∃ H' r, e = .returned (.int .i64 (thereE x gen)) ∧ HS [] H0 w0 H' [(g4, .cells #[r] 22, true)] w' ∧ BytesL H' r (symF x gen)) := by
    intro H2 w2 v1 v2 hl2 hs2 h1 h2
    have hs3 := (hs2.drop 0).front (i := 1) rfl
    refine (msymbols1_ok mb pb gb g3 g1 g2 g4 gen (ptr pb) v1 v2 _ vf x H2 w2 (hs3.begin [true, false]) (hf.mono (hle.trans hl2)) hok h1 (hcell.mono hl2 hG) (hcell.mono hl2 hM) (hcell.mono hl2 hF) rfl).mono fun e w' h => ?_
    obtain ⟨v, H', M', rfl, k, ht, rfl, r, rfl, hr⟩ := h
    exact ⟨H', r, rfl, (hs3.after k (Mx := [(g4, _, true)]) rfl rfl (by simp) ht).drop 1, hr⟩
  refine WO.step rfl (OR.callW body130 rfl rfl (mof_ok mb pb gb 171 [] [ptr g3, ptr g1, ptr g2, ptr g4] vf o x false false [] H0 H _ w0 _ _ hs (hf.mono hle) (hx.mono hle) hok hcl body171 (fun e w ⟨_, _, h, _⟩ => ⟨_, h⟩) hdo) ?_)
  clear hs
  rintro e w ⟨H, r, rfl, hs, hr⟩
  refine ⟨_, rfl, ?_⟩
  obtain ⟨b9, c9, rfl⟩ := hr.form
  refine WO.step rfl (OR.assign rfl (WO.done (WX.seq (WC.seq (WC.region (WO.step rfl (OR.load T22 rfl rfl (hs.cellM (i := 0) rfl rfl) ?_)))))))
  refine WO.step rfl (OR.move rfl (WO.stepN (OR.storeAll hs T22 rfl rfl rfl rfl rfl ?_)))
  clear hs; intro w hs
  refine WO.step rfl (OR.assign rfl (WO.done (WX.seq (WC.ret ?_))))
  refine WX.retCTS T22 rfl rfl rfl rfl (hs.cellM (i := 0) rfl rfl) ?_
  exact .mk (hs.drop 0) ⟨_, rfl, hr⟩
def mrowE (x : SrcD) (gen : Nat) (c : List UInt8) : Int := if gen < x.chunks.length then (if x.g = c.length then 0 else 21) else 23
def mrowF (x : SrcD) (gen : Nat) (c : List UInt8) : RowD := if gen < x.chunks.length ∧ x.g = c.length then (c, comb x.s (symF x gen) c) else ([], [])
set_option maxRecDepth 20000 in
set_option maxHeartbeats 2000000 in
theorem mrow_ok (mb pb gb gen : Nat) (vf vd : Value) (c : List UInt8) (o : Obj) (x : SrcD) (H0 : Hp) (w0 : World) (hs : HS [] H0 w0 H0 [(pb, o, false), (mb, modObj vf pb gb, false)] w0) (hf : Flow1 H0 vf x.g x.s) (hx : PartIn H0 x o) (hok : SrcOk x) (hcl : x.cuts.length ≤ 1000000000)
    (hc : Bytes H0 vd c) (hl : c.length ≤ 140737488355328) :
    Calls Try.prog 73 #[ptr mb, .int .i64 0, .int .u64 (gen : Int), vd] w0 (Pure H0 w0 fun v H' => TupR H' v (mrowF x gen c) (mrowE x gen c)) := by
  have hle := Hp.le.refl H0
  obtain ⟨hn1, hn2, hn3, hn4, hn5⟩ := hok.nat
  obtain ⟨b1, c1, rfl⟩ := hc.form
  have hz : RowV H0 (.agg #[.slice none 0 0, .slice none 0 0]) ([], []) := ⟨_, _, rfl, Sl.empty _ _ _, Sl.empty _ _ _⟩
  refine Calls.enter (args := [ptr mb, .int .i64 0, .int .u64 (gen : Int), .slice b1 c.length c1]) Try.func73 rfl Try.ntmps73 rfl ?_
  refine WC.seq (WC.region (WO.step rfl (OR.alloc hs T35 ?_)))
  clear hs; intro g1 w hg1 hs
  refine WO.step rfl (OR.assign rfl (WO.done (WX.seq (WC.seq (WC.region (WO.step rfl (OR.move rfl ?_)))))))
  refine WO.step rfl (OR.move rfl (WO.step rfl (OR.move rfl ?_)))
  replace hs := hs.front (i := 2) rfl
  replace hs := hs.front (i := 2) rfl
  refine WO.step rfl (OR.call hs body132 rfl rfl (msymbols_ok mb pb gb gen vf o x _ _ ((hs.drop 2).begin []) hf hx hok hcl) ?_)
  clear hs; rintro _ H w hs hle1 ⟨r, rfl, hr⟩; replace hle := hle.trans hle1; (try replace hlb := hlb.trans hle1)
  obtain ⟨b2, c2, rfl⟩ := hr.form
  by_cases hlt : gen < x.chunks.length
  · have hE : thereE x gen = 0 := by rw [thereE, if_pos hlt]
    rw [hE]
    refine WO.step rfl (OR.move rfl (WO.step rfl (OR.extract rfl rfl (WO.step rfl (OR.extract rfl rfl (WO.step rfl (OR.assign rfl ?_)))))))
    refine WO.step rfl (OR.assign rfl (WO.done (WX.seq (WC.seq (WC.seq (WC.region (WO.step rfl ?_)))))))
    refine OR.move rfl (WO.step rfl (OR.neq rfl rfl (WO.done (WX.seq ?_))))
    refine WC.no rfl (decide_eq_false (by decide)) ?_
    have hsl := symF_len hok hlt
    refine WC.skip (WX.seq (WC.seq (WC.region (WO.step rfl (OR.move rfl (WO.step rfl (OR.move rfl ?_)))))))
    refine WO.step rfl (OR.call hs body101 rfl rfl (combine_ok _ _ (symF x gen) c x.s _ _ hs.toSub hr (hc.mono hle) (by omega) (symF_row hok hlt) (by omega) (by omega)) ?_)
    clear hs; rintro _ H w hs hle1 ⟨r2, rfl, hr2⟩; replace hle := hle.trans hle1; (try replace hlb := hlb.trans hle1)
    rw [hsl] at hr2
    rw [hsl]
    by_cases hne : x.g = c.length
    · rw [if_pos hne] at hr2
      rw [if_pos hne]
      refine WO.step rfl (OR.move rfl (WO.step rfl (OR.extract rfl rfl (WO.step rfl (OR.extract rfl rfl (WO.step rfl (OR.assign rfl ?_)))))))
      refine WO.step rfl (OR.assign rfl (WO.done (WX.seq (WC.seq (WC.seq (WC.region (WO.step rfl ?_)))))))
      refine OR.move rfl (WO.step rfl (OR.neq rfl rfl (WO.done (WX.seq ?_))))
      refine WC.no rfl (decide_eq_false (by decide)) ?_
      refine WC.skip (WX.seq (WC.seq (WC.region (WO.step rfl (OR.move rfl ?_)))))
      refine WO.step rfl (OR.call hs body57 rfl rfl (clone_pure _ _ _ _ hs.toSub (hc.mono hle) hl) ?_)
      clear hs; rintro _ H w hs hle1 hr3; replace hle := hle.trans hle1; (try replace hlb := hlb.trans hle1)
      obtain ⟨b4, c4, rfl⟩ := hr2.form
      obtain ⟨b5, c5, rfl⟩ := hr3.form
      refine WO.step rfl (OR.move rfl (WO.step rfl (OR.buildAll T35 rfl rfl PL35 rfl rfl ?_)))
      replace hs := hs.front (i := 2) rfl
      refine WO.stepN (OR.storeAll hs T35 rfl rfl rfl rfl rfl ?_)
      clear hs; intro w hs
      refine WO.step rfl (OR.assign rfl (WO.done (WX.seq (WC.ret ?_))))
      refine WX.retCT T35 rfl rfl rfl rfl rfl (hs.blk (i := 0) rfl) ?_
      have e1 : mrowE x gen c = 0 := by rw [mrowE, if_pos hlt, if_pos hne]
      have e2 : mrowF x gen c = (c, comb x.s (symF x gen) c) := by rw [mrowF, if_pos ⟨hlt, hne⟩]
      rw [e1, e2]
      exact .mk ((hs.drop 0).drop 0 |>.drop 0) ⟨_, rfl, _, _, rfl, hr3, hr2.mono hle1⟩
    · rw [if_neg hne]
      refine WO.step rfl (OR.move rfl (WO.step rfl (OR.extract rfl rfl (WO.step rfl (OR.extract rfl rfl (WO.step rfl (OR.assign rfl ?_)))))))
      refine WO.step rfl (OR.assign rfl (WO.done (WX.seq (WC.seq (WC.seq (WC.region (WO.step rfl ?_)))))))
      refine OR.move rfl (WO.step rfl (OR.neq rfl rfl (WO.done (WX.seq ?_))))
      refine WC.yes rfl (decide_eq_true (by decide)) ?_
      refine WC.seq (WC.region (WO.step rfl (OR.buildZero T35 PL35 ?_)))
      replace hs := hs.front (i := 2) rfl
      refine WO.stepN (OR.storeAll hs T35 rfl rfl rfl rfl rfl ?_)
      clear hs; intro w hs
      refine WO.step rfl (OR.assign rfl (WO.done (WX.seq (WC.ret (WX.seq_ret ?_)))))
      refine WX.retCT T35 rfl rfl rfl rfl rfl (hs.blk (i := 0) rfl) ?_
      have e1 : mrowE x gen c = 21 := by rw [mrowE, if_pos hlt, if_neg hne]
      have e2 : mrowF x gen c = ([], []) := by rw [mrowF, if_neg (by omega)]
      rw [e1, e2]
      exact .mk ((hs.drop 0).drop 0 |>.drop 0) ⟨_, rfl, hz.mono hle⟩
  · have hE : thereE x gen = 23 := by rw [thereE, if_neg hlt]
    rw [hE]
    refine WO.step rfl (OR.move rfl (WO.step rfl (OR.extract rfl rfl (WO.step rfl (OR.extract rfl rfl (WO.step rfl (OR.assign rfl ?_)))))))
    refine WO.step rfl (OR.assign rfl (WO.done (WX.seq (WC.seq (WC.seq (WC.region (WO.step rfl ?_)))))))
    refine OR.move rfl (WO.step rfl (OR.neq rfl rfl (WO.done (WX.seq ?_))))
    refine WC.yes rfl (decide_eq_true (by decide)) ?_
    refine WC.seq (WC.region (WO.step rfl (OR.buildZero T35 PL35 (WO.step rfl (OR.move rfl ?_)))))
    replace hs := hs.front (i := 2) rfl
    refine WO.stepN (OR.storeAll hs T35 rfl rfl rfl rfl rfl ?_)
    clear hs; intro w hs
    refine WO.step rfl (OR.assign rfl (WO.done (WX.seq (WC.ret (WX.seq_ret ?_)))))
    refine WX.retCT T35 rfl rfl rfl rfl rfl (hs.blk (i := 0) rfl) ?_
    have e1 : mrowE x gen c = 23 := by rw [mrowE, if_neg hlt]
    have e2 : mrowF x gen c = ([], []) := by rw [mrowF, if_neg (by omega)]
    rw [e1, e2]
    exact .mk ((hs.drop 0).drop 0 |>.drop 0) ⟨_, rfl, hz.mono hle⟩
end Go.Bw
namespace Go.Bw
set_option linter.unusedVariables false
set_option linter.unusedSimpArgs false
open Go.Proofs

def mkey (n : Int) : Value := .agg #[.int .i64 n, .int .i64 0]
def gotE (k : Nat) : MapEntry := { key := mkey 2, val := .int .u64 (k : Int), born := 0 }
/-- What was got at node 2: k chunks. -/
def GotO (o : Obj) (k : Nat) : Prop := (o = .map #[] 0 ∧ k = 0) ∨ o = .map #[gotE k] 1
theorem ckey (b : Bool) (n : Int) (w : World) : (Instr.checkKey b 10000 228 (mkey n)).run Try.prog w = .ok () w := by
  cases b <;> kernel_rfl
theorem fkey2 (k : Nat) (w : World) : (Instr.findKey 228 (mkey 2) [gotE k]).run Try.prog w = .ok (some (0, .int .u64 (k : Int))) w := by kernel_rfl
theorem fkey1 (k : Nat) (w : World) : (Instr.findKey 228 (mkey 1) [gotE k]).run Try.prog w = .ok none w := by kernel_rfl
theorem fkey0 (n : Int) (w : World) : (Instr.findKey 228 (mkey n) []).run Try.prog w = .ok none w := by kernel_rfl
theorem kkey (w : World) : (Instr.keyThatStays (mkey 2) (mkey 2)).run Try.prog w = .ok (mkey 2) w := by kernel_rfl

set_option maxRecDepth 20000 in
set_option maxHeartbeats 2000000 in
theorem indexI_ok (v : Value) (l : List Int) (n : Int) (H0 : Hp) (w0 : World) (h0 : Sub H0 w0) (hv : Ints H0 v l) (hl : l.length ≤ 1000000) :
    Calls Try.prog 183 #[v, .int .i64 n] w0 (Pure H0 w0 fun v _ => ∃ r : Int, v = .int .i64 r ∧ (0 ≤ r ↔ n ∈ l)) := by
  have hs := HS.init h0
  have hle := Hp.le.refl H0
  have hv0 := hv
  obtain ⟨b1, c1, rfl⟩ := hv0.form
  refine Calls.enter (args := [.slice b1 l.length c1, .int .i64 n]) Try.func183 rfl Try.ntmps183 rfl ?_
  refine WC.seq (WC.region (WO.step rfl (OR.assign rfl (WO.done (WX.seq (WC.seq (WC.seq ?_)))))))
  refine WC.region (WO.step rfl (OR.move rfl (WO.step rfl (OR.lenSlice T87.und rfl (WO.step rfl (OR.move rfl (WO.done ?_)))))))
  refine WX.seq (WC.block ?_)
  refine WC.loop (ι := Nat) (fun i => [(0, .slice b1 l.length c1), (1, .int .i64 n), (7, .int .i64 (l.length : Int)), (8, .int .i64 (i : Int))]) (fun i w => (i ≤ l.length ∧ (∀ j (h : j < l.length), j < i → l[j] ≠ n) ∧ ∃ H, Hp.le H0 H ∧ HS [] H0 w0 H [] w)) (fun i => l.length - i) 0 ⟨rfl, rfl, rfl, rfl,  trivial⟩ ?_ (fun i w hW => ?_)
  · exact ⟨Nat.zero_le _, fun j _ h => by omega, H0, hle, hs⟩
  clear hs hle
  obtain ⟨hi, hno, H, hle, hs⟩ := hW
  refine WC.seq (WC.region (WO.step rfl (OR.lss rfl rfl (WO.done (WX.seq (WC.seq ?_))))))
  refine WC.condD rfl (fun hlt => ?_) (fun hlt => ?_)
  · have hi' : i < l.length := by omega
    obtain ⟨xb, xo, rfl, hcx⟩ := hv.pos (by omega)
    refine WC.skip (WX.seq (WC.seq (WC.block (WC.seq (WC.region (WO.step rfl (OR.move rfl ?_)))))))
    refine WO.step rfl (OR.assign rfl (WO.done (WX.seq (WC.seq (WC.region (WO.step rfl (OR.move rfl ?_)))))))
    refine WO.step rfl (OR.move rfl (WO.step rfl (OR.move rfl ?_)))
    refine WO.step rfl (OR.idx i T87.und T3 rfl rfl rfl hi' ?_)
    refine WO.step rfl (OR.load T3 rfl rfl (hs.cell (hcell.mono hle (hcx i hi'))) ?_)
    refine WO.step rfl (OR.eql rfl rfl (WO.done (WX.seq ?_)))
    refine WC.condD rfl (fun heq => ?_) (fun heq => ?_)
    · refine WC.seq (WC.region (WO.step rfl (OR.move rfl (WO.step rfl (OR.assign rfl (WO.done (WX.seq ?_)))))))
      refine WC.ret (WX.block_ret (WX.seq_ret (WX.loop_ret (WX.block_ret (WX.seq_ret ?_)))))
      refine WX.ret1 rfl rfl ?_
      exact .mk hs ⟨_, rfl, fun _ => by rw [heq]; exact List.getElem_mem hi', fun _ => by omega⟩
    · refine WC.skip (WX.block (WX.seq (WC.region (WO.step rfl (OR.addI rfl rfl (by omega) (by omega) (WO.step rfl (OR.move rfl ?_)))))))
      refine WO.done ?_
      refine WX.again (i + 1) ⟨rfl, rfl, rfl, rfl,  trivial⟩ ?_ ?_
      · refine ⟨hi', fun j hj hji => ?_, H, hle, hs⟩
        rcases Nat.lt_or_ge j i with h | h
        · exact hno j hj h
        · have e : j = i := by omega
          subst e
          exact fun h => heq h.symm
      · omega
  · refine WC.exit (WX.seq_exit (WX.loop_exit (WX.block_hit (WX.seq (WC.seq (WC.region (WO.step rfl ?_)))))))
    refine OR.assign rfl (WO.done (WX.seq (WC.ret ?_)))
    refine WX.ret1 rfl rfl ?_
    refine .mk hs ⟨_, rfl, fun h => by omega, fun h => ?_⟩
    obtain ⟨j, hj, e⟩ := List.getElem_of_mem h
    exact absurd e (hno j hj (by omega))
set_option maxRecDepth 20000 in
set_option maxHeartbeats 2000000 in
theorem containsI_ok (v : Value) (l : List Int) (n : Int) (H0 : Hp) (w0 : World) (h0 : Sub H0 w0) (hv : Ints H0 v l) (hl : l.length ≤ 1000000) :
    Calls Try.prog 173 #[v, .int .i64 n] w0 (Pure H0 w0 fun v _ => v = .bool (decide (n ∈ l))) := by
  have hs := HS.init h0
  have hle := Hp.le.refl H0
  obtain ⟨b1, c1, rfl⟩ := hv.form
  refine Calls.enter (args := [.slice b1 l.length c1, .int .i64 n]) Try.func173 rfl Try.ntmps173 rfl ?_
  refine WC.seq (WC.region (WO.step rfl (OR.assign rfl (WO.done (WX.seq (WC.seq (WC.region ?_)))))))
  refine WO.step rfl (OR.move rfl (WO.step rfl (OR.move rfl ?_)))
  refine WO.step rfl (OR.call hs body183 rfl rfl (indexI_ok _ l n _ _ hs.toSub hv hl) ?_)
  clear hs; rintro _ H w hs hle1 ⟨r, rfl, hr⟩; replace hle := hle.trans hle1; (try replace hlb := hlb.trans hle1)
  refine WO.step rfl (OR.geq rfl rfl (WO.step rfl (OR.assign rfl (WO.done (WX.seq (WC.ret ?_))))))
  refine WX.ret1 rfl rfl ?_
  refine .mk hs ?_
  congr 1
  rw [decide_eq_decide]
  exact hr

section
variable {n' : Nat} {ds : List Deferred} {env : Env} {w : World} {dst : Option Nat} {ty : TypeId} {pos : String} {aft : Array Edge} {gd : Option (Nat × Bool)} {R : Value → World → Prop} {x y : Operand} {gb : Nat} {om : Obj} {k : Nat} {n : Int}
set_option maxRecDepth 20000 in
theorem OR.lookupG (hg : w.heap[gb]? = some om) (hG : GotO om k) (hn : n = 1 ∨ n = 2) (hx : look env x = some (.map (some gb))) (hy : look env y = some (mkey n)) (hR : R (.int .u64 (((if n = 2 then k else 0) : Nat) : Int)) w) :
    OR Try.prog n' ds ⟨dst, .lookup 180 x y false, ty, pos, aft, gd⟩ env w R := by
  rcases hG with ⟨rfl, rfl⟩ | rfl
  · have e : (if n = 2 then 0 else 0) = 0 := by split <;> rfl
    rw [e] at hR
    exact OR.lookupNone hg T180.und hx hy (ckey true n) T58 ⟨_, T228.und⟩ hR
  · rcases hn with rfl | rfl
    · rw [if_neg (by decide)] at hR
      exact OR.lookupMiss hg T180.und hx hy (ckey _ 1) (fkey1 k) T58 hR
    · rw [if_pos rfl] at hR
      exact OR.lookupIn hg T180.und hx hy (ckey _ 2) (fkey2 k) hR
end
def nextE (x : SrcD) (k : Nat) (n : Int) : Int := if n = 2 then (if k < x.chunks.length then 0 else 23) else 6
def nextF (x : SrcD) (k : Nat) (n : Int) : List UInt8 := if n = 2 then (if k < x.chunks.length then x.chunks.getD k [] else []) else []
set_option maxRecDepth 20000 in
set_option maxHeartbeats 2000000 in
theorem mnext1_ok (mb pb gb gM gN gF gB k : Nat) (n : Int) (v0 v1 v2 u vf : Value) (om : Obj) (x : SrcD) (H0 : Hp) (w0 : World) (hs : HS [gB] H0 w0 H0 [(gB, .cells #[u] 23, true), (mb, modObj vf pb gb, false), (gb, om, false)] w0) (hf : Flow1 H0 vf x.g x.s) (hok : SrcOk x)
    (h1 : BytesL H0 v1 x.chunks) (hM : hcell H0 ⟨gM, 0, none⟩ = some (ptr mb)) (hN : hcell H0 ⟨gN, 0, none⟩ = some (.int .i64 n)) (hF : hcell H0 ⟨gF, 0, none⟩ = some (.int .i64 0)) (hu : u = .slice none 0 0) (hG : GotO om k) (hk : k < 100000) (hn : n = 1 ∨ n = 2) :
    Calls Try.prog 172 #[v0, v1, v2, ptr gM, ptr gN, ptr gF, ptr gB] w0 (Ret [gB] H0 w0 fun v H' M' => v = .int .i64 (nextE x k n) ∧ ∃ r, M' = [(gB, .cells #[r] 23, true)] ∧ Bytes H' r (nextF x k n)) := by
  have hle := Hp.le.refl H0
  have hchl := hok.chl
  obtain ⟨b1, c1, rfl⟩ := h1.form
  obtain ⟨fb, fo, cf, vs, rfl, hf1, hf2, hf3, hvs⟩ := hf.cells
  have hn2 : 0 ≤ n ∧ n < 3 := by omega
  refine Calls.enter (args := [v0, .slice b1 x.chunks.length c1, v2, ptr gM, ptr gN, ptr gF, ptr gB]) Try.func172 rfl Try.ntmps172 rfl ?_
  refine WC.seq (WC.region (WO.step rfl (OR.assign rfl (WO.done (WX.seq (WC.seq ?_))))))
  refine WC.draw 9 mixed hs (by kernel_rfl) ?_
  refine ⟨MF.eq (ptr mb), ?_, ?_⟩
  · intro Mx H w hle2 hs; (try replace hle := hle.trans hle2); (try replace hlb := hlb.trans hle2)
    refine forVals_nil (ORg.plain (OR.load T121 rfl rfl (hs.cell (hcell.mono hle hM)) ?_))
    exact ⟨_, [], Hp.le.refl _, hs, rfl, rfl⟩
  refine ⟨MF.eq _, by intro Mx H w hle hs; refine forVals_eq rfl rfl rfl ?_; refine forVals_nil (ORg.plain (OR.nilCheck rfl ?_)); exact ⟨_, [], Hp.le.refl _, hs, rfl, rfl⟩, ?_⟩
  refine ⟨MF.eq _, by intro Mx H w hle hs; refine forVals_eq rfl rfl rfl ?_; refine forVals_nil (ORg.plain (OR.fieldAddr FA185_2 rfl ?_)); exact ⟨_, [], Hp.le.refl _, hs, rfl, rfl⟩, ?_⟩
  refine ⟨MF.eq _, by intro Mx H w hle hs; refine forVals_eq rfl rfl rfl ?_; refine forVals_nil (ORg.plain (OR.load T180 rfl rfl (hs.right.cellM (i := 1) rfl rfl) ?_)); exact ⟨_, [], Hp.le.refl _, hs, rfl, rfl⟩, ?_⟩
  refine ⟨MF.eq (.int .i64 n), ?_, ?_⟩
  · intro Mx H w hle2 hs; (try replace hle := hle.trans hle2); (try replace hlb := hlb.trans hle2)
    refine forVals_nil (ORg.plain (OR.load T3 rfl rfl (hs.cell (hcell.mono hle hN)) ?_))
    exact ⟨_, [], Hp.le.refl _, hs, rfl, rfl⟩
  refine ⟨MF.eq (.int .i64 0), ?_, ?_⟩
  · intro Mx H w hle2 hs; (try replace hle := hle.trans hle2); (try replace hlb := hlb.trans hle2)
    refine forVals_nil (ORg.plain (OR.load T3 rfl rfl (hs.cell (hcell.mono hle hF)) ?_))
    exact ⟨_, [], Hp.le.refl _, hs, rfl, rfl⟩
  refine ⟨MF.eq (mkey n), ?_, ?_⟩
  · intro Mx H w hle2 hs; (try replace hle := hle.trans hle2); (try replace hlb := hlb.trans hle2); refine forVals_eq rfl rfl rfl ?_; refine forVals_eq rfl rfl rfl ?_
    refine forVals_nil (ORg.plain (OR.buildAll T228 rfl rfl PL228 rfl rfl ?_))
    exact ⟨_, [], Hp.le.refl _, hs, rfl, rfl⟩
  refine ⟨MF.eq (.int .u64 (((if n = 2 then k else 0) : Nat) : Int)), ?_, ?_⟩
  · intro Mx H w hle2 hs; (try replace hle := hle.trans hle2); (try replace hlb := hlb.trans hle2); refine forVals_eq rfl rfl rfl ?_; refine forVals_eq rfl rfl rfl ?_
    refine forVals_nil (ORg.plain (OR.lookupG (hs.right.blk (i := 2) rfl) hG hn rfl rfl ?_))
    exact ⟨_, [], Hp.le.refl _, hs, rfl, rfl⟩
  refine ⟨MF.eq (.int .u64 (((if n = 2 then k else 0) : Nat) : Int)), ?_, ?_⟩
  · intro Mx H w hle2 hs; (try replace hle := hle.trans hle2); (try replace hlb := hlb.trans hle2); refine forVals_eq rfl rfl rfl ?_
    refine forVals_nil (ORg.plain (OR.assign rfl ?_))
    exact ⟨_, [], Hp.le.refl _, hs, rfl, rfl⟩
  intro H w hle2; (try replace hle := hle.trans hle2); (try replace hlb := hlb.trans hle2)
  refine forAllVals_eq rfl ?_
  refine forAllVals_eq rfl ?_
  refine forAllVals_eq rfl ?_
  refine forAllVals_eq rfl ?_
  refine forAllVals_eq rfl ?_
  refine forAllVals_eq rfl ?_
  refine forAllVals_eq rfl ?_
  refine forAllVals_eq rfl ?_
  refine forAllVals_eq rfl ?_
  refine forAllVals_nil ?_; (try clear hs); intro hs
  refine WO.done (WX.seq (WC.seq (WC.block (WC.seq ?_))))
  refine WC.draw 11 mixed hs (by kernel_rfl) ?_
  refine ⟨MF.eq (.int .i64 n), ?_, ?_⟩
  · intro Mx H w hle2 hs; (try replace hle := hle.trans hle2); (try replace hlb := hlb.trans hle2)
    refine forVals_nil (ORg.plain (OR.load T3 rfl rfl (hs.cell (hcell.mono hle hN)) ?_))
    exact ⟨_, [], Hp.le.refl _, hs, rfl, rfl⟩
  refine ⟨MF.eq _, by intro Mx H w hle hs; refine forVals_eq rfl rfl rfl ?_; refine forVals_nil (ORg.plain (OR.lss rfl rfl ?_)); exact ⟨_, [], Hp.le.refl _, hs, rfl, rfl⟩, ?_⟩
  refine ⟨MF.eq _, by intro Mx H w hle hs; refine forVals_eq rfl rfl rfl ?_; refine forVals_nil (ORg.plain (OR.move rfl ?_)); exact ⟨_, [], Hp.le.refl _, hs, rfl, rfl⟩, ?_⟩
  refine ⟨MF.eq (.int .i64 n), ?_, ?_⟩
  · intro Mx H w hle2 hs; (try replace hle := hle.trans hle2); (try replace hlb := hlb.trans hle2); refine forVals_eq rfl rfl rfl ?_
    refine forVals_nil (ORg.yes rfl (decide_eq_false (by omega : ¬ n < 0)) rfl (OR.load T3 rfl rfl (hs.cell (hcell.mono hle hN)) ?_))
    exact ⟨_, [], Hp.le.refl _, hs, rfl, rfl⟩
  refine ⟨MF.eq (ptr mb), ?_, ?_⟩
  · intro Mx H w hle2 hs; (try replace hle := hle.trans hle2); (try replace hlb := hlb.trans hle2); refine forVals_eq rfl rfl rfl ?_
    refine forVals_nil (ORg.yes rfl (decide_eq_false (by omega : ¬ n < 0)) rfl (OR.load T121 rfl rfl (hs.cell (hcell.mono hle hM)) ?_))
    exact ⟨_, [], Hp.le.refl _, hs, rfl, rfl⟩
  refine ⟨MF.eq _, by intro Mx H w hle hs; refine forVals_eq rfl rfl rfl ?_; refine forVals_eq rfl rfl rfl ?_; refine forVals_nil (ORg.yes rfl (decide_eq_false (by omega : ¬ n < 0)) rfl (OR.nilCheck rfl ?_)); exact ⟨_, [], Hp.le.refl _, hs, rfl, rfl⟩, ?_⟩
  refine ⟨MF.eq _, by intro Mx H w hle hs; refine forVals_eq rfl rfl rfl ?_; refine forVals_eq rfl rfl rfl ?_; refine forVals_nil (ORg.yes rfl (decide_eq_false (by omega : ¬ n < 0)) rfl (OR.fieldAddr FA185_0 rfl ?_)); exact ⟨_, [], Hp.le.refl _, hs, rfl, rfl⟩, ?_⟩
  refine ⟨MF.eq _, by intro Mx H w hle hs; refine forVals_eq rfl rfl rfl ?_; refine forVals_eq rfl rfl rfl ?_; refine forVals_nil (ORg.yes rfl (decide_eq_false (by omega : ¬ n < 0)) rfl (OR.fieldAddr FA117_0 rfl ?_)); exact ⟨_, [], Hp.le.refl _, hs, rfl, rfl⟩, ?_⟩
  refine ⟨MF.eq (.int .i64 3), ?_, ?_⟩
  · intro Mx H w hle2 hs; (try replace hle := hle.trans hle2); (try replace hlb := hlb.trans hle2); refine forVals_eq rfl rfl rfl ?_; refine forVals_eq rfl rfl rfl ?_
    refine forVals_nil (ORg.yes rfl (decide_eq_false (by omega : ¬ n < 0)) rfl (OR.load T3 rfl rfl (hs.right.cellM (i := 1) rfl rfl) ?_))
    exact ⟨_, [], Hp.le.refl _, hs, rfl, rfl⟩
  refine ⟨MF.eq _, by intro Mx H w hle hs; refine forVals_eq rfl rfl rfl ?_; refine forVals_eq rfl rfl rfl ?_; refine forVals_eq rfl rfl rfl ?_; refine forVals_nil (ORg.yes rfl (decide_eq_false (by omega : ¬ n < 0)) rfl (OR.geq rfl rfl ?_)); exact ⟨_, [], Hp.le.refl _, hs, rfl, rfl⟩, ?_⟩
  refine ⟨MF.eq _, by intro Mx H w hle hs; refine forVals_eq rfl rfl rfl ?_; refine forVals_eq rfl rfl rfl ?_; refine forVals_nil (ORg.plain (OR.pickF rfl (decide_eq_false (by omega : ¬ n < 0)) rfl ?_)); exact ⟨_, [], Hp.le.refl _, hs, rfl, rfl⟩, ?_⟩
  intro H w hle2; (try replace hle := hle.trans hle2); (try replace hlb := hlb.trans hle2)
  refine forAllVals_eq rfl ?_
  refine forAllVals_eq rfl ?_
  refine forAllVals_eq rfl ?_
  refine forAllVals_eq rfl ?_
  refine forAllVals_eq rfl ?_
  refine forAllVals_eq rfl ?_
  refine forAllVals_eq rfl ?_
  refine forAllVals_eq rfl ?_
  refine forAllVals_eq rfl ?_
  refine forAllVals_eq rfl ?_
  refine forAllVals_eq rfl ?_
  refine forAllVals_nil ?_; (try clear hs); intro hs
  refine WO.step rfl (OR.assign rfl (WO.done (WX.seq ?_)))
  refine WC.no rfl (decide_eq_false (by omega : ¬ n ≥ 3)) ?_
  refine WC.seq ?_
  refine WC.draw 11 mixed hs (by kernel_rfl) ?_
  refine ⟨MF.eq (ptr mb), ?_, ?_⟩
  · intro Mx H w hle2 hs; (try replace hle := hle.trans hle2); (try replace hlb := hlb.trans hle2)
    refine forVals_nil (ORg.plain (OR.load T121 rfl rfl (hs.cell (hcell.mono hle hM)) ?_))
    exact ⟨_, [], Hp.le.refl _, hs, rfl, rfl⟩
  refine ⟨MF.eq _, by intro Mx H w hle hs; refine forVals_eq rfl rfl rfl ?_; refine forVals_nil (ORg.plain (OR.nilCheck rfl ?_)); exact ⟨_, [], Hp.le.refl _, hs, rfl, rfl⟩, ?_⟩
  refine ⟨MF.eq _, by intro Mx H w hle hs; refine forVals_eq rfl rfl rfl ?_; refine forVals_nil (ORg.plain (OR.fieldAddr FA185_0 rfl ?_)); exact ⟨_, [], Hp.le.refl _, hs, rfl, rfl⟩, ?_⟩
  refine ⟨MF.eq _, by intro Mx H w hle hs; refine forVals_eq rfl rfl rfl ?_; refine forVals_nil (ORg.plain (OR.fieldAddr FA117_1 rfl ?_)); exact ⟨_, [], Hp.le.refl _, hs, rfl, rfl⟩, ?_⟩
  refine ⟨MF.eq _, by intro Mx H w hle hs; refine forVals_eq rfl rfl rfl ?_; refine forVals_nil (ORg.plain (OR.load T115 rfl rfl (hs.right.cellM (i := 1) rfl rfl) ?_)); exact ⟨_, [], Hp.le.refl _, hs, rfl, rfl⟩, ?_⟩
  refine ⟨MF.eq (.int .i64 0), ?_, ?_⟩
  · intro Mx H w hle2 hs; (try replace hle := hle.trans hle2); (try replace hlb := hlb.trans hle2)
    refine forVals_nil (ORg.plain (OR.load T3 rfl rfl (hs.cell (hcell.mono hle hF)) ?_))
    exact ⟨_, [], Hp.le.refl _, hs, rfl, rfl⟩
  refine ⟨MF.eq (.pointer (some ⟨fb, fo, none⟩)), ?_, ?_⟩
  · intro Mx H w hle2 hs; (try replace hle := hle.trans hle2); (try replace hlb := hlb.trans hle2); refine forVals_eq rfl rfl rfl ?_; refine forVals_eq rfl rfl rfl ?_
    refine forVals_nil (ORg.plain (OR.idxN 0 T115.und T120 rfl rfl rfl (by omega) ?_))
    exact ⟨_, [], Hp.le.refl _, hs, rfl, rfl⟩
  refine ⟨MF.eq _, by intro Mx H w hle hs; refine forVals_eq rfl rfl rfl ?_; refine forVals_nil (ORg.plain (OR.fieldAddr FA120_3 rfl ?_)); exact ⟨_, [], Hp.le.refl _, hs, rfl, rfl⟩, ?_⟩
  refine ⟨MF.eq vs, ?_, ?_⟩
  · intro Mx H w hle2 hs; (try replace hle := hle.trans hle2); (try replace hlb := hlb.trans hle2); refine forVals_eq rfl rfl rfl ?_
    refine forVals_nil (ORg.plain (OR.load T87 rfl rfl (hs.cell (hcell.mono hle hf3)) ?_))
    exact ⟨_, [], Hp.le.refl _, hs, rfl, rfl⟩
  refine ⟨MF.eq (.int .i64 n), ?_, ?_⟩
  · intro Mx H w hle2 hs; (try replace hle := hle.trans hle2); (try replace hlb := hlb.trans hle2)
    refine forVals_nil (ORg.plain (OR.load T3 rfl rfl (hs.cell (hcell.mono hle hN)) ?_))
    exact ⟨_, [], Hp.le.refl _, hs, rfl, rfl⟩
  refine ⟨MF.eq (.bool (decide (n ∈ [(2 : Int)]))), ?_, ?_⟩
  · intro Mx H w hle2 hs; (try replace hle := hle.trans hle2); (try replace hlb := hlb.trans hle2); refine forVals_eq rfl rfl rfl ?_; refine forVals_eq rfl rfl rfl ?_
    refine forVals_nil (ORg.plain (OR.call hs body173 rfl rfl (containsI_ok _ [2] n _ _ hs.toSub (hvs.mono hle) (by simp)) ?_))
    clear hs; rintro _ H w hs hle1 rfl
    exact ⟨_, [], hle1, hs, rfl, rfl⟩
  intro H w hle2; (try replace hle := hle.trans hle2); (try replace hlb := hlb.trans hle2)
  refine forAllVals_eq rfl ?_
  refine forAllVals_eq rfl ?_
  refine forAllVals_eq rfl ?_
  refine forAllVals_eq rfl ?_
  refine forAllVals_eq rfl ?_
  refine forAllVals_eq rfl ?_
  refine forAllVals_eq rfl ?_
  refine forAllVals_eq rfl ?_
  refine forAllVals_eq rfl ?_
  refine forAllVals_eq rfl ?_
  refine forAllVals_eq rfl ?_
  refine forAllVals_nil ?_; (try clear hs); intro hs
  have hz : Bytes H u [] := by rw [hu]; exact Sl.empty _ _ _
  rcases hn with rfl | rfl
  · skip
    refine WO.step rfl (OR.not rfl (WO.step rfl (OR.assign rfl (WO.done (WX.seq ?_)))))
    refine WC.yes rfl rfl ?_
    refine WC.seq (WC.region (WO.step rfl (OR.assign rfl (WO.done (WX.seq (WC.ret (WX.block_ret ?_)))))))
    refine WX.seq_ret ?_
    refine WX.ret1 rfl rfl ?_
    exact ⟨_, _, _, rfl, (hs.drop 2).drop 1, by simp [dropAt], rfl, _, rfl, hz⟩
  · skip
    refine WO.step rfl (OR.not rfl (WO.step rfl (OR.assign rfl (WO.done (WX.seq ?_)))))
    refine WC.no rfl rfl ?_
    refine WC.seq (WC.region (WO.step rfl (OR.move rfl (WO.step rfl (OR.move rfl (WO.step rfl (OR.lenSlice T22.und rfl ?_)))))))
    refine WO.step rfl (OR.convI T3.und T58.und rfl ?_)
    rw [u64_wrap _ (by omega)]
    refine WO.step rfl (OR.geq rfl rfl (WO.step rfl (OR.assign rfl (WO.done (WX.seq ?_)))))
    refine WC.condD rfl (fun hge => ?_) (fun hge => ?_)
    · refine WC.seq (WC.region (WO.step rfl (OR.assign rfl (WO.done (WX.seq (WC.ret (WX.block_ret ?_)))))))
      refine WX.seq_ret ?_
      refine WX.ret1 rfl rfl ?_
      have hge' : ¬ k < x.chunks.length := by simp at hge; omega
      refine ⟨_, _, _, rfl, (hs.drop 2).drop 1, by simp [dropAt], by rw [nextE, if_pos rfl, if_neg hge'], _, rfl, ?_⟩
      rw [nextF, if_pos rfl, if_neg hge']
      exact hz
    · have hlt : k < x.chunks.length := by simp at hge; omega
      obtain ⟨cs, hsl, hcl, hcs⟩ := h1
      obtain ⟨ob, oo, rfl, hco⟩ := hsl.pos (by omega)
      have hgc : k < cs.length := by omega
      have hcell' := hco k cs[k] (List.getElem?_eq_getElem hgc)
      have hcb := hcs k hlt hgc
      have hmem := hok.mem x.chunks[k] (List.getElem_mem hlt)
      refine WC.skip (WX.block (WX.seq (WC.seq (WC.region (WO.step rfl (OR.move rfl (WO.step rfl ?_)))))))
      refine OR.move rfl ?_
      refine WO.step rfl (OR.idx k T22.und T23 rfl rfl rfl hlt ?_)
      refine WO.step rfl (OR.load T23 rfl rfl (hs.cell (hcell.mono hle hcell')) ?_)
      refine WO.step rfl (OR.call hs body57 rfl rfl (clone_pure _ _ _ _ hs.toSub (hcb.mono hle) (by have h9 := hok.nat; have h8 : x.g * x.s ≤ 255 * 65535 := Nat.mul_le_mul h9.2.1 h9.2.2.2.1; omega)) ?_)
      clear hs; rintro _ H w hs hle1 hr; replace hle := hle.trans hle1; (try replace hlb := hlb.trans hle1)
      obtain ⟨b4, c4, rfl⟩ := hr.form
      refine WO.stepN (OR.storeAll hs T23 rfl rfl rfl rfl rfl ?_)
      clear hs; intro w hs
      refine WO.done (WX.seq (WC.seq (WC.region (WO.step rfl (OR.assign rfl (WO.done (WX.seq ?_)))))))
      refine WC.ret ?_
      refine WX.ret1 rfl rfl ?_
      refine ⟨_, _, _, rfl, (hs.drop 2).drop 1, by simp [dropAt], by rw [nextE, if_pos rfl, if_pos hlt], _, rfl, ?_⟩
      rw [nextF, if_pos rfl, if_pos hlt, List.getD_eq_getElem?_getD, List.getElem?_eq_getElem hlt]
      exact hr

set_option maxRecDepth 20000 in
set_option maxHeartbeats 2000000 in
theorem mnext_ok (mb pb gb k : Nat) (n : Int) (vf : Value) (o om : Obj) (x : SrcD) (H0 : Hp) (w0 : World) (hs : HS [] H0 w0 H0 [(pb, o, false), (mb, modObj vf pb gb, false), (gb, om, false)] w0) (hf : Flow1 H0 vf x.g x.s) (hx : PartIn H0 x o) (hok : SrcOk x) (hcl : x.cuts.length ≤ 1000000000)
    (hG : GotO om k) (hk : k < 100000) (hn : n = 1 ∨ n = 2) :
    Calls Try.prog 134 #[ptr mb, .int .i64 n, .int .i64 0] w0 (Pure H0 w0 fun v H' => TupB H' v (nextF x k n) (nextE x k n)) := by
  have hle := Hp.le.refl H0
  refine Calls.enter (args := [ptr mb, .int .i64 n, .int .i64 0]) Try.func134 rfl Try.ntmps134 rfl ?_
  refine WC.seq (WC.region (WO.step rfl (OR.box hs rfl ?_)))
  clear hs; intro g1 w hg1 hs
  refine WO.step rfl (OR.box hs rfl ?_)
  clear hs; intro g2 w hg2 hs
  refine WO.step rfl (OR.box hs rfl ?_)
  clear hs; intro g3 w hg3 hs
  refine WO.step rfl (OR.alloc hs T23 ?_)
  clear hs; intro g4 w hg4 hs
  refine WO.step rfl (OR.assign rfl (WO.done (WX.seq (WC.seq (WC.region (WO.step rfl (OR.load T121 rfl rfl (hs.cellM (i := 3) rfl rfl) ?_)))))))
  refine WO.step rfl (OR.load T3 rfl rfl (hs.cellM (i := 1) rfl rfl) (WO.step rfl (OR.makeFunc rfl rfl ?_)))
  replace hs := hs.front (i := 3) rfl
  obtain ⟨H, hle1, hp_g1, hs9⟩ := hs.pub1 hg1; clear hs; have hs := hs9; clear hs9; replace hle := hle.trans hle1; (try replace hlb := hlb.trans hle1)
  have hM := hcell_of hp_g1 (i := 0) rfl
  replace hs := hs.front (i := 2) rfl
  obtain ⟨H, hle1, hp_g2, hs9⟩ := hs.pub1 hg2; clear hs; have hs := hs9; clear hs9; replace hle := hle.trans hle1; (try replace hlb := hlb.trans hle1)
  replace hM := hcell.mono hle1 hM
  have hN := hcell_of hp_g2 (i := 0) rfl
  replace hs := hs.front (i := 1) rfl
  obtain ⟨H, hle1, hp_g3, hs9⟩ := hs.pub1 hg3; clear hs; have hs := hs9; clear hs9; replace hle := hle.trans hle1; (try replace hlb := hlb.trans hle1)
  replace hM := hcell.mono hle1 hM
  replace hN := hcell.mono hle1 hN
  have hF := hcell_of hp_g3 (i := 0) rfl
  replace hs := hs.front (i := 3) rfl
  replace hs := hs.front (i := 3) rfl
  replace hs := hs.front (i := 3) rfl
  have hdo : ∀ H2 w2 v1 v2, Hp.le H H2 → HS [] H0 w0 H2 [(pb, o, false), (mb, modObj vf pb gb, false), (gb, om, false), (g4, .cells #[.slice none 0 0] 23, true)] w2 → BytesL H2 v1 x.chunks → Bytes H2 v2 x.opn → Calls Try.prog 172 ([] ++ [ptr pb, v1, v2] ++ [ptr g1, ptr g2, ptr g3, ptr g4]).toArray w2 (fun e w' => ∃ H' r, e = .returned (.int .i64 (nextE x k n)) ∧ HS [] H0 w0 H' [(g4, .cells #[r] 23, true)] w' ∧ Bytes H' r (nextF x k n)) := by
    intro H2 w2 v1 v2 hl2 hs2 h1 h2
    have hs3 := (hs2.drop 0).front (i := 2) rfl
    refine (mnext1_ok mb pb gb g1 g2 g3 g4 k n (ptr pb) v1 v2 _ vf om x H2 w2 (hs3.begin [true, false, false]) (hf.mono (hle.trans hl2)) hok h1 (hcell.mono hl2 hM) (hcell.mono hl2 hN) (hcell.mono hl2 hF) rfl hG hk hn).mono fun e w' h => ?_
    obtain ⟨v, H', M', rfl, k, ht, rfl, r, rfl, hr⟩ := h
    exact ⟨H', r, rfl, ((hs3.after k (Mx := [(g4, _, true)]) rfl rfl (by simp) ht).drop 1).drop 1, hr⟩
  refine WO.step rfl (OR.callW body130 rfl rfl (mof_ok mb pb gb 172 [] [ptr g1, ptr g2, ptr g3, ptr g4] vf o x false false [] H0 H _ w0 _ _ hs (hf.mono hle) (hx.mono hle) hok hcl body172 (fun e w ⟨_, _, h, _⟩ => ⟨_, h⟩) hdo) ?_)
  clear hs
  rintro e w ⟨H, r, rfl, hs, hr⟩
  refine ⟨_, rfl, ?_⟩
  obtain ⟨b9, c9, rfl⟩ := hr.form
  refine WO.step rfl (OR.assign rfl (WO.done (WX.seq (WC.seq (WC.region (WO.step rfl (OR.load T23 rfl rfl (hs.cellM (i := 0) rfl rfl) ?_)))))))
  refine WO.step rfl (OR.move rfl (WO.stepN (OR.storeAll hs T23 rfl rfl rfl rfl rfl ?_)))
  clear hs; intro w hs
  refine WO.step rfl (OR.assign rfl (WO.done (WX.seq (WC.ret ?_))))
  refine WX.retCTS T23 rfl rfl rfl rfl (hs.cellM (i := 0) rfl rfl) ?_
  exact .mk (hs.drop 0) ⟨_, rfl, hr⟩
end Go.Bw
namespace Go.Bw
set_option linter.unusedVariables false
set_option linter.unusedSimpArgs false
open Go.Proofs

theorem find0 (k : Nat) : (#[gotE k] : Array MapEntry).findIdx? (fun e => (e.born : Int) == ((0 : Nat) : Int)) = some 0 := by kernel_rfl
theorem cellAt {w : World} {g off : Nat} {c : Array Value} {e : TypeId} {fr : Nat × Nat} {v : Value} (h : w.heap[g]? = some (.cells c e fr)) (hc : nth c.toList off = some v) : w.cell? ⟨g, off, none⟩ = some v := by
  rw [nth_eq] at hc
  simpa [World.cell?, h] using hc
section
variable {n' : Nat} {ds : List Deferred} {env : Env} {w : World} {dst : Option Nat} {ty : TypeId} {pos : String} {aft : Array Edge} {gd : Option (Nat × Bool)} {R : Value → World → Prop} {x y : Operand} {gb : Nat} {k : Nat}
set_option maxRecDepth 20000 in
theorem OR.lookupH (h : ∃ om, w.heap[gb]? = some om ∧ GotO om k) (hx : look env x = some (.map (some gb))) (hy : look env y = some (mkey 2)) (hR : R (.int .u64 (k : Int)) w) :
    OR Try.prog n' ds ⟨dst, .lookup 180 x y false, ty, pos, aft, gd⟩ env w R := by
  obtain ⟨om, h1, h2⟩ := h
  refine OR.lookupG h1 h2 (.inr rfl) hx hy ?_
  rw [if_pos rfl]
  exact hR
variable {xs : List Nat} {H0 H : Hp} {M : Mem} {w0 : World} {om : Obj}
set_option maxRecDepth 20000 in
theorem OR.entryG (hs : HS xs H0 w0 H ((gb, om, true) :: M) w) (hG : GotO om k) (hx : look env x = some (.map (some gb))) (hy : look env y = some (mkey 2))
    (hR : ∀ w', HS xs H0 w0 H ((gb, .map #[gotE k] 1, true) :: M) w' → R (.tuple #[.int .u64 (k : Int), .int .i64 0]) w') :
    OR Try.prog n' ds ⟨dst, .mapEntry 180 x y, ty, pos, aft, gd⟩ env w R := by
  rcases hG with ⟨rfl, rfl⟩ | rfl
  · exact OR.entryNew hs T180.und hx hy (ckey false 2) (fkey0 2) T58 hR
  · exact OR.entryIn (i := 0) (b := 0) hs T180.und hx hy (ckey false 2) (fkey2 k) kkey rfl hR
end
def mgotE (x : SrcD) (k : Nat) (l : List UInt8) : Int := if k < x.chunks.length then (if x.chunks.getD k [] = l then 0 else 5) else 23
def mgotK (x : SrcD) (k : Nat) (l : List UInt8) : Nat := if k < x.chunks.length ∧ x.chunks.getD k [] = l then k + 1 else k
set_option maxRecDepth 20000 in
set_option maxHeartbeats 2000000 in
theorem mgot_ok (mb pb gb k : Nat) (vf bv : Value) (l : List UInt8) (o om : Obj) (x : SrcD) (H0 : Hp) (w0 : World) (hs : HS [gb] H0 w0 H0 [(gb, om, true), (pb, o, false), (mb, modObj vf pb gb, false)] w0) (hf : Flow1 H0 vf x.g x.s) (hx : PartIn H0 x o) (hok : SrcOk x) (hcl : x.cuts.length ≤ 1000000000)
    (hl : Bytes H0 bv l) (hG : GotO om k) (hk : k < 100000) :
    Calls Try.prog 135 #[ptr mb, .int .i64 2, .int .i64 0, bv] w0 (Ret [gb] H0 w0 fun v H' M' => v = .int .i64 (mgotE x k l) ∧ ∃ om', M' = [(gb, om', true)] ∧ GotO om' (mgotK x k l)) := by
  have hle := Hp.le.refl H0
  obtain ⟨b1, c1, rfl⟩ := hl.form
  refine Calls.enter (args := [ptr mb, .int .i64 2, .int .i64 0, .slice b1 l.length c1]) Try.func135 rfl Try.ntmps135 rfl ?_
  refine WC.seq (WC.region (WO.step rfl (OR.assign rfl (WO.done (WX.seq (WC.seq (WC.region ?_)))))))
  refine WO.step rfl (OR.move rfl (WO.step rfl (OR.move rfl (WO.step rfl (OR.move rfl ?_)))))
  replace hs := hs.front (i := 2) rfl
  replace hs := hs.front (i := 2) rfl
  refine WO.step rfl (OR.call hs body134 rfl rfl (mnext_ok mb pb gb k 2 vf o om x _ _ (hs.begin []) hf hx hok hcl hG hk (.inr rfl)) ?_)
  clear hs; rintro _ H w hs hle1 ⟨r, rfl, hr⟩; replace hle := hle.trans hle1; (try replace hlb := hlb.trans hle1)
  obtain ⟨b2, c2, rfl⟩ := hr.form
  refine WO.step rfl (OR.move rfl (WO.step rfl (OR.extract rfl rfl (WO.step rfl (OR.extract rfl rfl (WO.step rfl (OR.assign rfl ?_)))))))
  refine WO.step rfl (OR.assign rfl (WO.done (WX.seq (WC.seq (WC.block (WC.seq (WC.region ?_)))))))
  refine WO.step rfl (OR.move rfl (WO.step rfl (OR.neq rfl rfl (WO.step rfl (OR.assign rfl (WO.done (WX.seq ?_)))))))
  replace hs := hs.front (i := 1) rfl
  replace hs := hs.front (i := 2) rfl
  by_cases hlt : k < x.chunks.length
  · have hE : nextE x k 2 = 0 := by rw [nextE, if_pos rfl, if_pos hlt]
    have hF : nextF x k 2 = x.chunks.getD k [] := by rw [nextF, if_pos rfl, if_pos hlt]
    rw [hE]
    rw [hF] at hr ⊢
    refine WC.no rfl (decide_eq_false (by decide)) ?_
    refine WC.seq (WC.region (WO.step rfl (OR.move rfl (WO.step rfl (OR.move rfl ?_)))))
    refine WO.step rfl (OR.call hs body21 rfl rfl (equal_ok _ _ _ _ _ _ hs.toSub hr (hl.mono hle)) ?_)
    clear hs; rintro _ H w hs hle1 rfl; replace hle := hle.trans hle1; (try replace hlb := hlb.trans hle1)
    by_cases heq : x.chunks.getD k [] = l
    · rw [decide_eq_true heq]
      refine WO.step rfl (OR.not rfl (WO.step rfl (OR.assign rfl (WO.done (WX.seq ?_)))))
      refine WC.no rfl rfl ?_
      refine WC.skip (WX.block (WX.seq (WC.seq ?_)))
      refine WC.drawW (H := fun _ => none) 11 9 36 (fun w => w.heap[mb]? = some (modObj vf pb gb) ∧ ∃ om, w.heap[gb]? = some om ∧ GotO om k) (fun w => HS [gb] H0 w0 H [(gb, om, true), (mb, modObj vf pb gb, false), (pb, o, false)] w) (fun _ w => HS [gb] H0 w0 H [(gb, .map #[gotE k] 1, true), (mb, modObj vf pb gb, false), (pb, o, false)] w) mixed (by kernel_rfl) rfl (hs.drew) (fun w h => ⟨h.blk (i := 1) rfl, _, h.blk (i := 0) rfl, hG⟩) (fun v w h => ⟨h.blk (i := 1) rfl, _, h.blk (i := 0) rfl, .inr rfl⟩) ?_
      refine OwedW.other (F := MF.eq _) rfl (by intro J hC w hJ; refine forVals_nil (ORg.plain (OR.move rfl ?_)); exact ⟨hJ, rfl, rfl⟩) ?_
      refine OwedW.other (F := MF.eq _) rfl (by intro J hC w hJ; refine forVals_eq rfl rfl rfl ?_; refine forVals_nil (ORg.plain (OR.nilCheck rfl ?_)); exact ⟨hJ, rfl, rfl⟩) ?_
      refine OwedW.other (F := MF.eq _) rfl (by intro J hC w hJ; refine forVals_eq rfl rfl rfl ?_; refine forVals_nil (ORg.plain (OR.fieldAddr FA185_2 rfl ?_)); exact ⟨hJ, rfl, rfl⟩) ?_
      refine OwedW.other (F := MF.eq _) rfl (by intro J hC w hJ; refine forVals_eq rfl rfl rfl ?_; refine forVals_nil (ORg.plain (OR.load T180 rfl rfl (cellAt (hC _ hJ).1 rfl) ?_)); exact ⟨hJ, rfl, rfl⟩) ?_
      refine OwedW.other (F := MF.eq _) rfl (by intro J hC w hJ; refine forVals_nil (ORg.plain (OR.move rfl ?_)); exact ⟨hJ, rfl, rfl⟩) ?_
      refine OwedW.other (F := MF.eq _) rfl (by intro J hC w hJ; refine forVals_nil (ORg.plain (OR.move rfl ?_)); exact ⟨hJ, rfl, rfl⟩) ?_
      refine OwedW.other (F := MF.eq _) rfl (by intro J hC w hJ; refine forVals_eq rfl rfl rfl ?_; refine forVals_eq rfl rfl rfl ?_; refine forVals_nil (ORg.plain (OR.buildAll T228 rfl rfl PL228 rfl rfl ?_)); exact ⟨hJ, rfl, rfl⟩) ?_
      refine OwedW.other (F := MF.eq _) rfl (by intro J hC w hJ; refine forVals_eq rfl rfl rfl ?_; refine forVals_eq rfl rfl rfl ?_; refine forVals_nil (ORg.plain (OR.lookupH (hC _ hJ).2 rfl rfl ?_)); exact ⟨hJ, rfl, rfl⟩) ?_
      refine OwedW.other (F := MF.eq _) rfl (by intro J hC w hJ; refine forVals_eq rfl rfl rfl ?_; refine forVals_nil (ORg.plain (OR.add rfl rfl ?_)); exact ⟨hJ, rfl, rfl⟩) ?_
      refine OwedW.writer (F := MF.eq (.tuple #[.int .u64 (k : Int), .int .i64 0])) rfl ?_ ?_
      · intro w hJ; refine forVals_eq rfl rfl rfl ?_; refine forVals_eq rfl rfl rfl ?_; 
        refine forVals_nil (ORg.plain (OR.entryG hJ hG rfl rfl ?_))
        intro w hs
        exact ⟨hs, rfl, rfl⟩
      refine OwedW.other (F := MF.eq _) rfl (by intro J hC w hJ; refine forVals_eq rfl rfl rfl ?_; refine forVals_nil (ORg.plain (OR.extract rfl rfl ?_)); exact ⟨hJ, rfl, rfl⟩) ?_
      refine forAllVals_eq rfl ?_
      refine forAllVals_eq rfl ?_
      refine forAllVals_eq rfl ?_
      refine forAllVals_eq rfl ?_
      refine forAllVals_eq rfl ?_
      refine forAllVals_eq rfl ?_
      refine forAllVals_eq rfl ?_
      refine forAllVals_eq rfl ?_
      refine forAllVals_eq rfl ?_
      refine forAllVals_eq rfl ?_
      refine forAllVals_eq rfl ?_
      refine forAllVals_nil ⟨_, rfl, ?_⟩; (try clear hs); intro w hJ
      have hs := hJ
      refine WO.stepN (OR.entryStore (i := 0) (b := 0) hs rfl rfl rfl (find0 k) ?_)
      clear hs; intro w hs
      refine WO.done (WX.seq (WC.seq (WC.region (WO.step rfl (OR.assign rfl (WO.done (WX.seq ?_)))))))
      refine WC.ret ?_
      refine WX.ret1 rfl rfl ?_
      refine ⟨_, _, _, rfl, (hs.drop 2).drop 1, by simp [dropAt], by rw [mgotE, if_pos hlt, if_pos heq], _, rfl, ?_⟩
      rw [mgotK, if_pos ⟨hlt, heq⟩]
      refine .inr ?_
      rw [show IntKind.u64.wrap ((k : Int) + 1) = ((k + 1 : Nat) : Int) from IntWalk.u64_in _ (by omega)]
      rfl
    · rw [decide_eq_false heq]
      refine WO.step rfl (OR.not rfl (WO.step rfl (OR.assign rfl (WO.done (WX.seq ?_)))))
      refine WC.yes rfl rfl ?_
      refine WC.seq (WC.region (WO.step rfl (OR.assign rfl (WO.done (WX.seq (WC.ret (WX.block_ret ?_)))))))
      refine WX.seq_ret ?_
      refine WX.ret1 rfl rfl ?_
      refine ⟨_, _, _, rfl, (hs.drop 2).drop 1, by simp [dropAt], by rw [mgotE, if_pos hlt, if_neg heq], _, rfl, ?_⟩
      rw [mgotK, if_neg (fun h => heq h.2)]
      exact hG
  · have hE : nextE x k 2 = 23 := by rw [nextE, if_pos rfl, if_neg hlt]
    rw [hE]
    refine WC.yes rfl (decide_eq_true (by decide)) ?_
    refine WC.seq (WC.region (WO.step rfl (OR.move rfl (WO.step rfl (OR.assign rfl (WO.done (WX.seq ?_)))))))
    refine WC.ret (WX.block_ret (WX.seq_ret ?_))
    refine WX.ret1 rfl rfl ?_
    refine ⟨_, _, _, rfl, (hs.drop 2).drop 1, by simp [dropAt], by rw [mgotE, if_neg hlt], _, rfl, ?_⟩
    rw [mgotK, if_neg (fun h => hlt h.1)]
    exact hG
set_option maxRecDepth 20000 in
set_option maxHeartbeats 2000000 in
theorem mcount_ok (mb pb gb k : Nat) (vf : Value) (om : Obj) (H0 : Hp) (w0 : World) (hs : HS [] H0 w0 H0 [(gb, om, false), (mb, modObj vf pb gb, false)] w0) (hG : GotO om k) :
    Calls Try.prog 136 #[ptr mb, .int .i64 2, .int .i64 0] w0 (Pure H0 w0 fun v _ => v = .int .u64 (k : Int)) := by
  have hle := Hp.le.refl H0
  refine Calls.enter (args := [ptr mb, .int .i64 2, .int .i64 0]) Try.func136 rfl Try.ntmps136 rfl ?_
  refine WC.seq (WC.region (WO.step rfl (OR.assign rfl (WO.done (WX.seq (WC.seq (WC.seq ?_)))))))
  refine WC.region (WO.step rfl (OR.move rfl ?_))
  refine WO.step rfl (OR.call hs body170 rfl rfl (mnone_ok mb pb gb _ _ _ hs.toSub (hs.blk (i := 1) rfl) (hs.nh (i := 1) rfl)) ?_)
  clear hs; rintro _ H w hs hle1 rfl; replace hle := hle.trans hle1; (try replace hlb := hlb.trans hle1)
  refine WO.done (WX.seq ?_)
  refine WC.no rfl rfl ?_
  refine WC.skip (WX.seq (WC.seq (WC.region (WO.step rfl (OR.move rfl (WO.step rfl (OR.nilCheck rfl ?_)))))))
  refine WO.step rfl (OR.fieldAddr FA185_2 rfl (WO.step rfl (OR.load T180 rfl rfl (hs.cellM (i := 1) rfl rfl) (WO.step rfl (OR.move rfl (WO.step rfl (OR.move rfl ?_)))))))
  refine WO.step rfl (OR.buildAll T228 rfl rfl PL228 rfl rfl ?_)
  refine WO.step rfl (OR.lookupH ⟨_, hs.blk (i := 0) rfl, hG⟩ rfl rfl ?_)
  refine WO.step rfl (OR.assign rfl (WO.done (WX.seq (WC.ret ?_))))
  refine WX.ret1 rfl rfl ?_
  exact .mk ((hs.drop 1).drop 0) rfl
end Go.Bw
