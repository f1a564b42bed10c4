/- The document's own basis, walked: Combine, Same; the law's Own. -/
import Derived.Test.YtbgdgmilcojlbaaRefI
import Derived.Test.YtbgdgmilcojlbaaFresh
namespace Go.Bw
set_option linter.unusedVariables false
set_option linter.unusedSimpArgs false
open Go.Proofs

section
variable {f : Nat → Option RowD} {g s rb gi gr : Nat} {ci cr : Array Value}
set_option maxRecDepth 20000 in
set_option maxHeartbeats 2000000 in
theorem refCombine_ok (vc : Value) (c : List UInt8) (H0 : Hp) (w0 : World) (h0 : Sub H0 w0) (ha : RefAt H0 w0 rb gi gr g s ci cr) (hc : RefC H0 g f ci cr) (hL : Leads g s f) (hg : g ≤ 255) (hsm : s ≤ 65535) (hv : Bytes H0 vc c) :
    Calls Try.prog 42 #[ptr rb, vc] w0 (Pure H0 w0 fun v H' => ∃ r, v = .tuple #[r, .int .i64 (if c.length = (upto f g).length then 0 else 21)] ∧ RowV H' r (if c.length = (upto f g).length then combR g s (upto f g) c else ([], []))) := by
  have hs := ha.start h0
  have hle := Hp.le.refl H0
  obtain ⟨bc, cc, rfl⟩ := hv.form
  have hul : (upto f g).length ≤ g := by
    have := List.length_filterMap_le f (List.range g)
    simpa [upto] using this
  have hrs : ∀ x ∈ upto f g, RowGS g s x := fun x hx => by
    obtain ⟨i, _, hi⟩ := mem_upto.1 hx
    exact (hL i x hi).2.2
  refine Calls.enter (args := [ptr rb, .slice bc c.length cc]) Try.func42 rfl Try.ntmps42 rfl ?_
  refine WC.seq (WC.region (WO.step rfl (OR.alloc hs T35 ?_)))
  clear hs; intro g1 w hg1 hs
  refine WO.step rfl (OR.assign rfl (WO.done (WX.seq (WC.seq (WC.region (WO.step rfl (OR.move rfl ?_)))))))
  refine WO.step rfl (OR.call hs body47 rfl rfl (refRows_ok (f := f) _ _ hs.toSub (RefAt.of hs (i := 1) (j := 2) (k := 3) rfl rfl rfl (by omega) (by omega) (by omega)) (hc.mono hle) hg) ?_)
  clear hs; rintro _ H w hs hle1 hrw; replace hle := hle.trans hle1; (try replace hlb := hlb.trans hle1)
  generalize upto f g = rows at *
  obtain ⟨br, cr', rfl⟩ := hrw.form
  refine WO.step rfl (OR.assign rfl (WO.done (WX.seq (WC.seq (WC.seq (WC.region (WO.step rfl ?_)))))))
  refine OR.move rfl (WO.step rfl (OR.lenSlice T23.und rfl (WO.step rfl (OR.move rfl (WO.step rfl (OR.lenSlice T26.und rfl (WO.step rfl ?_)))))))
  refine OR.neq rfl rfl (WO.done (WX.seq ?_))
  refine WC.condD rfl (fun hne => ?_) (fun hne => ?_)
  · refine WC.seq (WC.region (WO.step rfl (OR.buildZero T35 PL35 (WO.stepN (OR.storeAll hs T35 rfl rfl rfl rfl rfl ?_)))))
    clear hs; intro w hs
    refine WO.step rfl (OR.assign rfl (WO.done (WX.seq (WC.ret (WX.seq_ret ?_)))))
    refine WX.retCT T35 rfl rfl rfl rfl rfl (hs.blk (i := 0) rfl) ?_
    have : ¬ c.length = rows.length := by omega
    refine .mk hs ⟨_, by rw [if_neg this], ?_⟩
    rw [if_neg this]
    exact ⟨_, _, rfl, Bytes.nil _, Bytes.nil _⟩
  · have heq : c.length = rows.length := by omega
    obtain ⟨HB, hHB⟩ : ∃ X, X = H := ⟨_, rfl⟩
    subst hHB
    have hlb := Hp.le.refl HB
    refine WC.skip (WX.seq (WC.seq ?_))
    refine WC.draw 12 mixed hs (by kernel_rfl) ?_
    refine ⟨MF.eq _, by intro Mx H w hle hs; refine forVals_nil (ORg.plain (OR.move rfl ?_)); exact ⟨_, [], Hp.le.refl _, hs, rfl, rfl⟩, ?_⟩
    refine ⟨MF.eq _, by intro Mx H w hle hs; refine forVals_eq rfl rfl rfl ?_; refine forVals_nil (ORg.plain (OR.nilCheck rfl ?_)); exact ⟨_, [], Hp.le.refl _, hs, rfl, rfl⟩, ?_⟩
    refine ⟨MF.eq _, by intro Mx H w hle hs; refine forVals_eq rfl rfl rfl ?_; refine forVals_nil (ORg.plain (OR.fieldAddr FA165_0 rfl ?_)); exact ⟨_, [], Hp.le.refl _, hs, rfl, rfl⟩, ?_⟩
    refine ⟨MF.eq _, by intro Mx H w hle hs; refine forVals_eq rfl rfl rfl ?_; refine forVals_nil (ORg.plain (OR.load T3 rfl rfl (hs.right.cellM (i := 1) rfl rfl) ?_)); exact ⟨_, [], Hp.le.refl _, hs, rfl, rfl⟩, ?_⟩
    refine ⟨MF.bytes (List.replicate g 0), ?_, ?_⟩
    · intro Mx H w hle2 hs; (try replace hle := hle.trans hle2); (try replace hlb := hlb.trans hle2); refine forVals_eq rfl rfl rfl ?_
      refine forVals_nil (ORg.plain (OR.make1 (m := g) hs T23.und T5 rfl rfl rfl (by omega) (by omega) ?_))
      intro z1 w hz1 hs
      obtain ⟨H, hle1, hp, hs⟩ := hs.pub1 hz1
      exact ⟨_, [], hle1, hs, (by have := Bytes.block (l := List.replicate g 0) (cap := g) hp (by simp) (by simp); rwa [List.length_replicate] at this), rfl⟩
    refine ⟨MF.eq _, by intro Mx H w hle hs; refine forVals_nil (ORg.plain (OR.move rfl ?_)); exact ⟨_, [], Hp.le.refl _, hs, rfl, rfl⟩, ?_⟩
    refine ⟨MF.eq _, by intro Mx H w hle hs; refine forVals_eq rfl rfl rfl ?_; refine forVals_nil (ORg.plain (OR.nilCheck rfl ?_)); exact ⟨_, [], Hp.le.refl _, hs, rfl, rfl⟩, ?_⟩
    refine ⟨MF.eq _, by intro Mx H w hle hs; refine forVals_eq rfl rfl rfl ?_; refine forVals_nil (ORg.plain (OR.fieldAddr FA165_1 rfl ?_)); exact ⟨_, [], Hp.le.refl _, hs, rfl, rfl⟩, ?_⟩
    refine ⟨MF.eq _, by intro Mx H w hle hs; refine forVals_eq rfl rfl rfl ?_; refine forVals_nil (ORg.plain (OR.load T3 rfl rfl (hs.right.cellM (i := 1) rfl rfl) ?_)); exact ⟨_, [], Hp.le.refl _, hs, rfl, rfl⟩, ?_⟩
    refine ⟨MF.bytes (List.replicate s 0), ?_, ?_⟩
    · intro Mx H w hle2 hs; (try replace hle := hle.trans hle2); (try replace hlb := hlb.trans hle2); refine forVals_eq rfl rfl rfl ?_
      refine forVals_nil (ORg.plain (OR.make1 (m := s) hs T23.und T5 rfl rfl rfl (by omega) (by omega) ?_))
      intro z1 w hz1 hs
      obtain ⟨H, hle1, hp, hs⟩ := hs.pub1 hz1
      exact ⟨_, [], hle1, hs, (by have := Bytes.block (l := List.replicate s 0) (cap := s) hp (by simp) (by simp); rwa [List.length_replicate] at this), rfl⟩
    refine ⟨MF.row (List.replicate g 0, List.replicate s 0), ?_, ?_⟩
    · intro Mx H w hle2 hs; (try replace hle := hle.trans hle2); (try replace hlb := hlb.trans hle2); refine forVals_of rfl rfl rfl ?_; intro v4 h4; refine forVals_of rfl rfl rfl ?_; intro v9 h9
      obtain ⟨_, _, rfl⟩ := h4.form
      obtain ⟨_, _, rfl⟩ := h9.form
      refine forVals_nil (ORg.plain (OR.buildAll T35 rfl rfl PL35 rfl rfl ?_))
      exact ⟨_, [], Hp.le.refl _, hs, ⟨_, _, rfl, h4, h9⟩, rfl⟩
    refine ⟨MF.ptr w0.heap.size _, by intro Mx H w hle hs; refine forVals_nil (ORg.plain (OR.alloc hs T35 ?_)); intro g w hg hs; exact ⟨_, [_], Hp.le.refl _, hs, g, hg, rfl, rfl⟩, ?_⟩
    intro H w hle2; (try replace hle := hle.trans hle2); (try replace hlb := hlb.trans hle2)
    refine forAllVals_eq rfl ?_
    refine forAllVals_eq rfl ?_
    refine forAllVals_eq rfl ?_
    refine forAllVals_eq rfl ?_
    refine forAllVals_of rfl ?_; intro v4 h4
    refine forAllVals_eq rfl ?_
    refine forAllVals_eq rfl ?_
    refine forAllVals_eq rfl ?_
    refine forAllVals_eq rfl ?_
    refine forAllVals_of rfl ?_; intro v9 h9
    refine forAllVals_of rfl ?_; intro v10 h10
    refine forAllVals_ptr rfl ?_; intro g2 hg2
    refine forAllVals_nil ?_; (try clear hs); intro hs
    obtain ⟨z1, z2, rfl, hz1, hz2⟩ := h10
    obtain ⟨b7, c7, rfl⟩ := hz1.form
    obtain ⟨b8, c8, rfl⟩ := hz2.form
    refine WO.stepN (OR.storeAll hs T35 rfl rfl rfl rfl rfl ?_)
    clear hs; intro w hs
    refine WO.done (WX.seq (WC.seq (WC.seq (WC.region (WO.step rfl (OR.assign rfl (WO.done ?_)))))))
    refine WX.seq (WC.block ?_)
    refine WC.loop (ι := Nat × Value × Value) (fun ix => [(1, .slice bc c.length cc), (4, ptr g1), (6, .slice br rows.length cr'), (7, ptr g2), (8, .int .i64 (ix.1 : Int))]) (fun ix w => (ix.1 ≤ rows.length ∧ ∃ H, Hp.le H0 H ∧ Hp.le HB H ∧ Bytes H ix.2.1 (combR g s (rows.take ix.1) (c.take ix.1)).1 ∧ Bytes H ix.2.2 (combR g s (rows.take ix.1) (c.take ix.1)).2 ∧ HS [] H0 w0 H [(g2, .cells #[ix.2.1, ix.2.2] 35, true), (g1, .cells #[.slice none 0 0, .slice none 0 0] 35, true)] w)) (fun ix => rows.length - ix.1) (0, .slice b7 (List.replicate g (0 : UInt8)).length c7, .slice b8 (List.replicate s (0 : UInt8)).length c8) ⟨rfl, rfl, rfl, rfl, rfl,  trivial⟩ ?_ (fun ix w hW => ?_)
    · have e0 : combR g s (rows.take 0) (c.take 0) = (List.replicate g 0, List.replicate s 0) := by simp [combR]
      exact ⟨by omega, H, hle, hlb, by rw [e0]; exact hz1, by rw [e0]; exact hz2, ((hs.drop 2).drop 2).drop 2⟩
    clear hs hle hlb
    obtain ⟨k, qc, qp⟩ := ix
    obtain ⟨hk, H, hle, hlb, hqc, hqp, hs⟩ := hW
    simp only at hk hqc hqp hs
    refine WC.seq (WC.seq (WC.region (WO.step rfl (OR.move rfl (WO.step rfl (OR.move rfl (WO.step rfl ?_)))))))
    refine OR.lenSlice T26.und rfl (WO.step rfl (OR.lss rfl rfl (WO.done (WX.seq ?_))))
    refine WC.condD rfl (fun hlt => ?_) (fun hlt => ?_)
    · have hk' : k < rows.length := by omega
      have hkc : k < c.length := by omega
      obtain ⟨xb, xo, rfl, hcr⟩ := hrw.pos (by omega)
      obtain ⟨yb, yo, rfl, hcc⟩ := hv.pos (by omega)
      obtain ⟨ec, ep, hcc2, hec, hep⟩ := hcr k hk'
      have hq := combR_gs g s (rows.take k) (c.take k) (fun x hx => hrs x (List.mem_of_mem_take hx))
      have hxg := hrs rows[k] (List.getElem_mem _)
      have hst := combR_step g s rows c k hk' hkc
      obtain ⟨e1, e2, rfl⟩ := hec.form
      obtain ⟨e3, e4, rfl⟩ := hep.form
      obtain ⟨b9, c9, rfl⟩ := hqc.form
      obtain ⟨b10, c10, rfl⟩ := hqp.form
      refine WC.skip (WX.seq (WC.seq (WC.block ?_)))
      refine WC.draw 10 mixed hs (by kernel_rfl) ?_
      refine ⟨MF.eq _, by intro Mx H w hle hs; refine forVals_nil (ORg.plain (OR.loadAll T35 rfl rfl (hs.right.blk (i := 0) rfl) rfl ?_)); exact ⟨_, [], Hp.le.refl _, hs, rfl, rfl⟩, ?_⟩
      refine ⟨MF.eq _, by intro Mx H w hle hs; refine forVals_nil (ORg.plain (OR.move rfl ?_)); exact ⟨_, [], Hp.le.refl _, hs, rfl, rfl⟩, ?_⟩
      refine ⟨MF.eq _, by intro Mx H w hle hs; refine forVals_nil (ORg.plain (OR.move rfl ?_)); exact ⟨_, [], Hp.le.refl _, hs, rfl, rfl⟩, ?_⟩
      refine ⟨MF.eq (.pointer (some ⟨xb, xo + k * 2, none⟩)), ?_, ?_⟩
      · intro Mx H w hle2 hs; (try replace hle := hle.trans hle2); (try replace hlb := hlb.trans hle2); refine forVals_eq rfl rfl rfl ?_; refine forVals_eq rfl rfl rfl ?_
        refine forVals_nil (ORg.plain (OR.idxN k T26.und T35 rfl rfl rfl hk' ?_))
        exact ⟨_, [], Hp.le.refl _, hs, rfl, rfl⟩
      refine ⟨MF.eq (.agg #[.slice e1 rows[k].1.length e2, .slice e3 rows[k].2.length e4]), ?_, ?_⟩
      · intro Mx H w hle2 hs; (try replace hle := hle.trans hle2); (try replace hlb := hlb.trans hle2); refine forVals_eq rfl rfl rfl ?_
        refine forVals_nil (ORg.plain (OR.loadN (cs := [_, _]) T35 rfl rfl rfl (fun j u hj => hs.cell (hcell.mono hlb (hcc2 j u hj))) ?_))
        exact ⟨_, [], Hp.le.refl _, hs, rfl, rfl⟩
      refine ⟨MF.eq _, by intro Mx H w hle hs; refine forVals_nil (ORg.plain (OR.move rfl ?_)); exact ⟨_, [], Hp.le.refl _, hs, rfl, rfl⟩, ?_⟩
      refine ⟨MF.eq _, by intro Mx H w hle hs; refine forVals_nil (ORg.plain (OR.move rfl ?_)); exact ⟨_, [], Hp.le.refl _, hs, rfl, rfl⟩, ?_⟩
      refine ⟨MF.eq (.pointer (some ⟨yb, yo + k, none⟩)), ?_, ?_⟩
      · intro Mx H w hle2 hs; (try replace hle := hle.trans hle2); (try replace hlb := hlb.trans hle2); refine forVals_eq rfl rfl rfl ?_; refine forVals_eq rfl rfl rfl ?_
        refine forVals_nil (ORg.plain (OR.idx k T23.und T5 rfl rfl rfl hkc ?_))
        exact ⟨_, [], Hp.le.refl _, hs, rfl, rfl⟩
      refine ⟨MF.eq (B c[k]), ?_, ?_⟩
      · intro Mx H w hle2 hs; (try replace hle := hle.trans hle2); (try replace hlb := hlb.trans hle2); refine forVals_eq rfl rfl rfl ?_
        refine forVals_nil (ORg.plain (OR.load T5 rfl rfl (hs.cell (hcell.mono hle (hcc k hkc))) ?_))
        exact ⟨_, [], Hp.le.refl _, hs, rfl, rfl⟩
      refine ⟨MF.row (combR g s (rows.take (k + 1)) (c.take (k + 1))), ?_, ?_⟩
      · intro Mx H w hle2 hs; (try replace hle := hle.trans hle2); (try replace hlb := hlb.trans hle2); refine forVals_eq rfl rfl rfl ?_; refine forVals_eq rfl rfl rfl ?_; refine forVals_eq rfl rfl rfl ?_
        refine forVals_nil (ORg.plain (OR.call hs body115 rfl rfl (refPlusR_ok (combR g s (rows.take k) (c.take k)) rows[k] c[k] _ _ _ _ _ _ hs.toSub (hqc.mono hle2) (hqp.mono hle2) (hec.mono hlb) (hep.mono hlb) (by rw [hq.1]; omega) (by rw [hq.2]; omega) (hq.1.trans hxg.1.symm) (hq.2.trans hxg.2.symm)) ?_))
        clear hs; rintro _ H w hs hle1 hr
        exact ⟨_, [], hle1, hs, (by rw [hst]; exact hr), rfl⟩
      intro H w hle2; (try replace hle := hle.trans hle2); (try replace hlb := hlb.trans hle2)
      refine forAllVals_eq rfl ?_
      refine forAllVals_eq rfl ?_
      refine forAllVals_eq rfl ?_
      refine forAllVals_eq rfl ?_
      refine forAllVals_eq rfl ?_
      refine forAllVals_eq rfl ?_
      refine forAllVals_eq rfl ?_
      refine forAllVals_eq rfl ?_
      refine forAllVals_eq rfl ?_
      refine forAllVals_of rfl ?_; intro v9 h9
      refine forAllVals_nil ?_; (try clear hs); intro hs
      obtain ⟨nc, np, rfl, hnc, hnp⟩ := h9
      obtain ⟨b6, c6, rfl⟩ := hnc.form
      obtain ⟨b7, c7, rfl⟩ := hnp.form
      refine WO.stepN (OR.storeAll hs T35 rfl rfl rfl rfl rfl ?_)
      clear hs; intro w hs
      refine WO.done (WX.block (WX.seq (WC.region (WO.step rfl (OR.move rfl (WO.step rfl (OR.addI rfl rfl (by omega) (by omega) ?_)))))))
      refine WO.step rfl (OR.assign rfl (WO.done ?_))
      refine WX.again ((k + 1, .slice b6 (combR g s (rows.take (k + 1)) (c.take (k + 1))).1.length c6, .slice b7 (combR g s (rows.take (k + 1)) (c.take (k + 1))).2.length c7)) ⟨rfl, rfl, rfl, rfl, rfl,  trivial⟩ ?_ ?_
      · exact ⟨hk', H, hle, hlb, hnc, hnp, hs⟩
      · simp only; omega
    · have e : k = rows.length := by omega
      subst e
      rw [List.take_of_length_le (Nat.le_refl _), List.take_of_length_le (by omega)] at hqc hqp
      obtain ⟨b9, c9, rfl⟩ := hqc.form
      obtain ⟨b10, c10, rfl⟩ := hqp.form
      refine WC.exit (WX.seq_exit (WX.loop_exit (WX.block_hit (WX.seq (WC.seq (WC.region (WO.step rfl ?_)))))))
      refine OR.loadAll T35 rfl rfl (hs.blk (i := 0) rfl) rfl ?_
      replace hs := hs.front (i := 1) rfl
      refine WO.stepN (OR.storeAll hs T35 rfl rfl rfl rfl rfl ?_)
      clear hs; intro w hs
      refine WO.step rfl (OR.assign rfl (WO.done (WX.seq (WC.ret ?_))))
      refine WX.retCT T35 rfl rfl rfl rfl rfl (hs.blk (i := 0) rfl) ?_
      refine .mk hs ⟨_, by rw [if_pos heq], ?_⟩
      rw [if_pos heq]
      exact ⟨_, _, rfl, hqc, hqp⟩
end

set_option maxRecDepth 20000 in
set_option maxHeartbeats 2000000 in
/-- Are these the same rows? -/
theorem refSame_ok (va vb : Value) (A : List RowD) (H0 : Hp) (w0 : World) (h0 : Sub H0 w0) (ha : Rws H0 va A) (hb : Rws H0 vb A) (hl : A.length ≤ 1000000) :
    Calls Try.prog 46 #[va, vb] w0 (Pure H0 w0 fun v _ => v = .bool true) := by
  have hs := HS.init h0
  have hle := Hp.le.refl H0
  have ha0 := ha
  have hb0 := hb
  obtain ⟨b1, c1, rfl⟩ := ha0.form
  obtain ⟨b2, c2, rfl⟩ := hb0.form
  refine Calls.enter (args := [.slice b1 A.length c1, .slice b2 A.length c2]) Try.func46 rfl Try.ntmps46 rfl ?_
  refine WC.seq (WC.region (WO.step rfl (OR.assign rfl (WO.done (WX.seq (WC.seq (WC.seq ?_)))))))
  refine WC.region (WO.step rfl (OR.move rfl (WO.step rfl (OR.lenSlice T26.und rfl (WO.step rfl (OR.move rfl (WO.step rfl ?_)))))))
  refine OR.lenSlice T26.und rfl (WO.step rfl (OR.neq rfl rfl (WO.done (WX.seq ?_))))
  refine WC.no rfl (decide_eq_false (fun h => h rfl : ¬ ((A.length : Int) ≠ (A.length : Int)))) ?_
  refine WC.skip (WX.seq (WC.seq (WC.seq (WC.region (WO.step rfl (OR.assign rfl (WO.done ?_)))))))
  refine WX.seq (WC.block ?_)
  refine WC.loop (ι := Nat) (fun k => [(0, .slice b1 A.length c1), (1, .slice b2 A.length c2), (5, .int .i64 (k : Int))]) (fun k w => (k ≤ A.length ∧ ∃ H, Hp.le H0 H ∧ HS [] H0 w0 H [] w)) (fun k => A.length - k) 0 ⟨rfl, rfl, rfl,  trivial⟩ ?_ (fun k w hW => ?_)
  · exact ⟨by omega, H0, hle, hs⟩
  clear hs hle
  obtain ⟨hk, H, hle, hs⟩ := hW
  refine WC.seq (WC.seq (WC.region (WO.step rfl (OR.move rfl (WO.step rfl (OR.move rfl (WO.step rfl ?_)))))))
  refine OR.lenSlice T26.und rfl (WO.step rfl (OR.lss rfl rfl (WO.done (WX.seq ?_))))
  refine WC.condD rfl (fun hlt => ?_) (fun hlt => ?_)
  · have hk' : k < A.length := by omega
    obtain ⟨xb, xo, rfl, hcx⟩ := ha.pos (by omega)
    obtain ⟨yb, yo, rfl, hcy⟩ := hb.pos (by omega)
    obtain ⟨ec, ep, hc1, hec, hep⟩ := hcx k hk'
    obtain ⟨fc, fp, hc2, hfc, hfp⟩ := hcy k hk'
    have hl0 := hcell.mono hle (hc1 0 _ rfl)
    have hl1 := hcell.mono hle (hc1 1 _ rfl)
    have hr0 := hcell.mono hle (hc2 0 _ rfl)
    have hr1 := hcell.mono hle (hc2 1 _ rfl)
    refine WC.skip (WX.seq (WC.seq (WC.block (WC.seq ?_))))
    refine WC.draw 28 mixed hs (by kernel_rfl) ?_
    refine ⟨MF.eq _, by intro Mx H w hle hs; refine forVals_nil (ORg.plain (OR.move rfl ?_)); exact ⟨_, [], Hp.le.refl _, hs, rfl, rfl⟩, ?_⟩
    refine ⟨MF.eq _, by intro Mx H w hle hs; refine forVals_nil (ORg.plain (OR.move rfl ?_)); exact ⟨_, [], Hp.le.refl _, hs, rfl, rfl⟩, ?_⟩
    refine ⟨MF.eq (.pointer (some ⟨xb, xo + k * 2, none⟩)), ?_, ?_⟩
    · intro Mx H w hle2 hs; (try replace hle := hle.trans hle2); (try replace hlb := hlb.trans hle2); refine forVals_eq rfl rfl rfl ?_; refine forVals_eq rfl rfl rfl ?_
      refine forVals_nil (ORg.plain (OR.idxN k T26.und T35 rfl rfl rfl hk' ?_))
      exact ⟨_, [], Hp.le.refl _, hs, rfl, rfl⟩
    refine ⟨MF.eq _, by intro Mx H w hle hs; refine forVals_eq rfl rfl rfl ?_; refine forVals_nil (ORg.plain (OR.fieldAddr FA35_0 rfl ?_)); exact ⟨_, [], Hp.le.refl _, hs, rfl, rfl⟩, ?_⟩
    refine ⟨MF.eq ec, ?_, ?_⟩
    · intro Mx H w hle2 hs; (try replace hle := hle.trans hle2); (try replace hlb := hlb.trans hle2); refine forVals_eq rfl rfl rfl ?_
      refine forVals_nil (ORg.plain (OR.load T23 rfl rfl (hs.cell (hcell.mono hle2 hl0)) ?_))
      exact ⟨_, [], Hp.le.refl _, hs, rfl, rfl⟩
    refine ⟨MF.eq (.string (str A[k].1)), ?_, ?_⟩
    · intro Mx H w hle2 hs; (try replace hle := hle.trans hle2); (try replace hlb := hlb.trans hle2); refine forVals_eq rfl rfl rfl ?_
      refine forVals_nil (ORg.plain (OR.toStr hs T23.und T9.und T5.und rfl (hec.mono hle) ?_))
      exact ⟨_, [], Hp.le.refl _, hs, rfl, rfl⟩
    refine ⟨MF.eq _, by intro Mx H w hle hs; refine forVals_nil (ORg.plain (OR.move rfl ?_)); exact ⟨_, [], Hp.le.refl _, hs, rfl, rfl⟩, ?_⟩
    refine ⟨MF.eq _, by intro Mx H w hle hs; refine forVals_nil (ORg.plain (OR.move rfl ?_)); exact ⟨_, [], Hp.le.refl _, hs, rfl, rfl⟩, ?_⟩
    refine ⟨MF.eq (.pointer (some ⟨yb, yo + k * 2, none⟩)), ?_, ?_⟩
    · intro Mx H w hle2 hs; (try replace hle := hle.trans hle2); (try replace hlb := hlb.trans hle2); refine forVals_eq rfl rfl rfl ?_; refine forVals_eq rfl rfl rfl ?_
      refine forVals_nil (ORg.plain (OR.idxN k T26.und T35 rfl rfl rfl hk' ?_))
      exact ⟨_, [], Hp.le.refl _, hs, rfl, rfl⟩
    refine ⟨MF.eq _, by intro Mx H w hle hs; refine forVals_eq rfl rfl rfl ?_; refine forVals_nil (ORg.plain (OR.fieldAddr FA35_0 rfl ?_)); exact ⟨_, [], Hp.le.refl _, hs, rfl, rfl⟩, ?_⟩
    refine ⟨MF.eq fc, ?_, ?_⟩
    · intro Mx H w hle2 hs; (try replace hle := hle.trans hle2); (try replace hlb := hlb.trans hle2); refine forVals_eq rfl rfl rfl ?_
      refine forVals_nil (ORg.plain (OR.load T23 rfl rfl (hs.cell (hcell.mono hle2 hr0)) ?_))
      exact ⟨_, [], Hp.le.refl _, hs, rfl, rfl⟩
    refine ⟨MF.eq (.string (str A[k].1)), ?_, ?_⟩
    · intro Mx H w hle2 hs; (try replace hle := hle.trans hle2); (try replace hlb := hlb.trans hle2); refine forVals_eq rfl rfl rfl ?_
      refine forVals_nil (ORg.plain (OR.toStr hs T23.und T9.und T5.und rfl (hfc.mono hle) ?_))
      exact ⟨_, [], Hp.le.refl _, hs, rfl, rfl⟩
    refine ⟨MF.eq _, by intro Mx H w hle hs; refine forVals_eq rfl rfl rfl ?_; refine forVals_eq rfl rfl rfl ?_; refine forVals_nil (ORg.plain (OR.neqStr rfl rfl ?_)); exact ⟨_, [], Hp.le.refl _, hs, rfl, rfl⟩, ?_⟩
    refine ⟨MF.eq _, by intro Mx H w hle hs; refine forVals_eq rfl rfl rfl ?_; refine forVals_nil (ORg.plain (OR.move rfl ?_)); exact ⟨_, [], Hp.le.refl _, hs, rfl, rfl⟩, ?_⟩
    refine ⟨MF.eq _, by intro Mx H w hle hs; refine forVals_eq rfl rfl rfl ?_; refine forVals_nil (ORg.yes rfl (decide_eq_false (fun h => h rfl : ¬ (A[k].1 ≠ A[k].1))) rfl (OR.move rfl ?_)); exact ⟨_, [], Hp.le.refl _, hs, rfl, rfl⟩, ?_⟩
    refine ⟨MF.eq _, by intro Mx H w hle hs; refine forVals_eq rfl rfl rfl ?_; refine forVals_nil (ORg.yes rfl (decide_eq_false (fun h => h rfl : ¬ (A[k].1 ≠ A[k].1))) rfl (OR.move rfl ?_)); exact ⟨_, [], Hp.le.refl _, hs, rfl, rfl⟩, ?_⟩
    refine ⟨MF.eq (.pointer (some ⟨xb, xo + k * 2, none⟩)), ?_, ?_⟩
    · intro Mx H w hle2 hs; (try replace hle := hle.trans hle2); (try replace hlb := hlb.trans hle2); refine forVals_eq rfl rfl rfl ?_; refine forVals_eq rfl rfl rfl ?_; refine forVals_eq rfl rfl rfl ?_
      refine forVals_nil (ORg.yes rfl (decide_eq_false (fun h => h rfl : ¬ (A[k].1 ≠ A[k].1))) rfl (OR.idxN k T26.und T35 rfl rfl rfl hk' ?_))
      exact ⟨_, [], Hp.le.refl _, hs, rfl, rfl⟩
    refine ⟨MF.eq _, by intro Mx H w hle hs; refine forVals_eq rfl rfl rfl ?_; refine forVals_eq rfl rfl rfl ?_; refine forVals_nil (ORg.yes rfl (decide_eq_false (fun h => h rfl : ¬ (A[k].1 ≠ A[k].1))) rfl (OR.fieldAddr FA35_1 rfl ?_)); exact ⟨_, [], Hp.le.refl _, hs, rfl, rfl⟩, ?_⟩
    refine ⟨MF.eq ep, ?_, ?_⟩
    · intro Mx H w hle2 hs; (try replace hle := hle.trans hle2); (try replace hlb := hlb.trans hle2); refine forVals_eq rfl rfl rfl ?_; refine forVals_eq rfl rfl rfl ?_
      refine forVals_nil (ORg.yes rfl (decide_eq_false (fun h => h rfl : ¬ (A[k].1 ≠ A[k].1))) rfl (OR.load T23 rfl rfl (hs.cell (hcell.mono hle2 hl1)) ?_))
      exact ⟨_, [], Hp.le.refl _, hs, rfl, rfl⟩
    refine ⟨MF.eq (.string (str A[k].2)), ?_, ?_⟩
    · intro Mx H w hle2 hs; (try replace hle := hle.trans hle2); (try replace hlb := hlb.trans hle2); refine forVals_eq rfl rfl rfl ?_; refine forVals_eq rfl rfl rfl ?_
      refine forVals_nil (ORg.yes rfl (decide_eq_false (fun h => h rfl : ¬ (A[k].1 ≠ A[k].1))) rfl (OR.toStr hs T23.und T9.und T5.und rfl (hep.mono hle) ?_))
      exact ⟨_, [], Hp.le.refl _, hs, rfl, rfl⟩
    refine ⟨MF.eq _, by intro Mx H w hle hs; refine forVals_eq rfl rfl rfl ?_; refine forVals_nil (ORg.yes rfl (decide_eq_false (fun h => h rfl : ¬ (A[k].1 ≠ A[k].1))) rfl (OR.move rfl ?_)); exact ⟨_, [], Hp.le.refl _, hs, rfl, rfl⟩, ?_⟩
    refine ⟨MF.eq _, by intro Mx H w hle hs; refine forVals_eq rfl rfl rfl ?_; refine forVals_nil (ORg.yes rfl (decide_eq_false (fun h => h rfl : ¬ (A[k].1 ≠ A[k].1))) rfl (OR.move rfl ?_)); exact ⟨_, [], Hp.le.refl _, hs, rfl, rfl⟩, ?_⟩
    refine ⟨MF.eq (.pointer (some ⟨yb, yo + k * 2, none⟩)), ?_, ?_⟩
    · intro Mx H w hle2 hs; (try replace hle := hle.trans hle2); (try replace hlb := hlb.trans hle2); refine forVals_eq rfl rfl rfl ?_; refine forVals_eq rfl rfl rfl ?_; refine forVals_eq rfl rfl rfl ?_
      refine forVals_nil (ORg.yes rfl (decide_eq_false (fun h => h rfl : ¬ (A[k].1 ≠ A[k].1))) rfl (OR.idxN k T26.und T35 rfl rfl rfl hk' ?_))
      exact ⟨_, [], Hp.le.refl _, hs, rfl, rfl⟩
    refine ⟨MF.eq _, by intro Mx H w hle hs; refine forVals_eq rfl rfl rfl ?_; refine forVals_eq rfl rfl rfl ?_; refine forVals_nil (ORg.yes rfl (decide_eq_false (fun h => h rfl : ¬ (A[k].1 ≠ A[k].1))) rfl (OR.fieldAddr FA35_1 rfl ?_)); exact ⟨_, [], Hp.le.refl _, hs, rfl, rfl⟩, ?_⟩
    refine ⟨MF.eq fp, ?_, ?_⟩
    · intro Mx H w hle2 hs; (try replace hle := hle.trans hle2); (try replace hlb := hlb.trans hle2); refine forVals_eq rfl rfl rfl ?_; refine forVals_eq rfl rfl rfl ?_
      refine forVals_nil (ORg.yes rfl (decide_eq_false (fun h => h rfl : ¬ (A[k].1 ≠ A[k].1))) rfl (OR.load T23 rfl rfl (hs.cell (hcell.mono hle2 hr1)) ?_))
      exact ⟨_, [], Hp.le.refl _, hs, rfl, rfl⟩
    refine ⟨MF.eq (.string (str A[k].2)), ?_, ?_⟩
    · intro Mx H w hle2 hs; (try replace hle := hle.trans hle2); (try replace hlb := hlb.trans hle2); refine forVals_eq rfl rfl rfl ?_; refine forVals_eq rfl rfl rfl ?_
      refine forVals_nil (ORg.yes rfl (decide_eq_false (fun h => h rfl : ¬ (A[k].1 ≠ A[k].1))) rfl (OR.toStr hs T23.und T9.und T5.und rfl (hfp.mono hle) ?_))
      exact ⟨_, [], Hp.le.refl _, hs, rfl, rfl⟩
    refine ⟨MF.eq _, by intro Mx H w hle hs; refine forVals_eq rfl rfl rfl ?_; refine forVals_eq rfl rfl rfl ?_; refine forVals_eq rfl rfl rfl ?_; refine forVals_nil (ORg.yes rfl (decide_eq_false (fun h => h rfl : ¬ (A[k].1 ≠ A[k].1))) rfl (OR.neqStr rfl rfl ?_)); exact ⟨_, [], Hp.le.refl _, hs, rfl, rfl⟩, ?_⟩
    refine ⟨MF.eq _, by intro Mx H w hle hs; refine forVals_eq rfl rfl rfl ?_; refine forVals_eq rfl rfl rfl ?_; refine forVals_nil (ORg.plain (OR.pickF rfl (decide_eq_false (fun h => h rfl : ¬ (A[k].1 ≠ A[k].1))) rfl ?_)); exact ⟨_, [], Hp.le.refl _, hs, rfl, rfl⟩, ?_⟩
    intro H w hle2; (try replace hle := hle.trans hle2); (try replace hlb := hlb.trans hle2)
    refine forAllVals_eq rfl ?_
    refine forAllVals_eq rfl ?_
    refine forAllVals_eq rfl ?_
    refine forAllVals_eq rfl ?_
    refine forAllVals_eq rfl ?_
    refine forAllVals_eq rfl ?_
    refine forAllVals_eq rfl ?_
    refine forAllVals_eq rfl ?_
    refine forAllVals_eq rfl ?_
    refine forAllVals_eq rfl ?_
    refine forAllVals_eq rfl ?_
    refine forAllVals_eq rfl ?_
    refine forAllVals_eq rfl ?_
    refine forAllVals_eq rfl ?_
    refine forAllVals_eq rfl ?_
    refine forAllVals_eq rfl ?_
    refine forAllVals_eq rfl ?_
    refine forAllVals_eq rfl ?_
    refine forAllVals_eq rfl ?_
    refine forAllVals_eq rfl ?_
    refine forAllVals_eq rfl ?_
    refine forAllVals_eq rfl ?_
    refine forAllVals_eq rfl ?_
    refine forAllVals_eq rfl ?_
    refine forAllVals_eq rfl ?_
    refine forAllVals_eq rfl ?_
    refine forAllVals_eq rfl ?_
    refine forAllVals_eq rfl ?_
    refine forAllVals_nil ?_; (try clear hs); intro hs
    refine WO.done (WX.seq ?_)
    refine WC.no rfl (decide_eq_false (fun h => h rfl : ¬ (A[k].2 ≠ A[k].2))) ?_
    refine WC.skip (WX.block (WX.seq (WC.region (WO.step rfl (OR.move rfl (WO.step rfl (OR.addI rfl rfl (by omega) (by omega) ?_)))))))
    refine WO.step rfl (OR.assign rfl (WO.done ?_))
    refine WX.again (k + 1) ⟨rfl, rfl, rfl,  trivial⟩ ?_ ?_
    · exact ⟨hk', H, hle, hs⟩
    · omega
  · refine WC.exit (WX.seq_exit (WX.loop_exit (WX.block_hit (WX.seq (WC.seq (WC.region (WO.step rfl ?_)))))))
    refine OR.assign rfl (WO.done (WX.seq (WC.ret ?_)))
    refine WX.ret1 rfl rfl ?_
    exact .mk hs rfl
end Go.Bw
