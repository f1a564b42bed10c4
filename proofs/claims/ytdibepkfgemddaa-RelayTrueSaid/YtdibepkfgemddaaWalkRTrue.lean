/- RelayTrue, walked. -/
import Derived.Test.YtdibepkfgemddaaHops
import Derived.Test.YtdibepkfgemddaaReadV
namespace Go.Bw
set_option linter.unusedVariables false
set_option linter.unusedSimpArgs false
open Go.Proofs

def g5 (a : UInt8) : Nat := 1 + a.toNat % 5
theorem g5_le (a : UInt8) : 1 ≤ g5 a ∧ g5 a ≤ 5 := by have := Nat.mod_lt a.toNat (by omega : 0 < 5); unfold g5; omega
theorem mod5 (a : UInt8) : IntKind.i64.wrap ((a.toNat : Int).tmod 5) = ((a.toNat % 5 : Nat) : Int) := by
  have h1 := Nat.mod_lt a.toNat (by omega : 0 < 5)
  have e : (a.toNat : Int).tmod 5 = ((a.toNat % 5 : Nat) : Int) := rfl
  rw [e]
  exact IntWalk.i64_in _ (by omega)
set_option maxRecDepth 20000 in
set_option maxHeartbeats 2000000 in
theorem rtrue_ok (a c : UInt8) (vb vt vd : Value) (b : List UInt8) (tk ds : List (List UInt8)) (H0 : Hp) (w0 : World) (h0 : Sub H0 w0) (hb : Bytes H0 vb b) (ht : BytesL H0 vt tk) (hd : BytesL H0 vd ds) (hlt : ∀ r ∈ tk, r.length ≤ 9223372036854775807) :
    Calls Try.prog 5 #[vb, .agg #[B a, B c], vt, vd] w0 (Pure H0 w0 fun v _ => v = .bool true) := by
  have hs := HS.init h0
  have hle := Hp.le.refl H0
  obtain ⟨bb, cb, rfl⟩ := hb.form
  obtain ⟨bt, ct, rfl⟩ := ht.form
  obtain ⟨bd, cd, rfl⟩ := hd.form
  refine Calls.enter (args := [.slice bb b.length cb, .agg #[B a, B c], .slice bt tk.length ct, .slice bd ds.length cd]) Try.func5 rfl Try.ntmps5 rfl ?_
  refine WC.seq (WC.region (WO.step rfl (OR.box hs rfl ?_)))
  clear hs; intro g1 w hg1 hs
  refine WO.step rfl (OR.assign rfl (WO.done (WX.seq (WC.seq ?_))))
  obtain ⟨H, hle1, hp_g1, hs9⟩ := hs.pub1 hg1; clear hs; have hs := hs9; clear hs9; replace hle := hle.trans hle1; (try replace hlb := hlb.trans hle1)
  have hA0 : hcell H ⟨g1, 0 + 0, none⟩ = some (B a) := hcell_of hp_g1 rfl
  have hA1 : hcell H ⟨g1, 0 + 1, none⟩ = some (B c) := hcell_of hp_g1 rfl
  have hga := g5_le a
  have hgc := g5_le c
  refine WC.draw 11 mixed hs (by kernel_rfl) ?_
  refine ⟨MF.eq (.pointer (some ⟨g1, 0 + 0, none⟩)), ?_, ?_⟩
  · intro Mx H w hle2 hs; (try replace hle := hle.trans hle2); (try replace hlb := hlb.trans hle2)
    refine forVals_nil (ORg.plain (OR.idxArr 0 T43.und T5 rfl rfl (by omega) (by omega) ?_))
    exact ⟨_, [], Hp.le.refl _, hs, rfl, rfl⟩
  refine ⟨MF.eq (B a), ?_, ?_⟩
  · intro Mx H w hle2 hs; (try replace hle := hle.trans hle2); (try replace hlb := hlb.trans hle2); refine forVals_eq rfl rfl rfl ?_
    refine forVals_nil (ORg.plain (OR.load T5 rfl rfl (hs.cell (hcell.mono hle2 hA0)) ?_))
    exact ⟨_, [], Hp.le.refl _, hs, rfl, rfl⟩
  refine ⟨MF.eq (.int .u8 ((a.toNat : Int).tmod 5)), ?_, ?_⟩
  · intro Mx H w hle2 hs; (try replace hle := hle.trans hle2); (try replace hlb := hlb.trans hle2); refine forVals_eq rfl rfl rfl ?_
    refine forVals_nil (ORg.plain (OR.rem rfl rfl (by omega) ?_))
    exact ⟨_, [], Hp.le.refl _, hs, rfl, rfl⟩
  refine ⟨MF.eq (.int .i64 ((a.toNat % 5 : Nat) : Int)), ?_, ?_⟩
  · intro Mx H w hle2 hs; (try replace hle := hle.trans hle2); (try replace hlb := hlb.trans hle2); refine forVals_eq rfl rfl rfl ?_
    refine forVals_nil (ORg.plain (OR.convI T5.und T3.und rfl ?_))
    exact ⟨_, [], Hp.le.refl _, hs, (by rw [mod5]), rfl⟩
  refine ⟨MF.eq (.int .i64 (g5 a : Int)), ?_, ?_⟩
  · intro Mx H w hle2 hs; (try replace hle := hle.trans hle2); (try replace hlb := hlb.trans hle2); refine forVals_eq rfl rfl rfl ?_
    have hG : (1 : Int) + ((a.toNat % 5 : Nat) : Int) = (g5 a : Int) := rfl
    refine forVals_nil (ORg.plain (OR.addI rfl rfl (by rw [hG]; omega) (by rw [hG]; omega) ?_))
    exact ⟨_, [], Hp.le.refl _, hs, rfl, rfl⟩
  refine ⟨MF.eq (.pointer (some ⟨g1, 0 + 1, none⟩)), ?_, ?_⟩
  · intro Mx H w hle2 hs; (try replace hle := hle.trans hle2); (try replace hlb := hlb.trans hle2)
    refine forVals_nil (ORg.plain (OR.idxArr 1 T43.und T5 rfl rfl (by omega) (by omega) ?_))
    exact ⟨_, [], Hp.le.refl _, hs, rfl, rfl⟩
  refine ⟨MF.eq (B c), ?_, ?_⟩
  · intro Mx H w hle2 hs; (try replace hle := hle.trans hle2); (try replace hlb := hlb.trans hle2); refine forVals_eq rfl rfl rfl ?_
    refine forVals_nil (ORg.plain (OR.load T5 rfl rfl (hs.cell (hcell.mono hle2 hA1)) ?_))
    exact ⟨_, [], Hp.le.refl _, hs, rfl, rfl⟩
  refine ⟨MF.eq (.int .u8 ((c.toNat : Int).tmod 5)), ?_, ?_⟩
  · intro Mx H w hle2 hs; (try replace hle := hle.trans hle2); (try replace hlb := hlb.trans hle2); refine forVals_eq rfl rfl rfl ?_
    refine forVals_nil (ORg.plain (OR.rem rfl rfl (by omega) ?_))
    exact ⟨_, [], Hp.le.refl _, hs, rfl, rfl⟩
  refine ⟨MF.eq (.int .i64 ((c.toNat % 5 : Nat) : Int)), ?_, ?_⟩
  · intro Mx H w hle2 hs; (try replace hle := hle.trans hle2); (try replace hlb := hlb.trans hle2); refine forVals_eq rfl rfl rfl ?_
    refine forVals_nil (ORg.plain (OR.convI T5.und T3.und rfl ?_))
    exact ⟨_, [], Hp.le.refl _, hs, (by rw [mod5]), rfl⟩
  refine ⟨MF.eq (.int .i64 (g5 c : Int)), ?_, ?_⟩
  · intro Mx H w hle2 hs; (try replace hle := hle.trans hle2); (try replace hlb := hlb.trans hle2); refine forVals_eq rfl rfl rfl ?_
    have hG : (1 : Int) + ((c.toNat % 5 : Nat) : Int) = (g5 c : Int) := rfl
    refine forVals_nil (ORg.plain (OR.addI rfl rfl (by rw [hG]; omega) (by rw [hG]; omega) ?_))
    exact ⟨_, [], Hp.le.refl _, hs, rfl, rfl⟩
  refine ⟨MF.eq _, by intro Mx H w hle hs; refine forVals_eq rfl rfl rfl ?_; refine forVals_nil (ORg.plain (OR.assign rfl ?_)); exact ⟨_, [], Hp.le.refl _, hs, rfl, rfl⟩, ?_⟩
  intro H w hle2; (try replace hle := hle.trans hle2); (try replace hlb := hlb.trans hle2)
  refine forAllVals_eq rfl ?_
  refine forAllVals_eq rfl ?_
  refine forAllVals_eq rfl ?_
  refine forAllVals_eq rfl ?_
  refine forAllVals_eq rfl ?_
  refine forAllVals_eq rfl ?_
  refine forAllVals_eq rfl ?_
  refine forAllVals_eq rfl ?_
  refine forAllVals_eq rfl ?_
  refine forAllVals_eq rfl ?_
  refine forAllVals_eq rfl ?_
  refine forAllVals_nil ?_; (try clear hs); intro hs
  refine WO.step rfl (OR.assign rfl (WO.done (WX.seq (WC.seq (WC.region (WO.step rfl (OR.move rfl ?_)))))))
  refine WO.step rfl (OR.move rfl (WO.step rfl (OR.move rfl ?_)))
  clear hA0 hA1 hp_g1
  refine WO.step rfl (OR.call hs body16 rfl rfl (symbols14_ok _ b (g5 a) (g5 c) _ _ hs.toSub (hb.mono hle) hga.2 hgc.2) ?_)
  clear hs; rintro _ H w hs hle1 hys; replace hle := hle.trans hle1; (try replace hlb := hlb.trans hle1)
  have hyl := symsF_len (g5 a) (g5 c) b
  have hyr := symsF_row (g5 a) (g5 c) b
  generalize symsF (g5 a) (g5 c) b = ys at *
  generalize g5 a = g at *
  generalize g5 c = s at *
  obtain ⟨by_, cy, hfy⟩ := hys.form
  subst hfy
  refine WO.step rfl (OR.assign rfl (WO.done (WX.seq (WC.seq (WC.region (WO.step rfl (OR.move rfl ?_)))))))
  refine WO.step rfl (OR.move rfl ?_)
  refine WO.step rfl (OR.callX (Mx := []) (Mr := []) hs body8 rfl rfl (rnew_ok g s 4 _ _ hs.toSub (by omega) (by omega)) rfl rfl ?_)
  clear hs; rintro v H9 M w hs hle1 hnew ⟨hH, rb, wb, rfl, rfl⟩
  replace hle := hle.trans hle1
  replace hs : HS [] H0 w0 H9 (relMem true (newR g s 4) rb wb (List.replicate 16 none)) w := by rw [List.append_nil] at hs; exact hs
  replace hys := hys.mono hle1
  rw [relT_new g s 4 3] at hs
  have hin : inWin 0 4 3 := by decide
  refine WO.step rfl (OR.move rfl (WO.step rfl (OR.extract rfl rfl (WO.step rfl (OR.extract rfl rfl (WO.step rfl (OR.assign rfl ?_)))))))
  refine WO.step rfl (OR.assign rfl (WO.done (WX.seq (WC.seq (WC.seq (WC.region (WO.step rfl ?_)))))))
  refine OR.move rfl (WO.step rfl (OR.neq rfl rfl (WO.done (WX.seq ?_))))
  refine WC.no rfl (decide_eq_false (by decide)) ?_
  refine WC.skip (WX.seq (WC.seq (WC.region (WO.step rfl (OR.assign rfl (WO.done (WX.seq ?_)))))))
  refine WC.seq (WC.seq (WC.region (WO.step rfl (OR.assign rfl (WO.done (WX.seq ?_))))))
  refine WC.joinK (ι := Value) (fun vo => [(3, .slice bd ds.length cd), (9, .int .i64 (g : Int)), (11, .slice by_ ys.length cy), (12, ptr rb), (14, vo)]) (fun vo w => (∃ R H cl Mo l, (∀ r ∈ R, Tr ys r ∧ RowGS g s r) ∧ R.length ≤ 12 ∧ Hp.le H0 H ∧ Hp.le H9 H ∧ SlotsOk H (relT g s 4 3 (insAll g s R)) l ∧ RowsOk H cl R ∧ Own w0.heap.size 39 2 vo R.length (rowCells cl) Mo ∧ HS [] H0 w0 H (relMem true (relT g s 4 3 (insAll g s R)) rb wb l ++ Mo) w)) ?_ (fun vo w hW => ?_)
  · have hG : ∀ i, ∀ r ∈ (tk.take i).map (laidRow g s ys), Tr ys r ∧ RowGS g s r := by
      intro i r hr
      obtain ⟨c, _, rfl⟩ := List.mem_map.1 hr
      exact laid_true _ c hyr
    have hTok : ∀ A, Red g s A → RelOk (relT g s 4 3 A) := fun A hA => relT_ok (by omega) (by omega) hA
    refine WC.block ?_
    refine WC.loop (ι := Nat × Value) (fun ix => [(2, .slice bt tk.length ct), (3, .slice bd ds.length cd), (9, .int .i64 (g : Int)), (11, .slice by_ ys.length cy), (12, ptr rb), (14, ix.2), (15, .int .i64 (ix.1 : Int))]) (fun ix w => (ix.1 ≤ tk.length ∧ ix.1 ≤ 12 ∧ ∃ H cl Mo l, Hp.le H0 H ∧ Hp.le H9 H ∧ SlotsOk H (relT g s 4 3 (insAll g s ((tk.take ix.1).map (laidRow g s ys)))) l ∧ RowsOk H cl ((tk.take ix.1).map (laidRow g s ys)) ∧ Own w0.heap.size 39 2 ix.2 ix.1 (rowCells cl) Mo ∧ HS [] H0 w0 H (relMem true (relT g s 4 3 (insAll g s ((tk.take ix.1).map (laidRow g s ys)))) rb wb l ++ Mo) w)) (fun ix => tk.length - ix.1) (0, .slice none 0 0) ⟨rfl, rfl, rfl, rfl, rfl, rfl, rfl,  trivial⟩ ?_ (fun ix w hW => ?_)
    · exact ⟨by omega, by omega, H9, [], [], _, hle, Hp.le.refl _, (relT_new g s 4 3) ▸ slots_newR H9 g s 4, ⟨rfl, fun i h => by simp at h⟩, Own.nil _ _ _, by rw [List.append_nil]; exact hs⟩
    clear hs hle
    obtain ⟨i, vo⟩ := ix
    obtain ⟨hi, hi12, H, cl, Mo, l, hle, hlr, hsl, hok, ho, hs⟩ := hW
    simp only at hi hi12 hsl hok ho hs
    have hgd := insAll_good (g := g) (s := s) (ys := ys) _ (hG i)
    have hok9 := hTok _ hgd.red
    have hAl := hgd.red.len
    refine WC.seq (WC.seq (WC.region (WO.step rfl (OR.move rfl (WO.step rfl (OR.move rfl (WO.step rfl ?_)))))))
    refine OR.lenSlice T31.und rfl (WO.step rfl (OR.lss rfl rfl (WO.step rfl (OR.move rfl ?_))))
    refine WO.guardSplit (j := 4) rfl (fun hks => ?_) (fun hks => ?_)
    · refine WO.guardYes rfl (decide_eq_true hks) rfl rfl (OR.move rfl (WO.guardYes rfl (decide_eq_true hks) rfl rfl (OR.lss rfl rfl (WO.step rfl (OR.pickT rfl (decide_eq_true hks) rfl (WO.done (WX.seq ?_)))))))
      refine WC.condD rfl (fun h12 => ?_) (fun h12 => ?_)
      · have hi' : i < tk.length := by omega
        have hlb := Hp.le.refl H
        have hst : insAll g s ((tk.take (i + 1)).map (laidRow g s ys)) = (insR g s (insAll g s ((tk.take i).map (laidRow g s ys))) (laidRow g s ys tk[i])).2 := by
          unfold insAll
          rw [List.take_succ_eq_append_getElem hi', List.map_append, List.foldl_append]
          rfl
        obtain ⟨htr, hgr⟩ := laid_true (g := g) ys tk[i] hyr
        have hgd2 := hgd.ins hgr htr
        obtain ⟨A, hA⟩ : ∃ A, A = insAll g s ((tk.take i).map (laidRow g s ys)) := ⟨_, rfl⟩
        rw [← hA] at hsl hs hgd hok9 hAl hst hgd2
        obtain ⟨xb, xo, rfl, hcr⟩ := ht.pos (by omega)
        obtain ⟨e1, he1, hb1⟩ := hcr i hi'
        obtain ⟨b3, c3, rfl⟩ := hb1.form
        replace hys := hys.mono hlr
        refine WC.skip (WX.seq (WC.seq (WC.block (WC.seq (WC.region (WO.step rfl (OR.move rfl ?_)))))))
        refine WO.step rfl (OR.move rfl ?_)
        refine WO.step rfl (OR.idx i T31.und T37 rfl rfl rfl hi' ?_)
        refine WO.step rfl (OR.load T37 rfl rfl (hs.cell (hcell.mono hle he1)) ?_)
        refine WO.step rfl (OR.move rfl ?_)
        refine WO.step rfl (OR.call hs body17 rfl rfl (truth14_ok _ _ tk[i] ys s _ _ hs.toSub (hb1.mono hle) (hys.mono hlb) (by omega) hyr (by omega) (by omega) (hlt _ (List.getElem_mem _))) ?_)
        clear hs; rintro _ H w hs hle1 ⟨rc, rp, rfl, hrc, hrp⟩
        replace hle := hle.trans hle1
        replace hlb := hlb.trans hle1
        rw [hyl] at hrc hrp
        replace hrc : Bytes H rc (laidRow g s ys tk[i]).1 := hrc
        replace hrp : Bytes H rp (laidRow g s ys tk[i]).2 := hrp
        generalize hrE : laidRow g s ys tk[i] = r at *
        obtain ⟨b4, c4, hf4⟩ := hrc.form
        obtain ⟨b5, c5, hf5⟩ := hrp.form
        subst hf4 hf5
        refine WO.step rfl (OR.alloc hs T39 ?_)
        clear hs; intro g2 w hg2 hs
        refine WO.stepN (OR.storeAll hs T39 rfl rfl rfl rfl rfl ?_)
        clear hs; intro w hs
        refine WO.done (WX.seq (WC.seq (WC.region (WO.step rfl (OR.move rfl ?_)))))
        obtain ⟨H, hle1, hp_g2, hs9⟩ := hs.pub1 hg2; clear hs; have hs := hs9; clear hs9; replace hle := hle.trans hle1; (try replace hlb := hlb.trans hle1)
        replace hrc := hrc.mono hle1
        replace hrp := hrp.mono hle1
        have hrow : ∀ j u, [Value.slice b4 r.1.length c4, Value.slice b5 r.2.length c5][j]? = some u → hcell H ((⟨g2, 0, none⟩ : Addr).add j) = some u := by
          intro j u hj
          rw [add_off, Nat.zero_add]
          exact hcell_of hp_g2 (by rw [nth_eq]; exact hj)
        have hlc := Hp.le.refl H
        refine WO.step rfl (OR.call hs body19 rfl rfl (rrank_ok rb wb 3 (relT g s 4 3 A) l _ _ (HS.relRO (Mr := Mo) hs) (hsl.mono hlb) hok9 (by omega)) ?_)
        clear hs; rintro _ H w hs hle1 rfl
        replace hle := hle.trans hle1
        replace hlb := hlb.trans hle1
        replace hlc := hlc.trans hle1
        rw [relT_rk hin]
        have hrow2 : ∀ j u, [Value.slice b4 r.1.length c4, Value.slice b5 r.2.length c5][j]? = some u → w.cell? ((⟨g2, 0, none⟩ : Addr).add j) = some u := fun j u hj => hs.cell (hcell.mono hlc (hrow j u hj))
        refine WO.step rfl (OR.assign rfl (WO.done (WX.seq (WC.seq (WC.region (WO.step rfl (OR.move rfl ?_)))))))
        refine WO.step rfl (OR.loadN (cs := [_, _]) T39 rfl rfl rfl hrow2 ?_)
        refine WO.step rfl (OR.callX (Mx := relMem true (relT g s 4 3 A) rb wb l) (Mr := Mo) hs body12 rfl rfl (rtake_ok' rb wb 3 _ _ (relT g s 4 3 A) l r _ _ (HS.relRW (Mr := Mo) hs) (hsl.mono hlb) hok9 (by omega) (hrc.mono hlc) (hrp.mono hlc)) rfl (relMem_flags _ _ _ _) ?_)
        clear hs; rintro v H M w hs hle1 hnew ⟨rfl, l2, rfl, hsl2⟩
        replace hle := hle.trans hle1
        replace hlb := hlb.trans hle1
        replace hlc := hlc.trans hle1
        rw [relT_takeI hin, relT_takeE hin r hgr]
        rw [relT_take hin r] at hs hsl2
        have hlen := insR_len (b := A) hgr
        have hlb2 := Hp.le.refl H
        have hok10 := hTok _ hgd2.red
        have hAl2 := hgd2.red.len
        refine WO.step rfl (OR.move rfl (WO.step rfl (OR.extract rfl rfl (WO.step rfl (OR.extract rfl rfl (WO.step rfl (OR.assign rfl ?_)))))))
        refine WO.step rfl (OR.assign rfl (WO.done (WX.seq (WC.seq (WC.seq (WC.region (WO.step rfl ?_)))))))
        refine OR.move rfl (WO.step rfl (OR.neq rfl rfl (WO.step rfl (OR.move rfl ?_))))
        by_cases hI : (insR g s A r).1 = true
        · rw [hI]
          rw [if_pos hI] at hlen
          refine WO.guardYes rfl rfl rfl rfl (OR.move rfl (WO.guardYes rfl rfl rfl rfl (OR.move rfl ?_)))
          refine WO.guardYes rfl rfl rfl rfl (OR.call hs body19 rfl rfl (rrank_ok rb wb 3 (relT g s 4 3 (insR g s A r).2) l2 _ _ (HS.relRO (Mr := Mo) hs) (hsl2.mono hlb2) hok10 (by omega)) ?_)
          clear hs; rintro _ H w hs hle1 rfl
          replace hle := hle.trans hle1
          replace hlb := hlb.trans hle1
          replace hlc := hlc.trans hle1
          replace hlb2 := hlb2.trans hle1
          rw [relT_rk hin]
          refine WO.guardYes rfl rfl rfl rfl (OR.move rfl (WO.guardYes rfl rfl rfl rfl (OR.addI rfl rfl (by omega) (by omega) (WO.guardYes rfl rfl rfl rfl (OR.eql rfl rfl (WO.guardYes rfl rfl rfl rfl (OR.neqB T4.und rfl rfl ?_)))))))
          refine WO.step rfl (OR.pickF rfl rfl rfl (WO.step rfl (OR.move rfl ?_)))
          refine WO.guardYes rfl (by rw [decide_eq_true (by omega : ((insR g s A r).2.length : Int) = (A.length : Int) + 1)]; rfl) rfl rfl (OR.move rfl (WO.guardYes rfl (by rw [decide_eq_true (by omega : ((insR g s A r).2.length : Int) = (A.length : Int) + 1)]; rfl) rfl rfl (OR.not rfl (WO.guardYes rfl (by rw [decide_eq_true (by omega : ((insR g s A r).2.length : Int) = (A.length : Int) + 1)]; rfl) rfl rfl (OR.move rfl ?_)))))
          have hrow3 : ∀ j u, [Value.slice b4 r.1.length c4, Value.slice b5 r.2.length c5][j]? = some u → w.cell? ((⟨g2, 0, none⟩ : Addr).add j) = some u := fun j u hj => hs.cell (hcell.mono hlc (hrow j u hj))
          refine WO.guardNo rfl rfl rfl rfl (WO.guardNo rfl rfl rfl rfl (WO.guardNo rfl rfl rfl rfl (WO.guardNo rfl rfl rfl rfl (WO.guardYes rfl (by rw [decide_eq_true (by omega : ((insR g s A r).2.length : Int) = (A.length : Int) + 1)]; rfl) rfl rfl (OR.pickF rfl rfl rfl (WO.step rfl (OR.pickF rfl (by rw [decide_eq_true (by omega : ((insR g s A r).2.length : Int) = (A.length : Int) + 1)]; rfl) rfl ?_)))))))
          refine WO.done (WX.seq (WC.no rfl rfl (WC.skip (WX.seq (WC.region (WO.step rfl (OR.move rfl ?_)))))))
          refine WO.step rfl (OR.loadN (cs := [_, _]) T39 rfl rfl rfl hrow3 ?_)
          refine WO.step rfl (OR.buildSlice (vs := [_]) hs T50.und T39 rfl rfl rfl rfl (by simp) ?_)
          clear hs; intro q1 w hq1 hs
          have hb9 := hs.blk (i := 0) rfl
          obtain ⟨bo, co, rfl⟩ := ho.form
          refine WO.step rfl (OR.append (m := 1) (news := [_, _]) (Mo := Mo) (M := (q1, _, true) :: relMem true (relT g s 4 3 (insR g s A r).2) rb wb l2) (HS.mtail (A := (q1, _, true) :: relMem true (relT g s 4 3 (insR g s A r).2) rb wb l2) hs) ho T50.und T39 rfl (by omega) rfl rfl rfl (cells_of hb9) (fun h => by cases h) rfl (by omega) (by omega) ?_)
          clear hs ho; intro vo' w Mo' hs ho hge
          replace hs := (HS.mtail (A := Mo') hs).drop 0
          refine WO.step rfl (OR.assign rfl (WO.done (WX.block (WX.seq (WC.region (WO.step rfl (OR.move rfl ?_)))))))
          refine WO.step rfl (OR.addI rfl rfl (by omega) (by omega) (WO.step rfl (OR.assign rfl (WO.done ?_))))
          refine WX.again ((i + 1, vo')) ⟨rfl, rfl, rfl, rfl, rfl, rfl, rfl,  trivial⟩ ?_ ?_
          · refine ⟨hi', by simp only; omega, H, cl ++ [(.slice b4 r.1.length c4, .slice b5 r.2.length c5)], Mo', l2, hle, hlr.trans hlb, ?_, ?_, ?_, ?_⟩
            · simp only; rw [hst]; exact hsl2.mono hlb2
            · simp only; rw [List.take_succ_eq_append_getElem hi', List.map_append, List.map_cons, List.map_nil, hrE]; exact (hok.mono hlb).snoc (hrc.mono hlc) (hrp.mono hlc)
            · rw [rowCells_append]; exact ho
            · simp only; rw [hst]; exact hs
          · simp only; omega
        · rw [Bool.eq_false_iff.2 hI]
          rw [if_neg hI] at hlen
          refine WO.guardYes rfl rfl rfl rfl (OR.move rfl (WO.guardYes rfl rfl rfl rfl (OR.move rfl ?_)))
          refine WO.guardYes rfl rfl rfl rfl (OR.call hs body19 rfl rfl (rrank_ok rb wb 3 (relT g s 4 3 (insR g s A r).2) l2 _ _ (HS.relRO (Mr := Mo) hs) (hsl2.mono hlb2) hok10 (by omega)) ?_)
          clear hs; rintro _ H w hs hle1 rfl
          replace hle := hle.trans hle1
          replace hlb := hlb.trans hle1
          replace hlc := hlc.trans hle1
          replace hlb2 := hlb2.trans hle1
          rw [relT_rk hin]
          refine WO.guardYes rfl rfl rfl rfl (OR.move rfl (WO.guardYes rfl rfl rfl rfl (OR.addI rfl rfl (by omega) (by omega) (WO.guardYes rfl rfl rfl rfl (OR.eql rfl rfl (WO.guardYes rfl rfl rfl rfl (OR.neqB T4.und rfl rfl ?_)))))))
          refine WO.step rfl (OR.pickF rfl rfl rfl (WO.step rfl (OR.move rfl ?_)))
          refine WO.guardYes rfl (by rw [decide_eq_false (by omega : ¬ ((insR g s A r).2.length : Int) = (A.length : Int) + 1)]; rfl) rfl rfl (OR.move rfl (WO.guardYes rfl (by rw [decide_eq_false (by omega : ¬ ((insR g s A r).2.length : Int) = (A.length : Int) + 1)]; rfl) rfl rfl (OR.not rfl (WO.guardYes rfl (by rw [decide_eq_false (by omega : ¬ ((insR g s A r).2.length : Int) = (A.length : Int) + 1)]; rfl) rfl rfl (OR.move rfl ?_)))))
          refine WO.guardYes rfl rfl rfl rfl (OR.move rfl ?_)
          refine WO.guardYes rfl rfl rfl rfl (OR.call hs body19 rfl rfl (rrank_ok rb wb 3 (relT g s 4 3 (insR g s A r).2) l2 _ _ (HS.relRO (Mr := Mo) hs) (hsl2.mono hlb2) hok10 (by omega)) ?_)
          clear hs; rintro _ H w hs hle1 rfl
          replace hle := hle.trans hle1
          replace hlb := hlb.trans hle1
          replace hlc := hlc.trans hle1
          replace hlb2 := hlb2.trans hle1
          rw [relT_rk hin]
          refine WO.guardYes rfl rfl rfl rfl (OR.move rfl (WO.guardYes rfl rfl rfl rfl (OR.neq rfl rfl (WO.guardYes rfl (by rw [decide_eq_false (by omega : ¬ ((insR g s A r).2.length : Int) = (A.length : Int) + 1)]; rfl) rfl rfl (OR.pickT rfl rfl rfl (WO.step rfl (OR.pickF rfl (by rw [decide_eq_false (by omega : ¬ ((insR g s A r).2.length : Int) = (A.length : Int) + 1)]; rfl) rfl ?_)))))))
          refine WO.done (WX.seq ?_)
          refine WC.no rfl (decide_eq_false (by omega)) ?_
          have hrow3 : ∀ j u, [Value.slice b4 r.1.length c4, Value.slice b5 r.2.length c5][j]? = some u → w.cell? ((⟨g2, 0, none⟩ : Addr).add j) = some u := fun j u hj => hs.cell (hcell.mono hlc (hrow j u hj))
          refine WC.skip (WX.seq (WC.region (WO.step rfl (OR.move rfl ?_))))
          refine WO.step rfl (OR.loadN (cs := [_, _]) T39 rfl rfl rfl hrow3 ?_)
          refine WO.step rfl (OR.buildSlice (vs := [_]) hs T50.und T39 rfl rfl rfl rfl (by simp) ?_)
          clear hs; intro q1 w hq1 hs
          have hb9 := hs.blk (i := 0) rfl
          obtain ⟨bo, co, rfl⟩ := ho.form
          refine WO.step rfl (OR.append (m := 1) (news := [_, _]) (Mo := Mo) (M := (q1, _, true) :: relMem true (relT g s 4 3 (insR g s A r).2) rb wb l2) (HS.mtail (A := (q1, _, true) :: relMem true (relT g s 4 3 (insR g s A r).2) rb wb l2) hs) ho T50.und T39 rfl (by omega) rfl rfl rfl (cells_of hb9) (fun h => by cases h) rfl (by omega) (by omega) ?_)
          clear hs ho; intro vo' w Mo' hs ho hge
          replace hs := (HS.mtail (A := Mo') hs).drop 0
          refine WO.step rfl (OR.assign rfl (WO.done (WX.block (WX.seq (WC.region (WO.step rfl (OR.move rfl ?_)))))))
          refine WO.step rfl (OR.addI rfl rfl (by omega) (by omega) (WO.step rfl (OR.assign rfl (WO.done ?_))))
          refine WX.again ((i + 1, vo')) ⟨rfl, rfl, rfl, rfl, rfl, rfl, rfl,  trivial⟩ ?_ ?_
          · refine ⟨hi', by simp only; omega, H, cl ++ [(.slice b4 r.1.length c4, .slice b5 r.2.length c5)], Mo', l2, hle, hlr.trans hlb, ?_, ?_, ?_, ?_⟩
            · simp only; rw [hst]; exact hsl2.mono hlb2
            · simp only; rw [List.take_succ_eq_append_getElem hi', List.map_append, List.map_cons, List.map_nil, hrE]; exact (hok.mono hlb).snoc (hrc.mono hlc) (hrp.mono hlc)
            · rw [rowCells_append]; exact ho
            · simp only; rw [hst]; exact hs
          · simp only; omega
      · refine WC.exit (WX.seq_exit (WX.loop_exit (WX.block_hit ?_)))
        refine WX.arrive (vo) ⟨rfl, rfl, rfl, rfl, rfl,  trivial⟩ ?_
        · exact ⟨_, H, cl, Mo, l, hG i, by simp only [List.length_map, List.length_take]; omega, hle, hlr, hsl, hok, by simpa [Nat.min_eq_left hi] using ho, hs⟩
    · refine WO.guardNo rfl (decide_eq_false hks) rfl rfl (WO.guardNo rfl (decide_eq_false hks) rfl rfl (WO.step rfl (OR.pickF rfl (decide_eq_false hks) rfl (WO.done (WX.seq (WC.no rfl rfl (WC.exit ?_)))))))
      refine WX.seq_exit (WX.loop_exit (WX.block_hit ?_))
      refine WX.arrive (vo) ⟨rfl, rfl, rfl, rfl, rfl,  trivial⟩ ?_
      · exact ⟨_, H, cl, Mo, l, hG i, by simp only [List.length_map, List.length_take]; omega, hle, hlr, hsl, hok, by simpa [Nat.min_eq_left hi] using ho, hs⟩
  · clear hs hle
    obtain ⟨R, H, cl, Mo, l, hR, hR12, hle, hlr, hsl, hok, ho, hs⟩ := hW
    have hgd := insAll_good (g := g) (s := s) (ys := ys) R hR
    have hokT : RelOk (relT g s 4 3 (insAll g s R)) := relT_ok (by omega) (by omega) hgd.red
    have hAl := hgd.red.len
    have hin1 := took_in hR
    have hin2 := rows_in hR
    have hRl : ∀ r ∈ R.map (·.1), r.length = g := by
      intro v hv
      obtain ⟨r, hr, rfl⟩ := List.mem_map.1 hv
      exact (hR r hr).2.1
    generalize insAll g s R = A at *
    have hAl2 : ∀ r ∈ A.map (·.1), r.length = g := by
      intro v hv
      obtain ⟨r, hr, rfl⟩ := List.mem_map.1 hv
      exact (hgd.red.gs r hr).1
    have hAn : (A.map (·.1)).length = A.length := List.length_map ..
    have hRn : (R.map (·.1)).length = R.length := List.length_map ..
    obtain ⟨H4, hle4, hs4, hsl4, _⟩ := HS.pub (HS.mtail (A := relMem true (relT g s 4 3 A) rb wb l) hs) ho
    clear hs
    have hs := hs4
    clear hs4
    have hall : Rws H4 vo R := ⟨cl, hsl4, hok.mono hle4⟩
    replace hle := hle.trans hle4
    replace hlr := hlr.trans hle4
    replace hsl := hsl.mono hle4
    clear hsl4 hok ho
    obtain ⟨bo, co, hfo⟩ := hall.form
    subst hfo
    replace hys := hys.mono hlr
    have hlb := Hp.le.refl H4
    replace hs : HS [] H0 w0 H4 (relMem true (relT g s 4 3 A) rb wb l ++ []) w := by rw [List.append_nil]; exact hs
    refine WC.seq (WC.region (WO.step rfl (OR.move rfl ?_)))
    refine WO.step rfl (OR.call hs body20 rfl rfl (rrows_ok rb wb 3 (relT g s 4 3 A) l _ _ (HS.relRO (Mr := ([] : Mem)) hs) hsl hokT (by omega)) ?_)
    clear hs; rintro _ H w hs hle1 hrw
    replace hle := hle.trans hle1
    replace hlb := hlb.trans hle1
    rw [relT_rk hin] at hrw
    obtain ⟨br, cr, hfr⟩ := hrw.form
    subst hfr
    replace hall := hall.mono hle1
    have hlc := Hp.le.refl H
    refine WO.step rfl (OR.assign rfl (WO.done (WX.seq (WC.seq (WC.region (WO.step rfl (OR.move rfl ?_)))))))
    refine WO.step rfl (OR.call hs body23 rfl rfl (coefs14_ok _ A _ _ hs.toSub hrw (by omega)) ?_)
    clear hs; rintro _ H w hs hle1 hc1
    replace hle := hle.trans hle1
    replace hlb := hlb.trans hle1
    replace hlc := hlc.trans hle1
    refine WO.step rfl (OR.move rfl ?_)
    refine WO.step rfl (OR.call hs body23 rfl rfl (coefs14_ok _ R _ _ hs.toSub (hall.mono hlc) (by omega)) ?_)
    clear hs; rintro _ H w hs hle1 hc2
    replace hle := hle.trans hle1
    replace hlb := hlb.trans hle1
    replace hlc := hlc.trans hle1
    obtain ⟨bc1, cc1, hfc1⟩ := hc1.form
    obtain ⟨bc2, cc2, hfc2⟩ := hc2.form
    subst hfc1 hfc2
    have l1 : (A.map (·.1)).length ≤ 1000 := by omega
    have l2 : (R.map (·.1)).length ≤ 1000 := by omega
    have l3 : g ≤ 255 := by omega
    have hc1' := hc1.mono hle1
    generalize hLA : A.map (·.1) = LA at *
    generalize hLR : R.map (·.1) = LR at *
    have hsam := same8_ok (.slice bc1 LA.length cc1) (.slice bc2 LR.length cc2) LA LR g H w hs.toSub hc1' hc2 l1 l2 hAl2 hRl l3 hin1 hin2
    refine WO.step rfl (OR.call hs body26 rfl rfl (hsam) ?_)
    clear hs; rintro _ H w hs hle1 ⟨e8, rfl⟩
    replace hle := hle.trans hle1
    replace hlb := hlb.trans hle1
    replace hlc := hlc.trans hle1
    refine WO.step rfl (OR.move rfl (WO.step rfl (OR.extract rfl rfl (WO.step rfl (OR.extract rfl rfl (WO.step rfl (OR.assign rfl ?_)))))))
    refine WO.step rfl (OR.assign rfl (WO.done (WX.seq (WC.seq (WC.seq (WC.region (WO.step rfl ?_)))))))
    refine OR.move rfl (WO.step rfl (OR.not rfl (WO.done (WX.seq ?_))))
    refine WC.no rfl rfl ?_
    clear hc1 hc2 hall hin1 hin2 hRl hR
    refine WC.skip (WX.seq (WC.seq (WC.seq (WC.region (WO.step rfl (OR.assign rfl (WO.done ?_)))))))
    refine WX.seq (WC.block ?_)
    replace hrw := hrw.mono hlc
    replace hys := hys.mono hlb
    replace hsl := hsl.mono hlb
    clear hlb hlc hc1' hsam
    obtain ⟨HB, hHB⟩ : ∃ X, X = H := ⟨_, rfl⟩
    subst hHB
    have hleB := hle
    refine WC.loop (ι := Nat) (fun k => [(3, .slice bd ds.length cd), (9, .int .i64 (g : Int)), (11, .slice by_ ys.length cy), (12, ptr rb), (20, .slice br A.length cr), (23, .int .i64 (k : Int))]) (fun k w => (k ≤ A.length ∧ ∃ H, Hp.le H0 H ∧ Hp.le HB H ∧ HS [] H0 w0 H (relMem true (relT g s 4 3 A) rb wb l ++ []) w)) (fun k => A.length - k) 0 ⟨rfl, rfl, rfl, rfl, rfl, rfl,  trivial⟩ ?_ (fun k w hW => ?_)
    · exact ⟨by omega, HB, hle, Hp.le.refl _, hs⟩
    clear hs hle
    obtain ⟨hkl, H, hle, hlb, hs⟩ := hW
    refine WC.seq (WC.seq (WC.region (WO.step rfl (OR.move rfl (WO.step rfl (OR.move rfl (WO.step rfl ?_)))))))
    refine OR.lenSlice T50.und rfl (WO.step rfl (OR.lss rfl rfl (WO.done (WX.seq ?_))))
    refine WC.condD rfl (fun hk => ?_) (fun hk => ?_)
    · have hk' : k < A.length := by omega
      obtain ⟨yb, yo, rfl, hcy⟩ := hrw.pos (by omega)
      obtain ⟨ec, ep, hcc, hec, hep⟩ := hcy k hk'
      obtain ⟨b7, c7, rfl⟩ := hec.form
      obtain ⟨b8, c8, rfl⟩ := hep.form
      refine WC.skip (WX.seq (WC.seq (WC.block (WC.seq (WC.region (WO.step rfl (OR.move rfl ?_)))))))
      refine WO.step rfl (OR.move rfl ?_)
      refine WO.step rfl (OR.idxN k T50.und T39 rfl rfl rfl hk' ?_)
      refine WO.step rfl (OR.loadN (cs := [_, _]) T39 rfl rfl rfl (fun j u hj => hs.cell (hcell.mono hlb (hcc j u hj))) ?_)
      have hrg := hgd.red.gs _ (List.getElem_mem hk')
      refine WO.step rfl (OR.move rfl ?_)
      refine WO.step rfl (OR.call hs body21 rfl rfl (isTrue_ok _ _ _ ys A[k] s _ _ hs.toSub (hec.mono hlb) (hep.mono hlb) (hys.mono hlb) (by omega) hyr (by omega) (by omega) (by rw [hrg.1]; exact hyl) (hgd.pay hyr (List.getElem_mem hk'))) ?_)
      clear hs; rintro _ H w hs hle1 rfl; replace hle := hle.trans hle1; (try replace hlb := hlb.trans hle1)
      refine WO.step rfl (OR.not rfl (WO.done (WX.seq ?_)))
      refine WC.no rfl rfl ?_
      refine WC.skip (WX.block (WX.seq (WC.region (WO.step rfl (OR.move rfl (WO.step rfl (OR.addI rfl rfl (by omega) (by omega) ?_)))))))
      refine WO.step rfl (OR.assign rfl (WO.done ?_))
      refine WX.again (k + 1) ⟨rfl, rfl, rfl, rfl, rfl, rfl,  trivial⟩ ?_ ?_
      · exact ⟨hk', H, hle, hlb, hs⟩
      · omega
    · clear hk
      refine WC.exit (WX.seq_exit (WX.loop_exit (WX.block_hit (WX.seq (WC.seq (WC.seq (WC.region ?_)))))))
      refine WO.step rfl (OR.assign rfl (WO.done (WX.seq (WC.block ?_))))
      refine WC.loop (ι := Nat) (fun i => [(3, .slice bd ds.length cd), (9, .int .i64 (g : Int)), (11, .slice by_ ys.length cy), (12, ptr rb), (20, .slice br A.length cr), (24, .int .i64 (i : Int))]) (fun i w => (i ≤ ds.length ∧ i ≤ 12 ∧ ∃ H, Hp.le H0 H ∧ Hp.le HB H ∧ HS [] H0 w0 H (relMem true (relT g s 4 3 A) rb wb l ++ []) w)) (fun i => ds.length - i) 0 ⟨rfl, rfl, rfl, rfl, rfl, rfl,  trivial⟩ ?_ (fun i w hW => ?_)
      · exact ⟨by omega, by omega, H, hle, hlb, hs⟩
      clear hs hle hlb
      obtain ⟨hi, hi12, H, hle, hlb, hs⟩ := hW
      refine WC.seq (WC.seq (WC.region (WO.step rfl (OR.move rfl (WO.step rfl (OR.move rfl (WO.step rfl ?_)))))))
      refine OR.lenSlice T31.und rfl (WO.step rfl (OR.lss rfl rfl (WO.step rfl (OR.move rfl ?_))))
      refine WO.guardSplit (j := 4) rfl (fun hks => ?_) (fun hks => ?_)
      · refine WO.guardYes rfl (decide_eq_true hks) rfl rfl (OR.move rfl (WO.guardYes rfl (decide_eq_true hks) rfl rfl (OR.lss rfl rfl (WO.step rfl (OR.pickT rfl (decide_eq_true hks) rfl (WO.done (WX.seq ?_)))))))
        refine WC.condD rfl (fun h12 => ?_) (fun h12 => ?_)
        · have hi' : i < ds.length := by omega
          obtain ⟨xb, xo, rfl, hcr⟩ := hd.pos (by omega)
          obtain ⟨e1, he1, hb1⟩ := hcr i hi'
          obtain ⟨b3, c3, rfl⟩ := hb1.form
          refine WC.skip (WX.seq (WC.seq (WC.block (WC.seq (WC.region (WO.step rfl (OR.move rfl ?_)))))))
          refine WO.step rfl (OR.move rfl ?_)
          refine WO.step rfl (OR.convI T3.und T27.und rfl ?_)
          rw [u64_wrap i (by omega)]
          refine WO.step rfl (OR.move rfl (WO.step rfl (OR.move rfl ?_)))
          refine WO.step rfl (OR.idx i T31.und T37 rfl rfl rfl hi' ?_)
          refine WO.step rfl (OR.load T37 rfl rfl (hs.cell (hcell.mono hle he1)) ?_)
          refine WO.step rfl (OR.call hs body18 rfl rfl (rsend_ok rb wb 3 i _ ds[i] (relT g s 4 3 A) l _ _ (HS.relRO (Mr := ([] : Mem)) hs) (hsl.mono hlb) hokT (by omega) (hb1.mono hle) (by omega)) ?_)
          clear hs; rintro _ H w hs hle1 ⟨r1, r2, rfl, hr1, hr2⟩
          replace hle := hle.trans hle1
          replace hlb := hlb.trans hle1
          rw [relT_sndF hin] at hr1 hr2
          rw [relT_sndE hin]
          obtain ⟨b4, c4, hf4⟩ := hr1.form
          obtain ⟨b5, c5, hf5⟩ := hr2.form
          subst hf4 hf5
          by_cases hA0 : A.length = 0
          · rw [if_pos hA0]
            refine WO.step rfl (OR.move rfl (WO.step rfl (OR.extract rfl rfl (WO.step rfl (OR.extract rfl rfl (WO.step rfl (OR.alloc hs T39 ?_)))))))
            clear hs; intro g3 w hg3 hs
            refine WO.stepN (OR.storeAll hs T39 rfl rfl rfl rfl rfl ?_)
            clear hs; intro w hs
            refine WO.step rfl (OR.assign rfl (WO.done (WX.seq (WC.seq (WC.seq (WC.region (WO.step rfl ?_)))))))
            refine OR.move rfl (WO.step rfl (OR.eql rfl rfl (WO.step rfl (OR.move rfl (WO.step rfl (OR.lenSlice T50.und rfl (WO.step rfl ?_)))))))
            refine OR.gtr rfl rfl (WO.step rfl (OR.neqB T4.und rfl rfl (WO.step rfl (OR.move rfl ?_))))
            refine WO.guardYes rfl (by rw [decide_eq_false (by omega : ¬ ((A.length : Int) > 0))]; rfl) rfl rfl (OR.move rfl (WO.guardYes rfl (by rw [decide_eq_false (by omega : ¬ ((A.length : Int) > 0))]; rfl) rfl rfl (OR.neq rfl rfl (WO.guardYes rfl (by rw [decide_eq_false (by omega : ¬ ((A.length : Int) > 0))]; rfl) rfl rfl (OR.move rfl ?_)))))
            refine WO.guardYes rfl rfl rfl rfl (OR.move rfl (WO.guardYes rfl rfl rfl rfl (OR.neq rfl rfl (WO.guardYes rfl (by rw [decide_eq_false (by omega : ¬ ((A.length : Int) > 0))]; rfl) rfl rfl (OR.pickT rfl rfl rfl (WO.step rfl (OR.pickF rfl (by rw [decide_eq_false (by omega : ¬ ((A.length : Int) > 0))]; rfl) rfl ?_)))))))
            refine WO.done (WX.seq ?_)
            refine WC.no rfl rfl ?_
            refine WC.skip (WX.seq (WC.seq (WC.seq (WC.region (WO.step rfl (OR.move rfl (WO.step rfl ?_)))))))
            refine OR.neq rfl rfl (WO.done (WX.seq ?_))
            refine WC.yes rfl rfl ?_
            replace hs := hs.drop 0
            refine WC.exit (WX.seq_exit (WX.block_hit (WX.seq (WC.region (WO.step rfl (OR.move rfl (WO.step rfl ?_)))))))
            refine OR.addI rfl rfl (by omega) (by omega) (WO.step rfl (OR.assign rfl (WO.done ?_)))
            refine WX.again (i + 1) ⟨rfl, rfl, rfl, rfl, rfl, rfl,  trivial⟩ ?_ ?_
            · exact ⟨hi', by omega, H, hle, hlb, hs⟩
            · omega
          · rw [if_neg hA0]
            refine WO.step rfl (OR.move rfl (WO.step rfl (OR.extract rfl rfl (WO.step rfl (OR.extract rfl rfl (WO.step rfl (OR.alloc hs T39 ?_)))))))
            clear hs; intro g3 w hg3 hs
            refine WO.stepN (OR.storeAll hs T39 rfl rfl rfl rfl rfl ?_)
            clear hs; intro w hs
            refine WO.step rfl (OR.assign rfl (WO.done (WX.seq (WC.seq (WC.seq (WC.region (WO.step rfl ?_)))))))
            refine OR.move rfl (WO.step rfl (OR.eql rfl rfl (WO.step rfl (OR.move rfl (WO.step rfl (OR.lenSlice T50.und rfl (WO.step rfl ?_)))))))
            refine OR.gtr rfl rfl (WO.step rfl (OR.neqB T4.und rfl rfl (WO.step rfl (OR.move rfl ?_))))
            refine WO.guardYes rfl (by rw [decide_eq_true (by omega : ((A.length : Int) > 0))]; rfl) rfl rfl (OR.move rfl (WO.guardYes rfl (by rw [decide_eq_true (by omega : ((A.length : Int) > 0))]; rfl) rfl rfl (OR.neq rfl rfl (WO.guardYes rfl (by rw [decide_eq_true (by omega : ((A.length : Int) > 0))]; rfl) rfl rfl (OR.move rfl ?_)))))
            refine WO.guardNo rfl rfl rfl rfl (WO.guardNo rfl rfl rfl rfl (WO.guardYes rfl (by rw [decide_eq_true (by omega : ((A.length : Int) > 0))]; rfl) rfl rfl (OR.pickF rfl rfl rfl (WO.step rfl (OR.pickF rfl (by rw [decide_eq_true (by omega : ((A.length : Int) > 0))]; rfl) rfl (WO.done (WX.seq ?_)))))))
            refine WC.no rfl rfl (WC.skip (WX.seq (WC.seq (WC.seq (WC.region (WO.step rfl (OR.move rfl ?_)))))))
            refine WO.step rfl (OR.neq rfl rfl (WO.done (WX.seq ?_)))
            refine WC.no rfl rfl ?_
            have hsg := snd_gs hgd.red i ds[i] hA0
            have hsi := snd_in hgd.red i ds[i] hA0
            have hst := snd_tr hgd i ds[i] hA0
            have hsz := snd_some hgd.red i ds[i] hA0
            have hsp := hst.pay hsg hyr
            generalize sndR g s A i ds[i] = r at *
            have hhv : hasV g LA r.1 = true := by rw [← hLA]; exact has_red hgd.red hsg hsi
            have hlc := Hp.le.refl H
            refine WC.skip (WX.seq (WC.seq ?_))
            refine WC.drawL 8 7 mixed hs (by kernel_rfl) ?_
            refine ⟨MF.eq _, by intro Mx H w hle hs; refine forVals_nil (ORg.plain (OR.move rfl ?_)); exact ⟨_, [], Hp.le.refl _, hs, rfl, rfl⟩, ?_⟩
            refine ⟨MF.bytesL LA, ?_, ?_⟩
            · intro Mx H w hle2 hs; (try replace hle := hle.trans hle2); (try replace hlb := hlb.trans hle2); refine forVals_eq rfl rfl rfl ?_
              refine forVals_nil (ORg.plain (OR.call hs body23 rfl rfl (coefs14_ok _ A _ _ hs.toSub (hrw.mono hlb) (by omega)) ?_))
              clear hs; rintro _ H w hs hle1 hcL
              exact ⟨_, [], hle1, hs, by rw [← hLA]; exact hcL, rfl⟩
            refine ⟨MF.eq _, by intro Mx H w hle hs; refine forVals_nil (ORg.plain (OR.fieldAddr FA39_0 rfl ?_)); exact ⟨_, [], Hp.le.refl _, hs, rfl, rfl⟩, ?_⟩
            refine ⟨MF.eq _, by intro Mx H w hle hs; refine forVals_eq rfl rfl rfl ?_; refine forVals_nil (ORg.plain (OR.load T37 rfl rfl (hs.right.cellM (i := 0) rfl rfl) ?_)); exact ⟨_, [], Hp.le.refl _, hs, rfl, rfl⟩, ?_⟩
            refine ⟨MF.eq (.tuple #[.bool true, .int .i64 0]), ?_, ?_⟩
            · intro Mx H w hle2 hs; (try replace hle := hle.trans hle2); (try replace hlb := hlb.trans hle2); refine forVals_of rfl rfl rfl ?_; intro v1 h1; refine forVals_eq rfl rfl rfl ?_
              refine forVals_nil (ORg.plain (OR.call hs body27 rfl rfl (has_ok _ _ LA r.1 g _ _ hs.toSub h1 (hr1.mono hle2) (by omega) hAl2 hsg.1 (by omega)) ?_))
              clear hs; rintro _ H w hs hle1 rfl
              exact ⟨_, [], hle1, hs, by rw [hhv], rfl⟩
            refine ⟨MF.eq _, by intro Mx H w hle hs; refine forVals_eq rfl rfl rfl ?_; refine forVals_nil (ORg.plain (OR.move rfl ?_)); exact ⟨_, [], Hp.le.refl _, hs, rfl, rfl⟩, ?_⟩
            refine ⟨MF.eq _, by intro Mx H w hle hs; refine forVals_eq rfl rfl rfl ?_; refine forVals_nil (ORg.plain (OR.extract rfl rfl ?_)); exact ⟨_, [], Hp.le.refl _, hs, rfl, rfl⟩, ?_⟩
            refine ⟨MF.eq (.int .i64 0), ?_, ?_⟩
            · intro Mx H w hle2 hs; (try replace hle := hle.trans hle2); (try replace hlb := hlb.trans hle2); refine forVals_eq rfl rfl rfl ?_
              refine forVals_nil (ORg.plain (OR.extract rfl rfl ?_))
              exact ⟨_, [], Hp.le.refl _, hs, rfl, rfl⟩
            intro H w hle2; (try replace hle := hle.trans hle2); (try replace hlb := hlb.trans hle2)
            refine forAllVals_eq rfl ?_
            refine forAllVals_of rfl ?_; intro v1 h1
            refine forAllVals_eq rfl ?_
            refine forAllVals_eq rfl ?_
            refine forAllVals_eq rfl ?_
            refine forAllVals_eq rfl ?_
            refine forAllVals_eq rfl ?_
            refine forAllVals_eq rfl ?_
            refine forAllVals_nil ?_; (try clear hs); intro hs
            refine WO.step rfl (OR.assign rfl (WO.step rfl (OR.assign rfl (WO.done (WX.seq (WC.seq (WC.region ?_)))))))
            refine WO.step rfl (OR.move rfl (WO.step rfl (OR.not rfl (WO.step rfl (OR.move rfl ?_)))))
            replace hr1 := hr1.mono hle2
            replace hr2 := hr2.mono hle2
            refine WO.guardYes rfl rfl rfl rfl (OR.loadAll T39 rfl rfl (hs.blk (i := 0) rfl) rfl (WO.guardYes rfl rfl rfl rfl (OR.move rfl ?_)))
            refine WO.guardYes rfl rfl rfl rfl (OR.call hs body21 rfl rfl (isTrue_ok _ _ _ ys r s _ _ hs.toSub hr1 hr2 (hys.mono hlb) (by omega) hyr (by omega) (by omega) (by rw [hsg.1]; exact hyl) hsp) ?_)
            clear hs; rintro _ H w hs hle1 rfl; replace hle := hle.trans hle1; (try replace hlb := hlb.trans hle1)
            refine WO.guardYes rfl rfl rfl rfl (OR.not rfl (WO.step rfl (OR.pickF rfl rfl rfl (WO.step rfl (OR.move rfl ?_)))))
            refine WO.guardYes rfl rfl rfl rfl (OR.fieldAddr FA39_0 rfl (WO.guardYes rfl rfl rfl rfl (OR.load T37 rfl rfl (hs.cellM (i := 0) rfl rfl) ?_)))
            refine WO.guardYes rfl rfl rfl rfl (OR.call hs body28 rfl rfl (isZero_ok _ r.1 _ _ hs.toSub (hr1.mono hle1) (by rw [hsg.1]; omega)) ?_)
            clear hs; rintro _ H w hs hle1 rfl; replace hle := hle.trans hle1; (try replace hlb := hlb.trans hle1)
            rw [decide_eq_false hsz]
            refine WO.step rfl (OR.pickF rfl rfl rfl (WO.done (WX.seq ?_)))
            refine WC.no rfl rfl ?_
            replace hs := hs.drop 0
            refine WC.skip (WX.block (WX.seq (WC.region (WO.step rfl (OR.move rfl (WO.step rfl (OR.addI rfl rfl (by omega) (by omega) ?_)))))))
            refine WO.step rfl (OR.assign rfl (WO.done ?_))
            refine WX.again (i + 1) ⟨rfl, rfl, rfl, rfl, rfl, rfl,  trivial⟩ ?_ ?_
            · exact ⟨hi', by omega, H, hle, hlb, hs⟩
            · omega
        · clear hi hi12
          refine WC.exit (WX.seq_exit (WX.loop_exit (WX.block_hit (WX.seq (WC.seq (WC.region (WO.step rfl ?_)))))))
          refine OR.move rfl ?_
          refine WO.step rfl (OR.call hs body24 rfl rfl (rsolve_ok rb wb 3 (relT g s 4 3 A) l _ _ (HS.relRO (Mr := ([] : Mem)) hs) (hsl.mono hlb) hokT (by omega)) ?_)
          clear hs; rintro _ H w hs hle1 ⟨ro, rfl, hro⟩
          replace hle := hle.trans hle1
          replace hlb := hlb.trans hle1
          rw [relT_solE hin]
          rw [relT_solF hin] at hro
          have hO1 : (if A.length < g then [] else A.map (·.2)) = [] ∨ (if A.length < g then [] else A.map (·.2)) = ys := by
            by_cases hfull : A.length < g
            · rw [if_pos hfull]; exact .inl rfl
            · rw [if_neg hfull]; exact .inr (hgd.solved (by omega) hyl hyr)
          have hO2 : (decide ((if A.length < g then (24 : Int) else 0) = 0) == decide ((A.length : Int) = (g : Int))) = true := by
            by_cases hfull : A.length < g
            · rw [if_pos hfull, decide_eq_false (by omega : ¬ ((A.length : Int) = (g : Int)))]; rfl
            · rw [if_neg hfull, decide_eq_true (by omega : (A.length : Int) = (g : Int))]; rfl
          generalize (if A.length < g then [] else A.map (·.2)) = O at *
          generalize (if A.length < g then (24 : Int) else 0) = eS at *
          obtain ⟨b6, c6, hf6⟩ := hro.form
          subst hf6
          refine WO.step rfl (OR.move rfl (WO.step rfl (OR.extract rfl rfl (WO.step rfl (OR.extract rfl rfl (WO.step rfl (OR.assign rfl ?_)))))))
          refine WO.step rfl (OR.assign rfl (WO.done (WX.seq (WC.seq (WC.seq (WC.region (WO.step rfl ?_)))))))
          refine OR.move rfl (WO.step rfl (OR.eql rfl rfl (WO.step rfl (OR.move rfl (WO.step rfl (OR.lenSlice T50.und rfl (WO.step rfl ?_)))))))
          refine OR.move rfl (WO.step rfl (OR.eql rfl rfl (WO.step rfl (OR.neqB T4.und rfl rfl (WO.done (WX.seq ?_))))))
          refine WC.no rfl (by rw [hO2]; rfl) ?_
          replace hys := hys.mono hlb
          clear hlb
          obtain ⟨HZ, hHZ⟩ : ∃ X, X = H := ⟨_, rfl⟩
          subst hHZ
          refine WC.skip (WX.seq (WC.seq (WC.seq (WC.region (WO.step rfl (OR.assign rfl (WO.done ?_)))))))
          refine WX.seq (WC.block ?_)
          refine WC.loop (ι := Nat) (fun k => [(11, .slice by_ ys.length cy), (29, .slice b6 O.length c6), (31, .int .i64 (k : Int))]) (fun k w => (k ≤ O.length ∧ ∃ H, Hp.le H0 H ∧ Hp.le HZ H ∧ HS [] H0 w0 H [] w)) (fun k => O.length - k) 0 ⟨rfl, rfl, rfl,  trivial⟩ ?_ (fun k w hW => ?_)
          · exact ⟨by omega, HZ, hle, Hp.le.refl _, hs.sublist (List.nil_sublist _)⟩
          clear hs hle
          obtain ⟨hkO, H, hle, hlb, hs⟩ := hW
          refine WC.seq (WC.seq (WC.region (WO.step rfl (OR.move rfl (WO.step rfl (OR.move rfl (WO.step rfl ?_)))))))
          refine OR.lenSlice T31.und rfl (WO.step rfl (OR.lss rfl rfl (WO.done (WX.seq ?_))))
          refine WC.condD rfl (fun hk4 => ?_) (fun hk4 => ?_)
          · have hk' : k < O.length := by omega
            have hOy : O = ys := by
              rcases hO1 with h | h
              · rw [h] at hk'; cases hk'
              · exact h
            subst hOy
            obtain ⟨ob1, oo1, hfo1, hc1⟩ := hro.pos (by omega)
            obtain ⟨ob2, oo2, hfo2, hc2⟩ := hys.pos (by omega)
            subst hfo1 hfo2
            obtain ⟨e1, he1, hbe1⟩ := hc1 k hk'
            obtain ⟨e2, he2, hbe2⟩ := hc2 k hk'
            refine WC.skip (WX.seq (WC.seq (WC.block (WC.seq ?_))))
            refine WC.draw 11 mixed hs (by kernel_rfl) ?_
            refine ⟨MF.eq _, by intro Mx H w hle hs; refine forVals_nil (ORg.plain (OR.move rfl ?_)); exact ⟨_, [], Hp.le.refl _, hs, rfl, rfl⟩, ?_⟩
            refine ⟨MF.eq _, by intro Mx H w hle hs; refine forVals_nil (ORg.plain (OR.move rfl ?_)); exact ⟨_, [], Hp.le.refl _, hs, rfl, rfl⟩, ?_⟩
            refine ⟨MF.eq (.pointer (some ⟨ob1, oo1 + k, none⟩)), ?_, ?_⟩
            · intro Mx H w hle2 hs; (try replace hle := hle.trans hle2); (try replace hlb := hlb.trans hle2); refine forVals_eq rfl rfl rfl ?_; refine forVals_eq rfl rfl rfl ?_
              refine forVals_nil (ORg.plain (OR.idx k T31.und T37 rfl rfl rfl hk' ?_))
              exact ⟨_, [], Hp.le.refl _, hs, rfl, rfl⟩
            refine ⟨MF.eq e1, ?_, ?_⟩
            · intro Mx H w hle2 hs; (try replace hle := hle.trans hle2); (try replace hlb := hlb.trans hle2); refine forVals_eq rfl rfl rfl ?_
              refine forVals_nil (ORg.plain (OR.load T37 rfl rfl (hs.cell (hcell.mono hlb he1)) ?_))
              exact ⟨_, [], Hp.le.refl _, hs, rfl, rfl⟩
            refine ⟨MF.eq (.string (str O[k])), ?_, ?_⟩
            · intro Mx H w hle2 hs; (try replace hle := hle.trans hle2); (try replace hlb := hlb.trans hle2); refine forVals_eq rfl rfl rfl ?_
              refine forVals_nil (ORg.plain (OR.toStr hs T37.und T9.und T5.und rfl (hbe1.mono hlb) ?_))
              exact ⟨_, [], Hp.le.refl _, hs, rfl, rfl⟩
            refine ⟨MF.eq _, by intro Mx H w hle hs; refine forVals_nil (ORg.plain (OR.move rfl ?_)); exact ⟨_, [], Hp.le.refl _, hs, rfl, rfl⟩, ?_⟩
            refine ⟨MF.eq _, by intro Mx H w hle hs; refine forVals_nil (ORg.plain (OR.move rfl ?_)); exact ⟨_, [], Hp.le.refl _, hs, rfl, rfl⟩, ?_⟩
            refine ⟨MF.eq (.pointer (some ⟨ob2, oo2 + k, none⟩)), ?_, ?_⟩
            · intro Mx H w hle2 hs; (try replace hle := hle.trans hle2); (try replace hlb := hlb.trans hle2); refine forVals_eq rfl rfl rfl ?_; refine forVals_eq rfl rfl rfl ?_
              refine forVals_nil (ORg.plain (OR.idx k T31.und T37 rfl rfl rfl hk' ?_))
              exact ⟨_, [], Hp.le.refl _, hs, rfl, rfl⟩
            refine ⟨MF.eq e2, ?_, ?_⟩
            · intro Mx H w hle2 hs; (try replace hle := hle.trans hle2); (try replace hlb := hlb.trans hle2); refine forVals_eq rfl rfl rfl ?_
              refine forVals_nil (ORg.plain (OR.load T37 rfl rfl (hs.cell (hcell.mono hlb he2)) ?_))
              exact ⟨_, [], Hp.le.refl _, hs, rfl, rfl⟩
            refine ⟨MF.eq (.string (str O[k])), ?_, ?_⟩
            · intro Mx H w hle2 hs; (try replace hle := hle.trans hle2); (try replace hlb := hlb.trans hle2); refine forVals_eq rfl rfl rfl ?_
              refine forVals_nil (ORg.plain (OR.toStr hs T37.und T9.und T5.und rfl (hbe2.mono hlb) ?_))
              exact ⟨_, [], Hp.le.refl _, hs, rfl, rfl⟩
            refine ⟨MF.eq _, by intro Mx H w hle hs; refine forVals_eq rfl rfl rfl ?_; refine forVals_eq rfl rfl rfl ?_; refine forVals_nil (ORg.plain (OR.neqStr rfl rfl ?_)); exact ⟨_, [], Hp.le.refl _, hs, rfl, rfl⟩, ?_⟩
            intro H w hle2; (try replace hle := hle.trans hle2); (try replace hlb := hlb.trans hle2)
            refine forAllVals_eq rfl ?_
            refine forAllVals_eq rfl ?_
            refine forAllVals_eq rfl ?_
            refine forAllVals_eq rfl ?_
            refine forAllVals_eq rfl ?_
            refine forAllVals_eq rfl ?_
            refine forAllVals_eq rfl ?_
            refine forAllVals_eq rfl ?_
            refine forAllVals_eq rfl ?_
            refine forAllVals_eq rfl ?_
            refine forAllVals_eq rfl ?_
            refine forAllVals_nil ?_; (try clear hs); intro hs
            refine WO.done (WX.seq ?_)
            refine WC.no rfl (by simp) ?_
            refine WC.skip (WX.block (WX.seq (WC.region (WO.step rfl (OR.move rfl (WO.step rfl (OR.addI rfl rfl (by omega) (by omega) ?_)))))))
            refine WO.step rfl (OR.assign rfl (WO.done ?_))
            refine WX.again (k + 1) ⟨rfl, rfl, rfl,  trivial⟩ ?_ ?_
            · exact ⟨hk', H, hle, hlb, hs⟩
            · omega
          · refine WC.exit (WX.seq_exit (WX.loop_exit (WX.block_hit (WX.seq (WC.seq (WC.region ?_))))))
            refine WO.step rfl (OR.call hs body25 rfl rfl (wakes14_ok _ _ hs.toSub) ?_)
            clear hs; rintro _ H w hs hle1 rfl; replace hle := hle.trans hle1; (try replace hlb := hlb.trans hle1)
            refine WO.step rfl (OR.assign rfl (WO.done (WX.seq (WC.ret ?_))))
            refine WX.ret1 rfl rfl ?_
            exact .mk hs rfl
      · clear hi hi12
        refine WO.guardNo rfl (decide_eq_false hks) rfl rfl (WO.guardNo rfl (decide_eq_false hks) rfl rfl (WO.step rfl (OR.pickF rfl (decide_eq_false hks) rfl (WO.done (WX.seq (WC.no rfl rfl (WC.exit ?_)))))))
        refine WX.seq_exit (WX.loop_exit (WX.block_hit (WX.seq (WC.seq (WC.region (WO.step rfl (OR.move rfl ?_)))))))
        refine WO.step rfl (OR.call hs body24 rfl rfl (rsolve_ok rb wb 3 (relT g s 4 3 A) l _ _ (HS.relRO (Mr := ([] : Mem)) hs) (hsl.mono hlb) hokT (by omega)) ?_)
        clear hs; rintro _ H w hs hle1 ⟨ro, rfl, hro⟩
        replace hle := hle.trans hle1
        replace hlb := hlb.trans hle1
        rw [relT_solE hin]
        rw [relT_solF hin] at hro
        have hO1 : (if A.length < g then [] else A.map (·.2)) = [] ∨ (if A.length < g then [] else A.map (·.2)) = ys := by
          by_cases hfull : A.length < g
          · rw [if_pos hfull]; exact .inl rfl
          · rw [if_neg hfull]; exact .inr (hgd.solved (by omega) hyl hyr)
        have hO2 : (decide ((if A.length < g then (24 : Int) else 0) = 0) == decide ((A.length : Int) = (g : Int))) = true := by
          by_cases hfull : A.length < g
          · rw [if_pos hfull, decide_eq_false (by omega : ¬ ((A.length : Int) = (g : Int)))]; rfl
          · rw [if_neg hfull, decide_eq_true (by omega : (A.length : Int) = (g : Int))]; rfl
        generalize (if A.length < g then [] else A.map (·.2)) = O at *
        generalize (if A.length < g then (24 : Int) else 0) = eS at *
        obtain ⟨b6, c6, hf6⟩ := hro.form
        subst hf6
        refine WO.step rfl (OR.move rfl (WO.step rfl (OR.extract rfl rfl (WO.step rfl (OR.extract rfl rfl (WO.step rfl (OR.assign rfl ?_)))))))
        refine WO.step rfl (OR.assign rfl (WO.done (WX.seq (WC.seq (WC.seq (WC.region (WO.step rfl ?_)))))))
        refine OR.move rfl (WO.step rfl (OR.eql rfl rfl (WO.step rfl (OR.move rfl (WO.step rfl (OR.lenSlice T50.und rfl (WO.step rfl ?_)))))))
        refine OR.move rfl (WO.step rfl (OR.eql rfl rfl (WO.step rfl (OR.neqB T4.und rfl rfl (WO.done (WX.seq ?_))))))
        refine WC.no rfl (by rw [hO2]; rfl) ?_
        replace hys := hys.mono hlb
        clear hlb
        obtain ⟨HZ, hHZ⟩ : ∃ X, X = H := ⟨_, rfl⟩
        subst hHZ
        refine WC.skip (WX.seq (WC.seq (WC.seq (WC.region (WO.step rfl (OR.assign rfl (WO.done ?_)))))))
        refine WX.seq (WC.block ?_)
        refine WC.loop (ι := Nat) (fun k => [(11, .slice by_ ys.length cy), (29, .slice b6 O.length c6), (31, .int .i64 (k : Int))]) (fun k w => (k ≤ O.length ∧ ∃ H, Hp.le H0 H ∧ Hp.le HZ H ∧ HS [] H0 w0 H [] w)) (fun k => O.length - k) 0 ⟨rfl, rfl, rfl,  trivial⟩ ?_ (fun k w hW => ?_)
        · exact ⟨by omega, HZ, hle, Hp.le.refl _, hs.sublist (List.nil_sublist _)⟩
        clear hs hle
        obtain ⟨hkO, H, hle, hlb, hs⟩ := hW
        refine WC.seq (WC.seq (WC.region (WO.step rfl (OR.move rfl (WO.step rfl (OR.move rfl (WO.step rfl ?_)))))))
        refine OR.lenSlice T31.und rfl (WO.step rfl (OR.lss rfl rfl (WO.done (WX.seq ?_))))
        refine WC.condD rfl (fun hk4 => ?_) (fun hk4 => ?_)
        · have hk' : k < O.length := by omega
          have hOy : O = ys := by
            rcases hO1 with h | h
            · rw [h] at hk'; cases hk'
            · exact h
          subst hOy
          obtain ⟨ob1, oo1, hfo1, hc1⟩ := hro.pos (by omega)
          obtain ⟨ob2, oo2, hfo2, hc2⟩ := hys.pos (by omega)
          subst hfo1 hfo2
          obtain ⟨e1, he1, hbe1⟩ := hc1 k hk'
          obtain ⟨e2, he2, hbe2⟩ := hc2 k hk'
          refine WC.skip (WX.seq (WC.seq (WC.block (WC.seq ?_))))
          refine WC.draw 11 mixed hs (by kernel_rfl) ?_
          refine ⟨MF.eq _, by intro Mx H w hle hs; refine forVals_nil (ORg.plain (OR.move rfl ?_)); exact ⟨_, [], Hp.le.refl _, hs, rfl, rfl⟩, ?_⟩
          refine ⟨MF.eq _, by intro Mx H w hle hs; refine forVals_nil (ORg.plain (OR.move rfl ?_)); exact ⟨_, [], Hp.le.refl _, hs, rfl, rfl⟩, ?_⟩
          refine ⟨MF.eq (.pointer (some ⟨ob1, oo1 + k, none⟩)), ?_, ?_⟩
          · intro Mx H w hle2 hs; (try replace hle := hle.trans hle2); (try replace hlb := hlb.trans hle2); refine forVals_eq rfl rfl rfl ?_; refine forVals_eq rfl rfl rfl ?_
            refine forVals_nil (ORg.plain (OR.idx k T31.und T37 rfl rfl rfl hk' ?_))
            exact ⟨_, [], Hp.le.refl _, hs, rfl, rfl⟩
          refine ⟨MF.eq e1, ?_, ?_⟩
          · intro Mx H w hle2 hs; (try replace hle := hle.trans hle2); (try replace hlb := hlb.trans hle2); refine forVals_eq rfl rfl rfl ?_
            refine forVals_nil (ORg.plain (OR.load T37 rfl rfl (hs.cell (hcell.mono hlb he1)) ?_))
            exact ⟨_, [], Hp.le.refl _, hs, rfl, rfl⟩
          refine ⟨MF.eq (.string (str O[k])), ?_, ?_⟩
          · intro Mx H w hle2 hs; (try replace hle := hle.trans hle2); (try replace hlb := hlb.trans hle2); refine forVals_eq rfl rfl rfl ?_
            refine forVals_nil (ORg.plain (OR.toStr hs T37.und T9.und T5.und rfl (hbe1.mono hlb) ?_))
            exact ⟨_, [], Hp.le.refl _, hs, rfl, rfl⟩
          refine ⟨MF.eq _, by intro Mx H w hle hs; refine forVals_nil (ORg.plain (OR.move rfl ?_)); exact ⟨_, [], Hp.le.refl _, hs, rfl, rfl⟩, ?_⟩
          refine ⟨MF.eq _, by intro Mx H w hle hs; refine forVals_nil (ORg.plain (OR.move rfl ?_)); exact ⟨_, [], Hp.le.refl _, hs, rfl, rfl⟩, ?_⟩
          refine ⟨MF.eq (.pointer (some ⟨ob2, oo2 + k, none⟩)), ?_, ?_⟩
          · intro Mx H w hle2 hs; (try replace hle := hle.trans hle2); (try replace hlb := hlb.trans hle2); refine forVals_eq rfl rfl rfl ?_; refine forVals_eq rfl rfl rfl ?_
            refine forVals_nil (ORg.plain (OR.idx k T31.und T37 rfl rfl rfl hk' ?_))
            exact ⟨_, [], Hp.le.refl _, hs, rfl, rfl⟩
          refine ⟨MF.eq e2, ?_, ?_⟩
          · intro Mx H w hle2 hs; (try replace hle := hle.trans hle2); (try replace hlb := hlb.trans hle2); refine forVals_eq rfl rfl rfl ?_
            refine forVals_nil (ORg.plain (OR.load T37 rfl rfl (hs.cell (hcell.mono hlb he2)) ?_))
            exact ⟨_, [], Hp.le.refl _, hs, rfl, rfl⟩
          refine ⟨MF.eq (.string (str O[k])), ?_, ?_⟩
          · intro Mx H w hle2 hs; (try replace hle := hle.trans hle2); (try replace hlb := hlb.trans hle2); refine forVals_eq rfl rfl rfl ?_
            refine forVals_nil (ORg.plain (OR.toStr hs T37.und T9.und T5.und rfl (hbe2.mono hlb) ?_))
            exact ⟨_, [], Hp.le.refl _, hs, rfl, rfl⟩
          refine ⟨MF.eq _, by intro Mx H w hle hs; refine forVals_eq rfl rfl rfl ?_; refine forVals_eq rfl rfl rfl ?_; refine forVals_nil (ORg.plain (OR.neqStr rfl rfl ?_)); exact ⟨_, [], Hp.le.refl _, hs, rfl, rfl⟩, ?_⟩
          intro H w hle2; (try replace hle := hle.trans hle2); (try replace hlb := hlb.trans hle2)
          refine forAllVals_eq rfl ?_
          refine forAllVals_eq rfl ?_
          refine forAllVals_eq rfl ?_
          refine forAllVals_eq rfl ?_
          refine forAllVals_eq rfl ?_
          refine forAllVals_eq rfl ?_
          refine forAllVals_eq rfl ?_
          refine forAllVals_eq rfl ?_
          refine forAllVals_eq rfl ?_
          refine forAllVals_eq rfl ?_
          refine forAllVals_eq rfl ?_
          refine forAllVals_nil ?_; (try clear hs); intro hs
          refine WO.done (WX.seq ?_)
          refine WC.no rfl (by simp) ?_
          refine WC.skip (WX.block (WX.seq (WC.region (WO.step rfl (OR.move rfl (WO.step rfl (OR.addI rfl rfl (by omega) (by omega) ?_)))))))
          refine WO.step rfl (OR.assign rfl (WO.done ?_))
          refine WX.again (k + 1) ⟨rfl, rfl, rfl,  trivial⟩ ?_ ?_
          · exact ⟨hk', H, hle, hlb, hs⟩
          · omega
        · refine WC.exit (WX.seq_exit (WX.loop_exit (WX.block_hit (WX.seq (WC.seq (WC.region ?_))))))
          refine WO.step rfl (OR.call hs body25 rfl rfl (wakes14_ok _ _ hs.toSub) ?_)
          clear hs; rintro _ H w hs hle1 rfl; replace hle := hle.trans hle1; (try replace hlb := hlb.trans hle1)
          refine WO.step rfl (OR.assign rfl (WO.done (WX.seq (WC.ret ?_))))
          refine WX.ret1 rfl rfl ?_
          exact .mk hs rfl
end Go.Bw
namespace Go.Bw
set_option linter.unusedVariables false
set_option linter.unusedSimpArgs false
open Go.Proofs Go.RowKit Go.ChangeShapes

set_option maxRecDepth 20000 in
theorem law_RelayTrue {H : Type} {enc : TypeId × Value → H} {W : World} {base : Nat} {v0 v1 v2 v3 : Value} {d0 d1 d2 d3 : DataW H} {p0 p1 p2 p3 : List MemPlace}
    (hv0 : Value.okWide Try.prog W .any base 37 v0) (h0 : DataW.Trod enc Try.prog W 0 (fun _ => true) true 37 v0 d0 p0)
    (hv1 : Value.okWide Try.prog W .any base 43 v1) (h1 : DataW.Trod enc Try.prog W 0 (fun _ => true) true 43 v1 d1 p1)
    (hv2 : Value.okWide Try.prog W .any base 31 v2) (h2 : DataW.Trod enc Try.prog W 0 (fun _ => true) true 31 v2 d2 p2)
    (hv3 : Value.okWide Try.prog W .any base 31 v3) (h3 : DataW.Trod enc Try.prog W 0 (fun _ => true) true 31 v3 d3 p3) :
    Calls Try.prog 5 #[v0, v1, v2, v3] W fun e w' => e = .returned (.bool true) ∧ Below W.heap.size W w' := by
  have c1 : Try.prog.cellsOf 5 = 1 := by kernel_rfl
  have c2 : Try.prog.cellsOf 37 = 1 := by kernel_rfl
  obtain ⟨b, hb, lb⟩ := read_bytesV T37.und T5.und c1 hv0 h0
  obtain ⟨a, c, rfl⟩ := read_byte2 T43.und T5.und c1 (by kernel_rfl) hv1 h1
  obtain ⟨tk, ht, l2, l2'⟩ := read_bytesLV T31.und T37.und T5.und c2 c1 hv2 h2
  obtain ⟨ds, hd, l3, l3'⟩ := read_bytesLV T31.und T37.und T5.und c2 c1 hv3 h3
  exact (rtrue_ok a c _ _ _ b tk ds _ W (heapOf.sub W) hb ht hd l2').mono fun e w' h => h.law fun _ _ h => h
end Go.Bw
