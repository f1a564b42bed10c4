/- BasisForm, walked. -/
import Derived.Test.YtbgdgmilcojlbaaBack
namespace Go.Bw
set_option linter.unusedVariables false
set_option linter.unusedSimpArgs false
open Go.Proofs

theorem foldl_in {g s : Nat} {ys : List (List UInt8)} : ∀ (l b : List RowD), (∀ r ∈ l, Tr ys r ∧ RowGS g s r) → Good g s ys b →
    (∀ v, RowGS g s v → InS b (fun _ => True) v → InS (l.foldl (fun b r => (insR g s b r).2) b) (fun _ => True) v) ∧ ∀ r ∈ l, InS (l.foldl (fun b r => (insR g s b r).2) b) (fun _ => True) r
  | [], b, _, _ => ⟨fun v _ h => h, by simp⟩
  | r :: l, b, hl, hb => by
    obtain ⟨ht, hg⟩ := hl r (by simp)
    obtain ⟨h1, h2⟩ := foldl_in l _ (fun x hx => hl x (by simp [hx])) (hb.ins hg ht)
    refine ⟨fun v hv hin => h1 v hv (hb.keep hg (fun _ => trivial) hv hin), fun x hx => ?_⟩
    rcases List.mem_cons.1 hx with rfl | hx
    · exact h1 _ hg (hb.has hg ht)
    · exact h2 x hx
theorem insAll_in {g s : Nat} {ys : List (List UInt8)} (rs : List RowD) (h : ∀ r ∈ rs, Tr ys r ∧ RowGS g s r) : ∀ r ∈ rs, InS (insAll g s rs) (fun _ => True) r :=
  (foldl_in rs [] h (Good.nil g s ys)).2
theorem ent_getElem {x : RowD} {j : Nat} (h : j < x.1.length) : x.1[j] = ent x (.inl j) := by simp [ent, h]

theorem Red.asc_ne {g s : Nat} {A : List RowD} (h : Red g s A) {i k : Nat} (hi : i < A.length) (hk : k < A.length) (hne : i ≠ k) : lead A[i].1 ≠ lead A[k].1 := by
  have h1 := List.pairwise_iff_getElem.1 h.asc
  rcases Nat.lt_or_ge i k with e | e
  · have := h1 i k hi hk e; omega
  · have := h1 k i hk hi (by omega); omega

set_option maxRecDepth 20000 in
set_option maxHeartbeats 2000000 in
theorem form_ok (G S : UInt8) (vs vc vo : Value) (sy co : List (List UInt8)) (H0 : Hp) (w0 : World) (h0 : Sub H0 w0) (hsy : BytesL H0 vs sy) (hco : BytesL H0 vc co)
    (hl1 : sy.length ≤ 9223372036854775807) (hl2 : co.length ≤ 9223372036854775807) (hvo : vo.oneCell' = true) :
    Calls Try.prog 5 #[.agg #[B G, B S, vs, vc, vo]] w0 (Pure H0 w0 fun v _ => v = .bool true) := by
  have hs := HS.init h0
  have hle := Hp.le.refl H0
  obtain ⟨bs, cs, rfl⟩ := hsy.form
  obtain ⟨bc, cc, rfl⟩ := hco.form
  refine Calls.enter (args := [.agg #[B G, B S, .slice bs sy.length cs, .slice bc co.length cc, vo]]) Try.func5 rfl Try.ntmps5 rfl ?_
  refine WC.seq (WC.region (WO.step rfl (OR.box hs rfl ?_)))
  clear hs; intro g1 w hg1 hs
  refine WO.step rfl (OR.assign rfl (WO.done (WX.seq (WC.seq (WC.region (WO.step rfl (OR.loadAll T25 rfl rfl (hs.blk (i := 0) rfl) rfl ?_)))))))
  refine WO.step rfl (OR.call hs body14 rfl rfl (laid_ok G S _ _ _ _ _ _ _ hs.toSub hsy hco hl1 hl2 hvo) ?_)
  clear hs; rintro _ H w hs hle1 ⟨rs, rr, rfl, hss, hrr⟩; replace hle := hle.trans hle1; (try replace hlb := hlb.trans hle1)
  have hG1 : 1 ≤ laidG G ∧ laidG G ≤ 10 := by have := Nat.mod_lt G.toNat (by omega : 0 < 10); unfold laidG; omega
  have hS1 : 1 ≤ laidG S ∧ laidG S ≤ 10 := by have := Nat.mod_lt S.toNat (by omega : 0 < 10); unfold laidG; omega
  generalize laidG G = g at *
  generalize laidG S = s at *
  obtain ⟨b1, c1, rfl⟩ := hss.form
  obtain ⟨b2, c2, rfl⟩ := hrr.form
  refine WO.step rfl (OR.move rfl (WO.step rfl (OR.extract rfl rfl (WO.step rfl (OR.extract rfl rfl (WO.step rfl (OR.extract rfl rfl ?_)))))))
  refine WO.step rfl (OR.extract rfl rfl (WO.step rfl (OR.assign rfl (WO.step rfl (OR.assign rfl (WO.step rfl (OR.assign rfl ?_)))))))
  refine WO.step rfl (OR.assign rfl (WO.done (WX.seq (WC.seq (WC.region (WO.step rfl (OR.move rfl ?_)))))))
  refine WO.step rfl (OR.move rfl ?_)
  replace hs := hs.drop (i := 0)
  refine WO.step rfl (OR.callX (Mx := []) hs body15 rfl rfl (new_ok g s _ _ hs.toSub) rfl rfl ?_)
  clear hs; rintro _ H M' w hs hle1 hnew ⟨_, hn⟩; replace hle := hle.trans hle1; (try replace hlb := hlb.trans hle1)
  rw [if_pos (by omega)] at hn
  obtain ⟨b, hb0, rfl, rfl⟩ := hn
  replace hrr := hrr.mono hle1
  have hlb := Hp.le.refl H
  refine WO.step rfl (OR.move rfl (WO.step rfl (OR.extract rfl rfl (WO.step rfl (OR.extract rfl rfl (WO.step rfl (OR.assign rfl ?_)))))))
  refine WO.step rfl (OR.assign rfl (WO.done (WX.seq (WC.seq (WC.seq (WC.region ?_))))))
  refine WO.step rfl (OR.call hs body16 rfl rfl (awake_ok _ _ hs.toSub) ?_)
  clear hs; rintro _ H w hs hle1 rfl; replace hle := hle.trans hle1; (try replace hlb := hlb.trans hle1)
  refine WO.step rfl (OR.not rfl (WO.step rfl (OR.move rfl ?_)))
  refine WO.guardYes rfl rfl rfl rfl (OR.move rfl (WO.guardYes rfl rfl rfl rfl (OR.neq rfl rfl (WO.step rfl (OR.pickF rfl rfl rfl (WO.done (WX.seq ?_)))))))
  refine WC.no rfl (decide_eq_false (by omega)) ?_
  refine WC.skip (WX.seq (WC.seq (WC.seq (WC.region (WO.step rfl (OR.move rfl (WO.step rfl ?_)))))))
  refine OR.lenSlice T26.und rfl (WO.step rfl (OR.move rfl (WO.done (WX.seq (WC.block ?_)))))
  replace hrr := hrr.mono hlb
  clear hlb hss
  have hys : ∀ r ∈ laidSyms g s sy, r.length = s := by
    intro r hr
    obtain ⟨i, _, rfl⟩ := List.mem_map.1 hr
    exact padTo_length _ _
  have hR : ∀ r ∈ laidRows g s (laidSyms g s sy) co, Tr (laidSyms g s sy) r ∧ RowGS g s r := by
    intro r hr
    obtain ⟨c, _, rfl⟩ := List.mem_map.1 hr
    exact laid_true _ c hys
  have hRl : (laidRows g s (laidSyms g s sy) co).length ≤ 40 := by simp [laidRows]; omega
  generalize laidRows g s (laidSyms g s sy) co = R at *
  generalize laidSyms g s sy = ys at *
  have hg' : g ≤ 10 := hG1.2
  refine WC.loop (ι := Nat) (fun ix => [(3, .int .i64 (g : Int)), (4, .int .i64 (s : Int)), (6, .slice b2 R.length c2), (7, ptr b), (43, .slice b2 R.length c2), (44, .int .i64 (R.length : Int)), (45, .int .i64 (ix : Int))]) (fun ix w => (ix ≤ R.length ∧ ∃ H2 rv, Hp.le H0 H2 ∧ Hp.le H H2 ∧ Rws H2 rv (insAll g s (R.take ix)) ∧ HS [] H0 w0 H2 [(b, basisObj g s rv, true)] w)) (fun ix => R.length - ix) 0 ⟨rfl, rfl, rfl, rfl, rfl, rfl, rfl,  trivial⟩ ?_ (fun ix w hW => ?_)
  · exact ⟨by omega, H, _, hle, Hp.le.refl H, ⟨[], Sl.nil _ _, rfl, fun i h => by simp [insAll] at h⟩, hs⟩
  clear hs hle
  obtain ⟨hk, H2, rv, hle, hlb, hv, hs⟩ := hW
  have hgd := insAll_good (g := g) (s := s) (ys := ys) (R.take ix) (fun r hr => hR r (List.mem_of_mem_take hr))
  have hin := insAll_in (g := g) (s := s) (ys := ys) (R.take ix) (fun r hr => hR r (List.mem_of_mem_take hr))
  have hst : ∀ h : ix < R.length, insAll g s (R.take (ix + 1)) = (insR g s (insAll g s (R.take ix)) R[ix]).2 := fun h => insAll_step g s R ix h
  generalize insAll g s (R.take ix) = A at *
  have hAl := hgd.red.len
  have hAr : ∀ x ∈ A, RowGS g s x ∧ 0 ≤ lead x.1 := fun x hx => ⟨hgd.red.gs x hx, hgd.red.ld x hx⟩
  refine WC.seq (WC.region (WO.step rfl (OR.lss rfl rfl (WO.done (WX.seq (WC.seq ?_))))))
  refine WC.condD rfl (fun hlt => ?_) (fun hlt => ?_)
  · have hk' : ix < R.length := by omega
    obtain ⟨hrt, hrg⟩ := hR R[ix] (List.getElem_mem _)
    obtain ⟨xb, xo, rfl, hcr⟩ := hrr.pos (by omega)
    obtain ⟨ec, ep, hcc, hec, hep⟩ := hcr ix hk'
    obtain ⟨b3, c3, rfl⟩ := hec.form
    obtain ⟨b4, c4, rfl⟩ := hep.form
    refine WC.skip (WX.seq (WC.seq (WC.block (WC.seq (WC.region ?_)))))
    refine WO.step rfl (OR.idxN ix T26.und T35 rfl rfl rfl hk' ?_)
    refine WO.step rfl (OR.loadN (cs := [_, _]) T35 rfl rfl rfl (fun j u hj => hs.cell (hcell.mono hlb (hcc j u hj))) ?_)
    refine WO.step rfl (OR.alloc hs T35 ?_)
    clear hs; intro g2 w hg2 hs
    refine WO.stepN (OR.storeAll hs T35 rfl rfl rfl rfl rfl ?_)
    clear hs; intro w hs
    refine WO.done (WX.seq (WC.region (WO.step rfl (OR.move rfl (WO.step rfl (OR.loadAll T35 rfl rfl (hs.blk (i := 0) rfl) rfl ?_))))))
    replace hs := hs.drop (i := 0)
    refine WO.step rfl (OR.callX (Mx := [(b, _, true)]) hs body18 rfl rfl (insert_ok A R[ix] _ _ _ b g s _ _ hs.toSub (hs.blk (i := 0) rfl) (hs.mem b _ true (List.mem_cons_self ..)).2.1 hv (hec.mono hlb) (hep.mono hlb) hAr (by omega) (by omega) (by omega) (by omega)) rfl rfl ?_)
    clear hs; rintro _ H3 M' w hs hle1 hnew ⟨rv2, rfl, hv2, rfl⟩; replace hle := hle.trans hle1; (try replace hlb := hlb.trans hle1)
    refine WO.done (WX.block (WX.seq (WC.region (WO.step rfl (OR.addI rfl rfl (by omega) (by omega) (WO.step rfl (OR.move rfl ?_)))))))
    refine WO.done ?_
    refine WX.again (ix + 1) ⟨rfl, rfl, rfl, rfl, rfl, rfl, rfl,  trivial⟩ ?_ ?_
    · exact ⟨hk', H3, rv2, hle, hlb, by rw [hst hk']; exact hv2, hs⟩
    · omega
  · have e : ix = R.length := by omega
    subst e
    clear hst hk
    rw [List.take_length] at hin
    refine WC.exit (WX.seq_exit (WX.loop_exit (WX.block_hit (WX.seq (WC.seq (WC.region (WO.step rfl ?_)))))))
    refine OR.move rfl ?_
    refine WO.step rfl (OR.call hs body20 rfl rfl (rows_ok A _ b g s _ _ hs.toSub (hs.blk (i := 0) rfl) (hs.mem b _ true (List.mem_cons_self ..)).2.1 hv hgd.red.gs (by omega) (by omega) (by omega) (by omega)) ?_)
    clear hs; rintro _ H w hs hle1 hrw; replace hle := hle.trans hle1; (try replace hlb := hlb.trans hle1)
    replace hv := hv.mono hle1
    replace hrr := hrr.mono hlb
    obtain ⟨b4, c4, rfl⟩ := hrw.form
    refine WO.step rfl (OR.assign rfl (WO.done (WX.seq (WC.seq (WC.seq (WC.region (WO.step rfl ?_)))))))
    refine OR.move rfl (WO.step rfl (OR.lenSlice T26.und rfl (WO.step rfl (OR.move rfl (WO.done (WX.seq (WC.block ?_)))))))
    clear hlb
    obtain ⟨HB, hHB⟩ : ∃ X, X = H := ⟨_, rfl⟩
    subst hHB
    refine WC.loop (ι := Nat) (fun i => [(6, .slice b2 R.length c2), (7, ptr b), (11, .slice b4 A.length c4), (55, .slice b4 A.length c4), (56, .int .i64 (A.length : Int)), (57, .int .i64 (i : Int))]) (fun i w => (i ≤ A.length ∧ ∃ H2, Hp.le H0 H2 ∧ Hp.le HB H2 ∧ HS [] H0 w0 H2 [(b, basisObj g s rv, true)] w)) (fun i => A.length - i) 0 ⟨rfl, rfl, rfl, rfl, rfl, rfl,  trivial⟩ ?_ (fun i w hW => ?_)
    · exact ⟨by omega, HB, hle, Hp.le.refl HB, hs⟩
    clear hs hle
    obtain ⟨hi, H2, hle, hlb, hs⟩ := hW
    refine WC.seq (WC.region (WO.step rfl (OR.lss rfl rfl (WO.done (WX.seq (WC.seq ?_))))))
    refine WC.condD rfl (fun hlt2 => ?_) (fun hlt2 => ?_)
    · have hi' : i < A.length := by omega
      have hxm := List.getElem_mem hi'
      have hxg := hgd.red.gs _ hxm
      have hld := hgd.red.ld _ hxm
      have hldl := lead_lt hld
      have hone := hgd.red.one _ hxm
      obtain ⟨j, hj⟩ := Int.eq_ofNat_of_zero_le hld
      have hjl : j < A[i].1.length := by omega
      have hjp : ldp A[i] = j := by unfold ldp; omega
      rw [hjp, ← ent_getElem hjl] at hone
      obtain ⟨xb, xo, rfl, hcr⟩ := hrw.pos (by omega)
      obtain ⟨ec, ep, hcc, hec, hep⟩ := hcr i hi'
      obtain ⟨b6, c6, rfl⟩ := hep.form
      obtain ⟨b5, c5, rfl⟩ := hec.form
      obtain ⟨yb, yo, rfl, hcy⟩ := hec.pos (by omega)
      refine WC.skip (WX.seq (WC.seq (WC.block (WC.seq (WC.region (WO.step rfl (OR.move rfl ?_)))))))
      refine WO.step rfl (OR.idxN i T26.und T35 rfl rfl rfl hi' ?_)
      refine WO.step rfl (OR.loadN (cs := [_, _]) T35 rfl rfl rfl (fun j u hj => hs.cell (hcell.mono hlb (hcc j u hj))) ?_)
      refine WO.step rfl (OR.alloc hs T35 ?_)
      clear hs; intro g3 w hg3 hs
      refine WO.step rfl (OR.assign rfl (WO.stepN (OR.storeAll hs T35 rfl rfl rfl rfl rfl ?_)))
      clear hs; intro w hs
      refine WO.done (WX.seq (WC.seq (WC.region (WO.step rfl (OR.fieldAddr FA35_0 rfl (WO.step rfl (OR.load T23 rfl rfl (hs.cellM (i := 0) rfl rfl) ?_)))))))
      refine WO.step rfl (OR.call hs body26 rfl rfl (lead_ok _ _ _ _ hs.toSub (hec.mono hlb) (by rw [hxg.1]; omega)) ?_)
      clear hs; rintro _ H w hs hle1 rfl; replace hle := hle.trans hle1; (try replace hlb := hlb.trans hle1)
      refine WO.step rfl (OR.assign rfl (WO.done (WX.seq (WC.seq (WC.seq (WC.region (WO.step rfl ?_)))))))
      refine OR.move rfl (WO.step rfl (OR.gtr rfl rfl (WO.step rfl (OR.move rfl ?_))))
      refine WO.guardSplit (j := 2) rfl (fun hi0 => ?_) (fun hi0 => ?_)
      · have hi1 : i - 1 < A.length := by omega
        have hpm := List.getElem_mem hi1
        have hpg := hgd.red.gs _ hpm
        have hpl : lead A[i - 1].1 < lead A[i].1 := List.pairwise_iff_getElem.1 hgd.red.asc (i - 1) i hi1 hi' (by omega)
        obtain ⟨pc, pp, hpc, hpe, _⟩ := hcr (i - 1) hi1
        refine WO.guardYes rfl (decide_eq_true hi0) rfl rfl (OR.move rfl (WO.guardYes rfl (decide_eq_true hi0) rfl rfl (OR.move rfl (WO.guardYes rfl (decide_eq_true hi0) rfl rfl (OR.subI rfl rfl (by omega) (by omega) ?_)))))
        refine WO.guardYes rfl (decide_eq_true hi0) rfl rfl (OR.idxN (i - 1) T26.und T35 rfl rfl (by omega) hi1 ?_)
        refine WO.guardYes rfl (decide_eq_true hi0) rfl rfl (OR.fieldAddr FA35_0 rfl ?_)
        refine WO.guardYes rfl (decide_eq_true hi0) rfl rfl (OR.load T23 rfl rfl (hs.cell (hcell.mono hlb (by have := hpc 0 pc rfl; rw [add_off] at this; exact this))) ?_)
        refine WO.guardYes rfl (decide_eq_true hi0) rfl rfl (OR.call hs body26 rfl rfl (lead_ok _ _ _ _ hs.toSub (hpe.mono hlb) (by rw [hpg.1]; omega)) ?_)
        clear hs; rintro _ H w hs hle1 rfl; replace hle := hle.trans hle1; (try replace hlb := hlb.trans hle1)
        refine WO.guardYes rfl (decide_eq_true hi0) rfl rfl (OR.move rfl (WO.guardYes rfl (decide_eq_true hi0) rfl rfl (OR.geq rfl rfl (WO.step rfl (OR.pickT rfl (decide_eq_true hi0) rfl (WO.step rfl (OR.move rfl ?_)))))))
        refine WO.guardYes rfl (decide_eq_false (by omega : ¬ (lead A[i - 1].1 ≥ lead A[i].1))) rfl rfl (OR.fieldAddr FA35_0 rfl (WO.guardYes rfl (decide_eq_false (by omega : ¬ (lead A[i - 1].1 ≥ lead A[i].1))) rfl rfl (OR.load T23 rfl rfl (hs.cellM (i := 0) rfl rfl) (WO.guardYes rfl (decide_eq_false (by omega : ¬ (lead A[i - 1].1 ≥ lead A[i].1))) rfl rfl (OR.move rfl ?_)))))
        refine WO.guardYes rfl (decide_eq_false (by omega : ¬ (lead A[i - 1].1 ≥ lead A[i].1))) rfl rfl (OR.idx j T23.und T5 rfl rfl hj hjl ?_)
        refine WO.guardYes rfl (decide_eq_false (by omega : ¬ (lead A[i - 1].1 ≥ lead A[i].1))) rfl rfl (OR.load T5 rfl rfl (hs.cell (hcell.mono hlb (hcy j hjl))) ?_)
        refine WO.guardYes rfl (decide_eq_false (by omega : ¬ (lead A[i - 1].1 ≥ lead A[i].1))) rfl rfl (OR.neq rfl rfl (WO.step rfl (OR.pickF rfl (decide_eq_false (by omega : ¬ (lead A[i - 1].1 ≥ lead A[i].1))) rfl (WO.done (WX.seq ?_)))))
        refine WC.no rfl (decide_eq_false (by rw [hone]; decide : ¬ ((A[i].1[j].toNat : Int) ≠ 1))) ?_
        refine WC.skip (WX.seq (WC.seq (WC.region (WO.step rfl (OR.move rfl (WO.step rfl (OR.lenSlice T26.und rfl ?_)))))))
        refine WO.step rfl (OR.move rfl (WO.done (WX.seq (WC.block ?_))))
        refine WC.loop (ι := Nat) (fun k => [(6, .slice b2 R.length c2), (7, ptr b), (11, .slice (some ⟨xb, xo, none⟩) A.length c4), (12, .int .i64 (i : Int)), (14, .int .i64 (lead A[i].1)), (55, .slice (some ⟨xb, xo, none⟩) A.length c4), (56, .int .i64 (A.length : Int)), (57, .int .i64 (i : Int)), (86, .slice (some ⟨xb, xo, none⟩) A.length c4), (87, .int .i64 (A.length : Int)), (88, .int .i64 (k : Int))]) (fun k w => (k ≤ A.length ∧ ∃ H2, Hp.le H0 H2 ∧ Hp.le HB H2 ∧ HS [] H0 w0 H2 [(b, basisObj g s rv, true)] w)) (fun k => A.length - k) 0 ⟨rfl, rfl, rfl, rfl, rfl, rfl, rfl, rfl, rfl, rfl, rfl,  trivial⟩ ?_ (fun k w hW => ?_)
        · exact ⟨by omega, _, hle, hlb, hs.drop 0⟩
        clear hs hle hlb
        obtain ⟨hkk, H2, hle, hlb, hs⟩ := hW
        refine WC.seq (WC.region (WO.step rfl (OR.lss rfl rfl (WO.done (WX.seq (WC.seq ?_))))))
        refine WC.condD rfl (fun hlt3 => ?_) (fun hlt3 => ?_)
        · have hk' : k < A.length := by omega
          have hym := List.getElem_mem hk'
          have hyl : j < A[k].1.length := by rw [(hgd.red.gs _ hym).1]; rw [hxg.1] at hjl; exact hjl
          have hy0 : k ≠ i → A[k].1[j] = 0 := by
            intro hne
            have := hgd.red.zero _ hxm _ hym (hgd.red.asc_ne hk' hi' hne)
            rw [hjp, ← ent_getElem hyl] at this
            exact this
          obtain ⟨fc, fp, hfc, hfe, hff⟩ := hcr k hk'
          obtain ⟨b8, c8, rfl⟩ := hff.form
          obtain ⟨b7, c7, rfl⟩ := hfe.form
          obtain ⟨zb, zo, rfl, hcz⟩ := hfe.pos (by omega)
          refine WC.skip (WX.seq (WC.seq (WC.block (WC.seq (WC.region (WO.step rfl (OR.move rfl ?_)))))))
          refine WO.step rfl (OR.idxN k T26.und T35 rfl rfl rfl hk' ?_)
          refine WO.step rfl (OR.loadN (cs := [_, _]) T35 rfl rfl rfl (fun j u hj => hs.cell (hcell.mono hlb (hfc j u hj))) ?_)
          refine WO.step rfl (OR.alloc hs T35 ?_)
          clear hs; intro g4 w hg4 hs
          refine WO.step rfl (OR.assign rfl (WO.stepN (OR.storeAll hs T35 rfl rfl rfl rfl rfl ?_)))
          clear hs; intro w hs
          refine WO.done (WX.seq (WC.seq (WC.region (WO.step rfl (OR.move rfl (WO.step rfl (OR.move rfl ?_)))))))
          refine WO.step rfl (OR.neq rfl rfl (WO.step rfl (OR.move rfl ?_)))
          refine WO.guardSplit (j := 3) rfl (fun hne => ?_) (fun hne => ?_)
          · refine WO.guardYes rfl (decide_eq_true hne) rfl rfl (OR.fieldAddr FA35_0 rfl (WO.guardYes rfl (decide_eq_true hne) rfl rfl (OR.load T23 rfl rfl (hs.cellM (i := 0) rfl rfl) (WO.guardYes rfl (decide_eq_true hne) rfl rfl (OR.move rfl ?_)))))
            refine WO.guardYes rfl (decide_eq_true hne) rfl rfl (OR.idx j T23.und T5 rfl rfl hj hyl ?_)
            refine WO.guardYes rfl (decide_eq_true hne) rfl rfl (OR.load T5 rfl rfl (hs.cell (hcell.mono hlb (hcz j hyl))) ?_)
            refine WO.guardYes rfl (decide_eq_true hne) rfl rfl (OR.neq rfl rfl (WO.step rfl (OR.pickT rfl (decide_eq_true hne) rfl (WO.done (WX.seq ?_)))))
            refine WC.no rfl (decide_eq_false (by rw [hy0 (by omega)]; decide : ¬ ((A[k].1[j].toNat : Int) ≠ 0))) ?_
            refine WC.skip (WX.block (WX.seq (WC.region (WO.step rfl (OR.addI rfl rfl (by omega) (by omega) (WO.step rfl (OR.move rfl ?_)))))))
            refine WO.done ?_
            replace hs := hs.drop (i := 0)
            refine WX.again (k + 1) ⟨rfl, rfl, rfl, rfl, rfl, rfl, rfl, rfl, rfl, rfl, rfl,  trivial⟩ ?_ ?_
            · exact ⟨hk', _, hle, hlb, hs⟩
            · omega
          · refine WO.guardNo rfl (decide_eq_false hne) rfl rfl (WO.guardNo rfl (decide_eq_false hne) rfl rfl (WO.guardNo rfl (decide_eq_false hne) rfl rfl (WO.guardNo rfl (decide_eq_false hne) rfl rfl (WO.guardNo rfl (decide_eq_false hne) rfl rfl (WO.guardNo rfl (decide_eq_false hne) rfl rfl (WO.step rfl (OR.pickF rfl (decide_eq_false hne) rfl ?_)))))))
            refine WO.done (WX.seq (WC.no rfl rfl (WC.skip (WX.block (WX.seq (WC.region (WO.step rfl ?_)))))))
            refine OR.addI rfl rfl (by omega) (by omega) (WO.step rfl (OR.move rfl (WO.done ?_)))
            replace hs := hs.drop (i := 0)
            refine WX.again (k + 1) ⟨rfl, rfl, rfl, rfl, rfl, rfl, rfl, rfl, rfl, rfl, rfl,  trivial⟩ ?_ ?_
            · exact ⟨hk', _, hle, hlb, hs⟩
            · omega
        · refine WC.exit (WX.seq_exit (WX.loop_exit (WX.block_hit (WX.block (WX.seq (WC.region (WO.step rfl ?_)))))))
          refine OR.addI rfl rfl (by omega) (by omega) (WO.step rfl (OR.move rfl (WO.done ?_)))
          refine WX.again (i + 1) ⟨rfl, rfl, rfl, rfl, rfl, rfl,  trivial⟩ ?_ ?_
          · exact ⟨hi', _, hle, hlb, hs⟩
          · omega
      · refine WO.guardNo rfl (decide_eq_false hi0) rfl rfl (WO.guardNo rfl (decide_eq_false hi0) rfl rfl (WO.guardNo rfl (decide_eq_false hi0) rfl rfl (WO.guardNo rfl (decide_eq_false hi0) rfl rfl (WO.guardNo rfl (decide_eq_false hi0) rfl rfl (WO.guardNo rfl (decide_eq_false hi0) rfl rfl (WO.guardNo rfl (decide_eq_false hi0) rfl rfl (WO.guardNo rfl (decide_eq_false hi0) rfl rfl ?_)))))))
        refine WO.guardNo rfl (decide_eq_false hi0) rfl rfl (WO.step rfl (OR.pickF rfl (decide_eq_false hi0) rfl (WO.step rfl (OR.move rfl (WO.guardYes rfl rfl rfl rfl (OR.fieldAddr FA35_0 rfl (WO.guardYes rfl rfl rfl rfl ?_)))))))
        refine OR.load T23 rfl rfl (hs.cellM (i := 0) rfl rfl) (WO.guardYes rfl rfl rfl rfl (OR.move rfl ?_))
        refine WO.guardYes rfl rfl rfl rfl (OR.idx j T23.und T5 rfl rfl hj hjl ?_)
        refine WO.guardYes rfl rfl rfl rfl (OR.load T5 rfl rfl (hs.cell (hcell.mono hlb (hcy j hjl))) ?_)
        refine WO.guardYes rfl rfl rfl rfl (OR.neq rfl rfl (WO.step rfl (OR.pickF rfl rfl rfl (WO.done (WX.seq ?_)))))
        refine WC.no rfl (decide_eq_false (by rw [hone]; decide : ¬ ((A[i].1[j].toNat : Int) ≠ 1))) ?_
        refine WC.skip (WX.seq (WC.seq (WC.region (WO.step rfl (OR.move rfl (WO.step rfl (OR.lenSlice T26.und rfl ?_)))))))
        refine WO.step rfl (OR.move rfl (WO.done (WX.seq (WC.block ?_))))
        refine WC.loop (ι := Nat) (fun k => [(6, .slice b2 R.length c2), (7, ptr b), (11, .slice (some ⟨xb, xo, none⟩) A.length c4), (12, .int .i64 (i : Int)), (14, .int .i64 (lead A[i].1)), (55, .slice (some ⟨xb, xo, none⟩) A.length c4), (56, .int .i64 (A.length : Int)), (57, .int .i64 (i : Int)), (86, .slice (some ⟨xb, xo, none⟩) A.length c4), (87, .int .i64 (A.length : Int)), (88, .int .i64 (k : Int))]) (fun k w => (k ≤ A.length ∧ ∃ H2, Hp.le H0 H2 ∧ Hp.le HB H2 ∧ HS [] H0 w0 H2 [(b, basisObj g s rv, true)] w)) (fun k => A.length - k) 0 ⟨rfl, rfl, rfl, rfl, rfl, rfl, rfl, rfl, rfl, rfl, rfl,  trivial⟩ ?_ (fun k w hW => ?_)
        · exact ⟨by omega, _, hle, hlb, hs.drop 0⟩
        clear hs hle hlb
        obtain ⟨hkk, H2, hle, hlb, hs⟩ := hW
        refine WC.seq (WC.region (WO.step rfl (OR.lss rfl rfl (WO.done (WX.seq (WC.seq ?_))))))
        refine WC.condD rfl (fun hlt3 => ?_) (fun hlt3 => ?_)
        · have hk' : k < A.length := by omega
          have hym := List.getElem_mem hk'
          have hyl : j < A[k].1.length := by rw [(hgd.red.gs _ hym).1]; rw [hxg.1] at hjl; exact hjl
          have hy0 : k ≠ i → A[k].1[j] = 0 := by
            intro hne
            have := hgd.red.zero _ hxm _ hym (hgd.red.asc_ne hk' hi' hne)
            rw [hjp, ← ent_getElem hyl] at this
            exact this
          obtain ⟨fc, fp, hfc, hfe, hff⟩ := hcr k hk'
          obtain ⟨b8, c8, rfl⟩ := hff.form
          obtain ⟨b7, c7, rfl⟩ := hfe.form
          obtain ⟨zb, zo, rfl, hcz⟩ := hfe.pos (by omega)
          refine WC.skip (WX.seq (WC.seq (WC.block (WC.seq (WC.region (WO.step rfl (OR.move rfl ?_)))))))
          refine WO.step rfl (OR.idxN k T26.und T35 rfl rfl rfl hk' ?_)
          refine WO.step rfl (OR.loadN (cs := [_, _]) T35 rfl rfl rfl (fun j u hj => hs.cell (hcell.mono hlb (hfc j u hj))) ?_)
          refine WO.step rfl (OR.alloc hs T35 ?_)
          clear hs; intro g5 w hg5 hs
          refine WO.step rfl (OR.assign rfl (WO.stepN (OR.storeAll hs T35 rfl rfl rfl rfl rfl ?_)))
          clear hs; intro w hs
          refine WO.done (WX.seq (WC.seq (WC.region (WO.step rfl (OR.move rfl (WO.step rfl (OR.move rfl ?_)))))))
          refine WO.step rfl (OR.neq rfl rfl (WO.step rfl (OR.move rfl ?_)))
          refine WO.guardSplit (j := 3) rfl (fun hne => ?_) (fun hne => ?_)
          · refine WO.guardYes rfl (decide_eq_true hne) rfl rfl (OR.fieldAddr FA35_0 rfl (WO.guardYes rfl (decide_eq_true hne) rfl rfl (OR.load T23 rfl rfl (hs.cellM (i := 0) rfl rfl) (WO.guardYes rfl (decide_eq_true hne) rfl rfl (OR.move rfl ?_)))))
            refine WO.guardYes rfl (decide_eq_true hne) rfl rfl (OR.idx j T23.und T5 rfl rfl hj hyl ?_)
            refine WO.guardYes rfl (decide_eq_true hne) rfl rfl (OR.load T5 rfl rfl (hs.cell (hcell.mono hlb (hcz j hyl))) ?_)
            refine WO.guardYes rfl (decide_eq_true hne) rfl rfl (OR.neq rfl rfl (WO.step rfl (OR.pickT rfl (decide_eq_true hne) rfl (WO.done (WX.seq ?_)))))
            refine WC.no rfl (decide_eq_false (by rw [hy0 (by omega)]; decide : ¬ ((A[k].1[j].toNat : Int) ≠ 0))) ?_
            refine WC.skip (WX.block (WX.seq (WC.region (WO.step rfl (OR.addI rfl rfl (by omega) (by omega) (WO.step rfl (OR.move rfl ?_)))))))
            refine WO.done ?_
            replace hs := hs.drop (i := 0)
            refine WX.again (k + 1) ⟨rfl, rfl, rfl, rfl, rfl, rfl, rfl, rfl, rfl, rfl, rfl,  trivial⟩ ?_ ?_
            · exact ⟨hk', _, hle, hlb, hs⟩
            · omega
          · refine WO.guardNo rfl (decide_eq_false hne) rfl rfl (WO.guardNo rfl (decide_eq_false hne) rfl rfl (WO.guardNo rfl (decide_eq_false hne) rfl rfl (WO.guardNo rfl (decide_eq_false hne) rfl rfl (WO.guardNo rfl (decide_eq_false hne) rfl rfl (WO.guardNo rfl (decide_eq_false hne) rfl rfl (WO.step rfl (OR.pickF rfl (decide_eq_false hne) rfl ?_)))))))
            refine WO.done (WX.seq (WC.no rfl rfl (WC.skip (WX.block (WX.seq (WC.region (WO.step rfl ?_)))))))
            refine OR.addI rfl rfl (by omega) (by omega) (WO.step rfl (OR.move rfl (WO.done ?_)))
            replace hs := hs.drop (i := 0)
            refine WX.again (k + 1) ⟨rfl, rfl, rfl, rfl, rfl, rfl, rfl, rfl, rfl, rfl, rfl,  trivial⟩ ?_ ?_
            · exact ⟨hk', _, hle, hlb, hs⟩
            · omega
        · refine WC.exit (WX.seq_exit (WX.loop_exit (WX.block_hit (WX.block (WX.seq (WC.region (WO.step rfl ?_)))))))
          refine OR.addI rfl rfl (by omega) (by omega) (WO.step rfl (OR.move rfl (WO.done ?_)))
          refine WX.again (i + 1) ⟨rfl, rfl, rfl, rfl, rfl, rfl,  trivial⟩ ?_ ?_
          · exact ⟨hi', _, hle, hlb, hs⟩
          · omega
    · refine WC.exit (WX.seq_exit (WX.loop_exit (WX.block_hit (WX.seq (WC.seq (WC.seq (WC.region ?_)))))))
      refine WO.step rfl (OR.move rfl (WO.step rfl (OR.lenSlice T26.und rfl (WO.step rfl (OR.move rfl (WO.done (WX.seq ?_)))))))
      refine WC.block ?_
      refine WC.loop (ι := Nat) (fun q => [(7, ptr b), (11, .slice b4 A.length c4), (106, .slice b2 R.length c2), (107, .int .i64 (R.length : Int)), (108, .int .i64 (q : Int))]) (fun q w => (q ≤ R.length ∧ ∃ H2, Hp.le H0 H2 ∧ Hp.le HB H2 ∧ HS [] H0 w0 H2 [(b, basisObj g s rv, true)] w)) (fun q => R.length - q) 0 ⟨rfl, rfl, rfl, rfl, rfl,  trivial⟩ ?_ (fun q w hW => ?_)
      · exact ⟨by omega, _, hle, hlb, hs⟩
      clear hs hle hlb
      obtain ⟨hq, H2, hle, hlb, hs⟩ := hW
      refine WC.seq (WC.region (WO.step rfl (OR.lss rfl rfl (WO.done (WX.seq (WC.seq ?_))))))
      refine WC.condD rfl (fun hlt4 => ?_) (fun hlt4 => ?_)
      · have hq' : q < R.length := by omega
        obtain ⟨hrt, hrg⟩ := hR R[q] (List.getElem_mem _)
        have hri := hin R[q] (List.getElem_mem _)
        obtain ⟨xb, xo, rfl, hcr⟩ := hrr.pos (by omega)
        obtain ⟨ec, ep, hcc, hec, hep⟩ := hcr q hq'
        obtain ⟨b5, c5, rfl⟩ := hec.form
        obtain ⟨b6, c6, rfl⟩ := hep.form
        obtain ⟨yb, yo, rfl, hcy⟩ := hec.pos (by have := hrg.1; omega)
        refine WC.skip (WX.seq (WC.seq (WC.block (WC.seq (WC.region ?_)))))
        refine WO.step rfl (OR.idxN q T26.und T35 rfl rfl rfl hq' ?_)
        refine WO.step rfl (OR.loadN (cs := [_, _]) T35 rfl rfl rfl (fun j u hj => hs.cell (hcell.mono hlb (hcc j u hj))) ?_)
        refine WO.step rfl (OR.alloc hs T35 ?_)
        clear hs; intro g6 w hg6 hs
        refine WO.stepN (OR.storeAll hs T35 rfl rfl rfl rfl rfl ?_)
        clear hs; intro w hs
        refine WO.done (WX.seq (WC.seq (WC.region (WO.step rfl (OR.assign rfl (WO.done (WX.seq ?_)))))))
        refine WC.seq (WC.seq (WC.region (WO.step rfl (OR.move rfl (WO.step rfl (OR.lenSlice T26.und rfl (WO.step rfl ?_)))))))
        refine OR.move rfl (WO.done (WX.seq (WC.block ?_)))
        refine WC.loop (ι := Nat × Value) (fun ix => [(7, ptr b), (11, .slice b4 A.length c4), (18, ptr g6), (19, ix.2), (106, .slice (some ⟨xb, xo, none⟩) R.length c2), (107, .int .i64 (R.length : Int)), (108, .int .i64 (q : Int)), (112, .slice b4 A.length c4), (113, .int .i64 (A.length : Int)), (114, .int .i64 (ix.1 : Int))]) (fun ix w => (ix.1 ≤ A.length ∧ ∃ H2 Mo, Hp.le H0 H2 ∧ Hp.le HB H2 ∧ Own w0.heap.size 5 1 ix.2 ix.1 (((A.take ix.1).map fun x => ent R[q] (.inl (ldp x))).map B) Mo ∧ HS [] H0 w0 H2 ([(g6, .cells #[.slice (some ⟨yb, yo, none⟩) R[q].1.length c5, .slice b6 R[q].2.length c6] 35, true), (b, basisObj g s rv, true)] ++ Mo) w)) (fun ix => A.length - ix.1) (0, .slice none 0 0) ⟨rfl, rfl, rfl, rfl, rfl, rfl, rfl, rfl, rfl, rfl,  trivial⟩ ?_ (fun ix w hW => ?_)
        · exact ⟨by omega, _, [], hle, hlb, Own.nil _ _ _, hs⟩
        clear hs hle hlb
        obtain ⟨k, vo⟩ := ix
        obtain ⟨hk, H2, Mo, hle, hlb, ho, hs⟩ := hW
        simp only at hk ho
        refine WC.seq (WC.region (WO.step rfl (OR.lss rfl rfl (WO.done (WX.seq (WC.seq ?_))))))
        refine WC.condD rfl (fun hlt5 => ?_) (fun hlt5 => ?_)
        · have hk' : k < A.length := by omega
          have hxm := List.getElem_mem hk'
          have hxg := hgd.red.gs _ hxm
          have hld := hgd.red.ld _ hxm
          have hldl := lead_lt hld
          obtain ⟨j, hj⟩ := Int.eq_ofNat_of_zero_le hld
          have hjl : j < R[q].1.length := by have := hrg.1; have := hxg.1; omega
          have hjp : ldp A[k] = j := by unfold ldp; omega
          obtain ⟨zb, zo, rfl, hcz⟩ := hrw.pos (by omega)
          obtain ⟨fc, fp, hfc, hfe, hff⟩ := hcz k hk'
          obtain ⟨b8, c8, rfl⟩ := hff.form
          obtain ⟨b7, c7, rfl⟩ := hfe.form
          obtain ⟨bo, co2, rfl⟩ := ho.form
          refine WC.skip (WX.seq (WC.seq (WC.block (WC.seq (WC.region ?_)))))
          refine WO.step rfl (OR.idxN k T26.und T35 rfl rfl rfl hk' ?_)
          refine WO.step rfl (OR.loadN (cs := [_, _]) T35 rfl rfl rfl (fun j u hj => hs.cell (hcell.mono hlb (hfc j u hj))) ?_)
          refine WO.step rfl (OR.alloc hs T35 ?_)
          clear hs; intro g7 w hg7 hs
          refine WO.stepN (OR.storeAll hs T35 rfl rfl rfl rfl rfl ?_)
          clear hs; intro w hs
          refine WO.done (WX.seq ?_)
          refine WC.draw 9 mixed hs (by kernel_rfl) ?_
          refine ⟨MF.eq _, by intro Mx H w hle hs; refine forVals_nil (ORg.plain (OR.move rfl ?_)); exact ⟨_, [], Hp.le.refl _, hs, rfl, rfl⟩, ?_⟩
          refine ⟨MF.eq _, by intro Mx H w hle hs; refine forVals_nil (ORg.plain (OR.fieldAddr FA35_0 rfl ?_)); exact ⟨_, [], Hp.le.refl _, hs, rfl, rfl⟩, ?_⟩
          refine ⟨MF.eq _, by intro Mx H w hle hs; refine forVals_eq rfl rfl rfl ?_; refine forVals_nil (ORg.plain (OR.load T23 rfl rfl (hs.right.cellM (i := 1) rfl rfl) ?_)); exact ⟨_, [], Hp.le.refl _, hs, rfl, rfl⟩, ?_⟩
          refine ⟨MF.eq _, by intro Mx H w hle hs; refine forVals_nil (ORg.plain (OR.fieldAddr FA35_0 rfl ?_)); exact ⟨_, [], Hp.le.refl _, hs, rfl, rfl⟩, ?_⟩
          refine ⟨MF.eq _, by intro Mx H w hle hs; refine forVals_eq rfl rfl rfl ?_; refine forVals_nil (ORg.plain (OR.load T23 rfl rfl (hs.right.cellM (i := 0) rfl rfl) ?_)); exact ⟨_, [], Hp.le.refl _, hs, rfl, rfl⟩, ?_⟩
          refine ⟨MF.eq (.int .i64 (lead A[k].1)), ?_, ?_⟩
          · intro Mx H w hle2 hs; (try replace hle := hle.trans hle2); (try replace hlb := hlb.trans hle2); refine forVals_eq rfl rfl rfl ?_
            refine forVals_nil (ORg.plain (OR.call hs body26 rfl rfl (lead_ok _ _ _ _ hs.toSub (hfe.mono hlb) (by rw [hxg.1]; omega)) ?_))
            clear hs; rintro _ H w hs hle1 rfl
            exact ⟨_, [], hle1, hs, rfl, rfl⟩
          refine ⟨MF.eq (.pointer (some ⟨yb, yo + j, none⟩)), ?_, ?_⟩
          · intro Mx H w hle2 hs; (try replace hle := hle.trans hle2); (try replace hlb := hlb.trans hle2); refine forVals_eq rfl rfl rfl ?_; refine forVals_eq rfl rfl rfl ?_
            refine forVals_nil (ORg.plain (OR.idx j T23.und T5 rfl rfl hj hjl ?_))
            exact ⟨_, [], Hp.le.refl _, hs, rfl, rfl⟩
          refine ⟨MF.eq (B R[q].1[j]), ?_, ?_⟩
          · intro Mx H w hle2 hs; (try replace hle := hle.trans hle2); (try replace hlb := hlb.trans hle2); refine forVals_eq rfl rfl rfl ?_
            refine forVals_nil (ORg.plain (OR.load T5 rfl rfl (hs.cell (hcell.mono hlb (hcy j hjl))) ?_))
            exact ⟨_, [], Hp.le.refl _, hs, rfl, rfl⟩
          refine ⟨MF.bytes [R[q].1[j]], ?_, ?_⟩
          · intro Mx H w hle2 hs; (try replace hle := hle.trans hle2); (try replace hlb := hlb.trans hle2); refine forVals_eq rfl rfl rfl ?_
            refine forVals_nil (ORg.plain (OR.buildSlice (vs := [_]) hs T23.und T5 rfl rfl rfl rfl (by simp) ?_))
            intro gn w hgn hs
            obtain ⟨H, hle1, hp, hs⟩ := hs.pub1 hgn
            exact ⟨_, [], hle1, hs, (Bytes.block (l := [R[q].1[j]]) (cap := 1) hp rfl (by simp)), rfl⟩
          intro H w hle2; (try replace hle := hle.trans hle2); (try replace hlb := hlb.trans hle2)
          refine forAllVals_eq rfl ?_
          refine forAllVals_eq rfl ?_
          refine forAllVals_eq rfl ?_
          refine forAllVals_eq rfl ?_
          refine forAllVals_eq rfl ?_
          refine forAllVals_eq rfl ?_
          refine forAllVals_eq rfl ?_
          refine forAllVals_eq rfl ?_
          refine forAllVals_of rfl ?_; intro v8 h8
          refine forAllVals_nil ?_; (try clear hs); intro hs
          obtain ⟨b9, c9, rfl⟩ := h8.form
          replace hs := hs.perm (List.perm_append_comm (l₁ := Mo) (l₂ := [_, _, _]))
          refine WO.step rfl (OR.append (m := 1) (news := [_]) hs ho T23.und T5 rfl (by omega) rfl rfl rfl (Sl.src h8 hs) (Sl.src0 h8) rfl (by omega) (by omega) ?_)
          clear hs ho; intro vo' w Mo' hs ho hge
          replace hs := hs.perm (List.perm_append_comm (l₁ := [_, _, _]) (l₂ := Mo'))
          refine WO.step rfl (OR.assign rfl (WO.done (WX.block (WX.seq (WC.region (WO.step rfl (OR.addI rfl rfl (by omega) (by omega) ?_)))))))
          refine WO.step rfl (OR.move rfl (WO.done ?_))
          replace hs := hs.drop (i := 0)
          refine WX.again ((k + 1, vo')) ⟨rfl, rfl, rfl, rfl, rfl, rfl, rfl, rfl, rfl, rfl,  trivial⟩ ?_ ?_
          · refine ⟨hk', _, Mo', hle, hlb, ?_, hs⟩
            rw [List.take_succ_eq_append_getElem hk', List.map_append, List.map_append, List.map_singleton, List.map_singleton, hjp, ← ent_getElem hjl]
            exact ho
          · simp only; omega
        · have e : k = A.length := by omega
          subst e
          rw [List.take_length] at ho
          replace hs := hs.perm (List.perm_append_comm (l₁ := Mo) (l₂ := [_, _]))
          obtain ⟨H3, hle3, hs, hsl, _⟩ := HS.pub hs ho
          replace hle := hle.trans hle3
          replace hlb := hlb.trans hle3
          have hcb : Bytes H3 vo (A.map fun x => ent R[q] (.inl (ldp x))) := by unfold Bytes; rw [List.length_map]; exact hsl
          have hclen : (A.map fun x => ent R[q] (.inl (ldp x))).length = A.length := List.length_map ..
          refine WC.exit (WX.seq_exit (WX.loop_exit (WX.block_hit (WX.seq (WC.seq (WC.region (WO.step rfl ?_)))))))
          refine OR.move rfl (WO.step rfl (OR.move rfl ?_))
          refine WO.step rfl (OR.call hs body24 rfl rfl (combineB_ok A _ _ _ b g s _ _ hs.toSub (hs.blk (i := 1) rfl) (hs.mem b _ true (List.mem_cons_of_mem _ (List.mem_cons_self ..))).2.1 (hv.mono hlb) hcb hgd.red.gs (by omega) (by omega) (by omega) (by omega)) ?_)
          clear hs; rintro _ H w hs hle1 ⟨rv3, rfl, hrv3⟩; replace hle := hle.trans hle1; (try replace hlb := hlb.trans hle1)
          rw [if_pos hclen, InS.comb hgd.red.gs hrg hri] at hrv3
          rw [if_pos hclen]
          obtain ⟨rc, rp, rfl, hrc, hrp⟩ := hrv3
          obtain ⟨b9, c9, rfl⟩ := hrc.form
          obtain ⟨b10, c10, rfl⟩ := hrp.form
          refine WO.step rfl (OR.move rfl (WO.step rfl (OR.extract rfl rfl (WO.step rfl (OR.extract rfl rfl (WO.step rfl (OR.alloc hs T35 ?_)))))))
          clear hs; intro g8 w hg8 hs
          refine WO.stepN (OR.storeAll hs T35 rfl rfl rfl rfl rfl ?_)
          clear hs; intro w hs
          refine WO.step rfl (OR.assign rfl (WO.done (WX.seq (WC.seq (WC.region (WO.step rfl (OR.move rfl ?_)))))))
          refine WO.step rfl (OR.neq rfl rfl (WO.step rfl (OR.move rfl ?_)))
          refine WO.guardYes rfl rfl rfl rfl (OR.loadAll T35 rfl rfl (hs.blk (i := 0) rfl) rfl ?_)
          refine WO.guardYes rfl rfl rfl rfl (OR.buildSlice (vs := [_]) hs T26.und T35 rfl rfl rfl rfl (by simp) ?_)
          clear hs; intro g20 w hg20 hs
          refine WO.guardYes rfl rfl rfl rfl (OR.loadAll T35 rfl rfl (hs.blk (i := 2) rfl) rfl ?_)
          obtain ⟨H, hle1, hp_g20, hs9⟩ := hs.pub1 hg20; clear hs; have hs := hs9; clear hs9; replace hle := hle.trans hle1; (try replace hlb := hlb.trans hle1)
          have hr1 : Rws H (.slice (some ⟨g20, 0, none⟩) 1 1) [R[q]] := ⟨[(_, _)], Sl.block hp_g20 rfl rfl (by omega), RowsOk.snoc (cs := []) (rs := []) ⟨rfl, fun i h => by simp at h⟩ (hrc.mono hle1) (hrp.mono hle1)⟩
          refine WO.guardYes rfl rfl rfl rfl (OR.buildSlice (vs := [_]) hs T26.und T35 rfl rfl rfl rfl (by simp) ?_)
          clear hs; intro g21 w hg21 hs
          obtain ⟨H, hle1, hp_g21, hs9⟩ := hs.pub1 hg21; clear hs; have hs := hs9; clear hs9; replace hle := hle.trans hle1; (try replace hlb := hlb.trans hle1)
          have hr2 : Rws H (.slice (some ⟨g21, 0, none⟩) 1 1) [R[q]] := ⟨[(_, _)], Sl.block hp_g21 rfl rfl (by omega), RowsOk.snoc (cs := []) (rs := []) ⟨rfl, fun i h => by simp at h⟩ (hec.mono hlb) (hep.mono hlb)⟩
          refine WO.guardYes rfl rfl rfl rfl (OR.call hs body25 rfl rfl (bsame_ok [R[q]] [R[q]] _ _ _ _ hs.toSub (hr1.mono hle1) hr2 (by simp)) ?_)
          clear hs; rintro _ H w hs hle1 rfl; replace hle := hle.trans hle1; (try replace hlb := hlb.trans hle1)
          refine WO.guardYes rfl rfl rfl rfl (OR.not rfl (WO.step rfl (OR.pickF rfl rfl rfl (WO.done (WX.seq ?_)))))
          refine WC.no rfl (by rw [decide_eq_true rfl]; rfl) ?_
          refine WC.skip (WX.block (WX.seq (WC.region (WO.step rfl (OR.addI rfl rfl (by omega) (by omega) (WO.step rfl (OR.move rfl ?_)))))))
          refine WO.done ?_
          replace hs := hs.drop (i := 0)
          replace hs := hs.drop (i := 0)
          refine WX.again (q + 1) ⟨rfl, rfl, rfl, rfl, rfl,  trivial⟩ ?_ ?_
          · exact ⟨hq', _, hle, hlb, hs⟩
          · omega
      · refine WC.exit (WX.seq_exit (WX.loop_exit (WX.block_hit (WX.seq (WC.seq (WC.region (WO.step rfl ?_)))))))
        refine OR.assign rfl (WO.done (WX.seq (WC.ret ?_)))
        refine WX.ret1 rfl rfl ?_
        exact .mk (hs.drop 0) rfl

end Go.Bw
