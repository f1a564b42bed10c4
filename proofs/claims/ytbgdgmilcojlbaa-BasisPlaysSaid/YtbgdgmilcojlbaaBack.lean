/- BasisBack, walked. -/
import Derived.Test.YtbgdgmilcojlbaaOne
namespace Go.Bw
set_option linter.unusedVariables false
set_option linter.unusedSimpArgs false
open Go.Proofs

/-- All inserted, one behind the other. -/
def insAll (g s : Nat) (rs : List RowD) : List RowD := rs.foldl (fun b r => (insR g s b r).2) []
theorem insAll_step (g s : Nat) (rs : List RowD) (k : Nat) (h : k < rs.length) : insAll g s (rs.take (k + 1)) = (insR g s (insAll g s (rs.take k)) rs[k]).2 := by
  unfold insAll
  rw [List.take_succ_eq_append_getElem h, List.foldl_append]
  rfl
theorem insAll_good {g s : Nat} {ys : List (List UInt8)} : ∀ (rs : List RowD), (∀ r ∈ rs, Tr ys r ∧ RowGS g s r) → Good g s ys (insAll g s rs) := by
  intro rs h
  have key : ∀ (l : List RowD) (b : List RowD), (∀ r ∈ l, Tr ys r ∧ RowGS g s r) → Good g s ys b → Good g s ys (l.foldl (fun b r => (insR g s b r).2) b) := by
    intro l
    induction l with
    | nil => intro b _ hb; exact hb
    | cons r l ih => intro b hl hb; exact ih _ (fun x hx => hl x (by simp [hx])) (hb.ins (hl r (by simp)).2 (hl r (by simp)).1)
  exact key rs [] h (Good.nil g s ys)

theorem redR_fst : ∀ (A : List RowD) (r x : RowD), r.1 = x.1 → (redR A r).1 = (redR A x).1
  | [], _, _, h => h
  | y :: A, r, x, h => redR_fst A (stepR r y) (stepR x y) (by show addS _ r.1 y.1 = addS _ x.1 y.1; rw [h])
theorem hasR_eq (s : Nat) (A : List RowD) (r : RowD) : hasR s A r.1 = decide (lead (redR A r).1 < 0) := by
  unfold hasR
  rw [redR_fst A (r.1, List.replicate s 0) r rfl]
theorem insR_fst {g s : Nat} {A : List RowD} {r : RowD} (hr : RowGS g s r) : (insR g s A r).1 = !decide (lead (redR A r).1 < 0) := by
  by_cases h : lead (redR A r).1 < 0
  · rw [insR_out hr h]; simp [h]
  · rw [insR_in hr h]; simp [h]
theorem Good.now {g s : Nat} {ys : List (List UInt8)} {A : List RowD} {r : RowD} (h : Good g s ys A) (hr : RowGS g s r) (hin : InS A (fun i => ∃ j, i = .inl j) r) : hasR s A r.1 = true := by
  rw [hasR_eq, decide_eq_true_iff, lead_none]
  intro j
  exact (InS.red h.red hr).1 hin (.inl j) ⟨j, rfl⟩

theorem ne_not (b : Bool) : ((!b) == b) = false := by cases b <;> rfl
set_option maxRecDepth 20000 in
set_option maxHeartbeats 2000000 in
theorem back_ok (G S : UInt8) (vs vc vo : Value) (sy co : List (List UInt8)) (H0 : Hp) (w0 : World) (h0 : Sub H0 w0) (hsy : BytesL H0 vs sy) (hco : BytesL H0 vc co)
    (hl1 : sy.length ≤ 9223372036854775807) (hl2 : co.length ≤ 9223372036854775807) (hvo : vo.oneCell' = true) :
    Calls Try.prog 3 #[.agg #[B G, B S, vs, vc, vo]] w0 (Pure H0 w0 fun v _ => v = .bool true) := by
  have hs := HS.init h0
  have hle := Hp.le.refl H0
  obtain ⟨bs, cs, rfl⟩ := hsy.form
  obtain ⟨bc, cc, rfl⟩ := hco.form
  refine Calls.enter (args := [.agg #[B G, B S, .slice bs sy.length cs, .slice bc co.length cc, vo]]) Try.func3 rfl Try.ntmps3 rfl ?_
  refine WC.seq (WC.region (WO.step rfl (OR.box hs rfl ?_)))
  clear hs; intro g1 w hg1 hs
  refine WO.step rfl (OR.assign rfl (WO.done (WX.seq (WC.seq (WC.region (WO.step rfl (OR.loadAll T25 rfl rfl (hs.blk (i := 0) rfl) rfl ?_)))))))
  refine WO.step rfl (OR.call hs body14 rfl rfl (laid_ok G S _ _ _ _ _ _ _ hs.toSub hsy hco hl1 hl2 hvo) ?_)
  clear hs; rintro _ H w hs hle1 ⟨rs, rr, rfl, hss, hrr⟩; replace hle := hle.trans hle1; (try replace hlb := hlb.trans hle1)
  have hG1 : 1 ≤ laidG G ∧ laidG G ≤ 10 := by have := Nat.mod_lt G.toNat (by omega : 0 < 10); unfold laidG; omega
  have hS1 : 1 ≤ laidG S ∧ laidG S ≤ 10 := by have := Nat.mod_lt S.toNat (by omega : 0 < 10); unfold laidG; omega
  generalize laidG G = g at *
  generalize laidG S = s at *
  obtain ⟨b1, c1, rfl⟩ := hss.form
  obtain ⟨b2, c2, rfl⟩ := hrr.form
  refine WO.step rfl (OR.move rfl (WO.step rfl (OR.extract rfl rfl (WO.step rfl (OR.extract rfl rfl (WO.step rfl (OR.extract rfl rfl ?_)))))))
  refine WO.step rfl (OR.extract rfl rfl (WO.step rfl (OR.assign rfl (WO.step rfl (OR.assign rfl (WO.step rfl (OR.assign rfl ?_)))))))
  refine WO.step rfl (OR.assign rfl (WO.done (WX.seq (WC.seq (WC.region (WO.step rfl (OR.move rfl ?_)))))))
  refine WO.step rfl (OR.move rfl ?_)
  replace hs := hs.drop (i := 0)
  refine WO.step rfl (OR.callX (Mx := []) hs body15 rfl rfl (new_ok g s _ _ hs.toSub) rfl rfl ?_)
  clear hs; rintro _ H M' w hs hle1 hnew ⟨_, hn⟩; replace hle := hle.trans hle1; (try replace hlb := hlb.trans hle1)
  rw [if_pos (by omega)] at hn
  obtain ⟨b, hb0, rfl, rfl⟩ := hn
  replace hss := hss.mono hle1
  replace hrr := hrr.mono hle1
  have hlb := Hp.le.refl H
  refine WO.step rfl (OR.move rfl (WO.step rfl (OR.extract rfl rfl (WO.step rfl (OR.extract rfl rfl (WO.step rfl (OR.assign rfl ?_)))))))
  refine WO.step rfl (OR.assign rfl (WO.done (WX.seq (WC.seq (WC.seq (WC.region ?_))))))
  refine WO.step rfl (OR.call hs body16 rfl rfl (awake_ok _ _ hs.toSub) ?_)
  clear hs; rintro _ H w hs hle1 rfl; replace hle := hle.trans hle1; (try replace hlb := hlb.trans hle1)
  refine WO.step rfl (OR.not rfl (WO.step rfl (OR.move rfl ?_)))
  refine WO.guardYes rfl rfl rfl rfl (OR.move rfl (WO.guardYes rfl rfl rfl rfl (OR.neq rfl rfl (WO.step rfl (OR.pickF rfl rfl rfl (WO.done (WX.seq ?_)))))))
  refine WC.no rfl (decide_eq_false (by omega)) ?_
  refine WC.skip (WX.seq (WC.seq (WC.region (WO.step rfl (OR.assign rfl (WO.done (WX.seq ?_)))))))
  refine WC.seq (WC.seq (WC.region (WO.step rfl (OR.move rfl (WO.step rfl (OR.lenSlice T26.und rfl (WO.step rfl ?_)))))))
  refine OR.move rfl (WO.done (WX.seq (WC.block ?_)))
  replace hss := hss.mono hlb
  replace hrr := hrr.mono hlb
  clear hlb
  have hys : ∀ r ∈ laidSyms g s sy, r.length = s := by
    intro r hr
    obtain ⟨i, _, rfl⟩ := List.mem_map.1 hr
    exact padTo_length _ _
  have hyl : (laidSyms g s sy).length = g := by simp [laidSyms]
  have hR : ∀ r ∈ laidRows g s (laidSyms g s sy) co, Tr (laidSyms g s sy) r ∧ RowGS g s r := by
    intro r hr
    obtain ⟨c, _, rfl⟩ := List.mem_map.1 hr
    exact laid_true _ c hys
  have hRl : (laidRows g s (laidSyms g s sy) co).length ≤ 40 := by simp [laidRows]; omega
  generalize laidRows g s (laidSyms g s sy) co = R at *
  generalize laidSyms g s sy = ys at *
  have hg' : g ≤ 10 := hG1.2
  refine WC.loop (ι := Nat × Nat) (fun ix => [(3, .int .i64 (g : Int)), (4, .int .i64 (s : Int)), (5, .slice b1 ys.length c1), (7, ptr b), (9, .int .i64 (ix.2 : Int)), (42, .slice b2 R.length c2), (43, .int .i64 (R.length : Int)), (44, .int .i64 (ix.1 : Int))]) (fun ix w => (ix.1 ≤ R.length ∧ ix.2 = (insAll g s (R.take ix.1)).length ∧ ∃ H2 rv, Hp.le H0 H2 ∧ Hp.le H H2 ∧ Rws H2 rv (insAll g s (R.take ix.1)) ∧ HS [] H0 w0 H2 [(b, basisObj g s rv, true)] w)) (fun ix => R.length - ix.1) (0, 0) ⟨rfl, rfl, rfl, rfl, rfl, rfl, rfl, rfl,  trivial⟩ ?_ (fun ix w hW => ?_)
  · exact ⟨by omega, rfl, H, _, hle, Hp.le.refl H, ⟨[], Sl.nil _ _, rfl, fun i h => by simp [insAll] at h⟩, hs⟩
  clear hs hle
  obtain ⟨k, rk⟩ := ix
  obtain ⟨hk, hrk, H2, rv, hle, hlb, hv, hs⟩ := hW
  simp only at hk hrk hv
  subst hrk
  have hgd := insAll_good (g := g) (s := s) (ys := ys) (R.take k) (fun r hr => hR r (List.mem_of_mem_take hr))
  have hst : ∀ h : k < R.length, insAll g s (R.take (k + 1)) = (insR g s (insAll g s (R.take k)) R[k]).2 := fun h => insAll_step g s R k h
  generalize insAll g s (R.take k) = A at *
  have hAl := hgd.red.len
  have hAr : ∀ x ∈ A, RowGS g s x ∧ 0 ≤ lead x.1 := fun x hx => ⟨hgd.red.gs x hx, hgd.red.ld x hx⟩
  refine WC.seq (WC.region (WO.step rfl (OR.lss rfl rfl (WO.done (WX.seq (WC.seq ?_))))))
  refine WC.condD rfl (fun hlt => ?_) (fun hlt => ?_)
  · have hk' : k < R.length := by omega
    obtain ⟨hrt, hrg⟩ := hR R[k] (List.getElem_mem _)
    obtain ⟨xb, xo, rfl, hcr⟩ := hrr.pos (by omega)
    obtain ⟨ec, ep, hcc, hec, hep⟩ := hcr k hk'
    obtain ⟨b3, c3, rfl⟩ := hec.form
    obtain ⟨b4, c4, rfl⟩ := hep.form
    refine WC.skip (WX.seq (WC.seq (WC.block (WC.seq (WC.region ?_)))))
    refine WO.step rfl (OR.idxN k T26.und T35 rfl rfl rfl hk' ?_)
    refine WO.step rfl (OR.loadN (cs := [_, _]) T35 rfl rfl rfl (fun j u hj => hs.cell (hcell.mono hlb (hcc j u hj))) ?_)
    refine WO.step rfl (OR.alloc hs T35 ?_)
    clear hs; intro g2 w hg2 hs
    refine WO.stepN (OR.storeAll hs T35 rfl rfl rfl rfl rfl ?_)
    clear hs; intro w hs
    refine WO.done (WX.seq (WC.seq (WC.region (WO.step rfl (OR.move rfl (WO.step rfl (OR.fieldAddr FA35_0 rfl ?_)))))))
    refine WO.step rfl (OR.load T23 rfl rfl (hs.cellM (i := 0) rfl rfl) ?_)
    have hlc := Hp.le.refl H2
    refine WO.step rfl (OR.call hs body17 rfl rfl (contains_ok A _ _ R[k].1 b g s _ _ hs.toSub (hs.blk (i := 1) rfl) (hs.mem b _ true (List.mem_cons_of_mem _ (List.mem_cons_self ..))).2.1 hv (hec.mono hlb) hAr (by omega) (by omega) (by omega) (by omega)) ?_)
    clear hs; rintro _ H w hs hle1 rfl; replace hle := hle.trans hle1; (try replace hlb := hlb.trans hle1)
    rw [if_pos hrg.1]
    refine WO.step rfl (OR.move rfl (WO.step rfl (OR.extract rfl rfl (WO.step rfl (OR.extract rfl rfl (WO.step rfl (OR.assign rfl ?_)))))))
    refine WO.step rfl (OR.assign rfl (WO.done (WX.seq (WC.seq (WC.region (WO.step rfl (OR.move rfl ?_)))))))
    refine WO.step rfl (OR.loadAll T35 rfl rfl (hs.blk (i := 0) rfl) rfl ?_)
    replace hs := hs.front (i := 1) rfl
    refine WO.step rfl (OR.callX (Mx := [(b, _, true)]) hs body18 rfl rfl (insert_ok A R[k] _ _ _ b g s _ _ hs.toSub (hs.blk (i := 0) rfl) (hs.mem b _ true (List.mem_cons_self ..)).2.1 (hv.mono hle1) (hec.mono hlb) (hep.mono hlb) hAr (by omega) (by omega) (by omega) (by omega)) rfl rfl ?_)
    clear hs; rintro _ H3 M' w hs hle1 hnew ⟨rv2, rfl, hv2, rfl⟩; replace hle := hle.trans hle1; (try replace hlb := hlb.trans hle1)
    rw [if_pos (show R[k].1.length = g ∧ R[k].2.length = s from hrg)]
    refine WO.step rfl (OR.move rfl (WO.step rfl (OR.extract rfl rfl (WO.step rfl (OR.extract rfl rfl (WO.step rfl (OR.assign rfl ?_)))))))
    refine WO.step rfl (OR.assign rfl (WO.done (WX.seq (WC.seq (WC.region (WO.step rfl (OR.move rfl ?_)))))))
    refine WO.step rfl (OR.fieldAddr FA35_0 rfl (WO.step rfl (OR.load T23 rfl rfl (hs.cellM (i := 1) rfl rfl) ?_)))
    have hgd2 := hgd.ins hrg hrt
    have hAr2 : ∀ x ∈ (insR g s A R[k]).2, RowGS g s x ∧ 0 ≤ lead x.1 := fun x hx => ⟨hgd2.red.gs x hx, hgd2.red.ld x hx⟩
    have hAl2 := hgd2.red.len
    refine WO.step rfl (OR.call hs body17 rfl rfl (contains_ok (insR g s A R[k]).2 _ _ R[k].1 b g s _ _ hs.toSub (hs.blk (i := 0) rfl) (hs.mem b _ true (List.mem_cons_self ..)).2.1 hv2 (hec.mono hlb) hAr2 (by omega) (by omega) (by omega) (by omega)) ?_)
    clear hs; rintro _ H w hs hle1 rfl; replace hle := hle.trans hle1; (try replace hlb := hlb.trans hle1)
    have hv3 := hv2.mono hle1
    rw [if_pos hrg.1, hgd2.now hrg (fun i _ => hgd.has hrg hrt i trivial), insR_fst hrg, hasR_eq]
    refine WO.step rfl (OR.move rfl (WO.step rfl (OR.extract rfl rfl (WO.step rfl (OR.extract rfl rfl (WO.step rfl (OR.assign rfl ?_)))))))
    refine WO.step rfl (OR.assign rfl (WO.done (WX.seq (WC.seq (WC.seq (WC.region (WO.step rfl ?_)))))))
    refine OR.move rfl (WO.step rfl (OR.neq rfl rfl (WO.step rfl (OR.move rfl ?_))))
    refine WO.guardYes rfl (decide_eq_false (by omega : ¬ ((0 : Int) ≠ 0))) rfl rfl (OR.move rfl (WO.guardYes rfl (decide_eq_false (by omega : ¬ ((0 : Int) ≠ 0))) rfl rfl (OR.move rfl (WO.guardYes rfl (decide_eq_false (by omega : ¬ ((0 : Int) ≠ 0))) rfl rfl (OR.eqlB T4.und rfl rfl (WO.step rfl (OR.pickF rfl (decide_eq_false (by omega : ¬ ((0 : Int) ≠ 0))) rfl ?_)))))))
    refine WO.step rfl (OR.move rfl ?_)
    refine WO.guardYes rfl (ne_not (decide (lead (redR A R[k]).1 < 0))) rfl rfl (OR.move rfl (WO.guardYes rfl (ne_not (decide (lead (redR A R[k]).1 < 0))) rfl rfl (OR.not rfl (WO.step rfl (OR.pickF rfl (ne_not (decide (lead (redR A R[k]).1 < 0))) rfl (WO.done (WX.seq ?_)))))))
    refine WC.no rfl rfl ?_
    refine WC.skip (WX.seq (WC.seq (WC.seq (WC.region (WO.step rfl (OR.move rfl (WO.done ?_)))))))
    refine WX.seq ?_
    refine WC.cond rfl (fun hi => ?_) (fun hi => ?_)
    · have hlen2 : (insR g s A R[k]).2.length = A.length + 1 := by rw [insR_len hrg, insR_fst hrg, if_pos hi]
      refine WC.region (WO.step rfl (OR.move rfl (WO.step rfl (OR.addI rfl rfl (by omega) (by omega) (WO.step rfl (OR.assign rfl (WO.done ?_)))))))
      refine WX.seq (WC.seq (WC.region (WO.step rfl (OR.move rfl ?_))))
      refine WO.step rfl (OR.call hs body19 rfl rfl (rank_ok b g s _ (insR g s A R[k]).2 _ _ hs.toSub (hs.blk (i := 0) rfl) (hs.mem b _ true (List.mem_cons_self ..)).2.1 (by omega) hv3) ?_)
      clear hs; rintro _ H w hs hle1 rfl; replace hle := hle.trans hle1; (try replace hlb := hlb.trans hle1)
      refine WO.step rfl (OR.move rfl (WO.step rfl (OR.neq rfl rfl (WO.step rfl (OR.move rfl ?_)))))
      refine WO.guardYes rfl (decide_eq_false (by omega : ¬ (((insR g s A R[k]).2.length : Int) ≠ (A.length : Int) + 1))) rfl rfl (OR.move rfl (WO.guardYes rfl (decide_eq_false (by omega : ¬ (((insR g s A R[k]).2.length : Int) ≠ (A.length : Int) + 1))) rfl rfl (OR.move rfl (WO.guardYes rfl (decide_eq_false (by omega : ¬ (((insR g s A R[k]).2.length : Int) ≠ (A.length : Int) + 1))) rfl rfl (OR.gtr rfl rfl (WO.step rfl (OR.pickF rfl (decide_eq_false (by omega : ¬ (((insR g s A R[k]).2.length : Int) ≠ (A.length : Int) + 1))) rfl ?_)))))))
      refine WO.done (WX.seq ?_)
      refine WC.no rfl (decide_eq_false (by omega)) ?_
      refine WC.skip (WX.block (WX.seq (WC.region (WO.step rfl (OR.addI rfl rfl (by omega) (by omega) (WO.step rfl (OR.move rfl ?_)))))))
      refine WO.done ?_
      replace hs := hs.drop (i := 1)
      refine WX.again ((k + 1, A.length + 1)) ⟨rfl, rfl, rfl, rfl, rfl, rfl, rfl, rfl,  trivial⟩ ?_ ?_
      · exact ⟨hk', by rw [hst hk', hlen2], H, rv2, hle, hlb, by rw [hst hk']; exact hv3.mono hle1, hs⟩
      · simp only; omega
    · have hlen2 : (insR g s A R[k]).2.length = A.length + 0 := by rw [insR_len hrg, insR_fst hrg, if_neg (by rw [hi]; decide)]
      refine WC.skip (WX.seq (WC.seq (WC.region (WO.step rfl (OR.move rfl ?_)))))
      refine WO.step rfl (OR.call hs body19 rfl rfl (rank_ok b g s _ (insR g s A R[k]).2 _ _ hs.toSub (hs.blk (i := 0) rfl) (hs.mem b _ true (List.mem_cons_self ..)).2.1 (by omega) hv3) ?_)
      clear hs; rintro _ H w hs hle1 rfl; replace hle := hle.trans hle1; (try replace hlb := hlb.trans hle1)
      refine WO.step rfl (OR.move rfl (WO.step rfl (OR.neq rfl rfl (WO.step rfl (OR.move rfl ?_)))))
      refine WO.guardYes rfl (decide_eq_false (by omega : ¬ (((insR g s A R[k]).2.length : Int) ≠ (A.length : Int)))) rfl rfl (OR.move rfl (WO.guardYes rfl (decide_eq_false (by omega : ¬ (((insR g s A R[k]).2.length : Int) ≠ (A.length : Int)))) rfl rfl (OR.move rfl (WO.guardYes rfl (decide_eq_false (by omega : ¬ (((insR g s A R[k]).2.length : Int) ≠ (A.length : Int)))) rfl rfl (OR.gtr rfl rfl (WO.step rfl (OR.pickF rfl (decide_eq_false (by omega : ¬ (((insR g s A R[k]).2.length : Int) ≠ (A.length : Int)))) rfl ?_)))))))
      refine WO.done (WX.seq ?_)
      refine WC.no rfl (decide_eq_false (by omega)) ?_
      refine WC.skip (WX.block (WX.seq (WC.region (WO.step rfl (OR.addI rfl rfl (by omega) (by omega) (WO.step rfl (OR.move rfl ?_)))))))
      refine WO.done ?_
      replace hs := hs.drop (i := 1)
      refine WX.again ((k + 1, A.length)) ⟨rfl, rfl, rfl, rfl, rfl, rfl, rfl, rfl,  trivial⟩ ?_ ?_
      · exact ⟨hk', by rw [hst hk', hlen2]; rfl, H, rv2, hle, hlb, by rw [hst hk']; exact hv3.mono hle1, hs⟩
      · simp only; omega
  · have e : k = R.length := by omega
    subst e
    clear hst
    refine WC.exit (WX.seq_exit (WX.loop_exit (WX.block_hit (WX.seq (WC.seq (WC.seq (WC.region ?_)))))))
    refine WO.step rfl (OR.move rfl ?_)
    refine WO.step rfl (OR.call hs body20 rfl rfl (rows_ok A _ b g s _ _ hs.toSub (hs.blk (i := 0) rfl) (hs.mem b _ true (List.mem_cons_self ..)).2.1 hv hgd.red.gs (by omega) (by omega) (by omega) (by omega)) ?_)
    clear hs; rintro _ H w hs hle1 hrw; replace hle := hle.trans hle1; (try replace hlb := hlb.trans hle1)
    obtain ⟨b4, c4, rfl⟩ := hrw.form
    replace hv := hv.mono hle1
    have hss' := hss.mono hlb
    refine WO.step rfl (OR.lenSlice T26.und rfl (WO.step rfl (OR.move rfl (WO.done (WX.seq (WC.block ?_))))))
    have hlc := Hp.le.refl H2
    refine WC.loop (ι := Nat) (fun i => [(3, .int .i64 (g : Int)), (4, .int .i64 (s : Int)), (5, .slice b1 ys.length c1), (7, ptr b), (9, .int .i64 (A.length : Int)), (93, .slice b4 A.length c4), (94, .int .i64 (A.length : Int)), (95, .int .i64 (i : Int))]) (fun i w => (i ≤ A.length ∧ ∃ H2, Hp.le H0 H2 ∧ Hp.le H H2 ∧ HS [] H0 w0 H2 [(b, basisObj g s rv, true)] w)) (fun i => A.length - i) 0 ⟨rfl, rfl, rfl, rfl, rfl, rfl, rfl, rfl,  trivial⟩ ?_ (fun i w hW => ?_)
    · exact ⟨by omega, H, hle, Hp.le.refl H, hs⟩
    clear hs hle hlb
    obtain ⟨hi, H2, hle, hlb, hs⟩ := hW
    refine WC.seq (WC.region (WO.step rfl (OR.lss rfl rfl (WO.done (WX.seq (WC.seq ?_))))))
    refine WC.condD rfl (fun hlt2 => ?_) (fun hlt2 => ?_)
    · have hi' : i < A.length := by omega
      have hxm := List.getElem_mem hi'
      obtain ⟨xb, xo, rfl, hcr⟩ := hrw.pos (by omega)
      obtain ⟨ec, ep, hcc, hec, hep⟩ := hcr i hi'
      obtain ⟨b5, c5, rfl⟩ := hec.form
      obtain ⟨b6, c6, rfl⟩ := hep.form
      have hxg := hgd.red.gs _ hxm
      refine WC.skip (WX.seq (WC.seq (WC.block (WC.seq (WC.region ?_)))))
      refine WO.step rfl (OR.idxN i T26.und T35 rfl rfl rfl hi' ?_)
      refine WO.step rfl (OR.loadN (cs := [_, _]) T35 rfl rfl rfl (fun j u hj => hs.cell (hcell.mono hlb (hcc j u hj))) ?_)
      refine WO.step rfl (OR.alloc hs T35 ?_)
      clear hs; intro g3 w hg3 hs
      refine WO.stepN (OR.storeAll hs T35 rfl rfl rfl rfl rfl ?_)
      clear hs; intro w hs
      refine WO.done (WX.seq (WC.seq ?_))
      refine WC.draw 9 mixed hs (by kernel_rfl) ?_
      refine ⟨MF.eq _, by intro Mx H w hle hs; refine forVals_nil (ORg.plain (OR.fieldAddr FA35_1 rfl ?_)); exact ⟨_, [], Hp.le.refl _, hs, rfl, rfl⟩, ?_⟩
      refine ⟨MF.eq _, by intro Mx H w hle hs; refine forVals_eq rfl rfl rfl ?_; refine forVals_nil (ORg.plain (OR.load T23 rfl rfl (hs.right.cellM (i := 0) rfl rfl) ?_)); exact ⟨_, [], Hp.le.refl _, hs, rfl, rfl⟩, ?_⟩
      refine ⟨MF.eq _, by intro Mx H w hle hs; refine forVals_nil (ORg.plain (OR.fieldAddr FA35_0 rfl ?_)); exact ⟨_, [], Hp.le.refl _, hs, rfl, rfl⟩, ?_⟩
      refine ⟨MF.eq _, by intro Mx H w hle hs; refine forVals_eq rfl rfl rfl ?_; refine forVals_nil (ORg.plain (OR.load T23 rfl rfl (hs.right.cellM (i := 0) rfl rfl) ?_)); exact ⟨_, [], Hp.le.refl _, hs, rfl, rfl⟩, ?_⟩
      refine ⟨MF.eq _, by intro Mx H w hle hs; refine forVals_nil (ORg.plain (OR.move rfl ?_)); exact ⟨_, [], Hp.le.refl _, hs, rfl, rfl⟩, ?_⟩
      refine ⟨MF.eq _, by intro Mx H w hle hs; refine forVals_nil (ORg.plain (OR.move rfl ?_)); exact ⟨_, [], Hp.le.refl _, hs, rfl, rfl⟩, ?_⟩
      refine ⟨MF.bytes (comb s ys A[i].1), ?_, ?_⟩
      · intro Mx H w hle2 hs; (try replace hle := hle.trans hle2); (try replace hlb := hlb.trans hle2); refine forVals_eq rfl rfl rfl ?_; refine forVals_eq rfl rfl rfl ?_; refine forVals_eq rfl rfl rfl ?_
        refine forVals_nil (ORg.plain (OR.call hs body22 rfl rfl (times_ok _ _ A[i].1 ys s _ _ hs.toSub (hec.mono hlb) (hss'.mono hlb) hys (by omega) (by rw [hxg.1]; omega) (by omega)) ?_))
        clear hs; rintro _ H w hs hle1 hr
        exact ⟨_, [], hle1, hs, hr, rfl⟩
      refine ⟨MF.eq (.bool (decide (A[i].2 = comb s ys A[i].1))), ?_, ?_⟩
      · intro Mx H w hle2 hs; (try replace hle := hle.trans hle2); (try replace hlb := hlb.trans hle2); refine forVals_eq rfl rfl rfl ?_; refine forVals_of rfl rfl rfl ?_; intro v6 h6
        refine forVals_nil (ORg.plain (OR.call hs body21 rfl rfl (equal_ok _ _ A[i].2 (comb s ys A[i].1) _ _ hs.toSub (hep.mono hlb) h6) ?_))
        clear hs; rintro _ H w hs hle1 rfl
        exact ⟨_, [], hle1, hs, rfl, rfl⟩
      refine ⟨MF.eq _, by intro Mx H w hle hs; refine forVals_eq rfl rfl rfl ?_; refine forVals_nil (ORg.plain (OR.not rfl ?_)); exact ⟨_, [], Hp.le.refl _, hs, rfl, rfl⟩, ?_⟩
      intro H w hle2; (try replace hle := hle.trans hle2); (try replace hlb := hlb.trans hle2)
      refine forAllVals_eq rfl ?_
      refine forAllVals_eq rfl ?_
      refine forAllVals_eq rfl ?_
      refine forAllVals_eq rfl ?_
      refine forAllVals_eq rfl ?_
      refine forAllVals_eq rfl ?_
      refine forAllVals_of rfl ?_; intro v6 h6
      refine forAllVals_eq rfl ?_
      refine forAllVals_eq rfl ?_
      refine forAllVals_nil ?_; (try clear hs); intro hs
      refine WO.done (WX.seq ?_)
      refine WC.no rfl (by rw [decide_eq_true (hgd.pay hys hxm)]; rfl) ?_
      refine WC.skip (WX.block (WX.seq (WC.region (WO.step rfl (OR.addI rfl rfl (by omega) (by omega) (WO.step rfl (OR.move rfl ?_)))))))
      refine WO.done ?_
      replace hs := hs.drop (i := 0)
      refine WX.again (i + 1) ⟨rfl, rfl, rfl, rfl, rfl, rfl, rfl, rfl,  trivial⟩ ?_ ?_
      · exact ⟨hi', H, hle, hlb, hs⟩
      · omega
    · refine WC.exit (WX.seq_exit (WX.loop_exit (WX.block_hit (WX.seq (WC.seq (WC.region (WO.step rfl ?_)))))))
      refine OR.move rfl ?_
      refine WO.step rfl (OR.call hs body23 rfl rfl (solve_ok A _ b g s _ _ hs.toSub (hs.blk (i := 0) rfl) (hs.mem b _ true (List.mem_cons_self ..)).2.1 (hv.mono hlb) hgd.red.gs (by omega) (by omega) (by omega) (by omega)) ?_)
      clear hs; rintro _ H w hs hle1 ⟨got, rfl, hgot⟩; replace hle := hle.trans hle1; (try replace hlb := hlb.trans hle1)
      have hss2 := hss'.mono hlb
      refine WO.step rfl (OR.move rfl (WO.step rfl (OR.extract rfl rfl (WO.step rfl (OR.extract rfl rfl (WO.step rfl (OR.assign rfl ?_)))))))
      refine WO.step rfl (OR.assign rfl (WO.done (WX.seq (WC.seq (WC.seq (WC.region (WO.step rfl ?_)))))))
      refine OR.move rfl (WO.step rfl (OR.move rfl (WO.step rfl (OR.lss rfl rfl (WO.done (WX.seq ?_))))))
      refine WC.condD rfl (fun hrk => ?_) (fun hrk => ?_)
      · rw [if_pos (by omega)] at hgot ⊢
        obtain ⟨b5, c5, rfl⟩ := hgot.form
        refine WC.seq (WC.region (WO.step rfl (OR.move rfl (WO.step rfl (OR.eql rfl rfl (WO.step rfl (OR.move rfl ?_)))))))
        refine WO.guardYes rfl rfl rfl rfl (OR.move rfl (WO.guardYes rfl rfl rfl rfl (OR.lenSlice T22.und rfl (WO.guardYes rfl rfl rfl rfl (OR.eql rfl rfl (WO.step rfl (OR.pickT rfl rfl rfl ?_)))))))
        refine WO.step rfl (OR.assign rfl (WO.done (WX.seq (WC.ret (WX.seq_ret ?_)))))
        refine WX.ret1 rfl rfl ?_
        exact .mk (hs.drop 0) rfl
      · have hAg : A.length = g := by omega
        rw [if_neg (by omega)] at hgot ⊢
        rw [hgd.solved hAg hyl hys] at hgot
        obtain ⟨b5, c5, rfl⟩ := hgot.form
        refine WC.skip (WX.seq (WC.seq (WC.seq (WC.region (WO.step rfl (OR.move rfl (WO.step rfl ?_)))))))
        refine OR.neq rfl rfl (WO.step rfl (OR.move rfl ?_))
        refine WO.guardYes rfl rfl rfl rfl (OR.move rfl (WO.guardYes rfl rfl rfl rfl (OR.lenSlice T22.und rfl (WO.guardYes rfl rfl rfl rfl (OR.move rfl (WO.guardYes rfl rfl rfl rfl (OR.neq rfl rfl ?_)))))))
        refine WO.step rfl (OR.pickF rfl rfl rfl (WO.done (WX.seq ?_)))
        refine WC.no rfl (decide_eq_false (by omega)) ?_
        refine WC.skip (WX.seq (WC.seq (WC.seq (WC.region (WO.step rfl (OR.move rfl (WO.step rfl ?_)))))))
        refine OR.lenSlice T22.und rfl (WO.step rfl (OR.move rfl (WO.done (WX.seq (WC.block ?_)))))
        refine WC.loop (ι := Nat) (fun i => [(5, .slice b1 ys.length c1), (20, .slice b5 ys.length c5), (133, .int .i64 (ys.length : Int)), (134, .int .i64 (i : Int))]) (fun i w => (i ≤ ys.length ∧ ∃ H2, Hp.le H0 H2 ∧ Hp.le H H2 ∧ HS [] H0 w0 H2 [] w)) (fun i => ys.length - i) 0 ⟨rfl, rfl, rfl, rfl,  trivial⟩ ?_ (fun i w hW => ?_)
        · exact ⟨by omega, H, hle, Hp.le.refl H, hs.drop 0⟩
        clear hs hle hlb
        obtain ⟨hi, H2, hle, hlb, hs⟩ := hW
        refine WC.seq (WC.region (WO.step rfl (OR.lss rfl rfl (WO.done (WX.seq (WC.seq ?_))))))
        refine WC.condD rfl (fun hlt3 => ?_) (fun hlt3 => ?_)
        · have hi' : i < ys.length := by omega
          obtain ⟨xb, xo, rfl, hcr⟩ := hgot.pos (by omega)
          obtain ⟨yb, yo, rfl, hcs⟩ := hss2.pos (by omega)
          obtain ⟨e1, he1, hb1⟩ := hcr i hi'
          obtain ⟨e2, he2, hb2⟩ := hcs i hi'
          obtain ⟨b7, c7, rfl⟩ := hb1.form
          obtain ⟨b8, c8, rfl⟩ := hb2.form
          refine WC.skip (WX.seq (WC.seq (WC.block (WC.seq (WC.region (WO.step rfl (OR.move rfl ?_)))))))
          refine WO.step rfl (OR.assign rfl (WO.done (WX.seq (WC.seq ?_))))
          refine WC.draw 10 mixed hs (by kernel_rfl) ?_
          refine ⟨MF.eq _, by intro Mx H w hle hs; refine forVals_nil (ORg.plain (OR.move rfl ?_)); exact ⟨_, [], Hp.le.refl _, hs, rfl, rfl⟩, ?_⟩
          refine ⟨MF.eq _, by intro Mx H w hle hs; refine forVals_nil (ORg.plain (OR.move rfl ?_)); exact ⟨_, [], Hp.le.refl _, hs, rfl, rfl⟩, ?_⟩
          refine ⟨MF.eq (.pointer (some ⟨xb, xo + i, none⟩)), ?_, ?_⟩
          · intro Mx H w hle2 hs; (try replace hle := hle.trans hle2); (try replace hlb := hlb.trans hle2); refine forVals_eq rfl rfl rfl ?_; refine forVals_eq rfl rfl rfl ?_
            refine forVals_nil (ORg.plain (OR.idx i T22.und T23 rfl rfl rfl hi' ?_))
            exact ⟨_, [], Hp.le.refl _, hs, rfl, rfl⟩
          refine ⟨MF.eq (.slice b7 ys[i].length c7), ?_, ?_⟩
          · intro Mx H w hle2 hs; (try replace hle := hle.trans hle2); (try replace hlb := hlb.trans hle2); refine forVals_eq rfl rfl rfl ?_
            refine forVals_nil (ORg.plain (OR.load T23 rfl rfl (hs.cell (hcell.mono hlb he1)) ?_))
            exact ⟨_, [], Hp.le.refl _, hs, rfl, rfl⟩
          refine ⟨MF.eq _, by intro Mx H w hle hs; refine forVals_nil (ORg.plain (OR.move rfl ?_)); exact ⟨_, [], Hp.le.refl _, hs, rfl, rfl⟩, ?_⟩
          refine ⟨MF.eq _, by intro Mx H w hle hs; refine forVals_nil (ORg.plain (OR.move rfl ?_)); exact ⟨_, [], Hp.le.refl _, hs, rfl, rfl⟩, ?_⟩
          refine ⟨MF.eq (.pointer (some ⟨yb, yo + i, none⟩)), ?_, ?_⟩
          · intro Mx H w hle2 hs; (try replace hle := hle.trans hle2); (try replace hlb := hlb.trans hle2); refine forVals_eq rfl rfl rfl ?_; refine forVals_eq rfl rfl rfl ?_
            refine forVals_nil (ORg.plain (OR.idx i T22.und T23 rfl rfl rfl hi' ?_))
            exact ⟨_, [], Hp.le.refl _, hs, rfl, rfl⟩
          refine ⟨MF.eq (.slice b8 ys[i].length c8), ?_, ?_⟩
          · intro Mx H w hle2 hs; (try replace hle := hle.trans hle2); (try replace hlb := hlb.trans hle2); refine forVals_eq rfl rfl rfl ?_
            refine forVals_nil (ORg.plain (OR.load T23 rfl rfl (hs.cell (hcell.mono hlb he2)) ?_))
            exact ⟨_, [], Hp.le.refl _, hs, rfl, rfl⟩
          refine ⟨MF.eq (.bool (decide (ys[i] = ys[i]))), ?_, ?_⟩
          · intro Mx H w hle2 hs; (try replace hle := hle.trans hle2); (try replace hlb := hlb.trans hle2); refine forVals_eq rfl rfl rfl ?_; refine forVals_eq rfl rfl rfl ?_
            refine forVals_nil (ORg.plain (OR.call hs body21 rfl rfl (equal_ok _ _ ys[i] ys[i] _ _ hs.toSub (hb1.mono hlb) (hb2.mono hlb)) ?_))
            clear hs; rintro _ H w hs hle1 rfl
            exact ⟨_, [], hle1, hs, rfl, rfl⟩
          refine ⟨MF.eq _, by intro Mx H w hle hs; refine forVals_eq rfl rfl rfl ?_; refine forVals_nil (ORg.plain (OR.not rfl ?_)); exact ⟨_, [], Hp.le.refl _, hs, rfl, rfl⟩, ?_⟩
          intro H w hle2; (try replace hle := hle.trans hle2); (try replace hlb := hlb.trans hle2)
          refine forAllVals_eq rfl ?_
          refine forAllVals_eq rfl ?_
          refine forAllVals_eq rfl ?_
          refine forAllVals_eq rfl ?_
          refine forAllVals_eq rfl ?_
          refine forAllVals_eq rfl ?_
          refine forAllVals_eq rfl ?_
          refine forAllVals_eq rfl ?_
          refine forAllVals_eq rfl ?_
          refine forAllVals_eq rfl ?_
          refine forAllVals_nil ?_; (try clear hs); intro hs
          refine WO.done (WX.seq ?_)
          refine WC.no rfl (by rw [decide_eq_true rfl]; rfl) ?_
          refine WC.skip (WX.block (WX.seq (WC.region (WO.step rfl (OR.addI rfl rfl (by omega) (by omega) (WO.step rfl (OR.move rfl ?_)))))))
          refine WO.done ?_
          refine WX.again (i + 1) ⟨rfl, rfl, rfl, rfl,  trivial⟩ ?_ ?_
          · exact ⟨hi', H, hle, hlb, hs⟩
          · omega
        · refine WC.exit (WX.seq_exit (WX.loop_exit (WX.block_hit (WX.seq (WC.seq (WC.region (WO.step rfl ?_)))))))
          refine OR.assign rfl (WO.done (WX.seq (WC.ret ?_)))
          refine WX.ret1 rfl rfl ?_
          exact .mk hs rfl

end Go.Bw
