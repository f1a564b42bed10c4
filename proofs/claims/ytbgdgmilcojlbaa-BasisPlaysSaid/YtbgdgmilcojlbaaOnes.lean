/- BasisOne, walked. -/
import Derived.Test.YtbgdgmilcojlbaaForm
namespace Go.Bw
set_option linter.unusedVariables false
set_option linter.unusedSimpArgs false
open Go.Proofs

theorem RowsOk.takeS {H : Hp} {cs : List (Value × Value)} {rs : List RowD} (h : RowsOk H cs rs) (k : Nat) : RowsOk H (cs.take k) (rs.take k) := by
  refine ⟨by simp [h.1], fun i a b => ?_⟩
  simp only [List.length_take] at a b
  simp only [List.getElem_take]
  exact h.2 i (by omega) (by omega)
theorem RowsOk.dropS {H : Hp} {cs : List (Value × Value)} {rs : List RowD} (h : RowsOk H cs rs) (k : Nat) : RowsOk H (cs.drop k) (rs.drop k) := by
  refine ⟨by simp [h.1], fun i a b => ?_⟩
  simp only [List.length_drop] at a b
  simp only [List.getElem_drop]
  exact h.2 (k + i) (by omega) (by omega)
theorem RowsOk.app {H : Hp} {cs ds : List (Value × Value)} {rs qs : List RowD} (h : RowsOk H cs rs) (k : RowsOk H ds qs) : RowsOk H (cs ++ ds) (rs ++ qs) := by
  refine ⟨by simp [h.1, k.1], fun i a b => ?_⟩
  have e1 := h.1
  by_cases e : i < rs.length
  · simp only [List.getElem_append_left e, List.getElem_append_left (show i < cs.length by omega)]
    exact h.2 i e (by omega)
  · simp only [List.length_append] at a b
    simp only [List.getElem_append_right (show rs.length ≤ i by omega), List.getElem_append_right (show cs.length ≤ i by omega), e1]
    exact k.2 (i - rs.length) (by omega) (by omega)

/-- What is of the span is not taken. -/
theorem stay {g s : Nat} {A : List RowD} {r : RowD} (h : Red g s A) (hr : RowGS g s r) (hin : InS A (fun _ => True) r) : insR g s A r = (false, A) := by
  apply insR_out hr
  rw [lead_none]
  intro j
  exact (InS.red h hr).1 hin (.inl j) trivial
theorem insAll_sub {g s : Nat} {C : List RowD} : ∀ (l b : List RowD), (∀ x ∈ b, RowGS g s x ∧ InS C (fun _ => True) x) → (∀ r ∈ l, RowGS g s r ∧ InS C (fun _ => True) r) →
    ∀ x ∈ l.foldl (fun b r => (insR g s b r).2) b, RowGS g s x ∧ InS C (fun _ => True) x
  | [], b, hb, _ => hb
  | r :: l, b, hb, hl => insAll_sub l _ (InS.insR hb (hl r (by simp)).1 (hl r (by simp)).2) (fun x hx => hl x (by simp [hx]))
theorem Tr.comb {g s : Nat} {ys : List (List UInt8)} {C : List RowD} (h : Good g s ys C) (by_ : List UInt8) : Tr ys (combR g s C by_) := by
  unfold combR
  have key : ∀ (l : List (RowD × UInt8)) (z : RowD), RowGS g s z → Tr ys z → (∀ p ∈ l, p.1 ∈ C) → Tr ys (l.foldl (fun r p => plusR r p.1 p.2) z) := by
    intro l
    induction l with
    | nil => intro z _ hz _; exact hz
    | cons p l ih =>
      intro z hg hz hp
      have hpA := hp p (by simp)
      rw [List.foldl_cons]
      exact ih _ (plusR_gs hg (h.red.gs _ hpA) _) (hz.plus (h.tr _ hpA) hg (h.red.gs _ hpA) _) (fun q hq => hp q (by simp [hq]))
  refine key _ _ (zero_gs g s) (fun j => ?_) (fun p hp => (List.of_mem_zip hp).1)
  have h1 := zero_ent g s (.inr j)
  simp only [ent] at h1
  rw [h1, T_zero]
  intro k
  exact zero_ent g s (.inl k)
abbrev mixObj (G S : UInt8) (vs vc vo : Value) : Obj := .cells #[B G, B S, vs, vc, vo] 25
def MF.nil0 : MF := MF.of (fun v _ => ∃ b, v = .slice b 0 0) fun _ _ _ _ h => h

/-- What is so, round by round: R the rows, A their basis, L what is left, C the other basis. -/
structure Inv (g s : Nat) (ys : List (List UInt8)) (R A L C : List RowD) : Prop where
  good : Good g s ys C
  left : ∀ r ∈ L, r ∈ R
  done : ∀ r ∈ R, r ∈ L ∨ InS C (fun _ => True) r
  sub : ∀ x ∈ C, RowGS g s x ∧ InS A (fun _ => True) x
theorem Inv.step {g s : Nat} {ys : List (List UInt8)} {R A L C : List RowD} (h : Inv g s ys R A L C) (hR : ∀ r ∈ R, Tr ys r ∧ RowGS g s r) (hA : ∀ r ∈ R, InS A (fun _ => True) r) (at_ : Nat) (hat : at_ < L.length) :
    Inv g s ys R A (L.take at_ ++ L.drop (at_ + 1)) (insR g s C L[at_]).2 := by
  have hm := List.getElem_mem hat
  have hr := hR _ (h.left _ hm)
  have hmem : ∀ x, x ∈ L ↔ x = L[at_] ∨ x ∈ L.take at_ ++ L.drop (at_ + 1) := by
    intro x
    conv => lhs; rw [← List.take_append_drop at_ L, List.drop_eq_getElem_cons hat]
    simp only [List.mem_append, List.mem_cons]
    constructor
    · rintro (h | h | h)
      · exact .inr (.inl h)
      · exact .inl h
      · exact .inr (.inr h)
    · rintro (h | h | h)
      · exact .inr (.inl h)
      · exact .inl h
      · exact .inr (.inr h)
  refine ⟨h.good.ins hr.2 hr.1, fun r hx => h.left _ ((hmem r).2 (.inr hx)), fun r hx => ?_, InS.insR h.sub hr.2 (hA _ (h.left _ hm))⟩
  rcases h.done r hx with h1 | h1
  · rcases (hmem r).1 h1 with rfl | h2
    · exact .inr (h.good.has hr.2 hr.1)
    · exact .inl h2
  · exact .inr (h.good.keep hr.2 (fun _ => trivial) (hR r hx).2 h1)

set_option maxRecDepth 20000 in
set_option maxHeartbeats 2000000 in
theorem one_ok (G S : UInt8) (vs vc vo vb : Value) (sy co : List (List UInt8)) (od bl : List UInt8) (H0 : Hp) (w0 : World) (h0 : Sub H0 w0) (hsy : BytesL H0 vs sy) (hco : BytesL H0 vc co) (hod : Bytes H0 vo od) (hbl : Bytes H0 vb bl)
    (hl1 : sy.length ≤ 9223372036854775807) (hl2 : co.length ≤ 9223372036854775807) :
    Calls Try.prog 4 #[.agg #[B G, B S, vs, vc, vo], vb] w0 (Pure H0 w0 fun v _ => v = .bool true) := by
  have hs := HS.init h0
  have hle := Hp.le.refl H0
  obtain ⟨bs, cs, rfl⟩ := hsy.form
  obtain ⟨bc, cc, rfl⟩ := hco.form
  obtain ⟨bo, co', rfl⟩ := hod.form
  obtain ⟨bb, cb, rfl⟩ := hbl.form
  refine Calls.enter (args := [.agg #[B G, B S, .slice bs sy.length cs, .slice bc co.length cc, .slice bo od.length co'], .slice bb bl.length cb]) Try.func4 rfl Try.ntmps4 rfl ?_
  refine WC.seq (WC.region (WO.step rfl (OR.box hs rfl ?_)))
  clear hs; intro g1 w hg1 hs
  refine WO.step rfl (OR.assign rfl (WO.done (WX.seq (WC.seq (WC.region (WO.step rfl (OR.loadAll T25 rfl rfl (hs.blk (i := 0) rfl) rfl ?_)))))))
  refine WO.step rfl (OR.call hs body14 rfl rfl (laid_ok G S _ _ _ _ _ _ _ hs.toSub hsy hco hl1 hl2 rfl) ?_)
  clear hs; rintro _ H w hs hle1 ⟨rs, rr, rfl, hss, hrr⟩; replace hle := hle.trans hle1; (try replace hlb := hlb.trans hle1)
  have hG1 : 1 ≤ laidG G ∧ laidG G ≤ 10 := by have := Nat.mod_lt G.toNat (by omega : 0 < 10); unfold laidG; omega
  have hS1 : 1 ≤ laidG S ∧ laidG S ≤ 10 := by have := Nat.mod_lt S.toNat (by omega : 0 < 10); unfold laidG; omega
  generalize laidG G = g at *
  generalize laidG S = s at *
  obtain ⟨b1, c1, rfl⟩ := hss.form
  obtain ⟨b2, c2, rfl⟩ := hrr.form
  refine WO.step rfl (OR.move rfl (WO.step rfl (OR.extract rfl rfl (WO.step rfl (OR.extract rfl rfl (WO.step rfl (OR.extract rfl rfl ?_)))))))
  refine WO.step rfl (OR.extract rfl rfl (WO.step rfl (OR.assign rfl (WO.step rfl (OR.assign rfl (WO.step rfl (OR.assign rfl ?_)))))))
  refine WO.step rfl (OR.assign rfl (WO.done (WX.seq (WC.seq (WC.region (WO.step rfl (OR.move rfl ?_)))))))
  refine WO.step rfl (OR.move rfl ?_)
  refine WO.step rfl (OR.callX (Mx := []) hs body15 rfl rfl (new_ok g s _ _ hs.toSub) rfl rfl ?_)
  clear hs; rintro _ H M' w hs hle1 hnew ⟨_, hn⟩; replace hle := hle.trans hle1; (try replace hlb := hlb.trans hle1)
  rw [if_pos (by omega)] at hn
  obtain ⟨b, hb0, rfl, rfl⟩ := hn
  replace hrr := hrr.mono hle1
  refine WO.step rfl (OR.move rfl (WO.step rfl (OR.extract rfl rfl (WO.step rfl (OR.extract rfl rfl (WO.step rfl (OR.assign rfl ?_)))))))
  refine WO.step rfl (OR.assign rfl (WO.done (WX.seq (WC.seq (WC.region (WO.step rfl (OR.move rfl ?_)))))))
  refine WO.step rfl (OR.move rfl ?_)
  refine WO.step rfl (OR.callX (Mx := []) hs body15 rfl rfl (new_ok g s _ _ hs.toSub) rfl rfl ?_)
  clear hs; rintro _ H M' w hs hle1 hnew ⟨_, hn⟩; replace hle := hle.trans hle1; (try replace hlb := hlb.trans hle1)
  rw [if_pos (by omega)] at hn
  obtain ⟨c, hc0, rfl, rfl⟩ := hn
  replace hrr := hrr.mono hle1
  have hlb := Hp.le.refl H
  refine WO.step rfl (OR.move rfl (WO.step rfl (OR.extract rfl rfl (WO.step rfl (OR.extract rfl rfl (WO.step rfl (OR.assign rfl ?_)))))))
  refine WO.step rfl (OR.assign rfl (WO.done (WX.seq (WC.seq (WC.seq (WC.region ?_))))))
  refine WO.step rfl (OR.call hs body16 rfl rfl (awake_ok _ _ hs.toSub) ?_)
  clear hs; rintro _ H w hs hle1 rfl; replace hle := hle.trans hle1; (try replace hlb := hlb.trans hle1)
  refine WO.step rfl (OR.not rfl (WO.step rfl (OR.move rfl ?_)))
  refine WO.guardYes rfl rfl rfl rfl (OR.move rfl (WO.guardYes rfl rfl rfl rfl (OR.neq rfl rfl (WO.step rfl (OR.pickF rfl rfl rfl (WO.done (WX.seq ?_)))))))
  refine WC.no rfl (decide_eq_false (by omega)) ?_
  refine WC.skip (WX.seq (WC.seq (WC.seq (WC.region (WO.step rfl (OR.move rfl (WO.step rfl ?_)))))))
  refine OR.lenSlice T26.und rfl (WO.step rfl (OR.move rfl (WO.done (WX.seq (WC.block ?_)))))
  replace hrr := hrr.mono hlb
  clear hlb hss
  have hys : ∀ r ∈ laidSyms g s sy, r.length = s := by
    intro r hr
    obtain ⟨i, _, rfl⟩ := List.mem_map.1 hr
    exact padTo_length _ _
  have hR : ∀ r ∈ laidRows g s (laidSyms g s sy) co, Tr (laidSyms g s sy) r ∧ RowGS g s r := by
    intro r hr
    obtain ⟨c, _, rfl⟩ := List.mem_map.1 hr
    exact laid_true _ c hys
  have hRl : (laidRows g s (laidSyms g s sy) co).length ≤ 40 := by simp [laidRows]; omega
  generalize laidRows g s (laidSyms g s sy) co = R at *
  generalize laidSyms g s sy = ys at *
  have hg' : g ≤ 10 := hG1.2
  replace hs : HS [] H0 w0 H [(c, basisObj g s (.slice none 0 0), true), (b, basisObj g s (.slice none 0 0), true), (g1, mixObj G S (.slice bs sy.length cs) (.slice bc co.length cc) (.slice bo od.length co'), true)] w := hs
  refine WC.loop (ι := Nat) (fun ix => [(1, .slice bb bl.length cb), (2, ptr g1), (8, .slice b2 R.length c2), (9, ptr b), (11, ptr c), (48, .slice b2 R.length c2), (49, .int .i64 (R.length : Int)), (50, .int .i64 (ix : Int))]) (fun ix w => (ix ≤ R.length ∧ ∃ H2 rv, Hp.le H0 H2 ∧ Hp.le H H2 ∧ Rws H2 rv (insAll g s (R.take ix)) ∧ HS [] H0 w0 H2 [(b, basisObj g s rv, true), (c, basisObj g s (.slice none 0 0), true), (g1, mixObj G S (.slice bs sy.length cs) (.slice bc co.length cc) (.slice bo od.length co'), true)] w)) (fun ix => R.length - ix) 0 ⟨rfl, rfl, rfl, rfl, rfl, rfl, rfl, rfl,  trivial⟩ ?_ (fun ix w hW => ?_)
  · exact ⟨by omega, H, _, hle, Hp.le.refl H, ⟨[], Sl.nil _ _, rfl, fun i h => by simp [insAll] at h⟩, hs.front (i := 1) rfl⟩
  clear hs hle
  obtain ⟨hk, H2, rv, hle, hlb, hv, hs⟩ := hW
  have hgd := insAll_good (g := g) (s := s) (ys := ys) (R.take ix) (fun r hr => hR r (List.mem_of_mem_take hr))
  have hin := insAll_in (g := g) (s := s) (ys := ys) (R.take ix) (fun r hr => hR r (List.mem_of_mem_take hr))
  have hst : ∀ h : ix < R.length, insAll g s (R.take (ix + 1)) = (insR g s (insAll g s (R.take ix)) R[ix]).2 := fun h => insAll_step g s R ix h
  have hAd : insAll g s (R.take ix) = (R.take ix).foldl (fun b r => (insR g s b r).2) [] := rfl
  generalize insAll g s (R.take ix) = A at *
  have hAl := hgd.red.len
  have hAr : ∀ x ∈ A, RowGS g s x ∧ 0 ≤ lead x.1 := fun x hx => ⟨hgd.red.gs x hx, hgd.red.ld x hx⟩
  refine WC.seq (WC.region (WO.step rfl (OR.lss rfl rfl (WO.done (WX.seq (WC.seq ?_))))))
  refine WC.condD rfl (fun hlt => ?_) (fun hlt => ?_)
  · have hk' : ix < R.length := by omega
    obtain ⟨hrt, hrg⟩ := hR R[ix] (List.getElem_mem _)
    obtain ⟨xb, xo, rfl, hcr⟩ := hrr.pos (by omega)
    obtain ⟨ec, ep, hcc, hec, hep⟩ := hcr ix hk'
    obtain ⟨b3, c3, rfl⟩ := hec.form
    obtain ⟨b4, c4, rfl⟩ := hep.form
    refine WC.skip (WX.seq (WC.seq (WC.block (WC.seq (WC.region ?_)))))
    refine WO.step rfl (OR.idxN ix T26.und T35 rfl rfl rfl hk' ?_)
    refine WO.step rfl (OR.loadN (cs := [_, _]) T35 rfl rfl rfl (fun j u hj => hs.cell (hcell.mono hlb (hcc j u hj))) ?_)
    refine WO.step rfl (OR.alloc hs T35 ?_)
    clear hs; intro g2 w hg2 hs
    refine WO.stepN (OR.storeAll hs T35 rfl rfl rfl rfl rfl ?_)
    clear hs; intro w hs
    refine WO.done (WX.seq (WC.region (WO.step rfl (OR.move rfl (WO.step rfl (OR.loadAll T35 rfl rfl (hs.blk (i := 0) rfl) rfl ?_))))))
    replace hs := hs.drop (i := 0)
    refine WO.step rfl (OR.callX (Mx := [(b, _, true)]) hs body18 rfl rfl (insert_ok A R[ix] _ _ _ b g s _ _ hs.toSub (hs.blk (i := 0) rfl) (hs.mem b _ true (List.mem_cons_self ..)).2.1 hv (hec.mono hlb) (hep.mono hlb) hAr (by omega) (by omega) (by omega) (by omega)) rfl rfl ?_)
    clear hs; rintro _ H3 M' w hs hle1 hnew ⟨rv2, rfl, hv2, rfl⟩; replace hle := hle.trans hle1; (try replace hlb := hlb.trans hle1)
    refine WO.done (WX.block (WX.seq (WC.region (WO.step rfl (OR.addI rfl rfl (by omega) (by omega) (WO.step rfl (OR.move rfl ?_)))))))
    refine WO.done ?_
    refine WX.again (ix + 1) ⟨rfl, rfl, rfl, rfl, rfl, rfl, rfl, rfl,  trivial⟩ ?_ ?_
    · exact ⟨hk', H3, rv2, hle, hlb, by rw [hst hk']; exact hv2, hs⟩
    · omega
  · have e : ix = R.length := by omega
    subst e
    clear hst hk
    rw [List.take_length] at hin hAd
    refine WC.exit (WX.seq_exit (WX.loop_exit (WX.block_hit (WX.seq (WC.seq (WC.region ?_))))))
    refine WO.step rfl (OR.buildSlice (vs := []) hs T26.und T35 rfl rfl rfl rfl (by simp) ?_)
    clear hs; intro g3 w hg3 hs
    obtain ⟨cr, hsl, hrok⟩ := hrr.mono hlb
    refine WO.step rfl (OR.move rfl ?_)
    refine WO.step rfl (OR.append (n := 0) (cs := []) (news := rowCells cr) (Mo := [_]) hs (Own.block (cap := 0) (by omega) rfl rfl hg3) T26.und T35 rfl (by omega) rfl rfl hsl.1 (Sl.src hsl hs) (Sl.src0 hsl) (rows_one hrok) (by omega) (by omega) ?_)
    clear hs; intro vl w Mo hs ho hge
    obtain ⟨H3, hle3, hs, hsl3, _⟩ := HS.pub hs ho
    rw [Nat.zero_add, List.nil_append] at hsl3
    have hlf : Rws H3 vl R := ⟨cr, hsl3, hrok.mono hle3⟩
    replace hle := hle.trans hle3
    replace hlb := hlb.trans hle3
    replace hv := hv.mono hle3
    clear hsl hrok ho hle3 hsl3 hlb
    refine WO.step rfl (OR.assign rfl (WO.done (WX.seq (WC.seq (WC.seq (WC.region (WO.step rfl ?_)))))))
    refine OR.assign rfl (WO.done (WX.seq (WC.block ?_)))
    obtain ⟨HB, hHB⟩ : ∃ X, X = H3 := ⟨_, rfl⟩
    subst hHB
    refine WC.loop (ι := Nat × Value) (fun ix => [(1, .slice bb bl.length cb), (2, ptr g1), (9, ptr b), (11, ptr c), (15, ix.2), (16, .int .i64 (ix.1 : Int))]) (fun ix w => (∃ L C H2 rvc, Inv g s ys R A L C ∧ ix.1 + L.length = R.length ∧ Hp.le H0 H2 ∧ Hp.le HB H2 ∧ Rws H2 ix.2 L ∧ Rws H2 rvc C ∧ HS [] H0 w0 H2 [(b, basisObj g s rv, true), (c, basisObj g s rvc, true), (g1, mixObj G S (.slice bs sy.length cs) (.slice bc co.length cc) (.slice bo od.length co'), true)] w)) (fun ix => R.length - ix.1) (0, vl) ⟨rfl, rfl, rfl, rfl, rfl, rfl,  trivial⟩ ?_ (fun ix w hW => ?_)
    · exact ⟨R, [], HB, _, ⟨Good.nil g s ys, fun r h => h, fun r h => .inl h, by simp⟩, by simp, hle, Hp.le.refl _, hlf, ⟨[], Sl.nil _ _, rfl, fun i h => by simp at h⟩, hs⟩
    clear hs hle hlf
    obtain ⟨i, vl⟩ := ix
    obtain ⟨L, C, H2, rvc, hinv, hiL, hle, hlb, hlf, hvc, hs⟩ := hW
    simp only at hiL hlf
    obtain ⟨bl2, cl2, rfl⟩ := hlf.form
    have hCl := hinv.good.red.len
    have hCr : ∀ x ∈ C, RowGS g s x ∧ 0 ≤ lead x.1 := fun x hx => ⟨hinv.good.red.gs x hx, hinv.good.red.ld x hx⟩
    refine WC.seq (WC.seq (WC.region (WO.step rfl (OR.move rfl (WO.step rfl (OR.lenSlice T26.und rfl (WO.step rfl ?_)))))))
    refine OR.gtr rfl rfl (WO.done (WX.seq ?_))
    refine WC.condD rfl (fun h0L => ?_) (fun h0L => ?_)
    · refine WC.skip (WX.seq (WC.seq (WC.block (WC.seq (WC.region (WO.step rfl (OR.assign rfl ?_)))))))
      refine WO.done (WX.seq (WC.seq (WC.seq (WC.region (WO.step rfl (OR.move rfl (WO.step rfl ?_)))))))
      refine OR.fieldAddr FA25_4 rfl (WO.step rfl (OR.load T23 rfl rfl (hs.cellM (i := 2) rfl rfl) (WO.step rfl (OR.lenSlice T23.und rfl (WO.step rfl (OR.lss rfl rfl (WO.done ?_)))))))
      refine WX.seq ?_
      refine WC.joinK (ι := Nat) (fun at_ => [(1, .slice bb bl.length cb), (2, ptr g1), (9, ptr b), (11, ptr c), (15, .slice bl2 L.length cl2), (16, .int .i64 (i : Int)), (17, .int .i64 (at_ : Int))]) (fun at_ w => (at_ < L.length ∧ HS [] H0 w0 H2 [(b, basisObj g s rv, true), (c, basisObj g s rvc, true), (g1, mixObj G S (.slice bs sy.length cs) (.slice bc co.length cc) (.slice bo od.length co'), true)] w)) ?_ (fun at_ w hW => ?_)
      · refine WC.condD rfl (fun hio => ?_) (fun hio => ?_)
        · have hio' : i < od.length := by omega
          obtain ⟨ob, oo, rfl, hco2⟩ := hod.pos (by omega)
          refine WC.region (WO.step rfl (OR.fieldAddr FA25_4 rfl (WO.step rfl (OR.load T23 rfl rfl (hs.cellM (i := 2) rfl rfl) (WO.step rfl (OR.move rfl ?_))))))
          refine WO.step rfl (OR.idx i T23.und T5 rfl rfl rfl hio' ?_)
          refine WO.step rfl (OR.load T5 rfl rfl (hs.cell (hcell.mono hle (hco2 i hio'))) ?_)
          refine WO.step rfl (OR.convB T5.und T3.und rfl ?_)
          refine WO.step rfl (OR.move rfl (WO.step rfl (OR.lenSlice T26.und rfl ?_)))
          refine WO.step rfl (OR.rem rfl rfl (by omega) ?_)
          refine WO.step rfl (OR.assign rfl (WO.done ?_))
          refine WX.arrive (od[i].toNat % L.length) ⟨rfl, rfl, rfl, rfl, rfl, rfl, rfl,  trivial⟩ ?_
          · exact ⟨Nat.mod_lt _ (by omega), hs⟩
        · refine WC.skip ?_
          refine WX.arrive (0) ⟨rfl, rfl, rfl, rfl, rfl, rfl, rfl,  trivial⟩ ?_
          · exact ⟨by omega, hs⟩
      · clear hs
        obtain ⟨hat, hs⟩ := hW
        have hm := List.getElem_mem hat
        obtain ⟨hrt, hrg⟩ := hR _ (hinv.left _ hm)
        obtain ⟨cl, hsl, hrok⟩ := hlf
        have hlf : Rws H2 (.slice bl2 L.length cl2) L := ⟨cl, hsl, hrok⟩
        obtain ⟨xb, xo, rfl, hcr⟩ := hlf.pos (by omega)
        obtain ⟨ec, ep, hcc, hec, hep⟩ := hcr at_ hat
        obtain ⟨b3, c3, rfl⟩ := hec.form
        obtain ⟨b4, c4, rfl⟩ := hep.form
        have hgd1 := hinv.good.ins hrg hrt
        have hst1 : insR g s (insR g s C L[at_]).2 L[at_] = (false, (insR g s C L[at_]).2) := stay hgd1.red hrg (hinv.good.has hrg hrt)
        have hinv1 := hinv.step hR hin at_ hat
        obtain ⟨HC, hHC⟩ : ∃ X, X = H2 := ⟨_, rfl⟩
        subst hHC
        have hlc := hlb
        clear hlb
        have hlb := Hp.le.refl HC
        refine WC.seq (WC.region (WO.step rfl (OR.move rfl (WO.step rfl (OR.move rfl (WO.step rfl (OR.move rfl ?_)))))))
        refine WO.step rfl (OR.idxN at_ T26.und T35 rfl rfl rfl hat ?_)
        refine WO.step rfl (OR.loadN (cs := [_, _]) T35 rfl rfl rfl (fun j u hj => hs.cell (hcc j u hj)) ?_)
        replace hs := hs.front (i := 1) rfl
        refine WO.step rfl (OR.callX (Mx := [(c, _, true)]) hs body18 rfl rfl (insert_ok C L[at_] _ _ _ c g s _ _ hs.toSub (hs.blk (i := 0) rfl) (hs.mem c _ true (List.mem_cons_self ..)).2.1 hvc hec hep hCr (by omega) (by omega) (by omega) (by omega)) rfl rfl ?_)
        clear hs; rintro _ H3 M' w hs hle1 hnew ⟨rv2, rfl, hv2, rfl⟩; replace hle := hle.trans hle1; (try replace hlb := hlb.trans hle1)
        generalize hC1 : (insR g s C L[at_]).2 = C1 at *
        have hC1l := hgd1.red.len
        have hC1r : ∀ x ∈ C1, RowGS g s x ∧ 0 ≤ lead x.1 := fun x hx => ⟨hgd1.red.gs x hx, hgd1.red.ld x hx⟩
        refine WO.done (WX.seq (WC.seq (WC.region (WO.step rfl (OR.move rfl (WO.step rfl (OR.move rfl ?_)))))))
        refine WO.step rfl (OR.move rfl ?_)
        refine WO.step rfl (OR.idxN at_ T26.und T35 rfl rfl rfl hat ?_)
        refine WO.step rfl (OR.loadN (cs := [_, _]) T35 rfl rfl rfl (fun j u hj => hs.cell (hcell.mono hlb (hcc j u hj))) ?_)
        refine WO.step rfl (OR.callX (Mx := [(c, _, true)]) hs body18 rfl rfl (insert_ok C1 L[at_] _ _ _ c g s _ _ hs.toSub (hs.blk (i := 0) rfl) (hs.mem c _ true (List.mem_cons_self ..)).2.1 hv2 (hec.mono hlb) (hep.mono hlb) hC1r (by omega) (by omega) (by omega) (by omega)) rfl rfl ?_)
        clear hs; rintro _ H4 M' w hs hle1 hnew ⟨rv3, rfl, hv3, rfl⟩; replace hle := hle.trans hle1; (try replace hlb := hlb.trans hle1)
        rw [hst1] at hv3
        simp only at hv3
        refine WO.done (WX.seq (WC.seq (WC.region (WO.step rfl (OR.move rfl ?_)))))
        refine WO.step rfl (OR.call hs body19 rfl rfl (rank_ok c g s _ C1 _ _ hs.toSub (hs.blk (i := 0) rfl) (hs.mem c _ true (List.mem_cons_self ..)).2.1 (by omega) hv3) ?_)
        clear hs; rintro _ H w hs hle1 rfl; replace hle := hle.trans hle1; (try replace hlb := hlb.trans hle1)
        replace hv3 := hv3.mono hle1
        refine WO.step rfl (OR.make1 hs T23.und T5 rfl rfl rfl (by omega) (by omega) ?_)
        clear hs; intro g9 w hg9 hs
        refine WO.step rfl (OR.assign rfl (WO.done (WX.seq (WC.seq (WC.region (WO.step rfl (OR.move rfl ?_)))))))
        refine WO.step rfl (OR.move rfl ?_)
        refine WO.step rfl (OR.copyO hs ((bl.take C1.length).map B) T23.und T5 rfl rfl (by rw [List.length_map, List.length_take, natmin (c := min C1.length bl.length) (by omega)]; omega) (Sl.src0 (hbl.mono hle)) (fun b hb j u hj => Sl.src (hbl.mono hle) hs b hb j u (by rw [List.map_take] at hj; exact get_take hj)) (by simp; omega) (bytes_one _) ?_)
        clear hs; intro w hs
        replace hs : HS [] H0 w0 H ((g9, .cells ((padTo C1.length bl).map B).toArray 5, true) :: [(c, basisObj g s rv3, true), (b, basisObj g s rv, true), (g1, mixObj G S (.slice bs sy.length cs) (.slice bc co.length cc) (.slice bo od.length co'), true)]) w := by rw [← padTo_cells]; exact hs
        refine WO.done (WX.seq (WC.seq (WC.region (WO.step rfl (OR.move rfl (WO.step rfl (OR.move rfl ?_)))))))
        obtain ⟨H, hle1, hp_g9, hs9⟩ := hs.pub1 hg9; clear hs; have hs := hs9; clear hs9; replace hle := hle.trans hle1; (try replace hlb := hlb.trans hle1)
        have hby := Bytes.block (l := padTo C1.length bl) (cap := C1.length) hp_g9 (by rw [padTo_length]; exact List.take_of_length_le (by simp [padTo_length])) (by simp [padTo_length])
        rw [padTo_length] at hby
        replace hv3 := hv3.mono hle1
        refine WO.step rfl (OR.call hs body24 rfl rfl (combineB_ok C1 _ _ (padTo C1.length bl) c g s _ _ hs.toSub (hs.blk (i := 0) rfl) (hs.mem c _ true (List.mem_cons_self ..)).2.1 hv3 hby hgd1.red.gs (by omega) (by omega) (by omega) (by omega)) ?_)
        clear hs; rintro _ H w hs hle1 ⟨rx, rfl, hrx⟩; replace hle := hle.trans hle1; (try replace hlb := hlb.trans hle1)
        rw [if_pos (padTo_length ..)] at hrx
        rw [if_pos (padTo_length ..)]
        replace hv3 := hv3.mono hle1
        have hxg := combR_gs g s C1 (padTo C1.length bl) hgd1.red.gs
        have hxs := stay hgd1.red hxg (InS.combAny hgd1.red (padTo C1.length bl))
        generalize combR g s C1 (padTo C1.length bl) = x at *
        obtain ⟨xc, xp, rfl, hxc, hxp⟩ := hrx
        obtain ⟨b5, c5, rfl⟩ := hxc.form
        obtain ⟨b6, c6, rfl⟩ := hxp.form
        refine WO.step rfl (OR.move rfl (WO.step rfl (OR.extract rfl rfl (WO.step rfl (OR.extract rfl rfl (WO.step rfl (OR.alloc hs T35 ?_)))))))
        clear hs; intro g3 w hg3 hs
        refine WO.stepN (OR.storeAll hs T35 rfl rfl rfl rfl rfl ?_)
        clear hs; intro w hs
        refine WO.step rfl (OR.assign rfl (WO.done (WX.seq (WC.seq (WC.seq (WC.region (WO.step rfl ?_)))))))
        refine OR.move rfl (WO.step rfl (OR.loadAll T35 rfl rfl (hs.blk (i := 0) rfl) rfl ?_))
        replace hs := hs.front (i := 1) rfl
        refine WO.step rfl (OR.callX (Mx := [(c, _, true)]) hs body18 rfl rfl (insert_ok C1 x _ _ _ c g s _ _ hs.toSub (hs.blk (i := 0) rfl) (hs.mem c _ true (List.mem_cons_self ..)).2.1 hv3 hxc hxp hC1r (by omega) (by omega) (by omega) (by omega)) rfl rfl ?_)
        clear hs; rintro _ H5 M' w hs hle1 hnew ⟨rv4, rfl, hv4, rfl⟩; replace hle := hle.trans hle1; (try replace hlb := hlb.trans hle1)
        rw [hxs, if_pos (show x.1.length = g ∧ x.2.length = s from hxg)]
        rw [hxs] at hv4
        simp only at hv4
        refine WO.step rfl (OR.move rfl (WO.step rfl (OR.extract rfl rfl (WO.step rfl (OR.extract rfl rfl (WO.step rfl (OR.assign rfl ?_)))))))
        refine WO.step rfl (OR.assign rfl (WO.done (WX.seq (WC.seq (WC.region (WO.step rfl (OR.move rfl ?_)))))))
        refine WO.step rfl (OR.neq rfl rfl (WO.step rfl (OR.move rfl ?_)))
        refine WO.guardYes rfl rfl rfl rfl (OR.move rfl (WO.guardYes rfl rfl rfl rfl (OR.neq rfl rfl (WO.step rfl (OR.pickF rfl rfl rfl (WO.step rfl (OR.move rfl ?_)))))))
        refine WO.guardYes rfl rfl rfl rfl (OR.move rfl (WO.step rfl (OR.pickF rfl rfl rfl (WO.done (WX.seq ?_)))))
        refine WC.no rfl rfl ?_
        have hL40 : L.length ≤ 40 := by omega
        have hcap : L.length ≤ cl2 := by obtain ⟨_, b', c', q, h, _⟩ := hsl; cases q; exact h
        have htk : Sl HC 2 (.slice (some ⟨xb, xo, none⟩) at_ cl2) at_ (rowCells (cl.take at_)) := by rw [← rowCells_take]; exact hsl.takeS at_ (by omega)
        have hdr : Sl HC 2 (.slice (if cl2 = at_ + 1 then some ⟨xb, xo, none⟩ else (some (⟨xb, xo, none⟩ : Addr)).map (·.add ((at_ + 1) * 2))) (L.length - (at_ + 1)) (cl2 - (at_ + 1))) (L.length - (at_ + 1)) (rowCells (cl.drop (at_ + 1))) := by
          rw [← rowCells_drop]; exact hsl.dropS (at_ + 1) (by omega)
        refine WC.skip (WX.seq ?_)
        refine WC.draw 9 mixed hs (by kernel_rfl) ?_
        refine ⟨MF.nil0, ?_, ?_⟩
        · intro Mx H w hle2 hs; (try replace hle := hle.trans hle2); (try replace hlb := hlb.trans hle2)
          refine forVals_nil (ORg.plain (OR.buildSlice (vs := []) hs T26.und T35 rfl rfl rfl rfl (by simp) ?_))
          intro gn w hgn hs
          obtain ⟨H, hle1, hp, hs⟩ := hs.pub1 hgn
          exact ⟨_, [], hle1, hs, ⟨_, rfl⟩, rfl⟩
        refine ⟨MF.eq _, by intro Mx H w hle hs; refine forVals_nil (ORg.plain (OR.move rfl ?_)); exact ⟨_, [], Hp.le.refl _, hs, rfl, rfl⟩, ?_⟩
        refine ⟨MF.eq _, by intro Mx H w hle hs; refine forVals_nil (ORg.plain (OR.move rfl ?_)); exact ⟨_, [], Hp.le.refl _, hs, rfl, rfl⟩, ?_⟩
        refine ⟨MF.eq (.slice (some ⟨xb, xo, none⟩) at_ cl2), ?_, ?_⟩
        · intro Mx H w hle2 hs; (try replace hle := hle.trans hle2); (try replace hlb := hlb.trans hle2); refine forVals_eq rfl rfl rfl ?_; refine forVals_eq rfl rfl rfl ?_
          refine forVals_nil (ORg.plain (OR.sliceHiG at_ T26.und T35 rfl rfl rfl (by omega) ?_))
          exact ⟨_, [], Hp.le.refl _, hs, rfl, rfl⟩
        refine ⟨MF.own w0.heap.size 35 2 at_ (rowCells (cl.take at_)), ?_, ?_⟩
        · intro Mx H w hle2 hs; (try replace hle := hle.trans hle2); (try replace hlb := hlb.trans hle2); refine forVals_of rfl rfl rfl ?_; intro v0 h0; refine forVals_eq rfl rfl rfl ?_
          obtain ⟨b0, rfl⟩ := h0
          refine forVals_nil (ORg.plain (OR.append (n := 0) (cs := []) (news := rowCells (cl.take at_)) (Mo := []) hs (Own.empty _ _ _ b0) T26.und T35 rfl (by omega) rfl rfl htk.1 (Sl.src (htk.mono hlb) hs) (Sl.src0 htk) (rows_one (hrok.takeS at_)) (by omega) (by omega) ?_))
          clear hs; intro v' w Mo' hs ho hge
          exact ⟨_, Mo', Hp.le.refl _, hs, (by rw [Nat.zero_add, List.nil_append] at ho; exact ho.mono (Nat.le_refl _))⟩
        refine ⟨MF.eq _, by intro Mx H w hle hs; refine forVals_nil (ORg.plain (OR.move rfl ?_)); exact ⟨_, [], Hp.le.refl _, hs, rfl, rfl⟩, ?_⟩
        refine ⟨MF.eq _, by intro Mx H w hle hs; refine forVals_nil (ORg.plain (OR.move rfl ?_)); exact ⟨_, [], Hp.le.refl _, hs, rfl, rfl⟩, ?_⟩
        refine ⟨MF.eq _, by intro Mx H w hle hs; refine forVals_eq rfl rfl rfl ?_; refine forVals_nil (ORg.plain (OR.addI rfl rfl (by omega) (by omega) ?_)); exact ⟨_, [], Hp.le.refl _, hs, rfl, rfl⟩, ?_⟩
        refine ⟨MF.eq (.slice (if cl2 = at_ + 1 then some ⟨xb, xo, none⟩ else (some (⟨xb, xo, none⟩ : Addr)).map (·.add ((at_ + 1) * 2))) (L.length - (at_ + 1)) (cl2 - (at_ + 1))), ?_, ?_⟩
        · intro Mx H w hle2 hs; (try replace hle := hle.trans hle2); (try replace hlb := hlb.trans hle2); refine forVals_eq rfl rfl rfl ?_; refine forVals_eq rfl rfl rfl ?_
          refine forVals_nil (ORg.plain (OR.sliceLoG (at_ + 1) T26.und T35 rfl rfl (by omega) (by omega) ?_))
          exact ⟨_, [], Hp.le.refl _, hs, rfl, rfl⟩
        intro H w hle2; (try replace hle := hle.trans hle2); (try replace hlb := hlb.trans hle2)
        refine forAllVals_of rfl ?_; intro v0 h0
        refine forAllVals_eq rfl ?_
        refine forAllVals_eq rfl ?_
        refine forAllVals_eq rfl ?_
        refine forAllVals_cons rfl ?_; intro v4 M4 h4
        refine forAllVals_eq rfl ?_
        refine forAllVals_eq rfl ?_
        refine forAllVals_eq rfl ?_
        refine forAllVals_eq rfl ?_
        refine forAllVals_nil ?_; (try clear hs); intro hs
        refine WO.step rfl (OR.append (m := L.length - (at_ + 1)) (news := rowCells (cl.drop (at_ + 1))) hs h4 T26.und T35 rfl (by omega) rfl rfl hdr.1 (Sl.src (hdr.mono hlb) hs) (Sl.src0 hdr) (rows_one (hrok.dropS (at_ + 1))) (by omega) (by omega) ?_)
        clear hs; intro vl' w Mo' hs ho hge
        obtain ⟨H6, hle6, hs, hsl6, _⟩ := HS.pub hs ho
        replace hle := hle.trans hle6
        replace hlb := hlb.trans hle6
        have hL' : (L.take at_ ++ L.drop (at_ + 1)).length = at_ + (L.length - (at_ + 1)) := by simp; omega
        have hlf' : Rws H6 vl' (L.take at_ ++ L.drop (at_ + 1)) := ⟨cl.take at_ ++ cl.drop (at_ + 1), by rw [hL', rowCells_append]; exact hsl6, ((hrok.takeS at_).app (hrok.dropS (at_ + 1))).mono hlb⟩
        refine WO.step rfl (OR.assign rfl (WO.done (WX.block (WX.seq (WC.region (WO.step rfl (OR.move rfl ?_)))))))
        refine WO.step rfl (OR.addI rfl rfl (by omega) (by omega) (WO.step rfl (OR.assign rfl (WO.done ?_))))
        replace hs := hs.drop (i := 1)
        replace hs := hs.front (i := 1) rfl
        refine WX.again ((i + 1, vl')) ⟨rfl, rfl, rfl, rfl, rfl, rfl,  trivial⟩ ?_ ?_
        · exact ⟨_, C1, _, rv4, hinv1, by omega, hle, hlc.trans hlb, hlf', hv4.mono (hle2.trans hle6), hs⟩
        · simp only; omega
    · have hL0 : L = [] := List.eq_nil_of_length_eq_zero (by omega)
      subst hL0
      have hsub := insAll_sub (g := g) (s := s) (C := C) R [] (by simp) (fun r hr => ⟨(hR r hr).2, (hinv.done r hr).resolve_left (by simp)⟩)
      rw [← hAd] at hsub
      have hAC : A = C := hgd.red.unique hinv.good.red (fun x hx => (hsub x hx).2) (fun x hx => (hinv.sub x hx).2)
      refine WC.exit (WX.seq_exit (WX.loop_exit (WX.block_hit (WX.seq (WC.seq (WC.region (WO.step rfl ?_)))))))
      refine OR.move rfl ?_
      refine WO.step rfl (OR.call hs body20 rfl rfl (rows_ok A _ b g s _ _ hs.toSub (hs.blk (i := 0) rfl) (hs.mem b _ true (List.mem_cons_self ..)).2.1 (hv.mono hlb) hgd.red.gs (by omega) (by omega) (by omega) (by omega)) ?_)
      clear hs; rintro _ H w hs hle1 hra; replace hle := hle.trans hle1; (try replace hlb := hlb.trans hle1)
      replace hvc := hvc.mono hle1
      refine WO.step rfl (OR.move rfl ?_)
      refine WO.step rfl (OR.call hs body20 rfl rfl (rows_ok C _ c g s _ _ hs.toSub (hs.blk (i := 1) rfl) (hs.mem c _ true (List.mem_cons_of_mem _ (List.mem_cons_self ..))).2.1 hvc hinv.good.red.gs (by omega) (by omega) (by omega) (by omega)) ?_)
      clear hs; rintro _ H w hs hle1 hrc; replace hle := hle.trans hle1; (try replace hlb := hlb.trans hle1)
      refine WO.step rfl (OR.call hs body25 rfl rfl (bsame_ok A C _ _ _ _ hs.toSub (hra.mono hle1) hrc (by omega)) ?_)
      clear hs; rintro _ H w hs hle1 rfl; replace hle := hle.trans hle1; (try replace hlb := hlb.trans hle1)
      refine WO.step rfl (OR.assign rfl (WO.done (WX.seq (WC.ret ?_))))
      refine WX.ret1 rfl rfl ?_
      exact .mk hs (by rw [decide_eq_true hAC])

end Go.Bw
