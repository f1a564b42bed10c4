/- BasisSpans: plain part and walk. -/
import Derived.Test.YtbgdgmilcojlbaaMatrix3
namespace Go.Bw
set_option linter.unusedVariables false
set_option linter.unusedSimpArgs false
open Go.Proofs

/-- A published block, owned again. -/
theorem HS.unpub {xs : List Nat} {H0 H : Hp} {w0 w : World} {M : Mem} {g : Nat} {o : Obj} (h0 : Sub H0 w0) (hs : HS xs H0 w0 H M w) (hg : H g = some o) (hnew : w0.heap.size ≤ g) : HS xs H0 w0 (H.del g) ((g, o, true) :: M) w := by
  refine ⟨fun b u hb => ?_, fun b u hb => ?_, fun b u hb => ?_, hs.keep, hs.size, hs.os, hs.tape, hs.out, fun q u t hm => ?_, ?_⟩
  · have hne : b ≠ g := fun e => by
      have := lt_of_heap (h0 b u hb)
      omega
    unfold Hp.del
    rw [if_neg hne]
    exact hs.le b u hb
  · unfold Hp.del at hb
    split at hb
    · cases hb
    · exact hs.sub b u hb
  · unfold Hp.del at hb
    split at hb
    · cases hb
    · exact hs.new b u hb
  · rcases List.mem_cons.1 hm with e | hm
    · cases e
      exact ⟨hs.sub _ _ hg, by simp [Hp.del], fun _ => .inr hnew⟩
    · have h1 := hs.mem q u t hm
      refine ⟨h1.1, ?_, h1.2.2⟩
      unfold Hp.del
      split
      · rfl
      · exact h1.2.1
  · refine List.nodup_cons.2 ⟨?_, hs.nd⟩
    intro hm
    obtain ⟨⟨q, u, t⟩, h1, h2⟩ := List.mem_map.1 hm
    have h3 := (hs.mem q u t h1).2.1
    simp at h2
    subst h2
    rw [hg] at h3
    cases h3
theorem Hp.le_del {H H' : Hp} {g : Nat} (h : Hp.le H H') (hg : H g = none) : Hp.le H (H'.del g) := by
  intro b u hb
  have hne : b ≠ g := fun e => by rw [e, hg] at hb; cases hb
  unfold Hp.del
  rw [if_neg hne]
  exact h b u hb
theorem Rws.cut {H : Hp} {base : Option Addr} {n cap k : Nat} {rs : List RowD} (h : Rws H (.slice base n cap) rs) (hk : k ≤ rs.length) : Rws H (.slice base k cap) (rs.take k) := by
  obtain ⟨cs, hsl, hok⟩ := h
  obtain ⟨hl, b', c', he, hn, hb0, hc⟩ := hsl
  cases he
  refine ⟨cs.take k, ⟨?_, base, cap, ?_, ?_, fun e => ?_, fun a ha => ⟨fun hp => ?_, fun i u hi => ?_⟩⟩, hok.takeS k⟩
  · rw [rowCells_length, List.length_take, List.length_take]
    have := hok.1
    omega
  · rw [List.length_take]; congr 1; omega
  · rw [List.length_take]; omega
  · have := hb0 e
    rw [List.length_take]
    omega
  · rw [List.length_take] at hp
    exact (hc a ha).1 (by omega)
  · rw [← rowCells_take] at hi
    exact (hc a ha).2 i u (get_take hi)

section
variable {g s : Nat} {ys : List (List UInt8)} {R : List RowD}
theorem spans_gauss (h : ∀ r ∈ R, Tr ys r ∧ RowGS g s r) : gauss g (R.map (·.1)) = (insAll g s R).map (·.1) := by
  have h1 := gauss_eq (cols := g) (R := R.map (·.1)) (by
    intro c hc
    obtain ⟨r, hr, rfl⟩ := List.mem_map.1 hc
    exact (h r hr).2.1)
  rw [List.map_map] at h1
  have h2 := pr_insAll (g := g) (s := s) R (fun r hr => (h r hr).2)
  have e : ((fun c => ((c, []) : RowD)) ∘ fun r : RowD => r.1) = pr := rfl
  rw [e, h2] at h1
  have h3 := congrArg (List.map (fun r : RowD => r.1)) h1
  rw [List.map_map, List.map_map] at h3
  simpa [Function.comp_def, pr] using h3
theorem spans_has (h : ∀ r ∈ R, Tr ys r ∧ RowGS g s r) (v : List UInt8) (hv : v.length = g) :
    hasR s (insAll g s R) v = decide ((gauss g (R.map (·.1) ++ [v])).length = (gauss g (R.map (·.1))).length) := by
  have h1 := gauss_eq (cols := g) (R := R.map (·.1) ++ [v]) (by
    intro c hc
    rcases List.mem_append.1 hc with hc | hc
    · obtain ⟨r, hr, rfl⟩ := List.mem_map.1 hc
      exact (h r hr).2.1
    · rw [List.mem_singleton.1 hc]; exact hv)
  have h2 := pr_insAll (g := g) (s := s) R (fun r hr => (h r hr).2)
  have e : (R.map (·.1) ++ [v]).map (fun c => ((c, []) : RowD)) = R.map pr ++ [(v, [])] := by
    rw [List.map_append, List.map_map]; rfl
  have e2 : insAll g 0 (R.map pr ++ [(v, [])]) = (insR g 0 ((insAll g s R).map pr) (v, [])).2 := by
    unfold insAll at h2 ⊢
    rw [List.foldl_append, h2]
    rfl
  rw [e, e2] at h1
  have h3 := congrArg List.length h1
  rw [List.length_map] at h3
  have hpl := placeOf_le ((insAll g s R).map pr) (lead (redR ((insAll g s R).map pr) (v, [])).1)
  rw [h3, spans_gauss h, ← pr_has, List.length_map]
  unfold insR hasR
  rw [if_pos (show ((v, []) : RowD).1.length = g ∧ ((v, []) : RowD).2.length = 0 from ⟨hv, rfl⟩)]
  have e3 : ((v, List.replicate 0 0) : RowD) = (v, []) := rfl
  rw [e3, decide_eq_decide]
  by_cases hl : lead (redR ((insAll g s R).map pr) (v, [])).1 < 0
  · rw [if_pos hl]
    simp [hl]
  · rw [if_neg hl]
    simp only [hl, false_iff]
    simp only [insAt, List.length_append, List.length_take, List.length_drop, List.length_map, List.length_singleton] at hpl ⊢
    omega
end

set_option maxRecDepth 20000 in
set_option maxHeartbeats 2000000 in
theorem spans_ok (G S : UInt8) (vs vc vo vb : Value) (sy co : List (List UInt8)) (bl : List UInt8) (H0 : Hp) (w0 : World) (h0 : Sub H0 w0) (hsy : BytesL H0 vs sy) (hco : BytesL H0 vc co) (hbl : Bytes H0 vb bl)
    (hl1 : sy.length ≤ 9223372036854775807) (hl2 : co.length ≤ 9223372036854775807) (hvo : vo.oneCell' = true) :
    Calls Try.prog 12 #[.agg #[B G, B S, vs, vc, vo], vb] w0 (Pure H0 w0 fun v _ => v = .bool true) := by
  have hs := HS.init h0
  have hle := Hp.le.refl H0
  obtain ⟨bs, cs, rfl⟩ := hsy.form
  obtain ⟨bc, cc, rfl⟩ := hco.form
  obtain ⟨bb, cb, rfl⟩ := hbl.form
  refine Calls.enter (args := [.agg #[B G, B S, .slice bs sy.length cs, .slice bc co.length cc, vo], .slice bb bl.length cb]) Try.func12 rfl Try.ntmps12 rfl ?_
  refine WC.seq (WC.region (WO.step rfl (OR.box hs rfl ?_)))
  clear hs; intro g1 w hg1 hs
  refine WO.step rfl (OR.assign rfl (WO.done (WX.seq (WC.seq (WC.region (WO.step rfl (OR.loadAll T25 rfl rfl (hs.blk (i := 0) rfl) rfl ?_)))))))
  refine WO.step rfl (OR.call hs body14 rfl rfl (laid_ok G S _ _ _ _ _ _ _ hs.toSub hsy hco hl1 hl2 hvo) ?_)
  clear hs; rintro _ H w hs hle1 ⟨rs, rr, rfl, hss, hrr⟩; replace hle := hle.trans hle1; (try replace hlb := hlb.trans hle1)
  have hG1 : 1 ≤ laidG G ∧ laidG G ≤ 10 := by have := Nat.mod_lt G.toNat (by omega : 0 < 10); unfold laidG; omega
  have hS1 : 1 ≤ laidG S ∧ laidG S ≤ 10 := by have := Nat.mod_lt S.toNat (by omega : 0 < 10); unfold laidG; omega
  generalize laidG G = g at *
  generalize laidG S = s at *
  obtain ⟨b1, c1, rfl⟩ := hss.form
  obtain ⟨b2, c2, rfl⟩ := hrr.form
  refine WO.step rfl (OR.move rfl (WO.step rfl (OR.extract rfl rfl (WO.step rfl (OR.extract rfl rfl (WO.step rfl (OR.extract rfl rfl ?_)))))))
  refine WO.step rfl (OR.extract rfl rfl (WO.step rfl (OR.assign rfl (WO.step rfl (OR.assign rfl (WO.step rfl (OR.assign rfl ?_)))))))
  refine WO.step rfl (OR.assign rfl (WO.done (WX.seq (WC.seq (WC.region (WO.step rfl (OR.move rfl ?_)))))))
  refine WO.step rfl (OR.move rfl (WO.step rfl (OR.lenSlice T26.und rfl ?_)))
  replace hs := hs.drop (i := 0)
  have hys : ∀ r ∈ laidSyms g s sy, r.length = s := by
    intro r hr
    obtain ⟨i, _, rfl⟩ := List.mem_map.1 hr
    exact padTo_length _ _
  have hR : ∀ r ∈ laidRows g s (laidSyms g s sy) co, Tr (laidSyms g s sy) r ∧ RowGS g s r := by
    intro r hr
    obtain ⟨c, _, rfl⟩ := List.mem_map.1 hr
    exact laid_true _ c hys
  have hRl : (laidRows g s (laidSyms g s sy) co).length ≤ 40 := by simp [laidRows]; omega
  generalize laidRows g s (laidSyms g s sy) co = R0 at *
  generalize laidSyms g s sy = ys at *
  have hg' : g ≤ 10 := hG1.2
  have hcap : R0.length ≤ c2 := by
    obtain ⟨_, ⟨_, _, _, he, hc, _⟩, _⟩ := hrr
    cases he
    exact hc
  refine WO.step rfl (OR.minI rfl rfl ?_)
  have hmin : (if (30 : Int) < (R0.length : Int) then (30 : Int) else (R0.length : Int)) = ((min R0.length 30 : Nat) : Int) := by split <;> omega
  rw [hmin]
  refine WO.step rfl (OR.sliceHiG (min R0.length 30) T26.und T35 rfl rfl rfl (by omega) ?_)
  replace hrr := hrr.cut (k := min R0.length 30) (by omega)
  have hRl2 : (R0.take (min R0.length 30)).length = min R0.length 30 := by rw [List.length_take]; omega
  rw [← hRl2]
  have hrr2 : Rws H (.slice b2 (R0.take (min R0.length 30)).length c2) (R0.take (min R0.length 30)) := by rw [hRl2]; exact hrr
  clear hrr hss
  have hrr := hrr2
  clear hrr2 hmin
  replace hR : ∀ r ∈ R0.take (min R0.length 30), Tr ys r ∧ RowGS g s r := fun r hr => hR r (List.mem_of_mem_take hr)
  replace hRl2 : (R0.take (min R0.length 30)).length ≤ 30 := by omega
  generalize R0.take (min R0.length 30) = R at *
  clear hRl hcap
  refine WO.step rfl (OR.assign rfl (WO.done (WX.seq (WC.seq (WC.region (WO.step rfl (OR.move rfl ?_)))))))
  refine WO.step rfl (OR.move rfl ?_)
  refine WO.step rfl (OR.callX (Mx := []) hs body15 rfl rfl (new_ok g s _ _ hs.toSub) rfl rfl ?_)
  clear hs; rintro _ H M' w hs hle1 hnew ⟨_, hn⟩; replace hle := hle.trans hle1; (try replace hlb := hlb.trans hle1)
  rw [if_pos (by omega)] at hn
  obtain ⟨b, hb0, rfl, rfl⟩ := hn
  replace hrr := hrr.mono hle1
  have hlb := Hp.le.refl H
  refine WO.step rfl (OR.move rfl (WO.step rfl (OR.extract rfl rfl (WO.step rfl (OR.extract rfl rfl (WO.step rfl (OR.assign rfl ?_)))))))
  refine WO.step rfl (OR.assign rfl (WO.done (WX.seq (WC.seq (WC.seq (WC.region ?_))))))
  refine WO.step rfl (OR.call hs body16 rfl rfl (awake_ok _ _ hs.toSub) ?_)
  clear hs; rintro _ H w hs hle1 rfl; replace hle := hle.trans hle1; (try replace hlb := hlb.trans hle1)
  refine WO.step rfl (OR.not rfl (WO.step rfl (OR.move rfl ?_)))
  refine WO.guardYes rfl rfl rfl rfl (OR.move rfl (WO.guardYes rfl rfl rfl rfl (OR.neq rfl rfl (WO.step rfl (OR.pickF rfl rfl rfl (WO.done (WX.seq ?_)))))))
  refine WC.no rfl (decide_eq_false (by omega)) ?_
  refine WC.skip (WX.seq (WC.seq (WC.region (WO.step rfl (OR.move rfl ?_)))))
  refine WO.step rfl (OR.make1 (m := g) hs T23.und T5 rfl rfl rfl (by omega) (by omega) ?_)
  clear hs; intro gv w hgv hs
  refine WO.step rfl (OR.assign rfl (WO.done (WX.seq (WC.seq (WC.region (WO.step rfl (OR.move rfl ?_)))))))
  refine WO.step rfl (OR.move rfl ?_)
  refine WO.step rfl (OR.copyO hs ((bl.take g).map B) T23.und T5 rfl rfl (by rw [List.length_map, List.length_take, natmin (c := min g bl.length) (by omega)]; omega) (Sl.src0 (hbl.mono hle)) (fun b hb j u hj => Sl.src (hbl.mono hle) hs b hb j u (by rw [List.map_take] at hj; exact get_take hj)) (by simp; omega) (bytes_one _) ?_)
  clear hs; intro w hs
  replace hs : HS [] H0 w0 H ((gv, .cells ((padTo g bl).map B).toArray 5, true) :: [(b, basisObj g s (.slice none 0 0), true)]) w := by rw [← padTo_cells]; exact hs
  refine WO.done (WX.seq (WC.seq (WC.seq (WC.region (WO.step rfl (OR.move rfl (WO.step rfl ?_)))))))
  refine OR.lenSlice T26.und rfl (WO.step rfl (OR.eql rfl rfl (WO.done (WX.seq ?_))))
  obtain ⟨H, hle1, hp_gv, hs9⟩ := hs.pub1 hgv; clear hs; have hs := hs9; clear hs9; replace hle := hle.trans hle1; (try replace hlb := hlb.trans hle1)
  have hvl : (padTo g bl).length = g := padTo_length _ _
  have hvv := Bytes.block (l := padTo g bl) (cap := g) hp_gv (by rw [hvl]; exact List.take_of_length_le (by simp [hvl])) (by simp [hvl])
  rw [hvl] at hvv
  replace hrr := hrr.mono hlb
  generalize padTo g bl = v at *
  clear hlb hbl hp_gv
  have hlb := Hp.le.refl H
  refine WC.condD rfl (fun hR0 => ?_) (fun hR0 => ?_)
  · have hRn : R = [] := List.eq_nil_of_length_eq_zero (by omega)
    subst hRn
    have hnil : Rws H (.slice none 0 0) ([] : List RowD) := ⟨[], Sl.nil _ _, rfl, fun i h => by simp at h⟩
    refine WC.seq (WC.region (WO.step rfl (OR.move rfl (WO.step rfl (OR.move rfl ?_)))))
    refine WO.step rfl (OR.call hs body17 rfl rfl (contains_ok ([] : List RowD) _ _ v b g s _ _ hs.toSub (hs.blk (i := 0) rfl) (hs.mem b _ true (List.mem_cons_self ..)).2.1 hnil hvv (fun x hx => by cases hx) (by omega) (by omega) (by omega) (by simp)) ?_)
    clear hs; rintro _ H w hs hle1 rfl; replace hle := hle.trans hle1; (try replace hlb := hlb.trans hle1)
    rw [if_pos hvl]
    refine WO.step rfl (OR.move rfl (WO.step rfl (OR.extract rfl rfl (WO.step rfl (OR.extract rfl rfl (WO.step rfl (OR.assign rfl ?_)))))))
    refine WO.step rfl (OR.assign rfl (WO.done (WX.seq (WC.seq (WC.region (WO.step rfl (OR.move rfl ?_)))))))
    refine WO.step rfl (OR.eql rfl rfl (WO.step rfl (OR.move rfl ?_)))
    refine WO.guardYes rfl rfl rfl rfl (OR.move rfl (WO.guardYes rfl rfl rfl rfl (OR.move rfl ?_)))
    refine WO.guardYes rfl rfl rfl rfl (OR.call hs body37 rfl rfl (isZero_ok _ v _ _ hs.toSub (hvv.mono hlb) (by omega)) ?_)
    clear hs; rintro _ H w hs hle1 rfl; replace hle := hle.trans hle1; (try replace hlb := hlb.trans hle1)
    have he : hasR s [] v = decide (lead v < 0) := rfl
    refine WO.guardYes rfl rfl rfl rfl (OR.eqlB T4.und rfl rfl (WO.step rfl (OR.pickT rfl rfl rfl (WO.step rfl (OR.assign rfl (WO.done (WX.seq ?_)))))))
    refine WC.ret (WX.seq_ret ?_)
    refine WX.ret1 rfl rfl ?_
    refine .mk hs ?_
    rw [he]
    simp
  · obtain ⟨HB, hHB⟩ : ∃ X, X = H := ⟨_, rfl⟩
    subst hHB
    clear hlb
    refine WC.skip (WX.seq (WC.seq (WC.region (WO.step rfl (OR.assign rfl (WO.done (WX.seq ?_)))))))
    refine WC.seq (WC.seq (WC.region (WO.step rfl (OR.move rfl (WO.step rfl (OR.lenSlice T26.und rfl (WO.step rfl ?_)))))))
    refine OR.move rfl (WO.done (WX.seq (WC.block ?_)))
    refine WC.loop (ι := Nat × Value) (fun ix => [(4, .bool false), (8, .slice b2 R.length c2), (9, ptr b), (11, .slice (some ⟨gv, 0, none⟩) g g), (14, ix.2), (74, .slice b2 R.length c2), (75, .int .i64 (R.length : Int)), (76, .int .i64 (ix.1 : Int))]) (fun ix w => (ix.1 ≤ R.length ∧ ∃ H2 rv cs Mo, Hp.le H0 H2 ∧ Hp.le HB H2 ∧ Rws H2 rv (insAll g s (R.take ix.1)) ∧ BLOk H2 cs ((R.take ix.1).map (·.1)) ∧ Own w0.heap.size 23 1 ix.2 ix.1 cs Mo ∧ HS [] H0 w0 H2 ((b, basisObj g s rv, true) :: Mo) w)) (fun ix => R.length - ix.1) (0, .slice none 0 0) ⟨rfl, rfl, rfl, rfl, rfl, rfl, rfl, rfl,  trivial⟩ ?_ (fun ix w hW => ?_)
    · exact ⟨by omega, HB, _, [], [], hle, Hp.le.refl HB, ⟨[], Sl.nil _ _, rfl, fun i h => by simp [insAll] at h⟩, BLOk.nil _, Own.nil _ _ _, hs⟩
    clear hs hle
    obtain ⟨ix, vo⟩ := ix
    obtain ⟨hk, H2, rv, cl, Mo, hle, hlb, hv, hok, ho, hs⟩ := hW
    simp only at hk hv hok ho
    have hgd := insAll_good (g := g) (s := s) (ys := ys) (R.take ix) (fun r hr => hR r (List.mem_of_mem_take hr))
    have hst : ∀ h : ix < R.length, insAll g s (R.take (ix + 1)) = (insR g s (insAll g s (R.take ix)) R[ix]).2 := fun h => insAll_step g s R ix h
    obtain ⟨A, hAd⟩ : ∃ A, A = insAll g s (R.take ix) := ⟨_, rfl⟩
    rw [← hAd] at hv hgd hst
    have hAl := hgd.red.len
    have hAr : ∀ x ∈ A, RowGS g s x ∧ 0 ≤ lead x.1 := fun x hx => ⟨hgd.red.gs x hx, hgd.red.ld x hx⟩
    refine WC.seq (WC.region (WO.step rfl (OR.lss rfl rfl (WO.done (WX.seq (WC.seq ?_))))))
    refine WC.condD rfl (fun hlt => ?_) (fun hlt => ?_)
    · have hk' : ix < R.length := by omega
      obtain ⟨hrt, hrg⟩ := hR R[ix] (List.getElem_mem _)
      obtain ⟨xb, xo, rfl, hcr⟩ := hrr.pos (by omega)
      obtain ⟨ec, ep, hcc, hec, hep⟩ := hcr ix hk'
      obtain ⟨b3, c3, rfl⟩ := hec.form
      obtain ⟨b4, c4, rfl⟩ := hep.form
      refine WC.skip (WX.seq (WC.seq (WC.block (WC.seq (WC.region ?_)))))
      refine WO.step rfl (OR.idxN ix T26.und T35 rfl rfl rfl hk' ?_)
      refine WO.step rfl (OR.loadN (cs := [_, _]) T35 rfl rfl rfl (fun j u hj => hs.cell (hcell.mono hlb (hcc j u hj))) ?_)
      refine WO.step rfl (OR.alloc hs T35 ?_)
      clear hs; intro g2 w hg2 hs
      refine WO.stepN (OR.storeAll hs T35 rfl rfl rfl rfl rfl ?_)
      clear hs; intro w hs
      refine WO.done (WX.seq (WC.seq (WC.region (WO.step rfl (OR.move rfl (WO.step rfl (OR.loadAll T35 rfl rfl (hs.blk (i := 0) rfl) rfl ?_)))))))
      replace hs := hs.front (i := 1) rfl
      refine WO.step rfl (OR.callX (Mx := [(b, _, true)]) hs body18 rfl rfl (insert_ok A R[ix] _ _ _ b g s _ _ hs.toSub (hs.blk (i := 0) rfl) (hs.mem b _ true (List.mem_cons_self ..)).2.1 hv (hec.mono hlb) (hep.mono hlb) hAr (by omega) (by omega) (by omega) (by omega)) rfl rfl ?_)
      clear hs; rintro _ H3 M' w hs hle1 hnew ⟨rv2, rfl, hv2, rfl⟩; replace hle := hle.trans hle1; (try replace hlb := hlb.trans hle1)
      refine WO.done (WX.seq (WC.region (WO.step rfl (OR.move rfl (WO.step rfl (OR.fieldAddr FA35_0 rfl (WO.step rfl ?_)))))))
      refine OR.load T23 rfl rfl (hs.cellM (i := 1) rfl rfl) ?_
      refine WO.step rfl (OR.buildSlice (vs := [_]) hs T22.und T23 rfl rfl rfl rfl (by simp) ?_)
      clear hs; intro g4 w hg4 hs
      have hb1 := hs.blk (i := 0) rfl
      replace hs := hs.perm (List.perm_append_comm (l₁ := Mo) (l₂ := [_, _, _]))
      refine WO.step rfl (OR.append (m := 1) (news := [_]) hs ho T22.und T23 rfl (by omega) rfl rfl rfl (cells_of hb1) (fun h => by cases h) rfl (by omega) (by omega) ?_)
      clear hs ho; intro vo' w Mo' hs ho hge
      replace hs := (((hs.perm (List.perm_append_comm (l₁ := [_, _, _]) (l₂ := Mo')))).drop 0).drop 1
      refine WO.step rfl (OR.assign rfl (WO.done (WX.block (WX.seq (WC.region (WO.step rfl (OR.addI rfl rfl (by omega) (by omega) ?_)))))))
      refine WO.step rfl (OR.move rfl (WO.done ?_))
      refine WX.again ((ix + 1, vo')) ⟨rfl, rfl, rfl, rfl, rfl, rfl, rfl, rfl,  trivial⟩ ?_ ?_
      · refine ⟨hk', H3, rv2, cl ++ [_], Mo', hle, hlb, by rw [hst hk']; exact hv2, ?_, ho, hs⟩
        rw [List.take_succ_eq_append_getElem hk', List.map_append]
        exact (hok.mono hle1).snoc (hec.mono hlb)
      · simp only; omega
    · have e : ix = R.length := by omega
      subst e
      clear hst hk
      rw [List.take_length] at hok hAd
      have hG : gauss g (R.map (·.1)) = A.map (·.1) := by rw [spans_gauss hR, hAd]
      have hH := spans_has hR v hvl
      rw [← hAd] at hH
      have hLl : ∀ r ∈ R.map (·.1), r.length = g := by
        intro c hc
        obtain ⟨r, hr, rfl⟩ := List.mem_map.1 hc
        exact (hR r hr).2.1
      have hLn : (R.map (·.1)).length = R.length := List.length_map ..
      clear hAd hR
      obtain ⟨hcl2, ⟨rfl, _, h09⟩ | ⟨gl, c, cap, rfl, rfl, hnc, hcc, hxx, hgl⟩⟩ := ho
      · omega
      generalize hLL : R.map (·.1) = L at *
      refine WC.exit (WX.seq_exit (WX.loop_exit (WX.block_hit (WX.seq (WC.seq (WC.region (WO.step rfl ?_)))))))
      refine OR.move rfl ?_
      replace hs := hs.front (i := 1) rfl
      have hHn : H2 gl = none := (hs.mem gl _ true (List.mem_cons_self ..)).2.1
      have hB2 := hlb
      clear hlb
      have hlb := Hp.le.refl H2
      obtain ⟨H, hle1, hp_gl, hs9⟩ := hs.pub1 hgl; clear hs; have hs := hs9; clear hs9; replace hle := hle.trans hle1; (try replace hlb := hlb.trans hle1)
      have hbL : BytesL H (.slice (some ⟨gl, 0, none⟩) R.length cap) L := (hok.mono hle1).bytesL (by rw [hLn]; exact Sl.block hp_gl hcl2 hxx hnc)
      replace hv := hv.mono hle1
      refine WO.step rfl (OR.call hs body76 rfl rfl (rankM_ok _ L g _ _ hs.toSub hbL (by omega) (by omega) hLl (by omega)) ?_)
      clear hs; rintro _ H w hs hle1 rfl; replace hle := hle.trans hle1; (try replace hlb := hlb.trans hle1)
      replace hp_gl := hle1 _ _ hp_gl
      replace hv := hv.mono hle1
      refine WO.step rfl (OR.move rfl (WO.step rfl (OR.extract rfl rfl (WO.step rfl (OR.extract rfl rfl (WO.step rfl (OR.assign rfl ?_)))))))
      refine WO.step rfl (OR.assign rfl (WO.done (WX.seq (WC.seq (WC.region (WO.step rfl (OR.move rfl ?_)))))))
      refine WO.step rfl (OR.call hs body77 rfl rfl (reduceM_ok _ L g _ _ hs.toSub (hbL.mono hle1) (by omega) (by omega) hLl (by omega)) ?_)
      clear hs; rintro _ H w hs hle1 ⟨rd, rfl, hrd⟩; replace hle := hle.trans hle1; (try replace hlb := hlb.trans hle1)
      obtain ⟨bd, cd, rfl⟩ := hrd.form
      replace hp_gl := hle1 _ _ hp_gl
      replace hv := hv.mono hle1
      refine WO.step rfl (OR.move rfl (WO.step rfl (OR.extract rfl rfl (WO.step rfl (OR.extract rfl rfl (WO.step rfl (OR.assign rfl ?_)))))))
      refine WO.step rfl (OR.assign rfl (WO.done (WX.seq (WC.seq (WC.seq (WC.region (WO.step rfl ?_)))))))
      refine OR.move rfl (WO.step rfl (OR.neq rfl rfl (WO.step rfl (OR.move rfl ?_))))
      refine WO.guardYes rfl rfl rfl rfl (OR.move rfl (WO.guardYes rfl rfl rfl rfl (OR.neq rfl rfl (WO.step rfl (OR.pickF rfl rfl rfl (WO.step rfl (OR.move rfl ?_)))))))
      refine WO.guardYes rfl rfl rfl rfl (OR.move rfl ?_)
      refine WO.guardYes rfl rfl rfl rfl (OR.call hs body19 rfl rfl (rank_ok b g s _ A _ _ hs.toSub (hs.blk (i := 0) rfl) (hs.mem b _ true (List.mem_cons_self ..)).2.1 (by omega) hv) ?_)
      clear hs; rintro _ H w hs hle1 rfl; replace hle := hle.trans hle1; (try replace hlb := hlb.trans hle1)
      replace hp_gl := hle1 _ _ hp_gl
      replace hv := hv.mono hle1
      replace hrd := hrd.mono hle1
      have hGl : (gauss g L).length = A.length := by rw [hG, List.length_map]
      refine WO.guardYes rfl rfl rfl rfl (OR.move rfl (WO.guardYes rfl rfl rfl rfl (OR.neq rfl rfl (WO.step rfl (OR.pickF rfl rfl rfl (WO.done (WX.seq ?_)))))))
      refine WC.no rfl (decide_eq_false (by rw [hGl]; simp : ¬ ((A.length : Int) ≠ ((gauss g L).length : Int)))) ?_
      refine WC.skip (WX.seq (WC.seq (WC.region (WO.step rfl (OR.move rfl ?_)))))
      refine WO.step rfl (OR.call hs body20 rfl rfl (rows_ok A _ b g s _ _ hs.toSub (hs.blk (i := 0) rfl) (hs.mem b _ true (List.mem_cons_self ..)).2.1 hv hgd.red.gs (by omega) (by omega) (by omega) (by omega)) ?_)
      clear hs; rintro _ H w hs hle1 hrw; replace hle := hle.trans hle1; (try replace hlb := hlb.trans hle1)
      replace hp_gl := hle1 _ _ hp_gl
      replace hv := hv.mono hle1
      replace hrd := hrd.mono hle1
      obtain ⟨b7, c7, rfl⟩ := hrw.form
      obtain ⟨HR, hHR⟩ : ∃ X, X = H := ⟨_, rfl⟩
      subst hHR
      have h2R := hlb
      clear hlb
      refine WO.step rfl (OR.assign rfl (WO.done (WX.seq (WC.seq (WC.seq (WC.region (WO.step rfl ?_)))))))
      refine OR.move rfl (WO.step rfl (OR.lenSlice T26.und rfl (WO.step rfl (OR.move rfl (WO.done (WX.seq (WC.block ?_)))))))
      refine WC.loop (ι := Nat) (fun i => [(9, ptr b), (11, .slice (some ⟨gv, 0, none⟩) g g), (14, .slice (some ⟨gl, 0, none⟩) R.length cap), (17, .int .i64 ((gauss g L).length : Int)), (19, .slice bd (gauss g L).length cd), (113, .slice b7 A.length c7), (114, .int .i64 (A.length : Int)), (115, .int .i64 (i : Int))]) (fun i w => (i ≤ A.length ∧ ∃ H3, Hp.le H0 H3 ∧ Hp.le HR H3 ∧ HS [] H0 w0 H3 [(b, basisObj g s rv, true)] w)) (fun i => A.length - i) 0 ⟨rfl, rfl, rfl, rfl, rfl, rfl, rfl, rfl,  trivial⟩ ?_ (fun i w hW => ?_)
      · exact ⟨by omega, HR, hle, Hp.le.refl HR, hs⟩
      clear hs hle
      obtain ⟨hi, H3, hle, hlb, hs⟩ := hW
      refine WC.seq (WC.region (WO.step rfl (OR.lss rfl rfl (WO.done (WX.seq (WC.seq ?_))))))
      refine WC.condD rfl (fun hlt2 => ?_) (fun hlt2 => ?_)
      · have hi' : i < A.length := by omega
        have hxg := hgd.red.gs _ (List.getElem_mem hi')
        have hEi : (gauss g L)[i]'(by omega) = A[i].1 := by simp only [hG, List.getElem_map]
        obtain ⟨xb, xo, rfl, hcr⟩ := hrw.pos (by omega)
        obtain ⟨ec, ep, hcc2, hec, hep⟩ := hcr i hi'
        obtain ⟨b8, c8, rfl⟩ := hec.form
        obtain ⟨b9, c9, rfl⟩ := hep.form
        obtain ⟨yb, yo, rfl, hcy⟩ := hrd.pos (by omega)
        obtain ⟨ey, hey1, hey2⟩ := hcy i (by omega)
        rw [hEi] at hey2
        refine WC.skip (WX.seq (WC.seq (WC.block (WC.seq (WC.region (WO.step rfl (OR.move rfl ?_)))))))
        refine WO.step rfl (OR.idxN i T26.und T35 rfl rfl rfl hi' ?_)
        refine WO.step rfl (OR.loadN (cs := [_, _]) T35 rfl rfl rfl (fun j u hj => hs.cell (hcell.mono hlb (hcc2 j u hj))) ?_)
        refine WO.step rfl (OR.alloc hs T35 ?_)
        clear hs; intro g3 w hg3 hs
        refine WO.step rfl (OR.assign rfl (WO.stepN (OR.storeAll hs T35 rfl rfl rfl rfl rfl ?_)))
        clear hs; intro w hs
        refine WO.done (WX.seq (WC.seq ?_))
        refine WC.draw 8 mixed hs (by kernel_rfl) ?_
        refine ⟨MF.eq _, by intro Mx H w hle hs; refine forVals_nil (ORg.plain (OR.fieldAddr FA35_0 rfl ?_)); exact ⟨_, [], Hp.le.refl _, hs, rfl, rfl⟩, ?_⟩
        refine ⟨MF.eq _, by intro Mx H w hle hs; refine forVals_eq rfl rfl rfl ?_; refine forVals_nil (ORg.plain (OR.load T23 rfl rfl (hs.right.cellM (i := 0) rfl rfl) ?_)); exact ⟨_, [], Hp.le.refl _, hs, rfl, rfl⟩, ?_⟩
        refine ⟨MF.eq _, by intro Mx H w hle hs; refine forVals_nil (ORg.plain (OR.move rfl ?_)); exact ⟨_, [], Hp.le.refl _, hs, rfl, rfl⟩, ?_⟩
        refine ⟨MF.eq _, by intro Mx H w hle hs; refine forVals_nil (ORg.plain (OR.move rfl ?_)); exact ⟨_, [], Hp.le.refl _, hs, rfl, rfl⟩, ?_⟩
        refine ⟨MF.eq (.pointer (some ⟨yb, yo + i, none⟩)), ?_, ?_⟩
        · intro Mx H w hle2 hs; (try replace hle := hle.trans hle2); (try replace hlb := hlb.trans hle2); refine forVals_eq rfl rfl rfl ?_; refine forVals_eq rfl rfl rfl ?_
          refine forVals_nil (ORg.plain (OR.idx i T22.und T23 rfl rfl rfl (by omega) ?_))
          exact ⟨_, [], Hp.le.refl _, hs, rfl, rfl⟩
        refine ⟨MF.eq ey, ?_, ?_⟩
        · intro Mx H w hle2 hs; (try replace hle := hle.trans hle2); (try replace hlb := hlb.trans hle2); refine forVals_eq rfl rfl rfl ?_
          refine forVals_nil (ORg.plain (OR.load T23 rfl rfl (hs.cell (hcell.mono hlb hey1)) ?_))
          exact ⟨_, [], Hp.le.refl _, hs, rfl, rfl⟩
        refine ⟨MF.eq (.bool true), ?_, ?_⟩
        · intro Mx H w hle2 hs; (try replace hle := hle.trans hle2); (try replace hlb := hlb.trans hle2); refine forVals_eq rfl rfl rfl ?_; refine forVals_eq rfl rfl rfl ?_
          refine forVals_nil (ORg.plain (OR.call hs body21 rfl rfl (equal_ok _ _ A[i].1 A[i].1 _ _ hs.toSub (hec.mono hlb) (hey2.mono hlb)) ?_))
          clear hs; rintro _ H w hs hle1 rfl
          exact ⟨_, [], hle1, hs, (by rw [decide_eq_true rfl]), rfl⟩
        refine ⟨MF.eq _, by intro Mx H w hle hs; refine forVals_eq rfl rfl rfl ?_; refine forVals_nil (ORg.plain (OR.not rfl ?_)); exact ⟨_, [], Hp.le.refl _, hs, rfl, rfl⟩, ?_⟩
        intro H w hle2; (try replace hle := hle.trans hle2); (try replace hlb := hlb.trans hle2)
        refine forAllVals_eq rfl ?_
        refine forAllVals_eq rfl ?_
        refine forAllVals_eq rfl ?_
        refine forAllVals_eq rfl ?_
        refine forAllVals_eq rfl ?_
        refine forAllVals_eq rfl ?_
        refine forAllVals_eq rfl ?_
        refine forAllVals_eq rfl ?_
        refine forAllVals_nil ?_; (try clear hs); intro hs
        refine WO.done (WX.seq ?_)
        refine WC.no rfl rfl ?_
        refine WC.skip (WX.block (WX.seq (WC.region (WO.step rfl (OR.addI rfl rfl (by omega) (by omega) (WO.step rfl (OR.move rfl ?_)))))))
        refine WO.done ?_
        refine WX.again (i + 1) ⟨rfl, rfl, rfl, rfl, rfl, rfl, rfl, rfl,  trivial⟩ ?_ ?_
        · exact ⟨hi', _, hle, hlb, hs.drop 0⟩
        · omega
      · have hnC : HR gl = some (.cells c 23) := hp_gl
        replace hv := hv.mono hlb
        refine WC.exit (WX.seq_exit (WX.loop_exit (WX.block_hit (WX.seq (WC.seq (WC.region (WO.step rfl ?_)))))))
        refine OR.move rfl (WO.step rfl (OR.move rfl ?_))
        refine WO.step rfl (OR.call hs body17 rfl rfl (contains_ok A _ _ v b g s _ _ hs.toSub (hs.blk (i := 0) rfl) (hs.mem b _ true (List.mem_cons_self ..)).2.1 hv (hvv.mono (hB2.trans (h2R.trans hlb))) hAr (by omega) (by omega) (by omega) (by omega)) ?_)
        clear hs; rintro _ H w hs hle1 rfl; replace hle := hle.trans hle1; (try replace hlb := hlb.trans hle1)
        rw [if_pos hvl]
        refine WO.step rfl (OR.move rfl (WO.step rfl (OR.extract rfl rfl (WO.step rfl (OR.extract rfl rfl (WO.step rfl (OR.assign rfl ?_)))))))
        refine WO.step rfl (OR.assign rfl (WO.done (WX.seq (WC.seq (WC.region (WO.step rfl (OR.move rfl ?_)))))))
        refine WO.step rfl (OR.move rfl ?_)
        have hlc := h2R.trans hlb
        replace hs := HS.unpub h0 hs (hlb _ _ hnC) hgl
        replace hlc := Hp.le_del hlc hHn
        clear hle hlb
        have hle := hs.le
        refine WO.step rfl (OR.buildSlice (vs := [_]) hs T22.und T23 rfl rfl rfl rfl (by simp) ?_)
        clear hs; intro g9 w hg9 hs
        have hb1 := hs.blk (i := 0) rfl
        replace hs := hs.front (i := 1) rfl
        refine WO.step rfl (OR.append (m := 1) (news := [_]) (Mo := [_]) (M := [_, _]) hs (Own.block hnc hcc hxx hgl) T22.und T23 rfl (by omega) rfl rfl rfl (cells_of hb1) (fun h => by cases h) rfl (by omega) (by omega) ?_)
        clear hs; intro vl w Mo hs ho hge
        obtain ⟨H4, hle4, hs, hsl4, _⟩ := HS.pub hs ho
        have hbL2 : BytesL H4 vl (L ++ [v]) := BLOk.bytesL (cs := cl ++ [.slice (some ⟨gv, 0, none⟩) g g]) ((hok.mono (hlc.trans hle4)).snoc (hvv.mono (hB2.trans (hlc.trans hle4)))) (by rw [List.length_append, hLn]; exact hsl4)
        replace hle := hle.trans hle4
        have hLl2 : ∀ r ∈ L ++ [v], r.length = g := by
          intro r hr
          rcases List.mem_append.1 hr with hr | hr
          · exact hLl r hr
          · rw [List.mem_singleton.1 hr]; exact hvl
        refine WO.step rfl (OR.call hs body76 rfl rfl (rankM_ok _ (L ++ [v]) g _ _ hs.toSub hbL2 (by simp) (by simp; omega) hLl2 (by omega)) ?_)
        clear hs; rintro _ H w hs hle1 rfl; replace hle := hle.trans hle1; (try replace hlb := hlb.trans hle1)
        refine WO.step rfl (OR.move rfl (WO.step rfl (OR.extract rfl rfl (WO.step rfl (OR.extract rfl rfl (WO.step rfl (OR.assign rfl ?_)))))))
        refine WO.step rfl (OR.assign rfl (WO.done (WX.seq (WC.seq (WC.region (WO.step rfl (OR.move rfl ?_)))))))
        refine WO.step rfl (OR.eql rfl rfl (WO.step rfl (OR.move rfl ?_)))
        refine WO.guardYes rfl rfl rfl rfl (OR.move rfl (WO.guardYes rfl rfl rfl rfl (OR.eql rfl rfl (WO.step rfl (OR.pickT rfl rfl rfl (WO.step rfl (OR.move rfl ?_)))))))
        refine WO.guardYes rfl rfl rfl rfl (OR.move rfl (WO.guardYes rfl rfl rfl rfl (OR.move rfl (WO.guardYes rfl rfl rfl rfl (OR.move rfl (WO.guardYes rfl rfl rfl rfl (OR.eql rfl rfl ?_)))))))
        refine WO.guardYes rfl rfl rfl rfl (OR.eqlB T4.und rfl rfl (WO.step rfl (OR.pickT rfl rfl rfl (WO.step rfl (OR.assign rfl (WO.done (WX.seq ?_)))))))
        refine WC.ret ?_
        refine WX.ret1 rfl rfl ?_
        refine .mk hs ?_
        rw [hH]
        congr 1
        have e : decide ((((gauss g (L ++ [v])).length : Nat) : Int) = (((gauss g L).length : Nat) : Int)) = decide ((gauss g (L ++ [v])).length = (gauss g L).length) := by
          rw [decide_eq_decide]; omega
        rw [e]
        simp
end Go.Bw
