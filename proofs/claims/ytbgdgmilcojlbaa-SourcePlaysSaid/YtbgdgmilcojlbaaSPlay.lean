/- SourcePlays walked. -/
import Derived.Test.YtbgdgmilcojlbaaSPlay1
namespace Go.Bw
set_option linter.unusedVariables false
set_option linter.unusedSimpArgs false
open Go.Proofs

theorem min500 (n : Nat) : (if (500 : Int) < (n : Int) then (500 : Int) else (n : Int)) = ((min n 500 : Nat) : Int) := by split <;> omega
theorem min20 (n : Nat) : (if (20 : Int) < (n : Int) then (20 : Int) else (n : Int)) = ((min n 20 : Nat) : Int) := by split <;> omega
theorem min200 (n : Nat) : (if (200 : Int) < (n : Int) then (200 : Int) else (n : Int)) = ((min n 200 : Nat) : Int) := by split <;> omega
theorem Ints.cut {H : Hp} {base : Option Addr} {n cap k : Nat} {l : List Int} (h : Ints H (.slice base n cap) l) (hk : k ≤ l.length) : Ints H (.slice base k cap) (l.take k) := by
  obtain ⟨hl, b', c', he, hn, hb0, hc⟩ := h
  cases he
  have e : (l.take k).length = k := by rw [List.length_take]; omega
  refine ⟨by simp, base, cap, by rw [e], by omega, fun e2 => ?_, fun a ha => ⟨fun hp => ?_, fun i u hi => ?_⟩⟩
  · have := hb0 e2
    omega
  · exact (hc a ha).1 (by omega)
  · rw [List.map_take] at hi
    exact (hc a ha).2 i u (get_take hi)
theorem Ints.cap {H : Hp} {base : Option Addr} {n cap : Nat} {l : List Int} (h : Ints H (.slice base n cap) l) : l.length ≤ cap := by
  obtain ⟨hl, b', c', he, hn, hb0, hc⟩ := h
  cases he
  exact hn
theorem HS.two {xs : List Nat} {H0 H : Hp} {w0 w : World} {a b : Nat × Obj × Bool} {M : Mem} (h : HS xs H0 w0 H (a :: b :: M) w) : HS xs H0 w0 H [a, b] w := h.sublist (List.Sublist.cons_cons _ (List.Sublist.cons_cons _ (List.nil_sublist _)))
theorem newD_ok2 {g s : Nat} (h : goodGS g s) (st : List UInt8) (cuts : List Int) (cl : Bool) (hc : cutsOk st.length 0 cuts = true) (hl : st.length ≤ 262144) : SrcOk (newD g s st cuts cl) := ⟨h, hc, rfl, rfl, hl⟩

/-- What holds ahead of each round: both sources are the same. -/
def SpI (H0 : Hp) (w0 : World) (x r k : Nat) (w : World) : Prop := ∃ H D o ro, Hp.le H0 H ∧ SrcIn H D o ∧ RsIn H D ro ∧ SrcOk D ∧ D.cuts.length ≤ k ∧ HS [] H0 w0 H [(x, o, true), (r, ro, true)] w
/-- What holds behind a call. -/
def SpJ (H0 : Hp) (w0 : World) (x r k : Nat) (vo : Value) (n : Nat) (w : World) : Prop := ∃ H D o ro Mo cs, Hp.le H0 H ∧ SrcIn H D o ∧ RsIn H D ro ∧ SrcOk D ∧ D.cuts.length ≤ k ∧ Own w0.heap.size 5 1 vo n cs Mo ∧ (∀ u ∈ cs, ∃ y : UInt8, u = B y) ∧ HS [] H0 w0 H ([(x, o, true), (r, ro, true)] ++ Mo) w

theorem sclosed_x (b : Nat) (x : SrcD) (o : Obj) (H0 : Hp) (w0 : World) (h0 : Sub H0 w0) (hb : w0.heap[b]? = some o) (hn : H0 b = none) (hx : SrcIn H0 x o) : Calls Try.prog 51 #[ptr b] w0 (Pure H0 w0 fun v _ => v = .bool x.cl) := by
  obtain ⟨_, _, _, _, rfl, _⟩ := hx
  exact sclosed_ok b x.g x.s _ _ _ _ x.cl H0 w0 h0 hb hn
theorem subD_cuts (D : SrcD) (l : List UInt8) (m : Nat) : (subD D l m).cuts = D.cuts := by
  unfold subD
  split
  · rfl
  · split <;> rfl
theorem HS.xr {xs : List Nat} {H0 H : Hp} {w0 w : World} {a b c : Nat × Obj × Bool} {M : Mem} (h : HS xs H0 w0 H (a :: b :: c :: M) w) : HS xs H0 w0 H ([c, a] ++ M) w :=
  ((h.front (i := 2) rfl).perm (List.Perm.refl _)).sublist (List.Sublist.cons_cons _ (List.Sublist.cons_cons _ (List.sublist_cons_self _ _)))
theorem HS.xr2 {xs : List Nat} {H0 H : Hp} {w0 w : World} {a b c : Nat × Obj × Bool} {M : Mem} (h : HS xs H0 w0 H (a :: b :: c :: M) w) : HS xs H0 w0 H ([b, a] ++ M) w :=
  (h.front (i := 1) rfl).sublist (List.Sublist.cons_cons _ (List.Sublist.cons_cons _ (List.sublist_cons_self _ _)))

set_option maxRecDepth 20000 in
set_option maxHeartbeats 2000000 in
theorem splays_ok (g0 s0 : Int) (vb vc vl : Value) (bb : List UInt8) (cu : List Int) (cl rs : Bool) (len : Nat) (A : Nat → ActD) (V : Nat → Value) (H0 : Hp) (w0 : World) (h0 : Sub H0 w0) (hbb : Bytes H0 vb bb) (hcu : Ints H0 vc cu) (hbl : bb.length ≤ 9223372036854775807) (hcul : cu.length ≤ 9223372036854775807)
    (hl : Acts H0 vl len A V) (hsent : ∀ i, i < len → (A i).sent < 18446744073709551616) (hlen : len ≤ 9223372036854775807) :
    Calls Try.prog 10 #[.agg #[.int .i64 g0, .int .i64 s0, vb, vc, .bool cl, .bool rs], vl] w0 (Pure H0 w0 fun v _ => v = .bool true) := by
  have hs := HS.init h0
  have hle := Hp.le.refl H0
  have hl0 := hl.1
  obtain ⟨bl, cl0, rfl⟩ := hl0.form
  obtain ⟨b1, c1, rfl⟩ := hbb.form
  obtain ⟨b2, c2, rfl⟩ := hcu.form
  refine Calls.enter (args := [.agg #[.int .i64 g0, .int .i64 s0, .slice b1 bb.length c1, .slice b2 cu.length c2, .bool cl, .bool rs], .slice bl len cl0]) Try.func10 rfl Try.ntmps10 rfl ?_
  refine WC.seq (WC.region (WO.step rfl (OR.box hs rfl ?_)))
  clear hs; intro g1 w hg1 hs
  refine WO.step rfl (OR.assign rfl (WO.done (WX.seq (WC.seq (WC.seq (WC.region ?_))))))
  refine WO.step rfl (OR.call hs body28 rfl rfl (awake13_ok _ _ hs.toSub) ?_)
  clear hs; rintro _ H w hs hle1 rfl; replace hle := hle.trans hle1; (try replace hlb := hlb.trans hle1)
  refine WO.step rfl (OR.not rfl (WO.done (WX.seq ?_)))
  refine WC.no rfl rfl ?_
  refine WC.skip (WX.seq (WC.seq (WC.region (WO.step rfl (OR.fieldAddr FA93_0 rfl (WO.step rfl (OR.load T3 rfl rfl (hs.cellM (i := 0) rfl rfl) ?_)))))))
  refine WO.step rfl (OR.fieldAddr FA93_1 rfl (WO.step rfl (OR.load T3 rfl rfl (hs.cellM (i := 0) rfl rfl) ?_)))
  refine WO.step rfl (OR.call hs body54 rfl rfl (sizes_ok g0 s0 _ _ hs.toSub) ?_)
  clear hs; rintro _ H w hs hle1 ⟨g, s, rfl⟩; replace hle := hle.trans hle1; (try replace hlb := hlb.trans hle1)
  have hm1 := min500 bb.length
  have hm2 := min20 cu.length
  have hcc1 := hbb.cap
  have hcc2 := hcu.cap
  refine WO.step rfl (OR.move rfl (WO.step rfl (OR.extract rfl rfl (WO.step rfl (OR.extract rfl rfl (WO.step rfl (OR.assign rfl ?_)))))))
  refine WO.step rfl (OR.assign rfl (WO.done (WX.seq (WC.seq ?_))))
  refine WC.draw 20 mixed hs (by kernel_rfl) ?_
  refine ⟨MF.eq _, by intro Mx H w hle hs; refine forVals_nil (ORg.plain (OR.fieldAddr FA93_2 rfl ?_)); exact ⟨_, [], Hp.le.refl _, hs, rfl, rfl⟩, ?_⟩
  refine ⟨MF.eq _, by intro Mx H w hle hs; refine forVals_eq rfl rfl rfl ?_; refine forVals_nil (ORg.plain (OR.fieldAddr FA91_0 rfl ?_)); exact ⟨_, [], Hp.le.refl _, hs, rfl, rfl⟩, ?_⟩
  refine ⟨MF.eq _, by intro Mx H w hle hs; refine forVals_eq rfl rfl rfl ?_; refine forVals_nil (ORg.plain (OR.load T23 rfl rfl (hs.right.cellM (i := 0) rfl rfl) ?_)); exact ⟨_, [], Hp.le.refl _, hs, rfl, rfl⟩, ?_⟩
  refine ⟨MF.eq _, by intro Mx H w hle hs; refine forVals_nil (ORg.plain (OR.fieldAddr FA93_2 rfl ?_)); exact ⟨_, [], Hp.le.refl _, hs, rfl, rfl⟩, ?_⟩
  refine ⟨MF.eq _, by intro Mx H w hle hs; refine forVals_eq rfl rfl rfl ?_; refine forVals_nil (ORg.plain (OR.fieldAddr FA91_0 rfl ?_)); exact ⟨_, [], Hp.le.refl _, hs, rfl, rfl⟩, ?_⟩
  refine ⟨MF.eq _, by intro Mx H w hle hs; refine forVals_eq rfl rfl rfl ?_; refine forVals_nil (ORg.plain (OR.load T23 rfl rfl (hs.right.cellM (i := 0) rfl rfl) ?_)); exact ⟨_, [], Hp.le.refl _, hs, rfl, rfl⟩, ?_⟩
  refine ⟨MF.eq _, by intro Mx H w hle hs; refine forVals_eq rfl rfl rfl ?_; refine forVals_nil (ORg.plain (OR.lenSlice T23.und rfl ?_)); exact ⟨_, [], Hp.le.refl _, hs, rfl, rfl⟩, ?_⟩
  refine ⟨MF.eq (.int .i64 ((min bb.length 500 : Nat) : Int)), ?_, ?_⟩
  · intro Mx H w hle2 hs; (try replace hle := hle.trans hle2); (try replace hlb := hlb.trans hle2); refine forVals_eq rfl rfl rfl ?_
    refine forVals_nil (ORg.plain (OR.minI rfl rfl ?_))
    exact ⟨_, [], Hp.le.refl _, hs, (by rw [hm1]), rfl⟩
  refine ⟨MF.eq (.slice b1 (min bb.length 500) c1), ?_, ?_⟩
  · intro Mx H w hle2 hs; (try replace hle := hle.trans hle2); (try replace hlb := hlb.trans hle2); refine forVals_eq rfl rfl rfl ?_; refine forVals_eq rfl rfl rfl ?_
    refine forVals_nil (ORg.plain (OR.sliceHiG (min bb.length 500) T23.und T5 rfl rfl rfl (by omega) ?_))
    exact ⟨_, [], Hp.le.refl _, hs, rfl, rfl⟩
  refine ⟨MF.eq _, by intro Mx H w hle hs; refine forVals_nil (ORg.plain (OR.fieldAddr FA93_2 rfl ?_)); exact ⟨_, [], Hp.le.refl _, hs, rfl, rfl⟩, ?_⟩
  refine ⟨MF.eq _, by intro Mx H w hle hs; refine forVals_eq rfl rfl rfl ?_; refine forVals_nil (ORg.plain (OR.fieldAddr FA91_1 rfl ?_)); exact ⟨_, [], Hp.le.refl _, hs, rfl, rfl⟩, ?_⟩
  refine ⟨MF.eq _, by intro Mx H w hle hs; refine forVals_eq rfl rfl rfl ?_; refine forVals_nil (ORg.plain (OR.load T87 rfl rfl (hs.right.cellM (i := 0) rfl rfl) ?_)); exact ⟨_, [], Hp.le.refl _, hs, rfl, rfl⟩, ?_⟩
  refine ⟨MF.eq _, by intro Mx H w hle hs; refine forVals_nil (ORg.plain (OR.fieldAddr FA93_2 rfl ?_)); exact ⟨_, [], Hp.le.refl _, hs, rfl, rfl⟩, ?_⟩
  refine ⟨MF.eq _, by intro Mx H w hle hs; refine forVals_eq rfl rfl rfl ?_; refine forVals_nil (ORg.plain (OR.fieldAddr FA91_1 rfl ?_)); exact ⟨_, [], Hp.le.refl _, hs, rfl, rfl⟩, ?_⟩
  refine ⟨MF.eq _, by intro Mx H w hle hs; refine forVals_eq rfl rfl rfl ?_; refine forVals_nil (ORg.plain (OR.load T87 rfl rfl (hs.right.cellM (i := 0) rfl rfl) ?_)); exact ⟨_, [], Hp.le.refl _, hs, rfl, rfl⟩, ?_⟩
  refine ⟨MF.eq _, by intro Mx H w hle hs; refine forVals_eq rfl rfl rfl ?_; refine forVals_nil (ORg.plain (OR.lenSlice T87.und rfl ?_)); exact ⟨_, [], Hp.le.refl _, hs, rfl, rfl⟩, ?_⟩
  refine ⟨MF.eq (.int .i64 ((min cu.length 20 : Nat) : Int)), ?_, ?_⟩
  · intro Mx H w hle2 hs; (try replace hle := hle.trans hle2); (try replace hlb := hlb.trans hle2); refine forVals_eq rfl rfl rfl ?_
    refine forVals_nil (ORg.plain (OR.minI rfl rfl ?_))
    exact ⟨_, [], Hp.le.refl _, hs, (by rw [hm2]), rfl⟩
  refine ⟨MF.eq (.slice b2 (min cu.length 20) c2), ?_, ?_⟩
  · intro Mx H w hle2 hs; (try replace hle := hle.trans hle2); (try replace hlb := hlb.trans hle2); refine forVals_eq rfl rfl rfl ?_; refine forVals_eq rfl rfl rfl ?_
    refine forVals_nil (ORg.plain (OR.sliceHiG (min cu.length 20) T87.und T3 rfl rfl rfl (by omega) ?_))
    exact ⟨_, [], Hp.le.refl _, hs, rfl, rfl⟩
  refine ⟨MF.eq _, by intro Mx H w hle hs; refine forVals_eq rfl rfl rfl ?_; refine forVals_nil (ORg.plain (OR.assign rfl ?_)); exact ⟨_, [], Hp.le.refl _, hs, rfl, rfl⟩, ?_⟩
  refine ⟨MF.eq _, by intro Mx H w hle hs; refine forVals_eq rfl rfl rfl ?_; refine forVals_nil (ORg.plain (OR.assign rfl ?_)); exact ⟨_, [], Hp.le.refl _, hs, rfl, rfl⟩, ?_⟩
  intro H w hle2; (try replace hle := hle.trans hle2); (try replace hlb := hlb.trans hle2)
  refine forAllVals_eq rfl ?_
  refine forAllVals_eq rfl ?_
  refine forAllVals_eq rfl ?_
  refine forAllVals_eq rfl ?_
  refine forAllVals_eq rfl ?_
  refine forAllVals_eq rfl ?_
  refine forAllVals_eq rfl ?_
  refine forAllVals_eq rfl ?_
  refine forAllVals_eq rfl ?_
  refine forAllVals_eq rfl ?_
  refine forAllVals_eq rfl ?_
  refine forAllVals_eq rfl ?_
  refine forAllVals_eq rfl ?_
  refine forAllVals_eq rfl ?_
  refine forAllVals_eq rfl ?_
  refine forAllVals_eq rfl ?_
  refine forAllVals_eq rfl ?_
  refine forAllVals_eq rfl ?_
  refine forAllVals_eq rfl ?_
  refine forAllVals_eq rfl ?_
  refine forAllVals_nil ?_; (try clear hs); intro hs
  obtain ⟨xb, hxb⟩ : ∃ xb, xb = bb.take (min bb.length 500) := ⟨_, rfl⟩
  obtain ⟨xc, hxc⟩ : ∃ xc, xc = cu.take (min cu.length 20) := ⟨_, rfl⟩
  have hlb : min bb.length 500 = xb.length := by rw [hxb, List.length_take]; omega
  have hlc : min cu.length 20 = xc.length := by rw [hxc, List.length_take]; omega
  have hB1 : Bytes H0 (.slice b1 xb.length c1) xb := by rw [← hlb, hxb]; exact hbb.cut (by omega)
  have hB2 : Ints H0 (.slice b2 xc.length c2) xc := by rw [← hlc, hxc]; exact hcu.cut (by omega)
  rw [hlb, hlc]
  have hb500 : xb.length ≤ 500 := by omega
  have hc20 : xc.length ≤ 20 := by omega
  clear hxb hxc hlb hlc hbb hcu hbl hcul hm1 hm2 hcc1 hcc2
  refine WO.done (WX.seq (WC.seq (WC.region (WO.step rfl (OR.move rfl ?_)))))
  by_cases hgs : goodGS g s
  · have hgs0 := hgs
    obtain ⟨G, rfl⟩ := Int.eq_ofNat_of_zero_le (by have := hgs0.1; omega : 0 ≤ g)
    obtain ⟨S, rfl⟩ := Int.eq_ofNat_of_zero_le (by have := hgs0.2.2.1; omega : 0 ≤ s)
    refine WO.step rfl (OR.move rfl ?_)
    refine WO.step rfl (OR.callX (Mx := []) hs body27 rfl rfl (snew_ok G S _ _ hs.toSub hgs) rfl rfl ?_)
    clear hs; rintro _ H M' w hs hle1 hnew ⟨x0, o0, rfl, rfl, hx0, hsx⟩; replace hle := hle.trans hle1; (try replace hlb := hlb.trans hle1)
    refine WO.step rfl (OR.move rfl (WO.step rfl (OR.extract rfl rfl (WO.step rfl (OR.extract rfl rfl (WO.step rfl (OR.assign rfl ?_)))))))
    refine WO.step rfl (OR.assign rfl (WO.done (WX.seq (WC.seq (WC.region (WO.step rfl (OR.move rfl ?_)))))))
    refine WO.step rfl (OR.move rfl ?_)
    refine WO.step rfl (OR.callX (Mx := []) hs body55 rfl rfl (rsNew_ok G S _ _ hs.toSub hgs) rfl rfl ?_)
    clear hs; rintro _ H M' w hs hle1 hnew ⟨r0, q0, rfl, rfl, hr0, hsr⟩; replace hle := hle.trans hle1; (try replace hlb := hlb.trans hle1)
    replace hsx := hsx.mono hle1
    refine WO.step rfl (OR.move rfl (WO.step rfl (OR.extract rfl rfl (WO.step rfl (OR.extract rfl rfl (WO.step rfl (OR.assign rfl ?_)))))))
    refine WO.step rfl (OR.assign rfl (WO.done (WX.seq (WC.seq ?_))))
    refine WC.joinK (ι := Value × Value × Int) (fun ix => [(1, .slice bl len cl0), (9, ix.1), (10, .int .i64 ix.2.2), (11, ix.2.1), (12, .int .i64 ix.2.2)]) (fun ix w => ((ix = (.pointer none, .pointer none, 1) ∧ ∃ H, HS [] H0 w0 H [] w) ∨ ∃ x r, ix = (ptr x, ptr r, 0) ∧ SpI H0 w0 x r 20 w)) ?_ (fun ix w hW => ?_)
    · refine WC.seq (WC.region (WO.step rfl (OR.fieldAddr FA93_4 rfl (WO.step rfl (OR.load T4 rfl rfl (hs.cellM (i := 2) rfl rfl) (WO.done (WX.seq ?_)))))))
      refine WC.cond rfl (fun hrs => ?_) (fun hrs => ?_)
      · by_cases hgd : cutsOk xb.length 0 xc = true ∧ (cl = true → openF (G * S - 4) xb xc = [])
        · have hgd2 : rsGood G S xb xc cl := hgd
          refine WC.seq (WC.region (WO.step rfl (OR.move rfl (WO.step rfl (OR.move rfl (WO.step rfl (OR.move rfl ?_)))))))
          refine WO.step rfl (OR.move rfl (WO.step rfl (OR.fieldAddr FA93_3 rfl (WO.step rfl (OR.load T4 rfl rfl (hs.cellM (i := 2) rfl rfl) ?_)))))
          refine WO.step rfl (OR.callX (Mx := []) hs body50 rfl rfl (restore_ok G S _ _ xb xc cl _ _ hs.toSub hgs (hB1.mono hle) (hB2.mono hle) (by omega) (by omega)) rfl rfl ?_)
          clear hs; rintro _ H M' w hs hle1 hnew hres; replace hle := hle.trans hle1; (try replace hlb := hlb.trans hle1)
          rw [if_pos hgd] at hres
          obtain ⟨x1, o1, rfl, rfl, hx1, hsx1⟩ := hres
          refine WO.step rfl (OR.move rfl (WO.step rfl (OR.extract rfl rfl (WO.step rfl (OR.extract rfl rfl (WO.step rfl (OR.assign rfl ?_)))))))
          refine WO.step rfl (OR.assign rfl (WO.done (WX.seq (WC.region (WO.step rfl (OR.move rfl (WO.step rfl ?_)))))))
          refine OR.move rfl (WO.step rfl (OR.move rfl (WO.step rfl (OR.move rfl (WO.step rfl (OR.fieldAddr FA93_3 rfl (WO.step rfl ?_)))))))
          refine OR.load T4 rfl rfl (hs.cellM (i := 3) rfl rfl) ?_
          refine WO.step rfl (OR.callX (Mx := []) hs body56 rfl rfl (rsRestore_ok G S _ _ xb xc cl _ _ hs.toSub hgs (hB1.mono hle) (hB2.mono hle) (by omega) (by omega)) rfl rfl ?_)
          clear hs; rintro _ H M' w hs hle1 hnew hres; replace hle := hle.trans hle1; (try replace hlb := hlb.trans hle1)
          obtain ⟨_, r1, q1, rfl, rfl, hr1, hsr1⟩ := hres.resolve_right (fun h => h.1 hgd2)
          replace hsx1 := hsx1.mono hle1
          refine WO.step rfl (OR.move rfl (WO.step rfl (OR.extract rfl rfl (WO.step rfl (OR.extract rfl rfl (WO.step rfl (OR.assign rfl ?_)))))))
          refine WO.step rfl (OR.assign rfl (WO.done ?_))
          refine WX.arrive ((ptr x1, ptr r1, 0)) ⟨rfl, rfl, rfl, rfl, rfl,  trivial⟩ ?_
          exact .inr ⟨x1, r1, rfl, H, _, o1, q1, hle, hsx1, hsr1, newD_ok2 hgs xb xc cl hgd.1 (by omega), hc20, HS.two (hs.front (i := 1) rfl)⟩
        · have hgd2 : ¬ rsGood G S xb xc cl := hgd
          refine WC.seq (WC.region (WO.step rfl (OR.move rfl (WO.step rfl (OR.move rfl (WO.step rfl (OR.move rfl ?_)))))))
          refine WO.step rfl (OR.move rfl (WO.step rfl (OR.fieldAddr FA93_3 rfl (WO.step rfl (OR.load T4 rfl rfl (hs.cellM (i := 2) rfl rfl) ?_)))))
          refine WO.step rfl (OR.callX (Mx := []) hs body50 rfl rfl (restore_ok G S _ _ xb xc cl _ _ hs.toSub hgs (hB1.mono hle) (hB2.mono hle) (by omega) (by omega)) rfl rfl ?_)
          clear hs; rintro _ H M' w hs hle1 hnew hres; replace hle := hle.trans hle1; (try replace hlb := hlb.trans hle1)
          rw [if_neg hgd] at hres
          subst hres
          replace hs := hs.sublist (List.sublist_append_right _ _)
          refine WO.step rfl (OR.move rfl (WO.step rfl (OR.extract rfl rfl (WO.step rfl (OR.extract rfl rfl (WO.step rfl (OR.assign rfl ?_)))))))
          refine WO.step rfl (OR.assign rfl (WO.done (WX.seq (WC.region (WO.step rfl (OR.move rfl (WO.step rfl ?_)))))))
          refine OR.move rfl (WO.step rfl (OR.move rfl (WO.step rfl (OR.move rfl (WO.step rfl (OR.fieldAddr FA93_3 rfl (WO.step rfl ?_)))))))
          refine OR.load T4 rfl rfl (hs.cellM (i := 2) rfl rfl) ?_
          refine WO.step rfl (OR.callX (Mx := []) hs body56 rfl rfl (rsRestore_ok G S _ _ xb xc cl _ _ hs.toSub hgs (hB1.mono hle) (hB2.mono hle) (by omega) (by omega)) rfl rfl ?_)
          clear hs; rintro _ H M' w hs hle1 hnew hres; replace hle := hle.trans hle1; (try replace hlb := hlb.trans hle1)
          obtain ⟨_, rfl, rfl⟩ := hres.resolve_left (fun h => hgd2 h.1)
          refine WO.step rfl (OR.move rfl (WO.step rfl (OR.extract rfl rfl (WO.step rfl (OR.extract rfl rfl (WO.step rfl (OR.assign rfl ?_)))))))
          refine WO.step rfl (OR.assign rfl (WO.done ?_))
          refine WX.arrive ((.pointer none, .pointer none, 1)) ⟨rfl, rfl, rfl, rfl, rfl,  trivial⟩ ?_
          exact .inl ⟨rfl, H, hs.sublist (List.nil_sublist _)⟩
      · refine WC.skip ?_
        refine WX.arrive ((ptr x0, ptr r0, 0)) ⟨rfl, rfl, rfl, rfl, rfl,  trivial⟩ ?_
        exact .inr ⟨x0, r0, rfl, H, _, o0, q0, hle, hsx, hsr, newD_ok hgs, Nat.zero_le _, HS.two (hs.front (i := 1) rfl)⟩
    · clear hs hle hsx hsr
      rcases hW with ⟨rfl, H, hs⟩ | ⟨x, r, rfl, hI⟩
      · have _ := 0
        refine WC.seq (WC.seq (WC.region (WO.step rfl (OR.move rfl (WO.step rfl (OR.move rfl (WO.step rfl ?_)))))))
        refine OR.neq rfl rfl (WO.step rfl (OR.move rfl ?_))
        refine WO.sub [(1, .slice bl len cl0), (9, .pointer none), (10, .int .i64 1), (11, .pointer none), (12, .int .i64 1), (95, .bool (decide ((1 : Int) ≠ 1)))] ⟨rfl, rfl, rfl, rfl, rfl, rfl,  trivial⟩ ?_
        refine WO.guardYes rfl rfl rfl rfl (OR.move rfl (WO.guardYes rfl rfl rfl rfl (OR.eqlNilP T54.und rfl rfl (WO.guardYes rfl rfl rfl rfl (OR.move rfl (WO.guardYes rfl rfl rfl rfl (OR.eqlNilP T97.und rfl rfl ?_)))))))
        refine WO.guardYes rfl rfl rfl rfl (OR.neqB T4.und rfl rfl (WO.step rfl (OR.pickF rfl rfl rfl (WO.done (WX.seq ?_)))))
        refine WC.no rfl rfl ?_
        refine WC.skip (WX.seq (WC.seq (WC.seq (WC.region (WO.step rfl (OR.move rfl (WO.step rfl ?_)))))))
        refine OR.eqlNilP T97.und rfl rfl (WO.done (WX.seq ?_))
        refine WC.yes rfl rfl ?_
        refine WC.seq (WC.region (WO.step rfl (OR.assign rfl (WO.done (WX.seq (WC.ret (WX.seq_ret ?_)))))))
        refine WX.ret1 rfl rfl ?_
        exact .mk hs rfl
      · have _ := 0
        refine WC.seq (WC.seq (WC.region (WO.step rfl (OR.move rfl (WO.step rfl (OR.move rfl (WO.step rfl ?_)))))))
        refine OR.neq rfl rfl (WO.step rfl (OR.move rfl ?_))
        refine WO.sub [(1, .slice bl len cl0), (9, ptr x), (10, .int .i64 0), (11, ptr r), (12, .int .i64 0), (95, .bool (decide ((0 : Int) ≠ 0)))] ⟨rfl, rfl, rfl, rfl, rfl, rfl,  trivial⟩ ?_
        refine WO.guardYes rfl rfl rfl rfl (OR.move rfl (WO.guardYes rfl rfl rfl rfl (OR.eqlNilP T54.und rfl rfl (WO.guardYes rfl rfl rfl rfl (OR.move rfl (WO.guardYes rfl rfl rfl rfl (OR.eqlNilP T97.und rfl rfl ?_)))))))
        refine WO.guardYes rfl rfl rfl rfl (OR.neqB T4.und rfl rfl (WO.step rfl (OR.pickF rfl rfl rfl (WO.done (WX.seq ?_)))))
        refine WC.no rfl rfl ?_
        refine WC.skip (WX.seq (WC.seq (WC.seq (WC.region (WO.step rfl (OR.move rfl (WO.step rfl ?_)))))))
        refine OR.eqlNilP T97.und rfl rfl (WO.done (WX.seq ?_))
        refine WC.no rfl rfl ?_
        refine WC.skip (WX.seq (WC.seq (WC.seq (WC.region (WO.step rfl (OR.move rfl (WO.step rfl ?_)))))))
        refine OR.lenSlice T94.und rfl (WO.step rfl (OR.move rfl (WO.done (WX.seq (WC.block ?_)))))
        refine WC.loop (ι := Nat) (fun i => [(9, ptr x), (11, ptr r), (104, .slice bl len cl0), (105, .int .i64 (len : Int)), (106, .int .i64 (i : Int))]) (fun i w => (i ≤ len ∧ i ≤ 40 ∧ SpI H0 w0 x r (20 + i) w)) (fun i => len - i) 0 ⟨rfl, rfl, rfl, rfl, rfl,  trivial⟩ ?_ (fun i w hW => ?_)
        · exact ⟨by omega, by omega, hI⟩
        clear hI
        obtain ⟨hi, hi40, H, D, o, ro, hle, hsx, hsr, hok, hcu, hs⟩ := hW
        refine WC.seq (WC.region (WO.step rfl (OR.lss rfl rfl (WO.done (WX.seq (WC.seq ?_))))))
        refine WC.condD rfl (fun hlt => ?_) (fun hlt => ?_)
        · have hi' : i < len := by omega
          obtain ⟨lb, lo, rfl, hcc⟩ := hl.pos (by omega)
          obtain ⟨hbV, hbl, hAn⟩ := hl.2 i hi'
          have hAs := hsent i hi'
          have hci := hcc i hi'
          generalize hAi : A i = a at hbV hbl hAn hAs hci
          generalize hVi : V i = va at hbV hci
          obtain ⟨aw, ab, an, sn⟩ := a
          simp only at hbV hbl hAn hAs hci
          obtain ⟨bv, cv, rfl⟩ := hbV.form
          refine WC.skip (WX.seq (WC.seq (WC.block (WC.seq (WC.region (WO.step rfl (OR.move rfl ?_)))))))
          refine WO.step rfl (OR.idxN i T94.und T102 rfl rfl rfl hi' ?_)
          refine WO.step rfl (OR.loadN (cs := [.int .i64 aw, .slice bv ab.length cv, .int .u64 (an : Int), .int .u64 (sn : Int)]) T102 rfl rfl rfl (fun j u hj => hs.cell (hcell.mono hle (hci j u hj))) ?_)
          refine WO.step rfl (OR.alloc hs T102 ?_)
          clear hs; intro g2 w hg2 hs
          refine WO.step rfl (OR.assign rfl (WO.stepN (OR.storeAll hs T102 rfl rfl rfl rfl rfl ?_)))
          clear hs; intro w hs
          refine WO.done (WX.seq (WC.seq (WC.seq (WC.region (WO.step rfl (OR.move rfl (WO.step rfl ?_)))))))
          refine OR.eql rfl rfl (WO.done (WX.seq ?_))
          refine WC.condD rfl (fun h40 => ?_) (fun h40 => ?_)
          · refine WC.exit (WX.seq_exit (WX.block_miss rfl (WX.seq_exit (WX.loop_exit (WX.block_hit (WX.seq (WC.seq ?_)))))))
            refine WC.region (WO.step rfl (OR.assign rfl (WO.done (WX.seq (WC.ret ?_)))))
            refine WX.ret1 rfl rfl ?_
            exact .mk hs rfl
          · have hm3 := min200 ab.length
            have hcc3 := hbV.cap
            refine WC.skip (WX.seq (WC.seq (WC.region (WO.step rfl (OR.fieldAddr FA102_1 rfl (WO.step rfl (OR.load T23 rfl rfl (hs.cellM (i := 0) rfl rfl) ?_)))))))
            refine WO.step rfl (OR.fieldAddr FA102_1 rfl (WO.step rfl (OR.load T23 rfl rfl (hs.cellM (i := 0) rfl rfl) (WO.step rfl (OR.lenSlice T23.und rfl ?_)))))
            refine WO.step rfl (OR.minI rfl rfl ?_)
            rw [hm3]
            refine WO.step rfl (OR.sliceHiG (min ab.length 200) T23.und T5 rfl rfl rfl (by omega) ?_)
            refine WO.step rfl (OR.fieldAddr FA102_1 rfl (WO.stepN (OR.store hs T23 rfl rfl rfl (Nat.le_of_ble_eq_true rfl) rfl ?_)))
            clear hs; intro w hs
            refine WO.done (WX.seq (WC.seq (WC.region (WO.step rfl (OR.fieldAddr FA102_1 rfl (WO.step rfl (OR.load T23 rfl rfl (hs.cellM (i := 0) rfl rfl) ?_)))))))
            obtain ⟨xa, hxa⟩ : ∃ xa, xa = ab.take (min ab.length 200) := ⟨_, rfl⟩
            have hla : min ab.length 200 = xa.length := by rw [hxa, List.length_take]; omega
            have hB3 : Bytes H0 (.slice bv xa.length cv) xa := by rw [← hla, hxa]; exact hbV.cut (by omega)
            have hxl : xa.length ≤ 200 := by omega
            rw [hla] at hs ⊢
            clear hxa hla hm3 hcc3 hbV hbl hci hAi hVi
            have hz := hs.size
            refine WO.step rfl (OR.callX (Mx := []) hs body57 rfl rfl (clone_ok _ xa _ _ hs.toSub (hB3.mono hle) (by omega)) rfl rfl ?_)
            clear hs; rintro _ H1 Mo w hs hle1 hnew ⟨hHH, ho⟩; replace hle := hle.trans hle1; (try replace hlb := hlb.trans hle1)
            subst hHH
            replace ho := ho.mono hz
            obtain ⟨b5, c5, rfl⟩ := ho.form
            obtain ⟨ac, hac⟩ : ∃ ac : Array Value, ac = #[.int .i64 aw, .slice bv xa.length cv, .int .u64 (an : Int), .int .u64 (sn : Int)] := ⟨_, rfl⟩
            replace hs : HS [] H0 w0 H1 ([(g2, .cells #[.int .i64 aw, .slice bv xa.length cv, .int .u64 (an : Int), .int .u64 (sn : Int)] 102, true), (x, o, true), (r, ro, true)] ++ Mo) w := hs.perm List.perm_append_comm
            replace hsx := hsx.mono hle1
            replace hsr := hsr.mono hle1
            obtain ⟨rvs, rvc, rfl, hrst, hrcu⟩ := hsr
            obtain ⟨xvs, xvc, xvch, xvop, rfl, hxs1, hxs2, hxs3, hxs4⟩ := hsx
            have hSI : SrcIn H1 D (srcObj D.g D.s xvs xvc D.cl xvch xvop) := ⟨_, _, _, _, rfl, hxs1, hxs2, hxs3, hxs4⟩
            have hRI : RsIn H1 D (rsObj D.g D.s rvs rvc D.cl) := ⟨_, _, rfl, hrst, hrcu⟩
            have hleH1 := hle
            have hby : ∀ u ∈ xa.map B, ∃ y : UInt8, u = B y := fun u hu => by
              obtain ⟨y, _, rfl⟩ := List.mem_map.1 hu
              exact ⟨y, rfl⟩
            refine WO.step rfl (OR.assign rfl (WO.done (WX.seq (WC.seq (WC.seq (WC.region (WO.step rfl ?_)))))))
            refine OR.fieldAddr FA102_0 rfl (WO.step rfl (OR.load T3 rfl rfl (hs.cellM (i := 0) rfl rfl) (WO.done (WX.seq ?_))))
            refine WC.joinK (ι := Unit) (fun iu => [(9, ptr x), (11, ptr r), (15, .slice b5 xa.length c5), (104, .slice (some ⟨lb, lo, none⟩) len cl0), (105, .int .i64 (len : Int)), (106, .int .i64 (i : Int))]) (fun iu w => (SpJ H0 w0 x r (20 + i + 1) (.slice b5 xa.length c5) xa.length w)) ?_ (fun iu w hW => ?_)
            · refine WC.block (WC.seq (WC.region (WO.step rfl (OR.eql rfl rfl (WO.step rfl (OR.assign rfl (WO.done ?_)))))))
              refine WX.seq ?_
              refine WC.condD rfl (fun hw0 => ?_) (fun hw0 => ?_)
              · refine WC.seq ?_
                refine WC.drawW (H := fun _ => none) 10 4 132 (fun w => w.heap[g2]? = some (.cells #[.int .i64 aw, .slice bv xa.length cv, .int .u64 (an : Int), .int .u64 (sn : Int)] 102)) (fun w => HS [] H0 w0 H1 ([(g2, .cells #[.int .i64 aw, .slice bv xa.length cv, .int .u64 (an : Int), .int .u64 (sn : Int)] 102, true), (x, srcObj D.g D.s xvs xvc D.cl xvch xvop, true), (r, rsObj D.g D.s rvs rvc D.cl, true)] ++ Mo) w) (fun v w => v = .int .i64 (subE D xa an) ∧ ∃ H' o', Hp.le H1 H' ∧ SrcIn H' (subD D xa an) o' ∧ HS [] H0 w0 H' ([(g2, .cells #[.int .i64 aw, .slice bv xa.length cv, .int .u64 (an : Int), .int .u64 (sn : Int)] 102, true), (x, o', true), (r, rsObj D.g D.s rvs rvc D.cl, true)] ++ Mo) w) mixed (by kernel_rfl) rfl (hs.drew) (fun w h => h.blk (i := 0) rfl) (fun v w h => by obtain ⟨_, _, _, _, _, h⟩ := h; exact h.blk (i := 0) rfl) ?_
                refine OwedW.other (F := MF.eq _) rfl (by intro J hC w hJ; refine forVals_nil (ORg.plain (OR.move rfl ?_)); exact ⟨hJ, rfl, rfl⟩) ?_
                refine OwedW.other (F := MF.eq _) rfl (by intro J hC w hJ; refine forVals_nil (ORg.plain (OR.move rfl ?_)); exact ⟨hJ, rfl, rfl⟩) ?_
                refine OwedW.other (F := MF.eq _) rfl (by intro J hC w hJ; refine forVals_nil (ORg.plain (OR.fieldAddr FA102_2 rfl ?_)); exact ⟨hJ, rfl, rfl⟩) ?_
                refine OwedW.other (F := MF.eq _) rfl (by intro J hC w hJ; refine forVals_eq rfl rfl rfl ?_; refine forVals_nil (ORg.plain (OR.load T58 rfl rfl (cell_at (hC _ hJ) rfl) ?_)); exact ⟨hJ, rfl, rfl⟩) ?_
                refine OwedW.writer (F := MF.of (fun _ _ => True) (fun _ _ _ _ h => h)) rfl ?_ ?_
                · intro w hJ; refine forVals_eq rfl rfl rfl ?_; refine forVals_eq rfl rfl rfl ?_; refine forVals_eq rfl rfl rfl ?_; 
                  clear hs
                  have hs := hJ
                  replace hs := hs.front (i := 1) rfl
                  have hrd : RdAt w x b5 xa := Own.rd (F := [_, _, _]) hs ho (by simp [Mem.keys])
                  refine forVals_nil (ORg.plain (OR.callX (Mx := [_]) hs body29 rfl rfl (submit_rd x D _ b5 c5 xa an _ _ hs.toSub (hs.blk (i := 0) rfl) (hs.none (i := 0) rfl) hSI hok hrd (by omega) (by omega)) rfl rfl ?_))
                  clear hs; rintro v H2 M' w hs hle2 hnew ⟨rfl, o2, rfl, hsx2⟩
                  exact ⟨⟨rfl, H2, o2, hle2, hsx2, hs.front (i := 1) rfl⟩, trivial, rfl⟩
                refine OwedW.other (F := MF.eq _) rfl (by intro J hC w hJ; refine forVals_nil (ORg.plain (OR.move rfl ?_)); exact ⟨hJ, rfl, rfl⟩) ?_
                refine OwedW.other (F := MF.eq _) rfl (by intro J hC w hJ; refine forVals_nil (ORg.plain (OR.fieldAddr FA102_1 rfl ?_)); exact ⟨hJ, rfl, rfl⟩) ?_
                refine OwedW.other (F := MF.eq _) rfl (by intro J hC w hJ; refine forVals_eq rfl rfl rfl ?_; refine forVals_nil (ORg.plain (OR.load T23 rfl rfl (cell_at (hC _ hJ) rfl) ?_)); exact ⟨hJ, rfl, rfl⟩) ?_
                refine OwedW.other (F := MF.eq _) rfl (by intro J hC w hJ; refine forVals_nil (ORg.plain (OR.fieldAddr FA102_2 rfl ?_)); exact ⟨hJ, rfl, rfl⟩) ?_
                refine OwedW.other (F := MF.eq _) rfl (by intro J hC w hJ; refine forVals_eq rfl rfl rfl ?_; refine forVals_nil (ORg.plain (OR.load T58 rfl rfl (cell_at (hC _ hJ) rfl) ?_)); exact ⟨hJ, rfl, rfl⟩) ?_
                refine forAllVals_eq rfl ?_
                refine forAllVals_eq rfl ?_
                refine forAllVals_eq rfl ?_
                refine forAllVals_eq rfl ?_
                refine forAllVals_of rfl ?_; intro v4 h4
                refine forAllVals_eq rfl ?_
                refine forAllVals_eq rfl ?_
                refine forAllVals_eq rfl ?_
                refine forAllVals_eq rfl ?_
                refine forAllVals_eq rfl ?_
                refine forAllVals_nil ⟨_, rfl, ?_⟩; (try clear hs); intro w hJ
                obtain ⟨rfl, H2, o2, hle2, hsx2, hs⟩ := hJ
                replace hle := hle.trans hle2
                replace hs := hs.front (i := 2) rfl
                refine WO.step rfl (OR.callX (Mx := [(r, _, true)]) hs body58 rfl rfl (rsSubmit_ok r D _ _ xa an _ _ hs.toSub (hs.blk (i := 0) rfl) (hs.none (i := 0) rfl) (hRI.mono hle2) hok (hB3.mono hle) (by omega) (by omega)) rfl rfl ?_)
                clear hs; rintro _ H3 M' w hs hle1 hnew ⟨rfl, ro2, rfl, hsr2⟩; replace hle := hle.trans hle1; (try replace hlb := hlb.trans hle1)
                refine WO.step rfl (OR.neq rfl rfl (WO.done (WX.seq ?_)))
                refine WC.no rfl (decide_eq_false (fun h => h rfl)) ?_
                refine WC.skip (WX.block ?_)
                refine WX.arrive (()) ⟨rfl, rfl, rfl, rfl, rfl, rfl,  trivial⟩ ?_
                exact ⟨H3, subD D xa an, o2, ro2, Mo, _, hle, hsx2.mono hle1, hsr2, hok.sub xa an, by rw [subD_cuts]; omega, ho, hby, HS.xr hs⟩
              · refine WC.seq (WC.region (WO.step rfl (OR.eql rfl rfl (WO.step rfl (OR.assign rfl (WO.done (WX.seq ?_)))))))
                refine WC.condD rfl (fun hw1 => ?_) (fun hw1 => ?_)
                · refine WC.seq (WC.region (WO.step rfl (OR.move rfl ?_)))
                  replace hs := hs.front (i := 1) rfl
                  refine WO.step rfl (OR.callX (Mx := [(x, _, true)]) hs body30 rfl rfl (flush_ok x D _ _ _ hs.toSub (hs.blk (i := 0) rfl) (hs.none (i := 0) rfl) hSI hok (by omega)) rfl rfl ?_)
                  clear hs; rintro _ H2 M' w hs hle1 hnew ⟨rfl, o2, rfl, hsx2⟩; replace hle := hle.trans hle1; (try replace hlb := hlb.trans hle1)
                  have hle2 := hle1
                  refine WO.step rfl (OR.move rfl ?_)
                  replace hs := hs.front (i := 2) rfl
                  refine WO.step rfl (OR.callX (Mx := [(r, _, true)]) hs body59 rfl rfl (rsFlush_ok r D _ _ _ hs.toSub (hs.blk (i := 0) rfl) (hs.none (i := 0) rfl) (hRI.mono hle2) hok (by omega)) rfl rfl ?_)
                  clear hs; rintro _ H3 M' w hs hle1 hnew ⟨rfl, ro2, rfl, hsr2⟩; replace hle := hle.trans hle1; (try replace hlb := hlb.trans hle1)
                  refine WO.step rfl (OR.neq rfl rfl (WO.done (WX.seq ?_)))
                  refine WC.no rfl (decide_eq_false (fun h => h rfl)) ?_
                  refine WC.skip (WX.block ?_)
                  refine WX.arrive (()) ⟨rfl, rfl, rfl, rfl, rfl, rfl,  trivial⟩ ?_
                  exact ⟨H3, flushD D, o2, ro2, Mo, _, hle, hsx2.mono hle1, hsr2, hok.flush, by have := cut_len D; unfold flushD; split <;> (try simp only) <;> omega, ho, hby, HS.xr2 hs⟩
                · refine WC.seq (WC.region (WO.step rfl (OR.eql rfl rfl (WO.step rfl (OR.assign rfl (WO.done (WX.seq ?_)))))))
                  refine WC.condD rfl (fun hw2 => ?_) (fun hw2 => ?_)
                  · refine WC.seq (WC.region (WO.step rfl (OR.move rfl ?_)))
                    replace hs := hs.front (i := 1) rfl
                    refine WO.step rfl (OR.callX (Mx := [(x, _, true)]) hs body49 rfl rfl (close_ok x D _ _ _ hs.toSub (hs.blk (i := 0) rfl) (hs.none (i := 0) rfl) hSI hok (by omega)) rfl rfl ?_)
                    clear hs; rintro _ H2 M' w hs hle1 hnew ⟨rfl, o2, rfl, hsx2⟩; replace hle := hle.trans hle1; (try replace hlb := hlb.trans hle1)
                    have hle2 := hle1
                    refine WO.step rfl (OR.move rfl ?_)
                    replace hs := hs.front (i := 2) rfl
                    refine WO.step rfl (OR.callX (Mx := [(r, _, true)]) hs body60 rfl rfl (rsClose_ok r D _ _ _ hs.toSub (hs.blk (i := 0) rfl) (hs.none (i := 0) rfl) (hRI.mono hle2) hok (by omega)) rfl rfl ?_)
                    clear hs; rintro _ H3 M' w hs hle1 hnew ⟨rfl, ro2, rfl, hsr2⟩; replace hle := hle.trans hle1; (try replace hlb := hlb.trans hle1)
                    refine WO.step rfl (OR.neq rfl rfl (WO.done (WX.seq ?_)))
                    refine WC.no rfl (decide_eq_false (fun h => h rfl)) ?_
                    refine WC.skip (WX.block ?_)
                    refine WX.arrive (()) ⟨rfl, rfl, rfl, rfl, rfl, rfl,  trivial⟩ ?_
                    exact ⟨H3, closeD D, o2, ro2, Mo, _, hle, hsx2.mono hle1, hsr2, hok.close, by have := cut_len D; unfold closeD; split <;> (try simp only) <;> omega, ho, hby, HS.xr2 hs⟩
                  · refine WC.seq (WC.region (WO.step rfl (OR.eql rfl rfl (WO.step rfl (OR.assign rfl (WO.done (WX.seq ?_)))))))
                    refine WC.condD rfl (fun hw3 => ?_) (fun hw3 => ?_)
                    · obtain ⟨N3, hN3⟩ : ∃ N, N = w.heap.size := ⟨_, rfl⟩
                      have hw0N : w0.heap.size ≤ N3 := by rw [hN3]; exact hs.size
                      have hH1N : ∀ q o, H1 q = some o → q < N3 := fun q o h => by rw [hN3]; exact lt_of_heap (hs.sub _ _ h)
                      refine WC.seq (WC.region (WO.step rfl (OR.move rfl (WO.step rfl (OR.fieldAddr FA102_2 rfl (WO.step rfl (OR.load T58 rfl rfl (hs.cellM (i := 0) rfl rfl) ?_)))))))
                      refine WO.step rfl (OR.call hs body34 rfl rfl (symbols_new x an D _ _ _ hs.toSub (hs.blk (i := 1) rfl) (hs.none (i := 1) rfl) hSI hok) ?_)
                      clear hs; rintro _ H w hs hle1 ⟨ry, rfl, hry, hlaid⟩; replace hle := hle.trans hle1; (try replace hlb := hlb.trans hle1)
                      rw [← hN3] at hlaid
                      obtain ⟨b7, c7, rfl⟩ := hry.form
                      have hlb := hle1
                      refine WO.step rfl (OR.move rfl (WO.step rfl (OR.extract rfl rfl (WO.step rfl (OR.extract rfl rfl (WO.step rfl (OR.assign rfl ?_)))))))
                      refine WO.step rfl (OR.assign rfl (WO.done (WX.seq (WC.seq (WC.region (WO.step rfl (OR.move rfl ?_)))))))
                      refine WO.step rfl (OR.fieldAddr FA102_2 rfl (WO.step rfl (OR.load T58 rfl rfl (hs.cellM (i := 0) rfl rfl) ?_)))
                      refine WO.step rfl (OR.call hs body61 rfl rfl (rsSymbols_ok r an D _ _ _ hs.toSub (hs.blk (i := 2) rfl) (hs.none (i := 2) rfl) (hRI.mono hlb) hok (by omega)) ?_)
                      clear hs; rintro _ H w hs hle1 ⟨rz, rfl, hrz⟩; replace hle := hle.trans hle1; (try replace hlb := hlb.trans hle1)
                      obtain ⟨b8, c8, rfl⟩ := hrz.form
                      have hyl := hle1
                      have hsl9 : (symF D an).length < 1000000000 := by
                        by_cases h : an < D.chunks.length
                        · have h8 := hok.nat.2.1
                          rw [symF_len hok h]; omega
                        · rw [symF, List.getElem?_eq_none (by omega)]; simp
                      refine WO.step rfl (OR.move rfl (WO.step rfl (OR.extract rfl rfl (WO.step rfl (OR.extract rfl rfl (WO.step rfl (OR.assign rfl ?_)))))))
                      refine WO.step rfl (OR.assign rfl (WO.done (WX.seq (WC.seq (WC.seq (WC.region (WO.step rfl ?_)))))))
                      refine OR.move rfl (WO.step rfl (OR.move rfl (WO.step rfl (OR.neq rfl rfl (WO.step rfl (OR.move rfl ?_))))))
                      refine WO.guardYes rfl (decide_eq_false (fun h => h rfl)) rfl rfl (OR.move rfl (WO.guardYes rfl (decide_eq_false (fun h => h rfl)) rfl rfl (OR.move rfl ?_)))
                      refine WO.guardYes rfl (decide_eq_false (fun h => h rfl)) rfl rfl (OR.call hs body62 rfl rfl (same05_ok _ _ (symF D an) (symF D an) _ _ hs.toSub (hry.mono hyl) hrz rfl hsl9) ?_)
                      clear hs; rintro _ H w hs hle1 rfl; replace hle := hle.trans hle1; (try replace hlb := hlb.trans hle1)
                      refine WO.guardYes rfl (decide_eq_false (fun h => h rfl)) rfl rfl (OR.not rfl (WO.step rfl (OR.pickF rfl (decide_eq_false (fun h => h rfl)) rfl (WO.done (WX.seq ?_)))))
                      refine WC.no rfl rfl ?_
                      refine WC.skip (WX.seq (WC.seq (WC.region (WO.step rfl (OR.move rfl (WO.step rfl (OR.lenSlice T22.und rfl ?_)))))))
                      refine WO.step rfl (OR.move rfl (WO.done (WX.seq (WC.block ?_))))
                      by_cases hltc : an < D.chunks.length
                      · obtain ⟨gA, cA0, gL, cL, cap, hgA, hgne, hHA, hBA, hHL, hyv, hcL⟩ := hlaid hltc
                        have hyl9 := symF_len hok hltc
                        have hnat := hok.nat
                        rw [hyl9] at hyv ⊢
                        cases hyv
                        have hHA3 := hle1 _ _ (hyl _ _ hHA)
                        have hMnot : gA ∉ Mem.keys ([(g2, .cells #[.int .i64 aw, .slice bv xa.length cv, .int .u64 (an : Int), .int .u64 (sn : Int)] 102, true), (x, srcObj D.g D.s xvs xvc D.cl xvch xvop, true), (r, rsObj D.g D.s rvs rvc D.cl, true)] ++ Mo) := by
                          intro hm
                          obtain ⟨⟨q, oq, t⟩, hq, e⟩ := List.mem_map.1 hm
                          simp only at e
                          subst e
                          have h6 := (hs.mem q oq t hq).2.1
                          rw [hHA3] at h6
                          cases h6
                        obtain ⟨K, hK⟩ : ∃ K : Hp, K = fun q => if q = gA then none else H q := ⟨_, rfl⟩
                        have hKle : Hp.le K H := by
                          rw [hK]
                          intro q oq h
                          simp only at h
                          split at h
                          · cases h
                          · exact h
                        have hH1K : Hp.le H1 K := by
                          rw [hK]
                          intro q oq h
                          have h7 := hH1N q oq h
                          show (if q = gA then none else H q) = some oq
                          rw [if_neg (by omega)]
                          exact hlb q oq h
                        have hKA : K gA = none := by rw [hK]; exact if_pos rfl
                        have hKL : K gL = some (.cells cL 23) := by
                          rw [hK]
                          show (if gL = gA then none else H gL) = _
                          rw [if_neg hgne]
                          exact hle1 _ _ (hyl _ _ hHL)
                        have hs3 : HS [] H0 w0 K ([(g2, .cells #[.int .i64 aw, .slice bv xa.length cv, .int .u64 (an : Int), .int .u64 (sn : Int)] 102, true), (x, srcObj D.g D.s xvs xvc D.cl xvch xvop, true), (r, rsObj D.g D.s rvs rvc D.cl, true)] ++ ((gA, .cells cA0 5, true) :: Mo)) w := HS.learn (hs.shrink (hleH1.trans hH1K) hKle) (hs.sub _ _ hHA3) hKA hMnot (Nat.le_trans hw0N hgA)
                        replace hs3 := hs3.front (i := 3) rfl
                        clear hs
                        have hs := hs3
                        clear hs3
                        refine WC.loop (ι := Nat) (fun k => [(9, ptr x), (11, ptr r), (15, .slice b5 xa.length c5), (104, .slice (some ⟨lb, lo, none⟩) len cl0), (105, .int .i64 (len : Int)), (106, .int .i64 (i : Int)), (16, .slice (some ⟨gL, 0, none⟩) D.g c7), (180, .int .i64 (D.g : Int)), (181, .int .i64 (k : Int))]) (fun k w => (k ≤ D.g ∧ ∃ cA, (∀ j, j < D.g * D.s → ∃ y : UInt8, cA.toList[j]? = some (B y)) ∧ HS [] H0 w0 K ([(gA, .cells cA 5, true), (g2, .cells #[.int .i64 aw, .slice bv xa.length cv, .int .u64 (an : Int), .int .u64 (sn : Int)] 102, true), (x, srcObj D.g D.s xvs xvc D.cl xvch xvop, true), (r, rsObj D.g D.s rvs rvc D.cl, true)] ++ Mo) w)) (fun k => D.g - k) 0 ⟨rfl, rfl, rfl, rfl, rfl, rfl, rfl, rfl, rfl,  trivial⟩ ?_ (fun k w hW => ?_)
                        · exact ⟨Nat.zero_le _, cA0, hBA, hs⟩
                        clear hs hBA
                        obtain ⟨hk, cA, hBA, hs⟩ := hW
                        refine WC.seq (WC.region (WO.step rfl (OR.lss rfl rfl (WO.done (WX.seq (WC.seq ?_))))))
                        refine WC.condD rfl (fun hlt2 => ?_) (fun hlt2 => ?_)
                        · have hk' : k < D.g := by omega
                          have hsk : D.s * k + D.s ≤ D.g * D.s := by
                            have := Nat.mul_le_mul_left D.s (show k + 1 ≤ D.g from hk')
                            rw [Nat.mul_add, Nat.mul_one] at this
                            rw [Nat.mul_comm D.g]; exact this
                          obtain ⟨y, hy⟩ := hBA (D.s * k) (by omega)
                          have hysz : D.s * k < cA.size := by have := (List.getElem?_eq_some_iff.1 hy).1; simpa using this
                          refine WC.skip (WX.seq (WC.seq (WC.block (WC.seq (WC.region (WO.step rfl (OR.move rfl ?_)))))))
                          refine WO.step rfl (OR.assign rfl (WO.done (WX.seq (WC.region (WO.step rfl (OR.move rfl (WO.step rfl ?_)))))))
                          refine OR.move rfl ?_
                          refine WO.step rfl (OR.idx k T22.und T23 rfl rfl rfl hk' ?_)
                          refine WO.step rfl (OR.load T23 rfl rfl (hs.cell (hcell_of hKL (by rw [nth_eq, Nat.zero_add]; exact hcL k hk'))) ?_)
                          refine WO.step rfl (OR.idx 0 T23.und T5 rfl rfl rfl (by omega) ?_)
                          refine WO.step rfl (OR.load T5 rfl rfl (cell_at (hs.blk (i := 0) rfl) hy) ?_)
                          refine WO.step rfl (OR.xorB _ 255 rfl rfl rfl rfl ?_)
                          refine WO.step rfl (OR.idx 0 T23.und T5 rfl rfl rfl (by omega) ?_)
                          refine WO.stepN (OR.store hs T5 rfl rfl rfl (by omega) rfl ?_)
                          clear hs; intro w hs
                          refine WO.done (WX.block (WX.seq (WC.region (WO.step rfl (OR.addI rfl rfl (by omega) (by omega) (WO.step rfl (OR.move rfl ?_)))))))
                          refine WO.done ?_
                          refine WX.again (k + 1) ⟨rfl, rfl, rfl, rfl, rfl, rfl, rfl, rfl, rfl,  trivial⟩ ?_ ?_
                          · refine ⟨hk', _, ?_, hs⟩
                            intro j hj
                            show ∃ z : UInt8, ((setL cA.toList (D.s * k) [B (y ^^^ 255)]).toArray.toList)[j]? = some (B z)
                            rw [List.toList_toArray, setL_one]
                            by_cases e : j = D.s * k
                            · subst e
                              exact ⟨_, by rw [List.getElem?_set_self (by simpa using hysz)]⟩
                            · obtain ⟨z, hz⟩ := hBA j hj
                              exact ⟨z, by rw [List.getElem?_set_ne (Ne.symm e)]; exact hz⟩
                          · omega
                        · refine WC.exit (WX.seq_exit (WX.loop_exit (WX.block_hit (WX.block ?_))))
                          refine WX.arrive (()) ⟨rfl, rfl, rfl, rfl, rfl, rfl,  trivial⟩ ?_
                          exact ⟨K, D, _, _, Mo, _, hleH1.trans hH1K, hSI.mono hH1K, hRI.mono hH1K, hok, by omega, ho, hby, (hs.drop 0).drop 0⟩
                      · have e0 : (symF D an).length = 0 := by rw [symF, List.getElem?_eq_none (by omega)]; rfl
                        rw [e0]
                        refine WC.loop (ι := Unit) (fun iu => [(9, ptr x), (11, ptr r), (15, .slice b5 xa.length c5), (104, .slice (some ⟨lb, lo, none⟩) len cl0), (105, .int .i64 (len : Int)), (106, .int .i64 (i : Int)), (180, .int .i64 ((0 : Nat) : Int)), (181, .int .i64 0)]) (fun iu w => (HS [] H0 w0 H ([(g2, .cells #[.int .i64 aw, .slice bv xa.length cv, .int .u64 (an : Int), .int .u64 (sn : Int)] 102, true), (x, srcObj D.g D.s xvs xvc D.cl xvch xvop, true), (r, rsObj D.g D.s rvs rvc D.cl, true)] ++ Mo) w)) (fun iu => 0) () ⟨rfl, rfl, rfl, rfl, rfl, rfl, rfl, rfl,  trivial⟩ ?_ (fun iu w hW => ?_)
                        · exact hs
                        clear hs
                        have hs := hW
                        refine WC.seq (WC.region (WO.step rfl (OR.lss rfl rfl (WO.done (WX.seq (WC.seq ?_))))))
                        refine WC.no rfl (decide_eq_false (by decide)) ?_
                        refine WC.exit (WX.seq_exit (WX.loop_exit (WX.block_hit (WX.block ?_))))
                        refine WX.arrive (()) ⟨rfl, rfl, rfl, rfl, rfl, rfl,  trivial⟩ ?_
                        exact ⟨H1, D, _, _, Mo, _, hleH1, hSI, hRI, hok, by omega, ho, hby, (hs.shrink hleH1 hlb).drop 0⟩
                    · refine WC.seq (WC.region (WO.step rfl (OR.eql rfl rfl (WO.step rfl (OR.assign rfl (WO.done (WX.seq ?_)))))))
                      refine WC.condD rfl (fun hw4 => ?_) (fun hw4 => ?_)
                      · obtain ⟨HL, hleL, hs, hinL, hnoL, hslL⟩ := HS.lend hs ho
                        have hbL : Bytes HL (.slice b5 xa.length c5) xa := hslL
                        have hH1L := hleL
                        have hlb := Hp.le.refl HL
                        replace hle := hle.trans hleL
                        refine WC.seq (WC.region (WO.step rfl (OR.move rfl (WO.step rfl (OR.fieldAddr FA102_2 rfl (WO.step rfl (OR.load T58 rfl rfl (hs.cellM (i := 0) rfl rfl) ?_)))))))
                        refine WO.step rfl (OR.move rfl ?_)
                        refine WO.step rfl (OR.call hs body32 rfl rfl (srow_ok x an _ xa D _ _ _ hs.toSub (hs.blk (i := 1) rfl) (hs.none (i := 1) rfl) (hSI.mono hleL) hok hbL (by omega)) ?_)
                        clear hs; rintro _ H w hs hle1 ⟨ry, rfl, hry⟩; replace hle := hle.trans hle1; (try replace hlb := hlb.trans hle1)
                        obtain ⟨y1, y2, rfl, hy1, hy2⟩ := hry
                        obtain ⟨_, _, rfl⟩ := hy1.form
                        obtain ⟨_, _, rfl⟩ := hy2.form
                        refine WO.step rfl (OR.move rfl (WO.step rfl (OR.extract rfl rfl (WO.step rfl (OR.extract rfl rfl (WO.step rfl (OR.alloc hs T35 ?_)))))))
                        clear hs; intro g3 w hg3 hs
                        refine WO.stepN (OR.storeAll hs T35 rfl rfl rfl rfl rfl ?_)
                        clear hs; intro w hs
                        refine WO.step rfl (OR.assign rfl (WO.done (WX.seq (WC.seq (WC.region (WO.step rfl (OR.move rfl ?_)))))))
                        refine WO.step rfl (OR.fieldAddr FA102_2 rfl (WO.step rfl (OR.load T58 rfl rfl (hs.cellM (i := 1) rfl rfl) (WO.step rfl (OR.fieldAddr FA102_1 rfl (WO.step rfl (OR.load T23 rfl rfl (hs.cellM (i := 1) rfl rfl) ?_)))))))
                        refine WO.step rfl (OR.call hs body63 rfl rfl (rsRow_ok r an _ xa D _ _ _ hs.toSub (hs.blk (i := 3) rfl) (hs.none (i := 3) rfl) (hRI.mono (hH1L.trans hlb)) hok (by omega) (hB3.mono hle) (by omega)) ?_)
                        clear hs; rintro _ H w hs hle1 ⟨rz, rfl, hrz⟩; replace hle := hle.trans hle1; (try replace hlb := hlb.trans hle1)
                        obtain ⟨z1, z2, rfl, hz1, hz2⟩ := hrz
                        obtain ⟨_, _, rfl⟩ := hz1.form
                        obtain ⟨_, _, rfl⟩ := hz2.form
                        refine WO.step rfl (OR.move rfl (WO.step rfl (OR.extract rfl rfl (WO.step rfl (OR.extract rfl rfl (WO.step rfl (OR.alloc hs T35 ?_)))))))
                        clear hs; intro g4 w hg4 hs
                        refine WO.stepN (OR.storeAll hs T35 rfl rfl rfl rfl rfl ?_)
                        clear hs; intro w hs
                        refine WO.step rfl (OR.assign rfl (WO.done (WX.seq (WC.seq (WC.region (WO.step rfl (OR.move rfl ?_)))))))
                        refine WO.step rfl (OR.move rfl (WO.step rfl (OR.neq rfl rfl (WO.step rfl (OR.move rfl ?_)))))
                        refine WO.guardYes rfl (decide_eq_false (fun h => h rfl)) rfl rfl (OR.loadAll T35 rfl rfl (hs.blk (i := 1) rfl) rfl (WO.guardYes rfl (decide_eq_false (fun h => h rfl)) rfl rfl (OR.loadAll T35 rfl rfl (hs.blk (i := 0) rfl) rfl ?_)))
                        refine WO.guardYes rfl (decide_eq_false (fun h => h rfl)) rfl rfl (OR.call hs body64 rfl rfl (same13_ok _ _ _ _ _ _ _ hs.toSub (hy1.mono hle1) (hy2.mono hle1) hz1 hz2) ?_)
                        clear hs; rintro _ H w hs hle1 rfl; replace hle := hle.trans hle1; (try replace hlb := hlb.trans hle1)
                        refine WO.guardYes rfl (decide_eq_false (fun h => h rfl)) rfl rfl (OR.not rfl (WO.step rfl (OR.pickF rfl (decide_eq_false (fun h => h rfl)) rfl (WO.done (WX.seq ?_)))))
                        refine WC.no rfl rfl ?_
                        refine WC.skip (WX.block ?_)
                        refine WX.arrive (()) ⟨rfl, rfl, rfl, rfl, rfl, rfl,  trivial⟩ ?_
                        exact ⟨H1, D, _, _, Mo, _, hleH1, hSI, hRI, hok, by omega, ho, hby, HS.regain (((hs.drop 0).drop 0).drop 0) hleH1 (hH1L.trans hlb) ho (fun p hp => hlb _ _ (hinL p hp)) hnoL⟩
                      · refine WC.seq (WC.region (WO.step rfl (OR.eql rfl rfl (WO.step rfl (OR.assign rfl (WO.done (WX.seq ?_)))))))
                        refine WC.condD rfl (fun hw5 => ?_) (fun hw5 => ?_)
                        · obtain ⟨HL, hleL, hs, hinL, hnoL, hslL⟩ := HS.lend hs ho
                          have hbL : Bytes HL (.slice b5 xa.length c5) xa := hslL
                          have hH1L := hleL
                          have hlb := Hp.le.refl HL
                          replace hle := hle.trans hleL
                          refine WC.seq (WC.region (WO.step rfl (OR.move rfl (WO.step rfl (OR.fieldAddr FA102_2 rfl (WO.step rfl (OR.load T58 rfl rfl (hs.cellM (i := 0) rfl rfl) ?_)))))))
                          refine WO.step rfl (OR.fieldAddr FA102_3 rfl (WO.step rfl (OR.load T58 rfl rfl (hs.cellM (i := 0) rfl rfl) (WO.step rfl (OR.move rfl ?_)))))
                          refine WO.step rfl (OR.call hs body35 rfl rfl (ssend_ok x an sn _ xa D _ _ _ hs.toSub (hs.blk (i := 1) rfl) (hs.none (i := 1) rfl) (hSI.mono hleL) hok hbL hAs) ?_)
                          clear hs; rintro _ H w hs hle1 ⟨ry, rfl, hry⟩; replace hle := hle.trans hle1; (try replace hlb := hlb.trans hle1)
                          obtain ⟨y1, y2, rfl, hy1, hy2⟩ := hry
                          obtain ⟨_, _, rfl⟩ := hy1.form
                          obtain ⟨_, _, rfl⟩ := hy2.form
                          refine WO.step rfl (OR.move rfl (WO.step rfl (OR.extract rfl rfl (WO.step rfl (OR.extract rfl rfl (WO.step rfl (OR.alloc hs T35 ?_)))))))
                          clear hs; intro g5 w hg5 hs
                          refine WO.stepN (OR.storeAll hs T35 rfl rfl rfl rfl rfl ?_)
                          clear hs; intro w hs
                          refine WO.step rfl (OR.assign rfl (WO.done (WX.seq (WC.seq (WC.region (WO.step rfl (OR.move rfl ?_)))))))
                          refine WO.step rfl (OR.fieldAddr FA102_2 rfl (WO.step rfl (OR.load T58 rfl rfl (hs.cellM (i := 1) rfl rfl) (WO.step rfl (OR.fieldAddr FA102_3 rfl (WO.step rfl (OR.load T58 rfl rfl (hs.cellM (i := 1) rfl rfl) ?_)))))))
                          refine WO.step rfl (OR.fieldAddr FA102_1 rfl (WO.step rfl (OR.load T23 rfl rfl (hs.cellM (i := 1) rfl rfl) ?_)))
                          refine WO.step rfl (OR.call hs body65 rfl rfl (rsSend_ok r an sn _ xa D _ _ _ hs.toSub (hs.blk (i := 3) rfl) (hs.none (i := 3) rfl) (hRI.mono (hH1L.trans hlb)) hok (by omega) (hB3.mono hle) hAs) ?_)
                          clear hs; rintro _ H w hs hle1 ⟨rz, rfl, hrz⟩; replace hle := hle.trans hle1; (try replace hlb := hlb.trans hle1)
                          obtain ⟨z1, z2, rfl, hz1, hz2⟩ := hrz
                          obtain ⟨_, _, rfl⟩ := hz1.form
                          obtain ⟨_, _, rfl⟩ := hz2.form
                          refine WO.step rfl (OR.move rfl (WO.step rfl (OR.extract rfl rfl (WO.step rfl (OR.extract rfl rfl (WO.step rfl (OR.alloc hs T35 ?_)))))))
                          clear hs; intro g6 w hg6 hs
                          refine WO.stepN (OR.storeAll hs T35 rfl rfl rfl rfl rfl ?_)
                          clear hs; intro w hs
                          refine WO.step rfl (OR.assign rfl (WO.done (WX.seq (WC.seq (WC.region (WO.step rfl (OR.move rfl ?_)))))))
                          refine WO.step rfl (OR.move rfl (WO.step rfl (OR.neq rfl rfl (WO.step rfl (OR.move rfl ?_)))))
                          refine WO.guardYes rfl (decide_eq_false (fun h => h rfl)) rfl rfl (OR.loadAll T35 rfl rfl (hs.blk (i := 1) rfl) rfl (WO.guardYes rfl (decide_eq_false (fun h => h rfl)) rfl rfl (OR.loadAll T35 rfl rfl (hs.blk (i := 0) rfl) rfl ?_)))
                          refine WO.guardYes rfl (decide_eq_false (fun h => h rfl)) rfl rfl (OR.call hs body64 rfl rfl (same13_ok _ _ _ _ _ _ _ hs.toSub (hy1.mono hle1) (hy2.mono hle1) hz1 hz2) ?_)
                          clear hs; rintro _ H w hs hle1 rfl; replace hle := hle.trans hle1; (try replace hlb := hlb.trans hle1)
                          refine WO.guardYes rfl (decide_eq_false (fun h => h rfl)) rfl rfl (OR.not rfl (WO.step rfl (OR.pickF rfl (decide_eq_false (fun h => h rfl)) rfl (WO.done (WX.seq ?_)))))
                          refine WC.no rfl rfl ?_
                          refine WC.skip (WX.block ?_)
                          refine WX.arrive (()) ⟨rfl, rfl, rfl, rfl, rfl, rfl,  trivial⟩ ?_
                          exact ⟨H1, D, _, _, Mo, _, hleH1, hSI, hRI, hok, by omega, ho, hby, HS.regain (((hs.drop 0).drop 0).drop 0) hleH1 (hH1L.trans hlb) ho (fun p hp => hlb _ _ (hinL p hp)) hnoL⟩
                        · refine WC.skip (WX.block ?_)
                          refine WX.arrive (()) ⟨rfl, rfl, rfl, rfl, rfl, rfl,  trivial⟩ ?_
                          exact ⟨H1, D, _, _, Mo, _, hle, hSI, hRI, hok, by omega, ho, hby, hs.drop 0⟩
            · clear hs hSI hRI hby ho hle hleH1 hok hcu hrst hrcu hxs1 hxs2 hxs3 hxs4
              refine WC.seq (WC.seq (WC.region (WO.step rfl (OR.move rfl (WO.step rfl (OR.lenSlice T23.und rfl (WO.step rfl ?_)))))))
              refine OR.move rfl (WO.done (WX.seq (WC.block ?_)))
              refine WC.loop (ι := Nat) (fun k => [(9, ptr x), (11, ptr r), (15, .slice b5 xa.length c5), (104, .slice (some ⟨lb, lo, none⟩) len cl0), (105, .int .i64 (len : Int)), (106, .int .i64 (i : Int)), (254, .int .i64 (xa.length : Int)), (255, .int .i64 (k : Int))]) (fun k w => (k ≤ xa.length ∧ SpJ H0 w0 x r (20 + i + 1) (.slice b5 xa.length c5) xa.length w)) (fun k => xa.length - k) 0 ⟨rfl, rfl, rfl, rfl, rfl, rfl, rfl, rfl,  trivial⟩ ?_ (fun k w hW => ?_)
              · exact ⟨Nat.zero_le _, hW⟩
              obtain ⟨hk, H2, D2, o2, ro2, Mo2, cs2, hle, hsx, hsr, hok, hcu, ho, hby, hs⟩ := hW
              refine WC.seq (WC.region (WO.step rfl (OR.lss rfl rfl (WO.done (WX.seq (WC.seq ?_))))))
              refine WC.condD rfl (fun hlt3 => ?_) (fun hlt3 => ?_)
              · have hk' : k < xa.length := by omega
                obtain ⟨hcl9, ⟨hn0, _⟩ | ⟨g, c, cp, rfl, hvo, hn, hcs, hxs, hg⟩⟩ := ho
                · omega
                cases hvo
                have hck : k < cs2.length := by omega
                obtain ⟨y, hy0⟩ := hby cs2[k] (List.getElem_mem hck)
                have hy : c.toList[k]? = some (B y) := by
                  have h9 : (c.toList.take (xa.length * 1))[k]? = some (B y) := by rw [hxs, List.getElem?_eq_getElem hck, hy0]
                  exact get_take h9
                have hysz : k < c.size := by have := (List.getElem?_eq_some_iff.1 hy).1; simpa using this
                refine WC.skip (WX.seq (WC.seq (WC.block (WC.seq (WC.region (WO.step rfl (OR.move rfl ?_)))))))
                refine WO.step rfl (OR.assign rfl (WO.done (WX.seq (WC.region (WO.step rfl (OR.move rfl (WO.step rfl ?_)))))))
                refine OR.move rfl ?_
                refine WO.step rfl (OR.idx k T23.und T5 rfl rfl rfl hk' ?_)
                refine WO.step rfl (OR.load T5 rfl rfl (cell_at (hs.blk (i := 2) rfl) (by rw [Nat.zero_add]; exact hy)) ?_)
                refine WO.step rfl (OR.xorB _ 255 rfl rfl rfl rfl ?_)
                refine WO.step rfl (OR.idx k T23.und T5 rfl rfl rfl hk' ?_)
                replace hs := hs.front (i := 2) rfl
                refine WO.stepN (OR.store hs T5 rfl rfl rfl (by omega) rfl ?_)
                clear hs; intro w hs
                have hnew : (setL c.toList (0 + k) (B (y ^^^ 255)).cells.toList).toArray = (c.toList.set k (B (y ^^^ 255))).toArray := by
                  rw [Nat.zero_add]
                  show (setL c.toList k [B (y ^^^ 255)]).toArray = _
                  rw [setL_one]
                rw [hnew] at hs
                refine WO.done (WX.block (WX.seq (WC.region (WO.step rfl (OR.addI rfl rfl (by omega) (by omega) (WO.step rfl (OR.move rfl ?_)))))))
                refine WO.done ?_
                refine WX.again (k + 1) ⟨rfl, rfl, rfl, rfl, rfl, rfl, rfl, rfl,  trivial⟩ ?_ ?_
                · refine ⟨hk', H2, D2, o2, ro2, _, _, hle, hsx, hsr, hok, hcu, Own.block (c := (c.toList.set k (B (y ^^^ 255))).toArray) hn (by simpa using hcs) rfl hg, ?_, hs.perm (List.perm_append_comm (l₁ := [_, _]) (l₂ := [_]))⟩
                  intro u hu
                  rw [List.toList_toArray, List.take_set, hxs] at hu
                  rcases List.mem_or_eq_of_mem_set hu with h | h
                  · exact hby u h
                  · exact ⟨_, h⟩
                · omega
              · replace hs := hs.sublist (List.sublist_append_left _ _)
                obtain ⟨rvs, rvc, rfl, hrst, hrcu⟩ := hsr
                obtain ⟨_, _, rfl⟩ := hrst.form
                obtain ⟨_, _, rfl⟩ := hrcu.form
                have hRI : RsIn H2 D2 (rsObj D2.g D2.s (.slice _ D2.st.length _) (.slice _ D2.cuts.length _) D2.cl) := ⟨_, _, rfl, hrst, hrcu⟩
                have hlb := Hp.le.refl H2
                have hchl := hok.chl
                have hxln := hok.len
                have hcu9 : D2.cuts.length ≤ 1000000000 := by omega
                refine WC.exit (WX.seq_exit (WX.loop_exit (WX.block_hit (WX.seq (WC.seq ?_)))))
                refine WC.draw 34 mixed hs (by kernel_rfl) ?_
                refine ⟨MF.eq _, by intro Mx H w hle hs; refine forVals_nil (ORg.plain (OR.move rfl ?_)); exact ⟨_, [], Hp.le.refl _, hs, rfl, rfl⟩, ?_⟩
                refine ⟨MF.eq (.int .u64 (D2.chunks.length : Int)), ?_, ?_⟩
                · intro Mx H w hle2 hs; (try replace hle := hle.trans hle2); (try replace hlb := hlb.trans hle2); refine forVals_eq rfl rfl rfl ?_
                  refine forVals_nil (ORg.plain (OR.call hs body31 rfl rfl (gens_ok x D2 o2 _ _ hs.toSub (hs.right.blk (i := 0) rfl) (hs.right.none (i := 0) rfl) (hsx.mono hlb) (by omega)) ?_))
                  clear hs; rintro _ H w hs hle1 rfl
                  exact ⟨_, [], hle1, hs, rfl, rfl⟩
                refine ⟨MF.eq _, by intro Mx H w hle hs; refine forVals_nil (ORg.plain (OR.move rfl ?_)); exact ⟨_, [], Hp.le.refl _, hs, rfl, rfl⟩, ?_⟩
                refine ⟨MF.eq (.int .u64 (D2.chunks.length : Int)), ?_, ?_⟩
                · intro Mx H w hle2 hs; (try replace hle := hle.trans hle2); (try replace hlb := hlb.trans hle2); refine forVals_eq rfl rfl rfl ?_
                  refine forVals_nil (ORg.plain (OR.call hs body66 rfl rfl (rsGens_ok r D2 _ _ _ hs.toSub (hs.right.blk (i := 1) rfl) (hs.right.none (i := 1) rfl) (hRI.mono hlb) hok (by omega)) ?_))
                  clear hs; rintro _ H w hs hle1 rfl
                  exact ⟨_, [], hle1, hs, rfl, rfl⟩
                refine ⟨MF.eq (.bool false), ?_, ?_⟩
                · intro Mx H w hle2 hs; (try replace hle := hle.trans hle2); (try replace hlb := hlb.trans hle2); refine forVals_eq rfl rfl rfl ?_; refine forVals_eq rfl rfl rfl ?_
                  refine forVals_nil (ORg.plain (OR.neq rfl rfl ?_))
                  exact ⟨_, [], Hp.le.refl _, hs, (by rw [decide_eq_false (fun h => h rfl)]), rfl⟩
                refine ⟨MF.eq _, by intro Mx H w hle hs; refine forVals_eq rfl rfl rfl ?_; refine forVals_nil (ORg.plain (OR.move rfl ?_)); exact ⟨_, [], Hp.le.refl _, hs, rfl, rfl⟩, ?_⟩
                refine ⟨MF.eq _, by intro Mx H w hle hs; refine forVals_eq rfl rfl rfl ?_; refine forVals_nil (ORg.yes rfl rfl rfl (OR.move rfl ?_)); exact ⟨_, [], Hp.le.refl _, hs, rfl, rfl⟩, ?_⟩
                refine ⟨MF.eq (.bool D2.cl), ?_, ?_⟩
                · intro Mx H w hle2 hs; (try replace hle := hle.trans hle2); (try replace hlb := hlb.trans hle2); refine forVals_eq rfl rfl rfl ?_; refine forVals_eq rfl rfl rfl ?_
                  refine forVals_nil (ORg.yes rfl rfl rfl (OR.call hs body51 rfl rfl (sclosed_x x D2 o2 _ _ hs.toSub (hs.right.blk (i := 0) rfl) (hs.right.none (i := 0) rfl) (hsx.mono hlb)) ?_))
                  clear hs; rintro _ H w hs hle1 rfl
                  exact ⟨_, [], hle1, hs, rfl, rfl⟩
                refine ⟨MF.eq _, by intro Mx H w hle hs; refine forVals_eq rfl rfl rfl ?_; refine forVals_nil (ORg.yes rfl rfl rfl (OR.move rfl ?_)); exact ⟨_, [], Hp.le.refl _, hs, rfl, rfl⟩, ?_⟩
                refine ⟨MF.eq _, by intro Mx H w hle hs; refine forVals_eq rfl rfl rfl ?_; refine forVals_eq rfl rfl rfl ?_; refine forVals_nil (ORg.yes rfl rfl rfl (OR.nilCheck rfl ?_)); exact ⟨_, [], Hp.le.refl _, hs, rfl, rfl⟩, ?_⟩
                refine ⟨MF.eq _, by intro Mx H w hle hs; refine forVals_eq rfl rfl rfl ?_; refine forVals_eq rfl rfl rfl ?_; refine forVals_nil (ORg.yes rfl rfl rfl (OR.fieldAddr FA111_4 rfl ?_)); exact ⟨_, [], Hp.le.refl _, hs, rfl, rfl⟩, ?_⟩
                refine ⟨MF.eq _, by intro Mx H w hle hs; refine forVals_eq rfl rfl rfl ?_; refine forVals_eq rfl rfl rfl ?_; refine forVals_nil (ORg.yes rfl rfl rfl (OR.load T4 rfl rfl (hs.right.cellM (i := 1) rfl rfl) ?_)); exact ⟨_, [], Hp.le.refl _, hs, rfl, rfl⟩, ?_⟩
                refine ⟨MF.eq (.bool false), ?_, ?_⟩
                · intro Mx H w hle2 hs; (try replace hle := hle.trans hle2); (try replace hlb := hlb.trans hle2); refine forVals_eq rfl rfl rfl ?_; refine forVals_eq rfl rfl rfl ?_; refine forVals_eq rfl rfl rfl ?_
                  refine forVals_nil (ORg.yes rfl rfl rfl (OR.neqB T4.und rfl rfl ?_))
                  exact ⟨_, [], Hp.le.refl _, hs, (by simp), rfl⟩
                refine ⟨MF.eq _, by intro Mx H w hle hs; refine forVals_eq rfl rfl rfl ?_; refine forVals_eq rfl rfl rfl ?_; refine forVals_nil (ORg.plain (OR.pickF rfl rfl rfl ?_)); exact ⟨_, [], Hp.le.refl _, hs, rfl, rfl⟩, ?_⟩
                refine ⟨MF.eq _, by intro Mx H w hle hs; refine forVals_eq rfl rfl rfl ?_; refine forVals_nil (ORg.plain (OR.move rfl ?_)); exact ⟨_, [], Hp.le.refl _, hs, rfl, rfl⟩, ?_⟩
                refine ⟨MF.eq _, by intro Mx H w hle hs; refine forVals_eq rfl rfl rfl ?_; refine forVals_nil (ORg.yes rfl rfl rfl (OR.move rfl ?_)); exact ⟨_, [], Hp.le.refl _, hs, rfl, rfl⟩, ?_⟩
                refine ⟨MF.bytes D2.st, ?_, ?_⟩
                · intro Mx H w hle2 hs; (try replace hle := hle.trans hle2); (try replace hlb := hlb.trans hle2); refine forVals_eq rfl rfl rfl ?_; refine forVals_eq rfl rfl rfl ?_
                  refine forVals_nil (ORg.yes rfl rfl rfl (OR.call hs body52 rfl rfl (stream_ok x D2 o2 _ _ hs.toSub (hs.right.blk (i := 0) rfl) (hs.right.none (i := 0) rfl) (hsx.mono hlb) (by omega)) ?_))
                  clear hs; rintro _ H w hs hle1 hb
                  exact ⟨_, [], hle1, hs, hb, rfl⟩
                refine ⟨MF.eq _, by intro Mx H w hle hs; refine forVals_eq rfl rfl rfl ?_; refine forVals_nil (ORg.yes rfl rfl rfl (OR.move rfl ?_)); exact ⟨_, [], Hp.le.refl _, hs, rfl, rfl⟩, ?_⟩
                refine ⟨MF.eq _, by intro Mx H w hle hs; refine forVals_eq rfl rfl rfl ?_; refine forVals_eq rfl rfl rfl ?_; refine forVals_nil (ORg.yes rfl rfl rfl (OR.nilCheck rfl ?_)); exact ⟨_, [], Hp.le.refl _, hs, rfl, rfl⟩, ?_⟩
                refine ⟨MF.eq _, by intro Mx H w hle hs; refine forVals_eq rfl rfl rfl ?_; refine forVals_eq rfl rfl rfl ?_; refine forVals_nil (ORg.yes rfl rfl rfl (OR.fieldAddr FA111_2 rfl ?_)); exact ⟨_, [], Hp.le.refl _, hs, rfl, rfl⟩, ?_⟩
                refine ⟨MF.eq _, by intro Mx H w hle hs; refine forVals_eq rfl rfl rfl ?_; refine forVals_eq rfl rfl rfl ?_; refine forVals_nil (ORg.yes rfl rfl rfl (OR.load T23 rfl rfl (hs.right.cellM (i := 1) rfl rfl) ?_)); exact ⟨_, [], Hp.le.refl _, hs, rfl, rfl⟩, ?_⟩
                refine ⟨MF.eq (.bool true), ?_, ?_⟩
                · intro Mx H w hle2 hs; (try replace hle := hle.trans hle2); (try replace hlb := hlb.trans hle2); refine forVals_of rfl rfl rfl ?_; intro v16 h16; refine forVals_eq rfl rfl rfl ?_; refine forVals_eq rfl rfl rfl ?_
                  refine forVals_nil (ORg.yes rfl rfl rfl (OR.call hs body21 rfl rfl (equal_ok _ _ D2.st D2.st _ _ hs.toSub h16 (hrst.mono hlb)) ?_))
                  clear hs; rintro _ H w hs hle1 rfl
                  exact ⟨_, [], hle1, hs, (by rw [decide_eq_true rfl]), rfl⟩
                refine ⟨MF.eq (.bool false), ?_, ?_⟩
                · intro Mx H w hle2 hs; (try replace hle := hle.trans hle2); (try replace hlb := hlb.trans hle2); refine forVals_eq rfl rfl rfl ?_; refine forVals_eq rfl rfl rfl ?_
                  refine forVals_nil (ORg.yes rfl rfl rfl (OR.not rfl ?_))
                  exact ⟨_, [], Hp.le.refl _, hs, rfl, rfl⟩
                refine ⟨MF.eq _, by intro Mx H w hle hs; refine forVals_eq rfl rfl rfl ?_; refine forVals_eq rfl rfl rfl ?_; refine forVals_nil (ORg.plain (OR.pickF rfl rfl rfl ?_)); exact ⟨_, [], Hp.le.refl _, hs, rfl, rfl⟩, ?_⟩
                refine ⟨MF.eq _, by intro Mx H w hle hs; refine forVals_eq rfl rfl rfl ?_; refine forVals_nil (ORg.plain (OR.move rfl ?_)); exact ⟨_, [], Hp.le.refl _, hs, rfl, rfl⟩, ?_⟩
                refine ⟨MF.eq _, by intro Mx H w hle hs; refine forVals_eq rfl rfl rfl ?_; refine forVals_nil (ORg.yes rfl rfl rfl (OR.move rfl ?_)); exact ⟨_, [], Hp.le.refl _, hs, rfl, rfl⟩, ?_⟩
                refine ⟨MF.ints D2.cuts, ?_, ?_⟩
                · intro Mx H w hle2 hs; (try replace hle := hle.trans hle2); (try replace hlb := hlb.trans hle2); refine forVals_eq rfl rfl rfl ?_; refine forVals_eq rfl rfl rfl ?_
                  refine forVals_nil (ORg.yes rfl rfl rfl (OR.call hs body53 rfl rfl (cuts_ok x D2 o2 _ _ hs.toSub (hs.right.blk (i := 0) rfl) (hs.right.none (i := 0) rfl) (hsx.mono hlb) (by omega)) ?_))
                  clear hs; rintro _ H w hs hle1 hb
                  exact ⟨_, [], hle1, hs, hb, rfl⟩
                refine ⟨MF.eq _, by intro Mx H w hle hs; refine forVals_eq rfl rfl rfl ?_; refine forVals_nil (ORg.yes rfl rfl rfl (OR.move rfl ?_)); exact ⟨_, [], Hp.le.refl _, hs, rfl, rfl⟩, ?_⟩
                refine ⟨MF.eq _, by intro Mx H w hle hs; refine forVals_eq rfl rfl rfl ?_; refine forVals_eq rfl rfl rfl ?_; refine forVals_nil (ORg.yes rfl rfl rfl (OR.nilCheck rfl ?_)); exact ⟨_, [], Hp.le.refl _, hs, rfl, rfl⟩, ?_⟩
                refine ⟨MF.eq _, by intro Mx H w hle hs; refine forVals_eq rfl rfl rfl ?_; refine forVals_eq rfl rfl rfl ?_; refine forVals_nil (ORg.yes rfl rfl rfl (OR.fieldAddr FA111_3 rfl ?_)); exact ⟨_, [], Hp.le.refl _, hs, rfl, rfl⟩, ?_⟩
                refine ⟨MF.eq _, by intro Mx H w hle hs; refine forVals_eq rfl rfl rfl ?_; refine forVals_eq rfl rfl rfl ?_; refine forVals_nil (ORg.yes rfl rfl rfl (OR.load T87 rfl rfl (hs.right.cellM (i := 1) rfl rfl) ?_)); exact ⟨_, [], Hp.le.refl _, hs, rfl, rfl⟩, ?_⟩
                refine ⟨MF.eq (.bool true), ?_, ?_⟩
                · intro Mx H w hle2 hs; (try replace hle := hle.trans hle2); (try replace hlb := hlb.trans hle2); refine forVals_of rfl rfl rfl ?_; intro v26 h26; refine forVals_eq rfl rfl rfl ?_; refine forVals_eq rfl rfl rfl ?_
                  refine forVals_nil (ORg.yes rfl rfl rfl (OR.call hs body67 rfl rfl (equalInts_ok _ _ D2.cuts _ _ hs.toSub h26 (hrcu.mono hlb) (by omega)) ?_))
                  clear hs; rintro _ H w hs hle1 rfl
                  exact ⟨_, [], hle1, hs, rfl, rfl⟩
                refine ⟨MF.eq _, by intro Mx H w hle hs; refine forVals_eq rfl rfl rfl ?_; refine forVals_eq rfl rfl rfl ?_; refine forVals_nil (ORg.yes rfl rfl rfl (OR.not rfl ?_)); exact ⟨_, [], Hp.le.refl _, hs, rfl, rfl⟩, ?_⟩
                refine ⟨MF.eq _, by intro Mx H w hle hs; refine forVals_eq rfl rfl rfl ?_; refine forVals_eq rfl rfl rfl ?_; refine forVals_nil (ORg.plain (OR.pickF rfl rfl rfl ?_)); exact ⟨_, [], Hp.le.refl _, hs, rfl, rfl⟩, ?_⟩
                intro H w hle2; (try replace hle := hle.trans hle2); (try replace hlb := hlb.trans hle2)
                refine forAllVals_eq rfl ?_
                refine forAllVals_eq rfl ?_
                refine forAllVals_eq rfl ?_
                refine forAllVals_eq rfl ?_
                refine forAllVals_eq rfl ?_
                refine forAllVals_eq rfl ?_
                refine forAllVals_eq rfl ?_
                refine forAllVals_eq rfl ?_
                refine forAllVals_eq rfl ?_
                refine forAllVals_eq rfl ?_
                refine forAllVals_eq rfl ?_
                refine forAllVals_eq rfl ?_
                refine forAllVals_eq rfl ?_
                refine forAllVals_eq rfl ?_
                refine forAllVals_eq rfl ?_
                refine forAllVals_eq rfl ?_
                refine forAllVals_of rfl ?_; intro v16 h16
                refine forAllVals_eq rfl ?_
                refine forAllVals_eq rfl ?_
                refine forAllVals_eq rfl ?_
                refine forAllVals_eq rfl ?_
                refine forAllVals_eq rfl ?_
                refine forAllVals_eq rfl ?_
                refine forAllVals_eq rfl ?_
                refine forAllVals_eq rfl ?_
                refine forAllVals_eq rfl ?_
                refine forAllVals_of rfl ?_; intro v26 h26
                refine forAllVals_eq rfl ?_
                refine forAllVals_eq rfl ?_
                refine forAllVals_eq rfl ?_
                refine forAllVals_eq rfl ?_
                refine forAllVals_eq rfl ?_
                refine forAllVals_eq rfl ?_
                refine forAllVals_eq rfl ?_
                refine forAllVals_nil ?_; (try clear hs); intro hs
                refine WO.done (WX.seq ?_)
                refine WC.no rfl rfl ?_
                refine WC.skip (WX.block (WX.seq (WC.region (WO.step rfl (OR.addI rfl rfl (by omega) (by omega) (WO.step rfl (OR.move rfl ?_)))))))
                refine WO.done ?_
                refine WX.again (i + 1) ⟨rfl, rfl, rfl, rfl, rfl,  trivial⟩ ?_ ?_
                · exact ⟨hi', by omega, H, D2, o2, _, hle, hsx.mono hlb, hRI.mono hlb, hok, by omega, hs⟩
                · omega
        · refine WC.exit (WX.seq_exit (WX.loop_exit (WX.block_hit (WX.seq (WC.seq (WC.region (WO.step rfl ?_)))))))
          refine OR.assign rfl (WO.done (WX.seq (WC.ret ?_)))
          refine WX.ret1 rfl rfl ?_
          exact .mk hs rfl
  · have _ := 0
    refine WO.step rfl (OR.move rfl ?_)
    refine WO.step rfl (OR.call hs body27 rfl rfl (snew_bad g s _ _ hs.toSub hgs) ?_)
    clear hs; rintro _ H w hs hle1 rfl; replace hle := hle.trans hle1; (try replace hlb := hlb.trans hle1)
    refine WO.step rfl (OR.move rfl (WO.step rfl (OR.extract rfl rfl (WO.step rfl (OR.extract rfl rfl (WO.step rfl (OR.assign rfl ?_)))))))
    refine WO.step rfl (OR.assign rfl (WO.done (WX.seq (WC.seq (WC.region (WO.step rfl (OR.move rfl ?_)))))))
    refine WO.step rfl (OR.move rfl ?_)
    refine WO.step rfl (OR.call hs body55 rfl rfl (rsNew_bad g s _ _ hs.toSub hgs) ?_)
    clear hs; rintro _ H w hs hle1 rfl; replace hle := hle.trans hle1; (try replace hlb := hlb.trans hle1)
    refine WO.step rfl (OR.move rfl (WO.step rfl (OR.extract rfl rfl (WO.step rfl (OR.extract rfl rfl (WO.step rfl (OR.assign rfl ?_)))))))
    refine WO.step rfl (OR.assign rfl (WO.done (WX.seq (WC.seq ?_))))
    refine WC.joinK (ι := Unit) (fun ix => [(1, .slice bl len cl0), (9, .pointer none), (10, .int .i64 1), (11, .pointer none), (12, .int .i64 1)]) (fun ix w => (∃ H, HS [] H0 w0 H [] w)) ?_ (fun ix w hW => ?_)
    · refine WC.seq (WC.region (WO.step rfl (OR.fieldAddr FA93_4 rfl (WO.step rfl (OR.load T4 rfl rfl (hs.cellM (i := 0) rfl rfl) (WO.done (WX.seq ?_)))))))
      refine WC.cond rfl (fun hrs => ?_) (fun hrs => ?_)
      · refine WC.seq (WC.region (WO.step rfl (OR.move rfl (WO.step rfl (OR.move rfl (WO.step rfl (OR.move rfl ?_)))))))
        refine WO.step rfl (OR.move rfl (WO.step rfl (OR.fieldAddr FA93_3 rfl (WO.step rfl (OR.load T4 rfl rfl (hs.cellM (i := 0) rfl rfl) ?_)))))
        refine WO.step rfl (OR.call hs body50 rfl rfl (restore_bad g s _ _ _ _ _ _ cl _ _ hs.toSub (.inl hgs)) ?_)
        clear hs; rintro _ H w hs hle1 rfl; replace hle := hle.trans hle1; (try replace hlb := hlb.trans hle1)
        refine WO.step rfl (OR.move rfl (WO.step rfl (OR.extract rfl rfl (WO.step rfl (OR.extract rfl rfl (WO.step rfl (OR.assign rfl ?_)))))))
        refine WO.step rfl (OR.assign rfl (WO.done (WX.seq (WC.region (WO.step rfl (OR.move rfl (WO.step rfl ?_)))))))
        refine OR.move rfl (WO.step rfl (OR.move rfl (WO.step rfl (OR.move rfl (WO.step rfl (OR.fieldAddr FA93_3 rfl (WO.step rfl ?_)))))))
        refine OR.load T4 rfl rfl (hs.cellM (i := 0) rfl rfl) ?_
        refine WO.step rfl (OR.call hs body56 rfl rfl (rsRestore_bad g s _ _ _ _ _ _ cl _ _ hs.toSub hgs) ?_)
        clear hs; rintro _ H w hs hle1 rfl; replace hle := hle.trans hle1; (try replace hlb := hlb.trans hle1)
        refine WO.step rfl (OR.move rfl (WO.step rfl (OR.extract rfl rfl (WO.step rfl (OR.extract rfl rfl (WO.step rfl (OR.assign rfl ?_)))))))
        refine WO.step rfl (OR.assign rfl (WO.done ?_))
        refine WX.arrive (()) ⟨rfl, rfl, rfl, rfl, rfl,  trivial⟩ ?_
        exact ⟨H, hs.sublist (List.nil_sublist _)⟩
      · refine WC.skip ?_
        refine WX.arrive (()) ⟨rfl, rfl, rfl, rfl, rfl,  trivial⟩ ?_
        exact ⟨H, hs.sublist (List.nil_sublist _)⟩
    · clear hs hle
      obtain ⟨H, hs⟩ := hW
      refine WC.seq (WC.seq (WC.region (WO.step rfl (OR.move rfl (WO.step rfl (OR.move rfl (WO.step rfl ?_)))))))
      refine OR.neq rfl rfl (WO.step rfl (OR.move rfl ?_))
      refine WO.guardYes rfl rfl rfl rfl (OR.move rfl (WO.guardYes rfl rfl rfl rfl (OR.eqlNilP T54.und rfl rfl (WO.guardYes rfl rfl rfl rfl (OR.move rfl (WO.guardYes rfl rfl rfl rfl (OR.eqlNilP T97.und rfl rfl ?_)))))))
      refine WO.guardYes rfl rfl rfl rfl (OR.neqB T4.und rfl rfl (WO.step rfl (OR.pickF rfl rfl rfl (WO.done (WX.seq ?_)))))
      refine WC.no rfl rfl ?_
      refine WC.skip (WX.seq (WC.seq (WC.seq (WC.region (WO.step rfl (OR.move rfl (WO.step rfl ?_)))))))
      refine OR.eqlNilP T97.und rfl rfl (WO.done (WX.seq ?_))
      refine WC.yes rfl rfl ?_
      refine WC.seq (WC.region (WO.step rfl (OR.assign rfl (WO.done (WX.seq (WC.ret (WX.seq_ret ?_)))))))
      refine WX.ret1 rfl rfl ?_
      exact .mk hs rfl
end Go.Bw
