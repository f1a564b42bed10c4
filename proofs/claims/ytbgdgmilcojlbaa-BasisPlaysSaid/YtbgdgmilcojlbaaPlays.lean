/- BasisPlays: walked. -/
import Derived.Test.YtbgdgmilcojlbaaLoose
import Derived.Test.YtbgdgmilcojlbaaRefJ
import Derived.Test.YtbgdgmilcojlbaaJoin2
import Derived.Test.YtbgdgmilcojlbaaDrawP
import Derived.Test.YtbgdgmilcojlbaaAwake
import Derived.Test.YtbgdgmilcojlbaaGone
import Derived.Test.YtbgdgmilcojlbaaLaw
namespace Go.Bw
set_option linter.unusedVariables false
set_option linter.unusedSimpArgs false
open Go.Proofs

theorem refOwn_new (v : Value) (l : List UInt8) (H0 : Hp) (w0 : World) (h0 : Sub H0 w0) (hv : Bytes H0 v l) (hl : l.length ≤ 140737488355328) :
    Calls Try.prog 111 #[v] w0 (Pure H0 w0 fun v H' => BytesO H' w0.heap.size v l) :=
  (refOwn_ok v l H0 w0 h0 hv hl).mono fun E w' h => by
    obtain ⟨v, H', M', rfl, hs, hM, rfl, ho⟩ := h
    obtain ⟨H2, h1, h2, h3⟩ := HS.pubO (M := []) (by simpa using hs) ho
    exact ⟨v, H2, [], rfl, h2, by simp, rfl, h3⟩
def MF.rowO (N : Nat) (r : RowD) : MF := MF.of (fun v H => RowVO H N v r) fun _ _ _ hle ⟨c, p, h1, h2, h3⟩ => ⟨c, p, h1, h2.mono hle, h3.mono hle⟩
set_option maxRecDepth 20000 in
set_option maxHeartbeats 2000000 in
/-- A row in new memory. -/
theorem lawOwn_ok (r : RowD) (rc rp : Value) (H0 : Hp) (w0 : World) (h0 : Sub H0 w0) (hrc : Bytes H0 rc r.1) (hrp : Bytes H0 rp r.2) (hl1 : r.1.length ≤ 1000000) (hl2 : r.2.length ≤ 1000000) :
    Calls Try.prog 39 #[.agg #[rc, rp]] w0 (Pure H0 w0 fun v H' => RowVO H' w0.heap.size v r) := by
  have hs := HS.init h0
  have hle := Hp.le.refl H0
  obtain ⟨_, _, rfl⟩ := hrc.form
  obtain ⟨_, _, rfl⟩ := hrp.form
  refine Calls.enter (args := [.agg #[_, _]]) Try.func39 rfl Try.ntmps39 rfl ?_
  refine WC.seq (WC.region (WO.step rfl (OR.box hs rfl ?_)))
  clear hs; intro g1 w hg1 hs
  refine WO.step rfl (OR.alloc hs T35 ?_)
  clear hs; intro g2 w hg2 hs
  refine WO.done (WX.seq (WC.seq ?_))
  refine WC.draw 7 mixed hs (by kernel_rfl) ?_
  refine ⟨MF.eq _, by intro Mx H w hle hs; refine forVals_nil (ORg.plain (OR.fieldAddr FA35_0 rfl ?_)); exact ⟨_, [], Hp.le.refl _, hs, rfl, rfl⟩, ?_⟩
  refine ⟨MF.eq _, by intro Mx H w hle hs; refine forVals_eq rfl rfl rfl ?_; refine forVals_nil (ORg.plain (OR.load T23 rfl rfl (hs.right.cellM (i := 1) rfl rfl) ?_)); exact ⟨_, [], Hp.le.refl _, hs, rfl, rfl⟩, ?_⟩
  refine ⟨MF.bytesO w0.heap.size r.1, ?_, ?_⟩
  · intro Mx H w hle2 hs; (try replace hle := hle.trans hle2); (try replace hlb := hlb.trans hle2); refine forVals_eq rfl rfl rfl ?_
    have hz := hs.size
    refine forVals_nil (ORg.plain (OR.call hs body111 rfl rfl (refOwn_new _ r.1 _ _ hs.toSub (hrc.mono hle) (by omega)) ?_))
    clear hs; rintro _ H w hs hle1 hb
    exact ⟨_, [], hle1, hs, (hb.anti hz), rfl⟩
  refine ⟨MF.eq _, by intro Mx H w hle hs; refine forVals_nil (ORg.plain (OR.fieldAddr FA35_1 rfl ?_)); exact ⟨_, [], Hp.le.refl _, hs, rfl, rfl⟩, ?_⟩
  refine ⟨MF.eq _, by intro Mx H w hle hs; refine forVals_eq rfl rfl rfl ?_; refine forVals_nil (ORg.plain (OR.load T23 rfl rfl (hs.right.cellM (i := 1) rfl rfl) ?_)); exact ⟨_, [], Hp.le.refl _, hs, rfl, rfl⟩, ?_⟩
  refine ⟨MF.bytesO w0.heap.size r.2, ?_, ?_⟩
  · intro Mx H w hle2 hs; (try replace hle := hle.trans hle2); (try replace hlb := hlb.trans hle2); refine forVals_eq rfl rfl rfl ?_
    have hz := hs.size
    refine forVals_nil (ORg.plain (OR.call hs body111 rfl rfl (refOwn_new _ r.2 _ _ hs.toSub (hrp.mono hle) (by omega)) ?_))
    clear hs; rintro _ H w hs hle1 hb
    exact ⟨_, [], hle1, hs, (hb.anti hz), rfl⟩
  refine ⟨MF.rowO w0.heap.size r, ?_, ?_⟩
  · intro Mx H w hle2 hs; (try replace hle := hle.trans hle2); (try replace hlb := hlb.trans hle2); refine forVals_of rfl rfl rfl ?_; intro v2 h2; refine forVals_of rfl rfl rfl ?_; intro v5 h5
    refine forVals_nil (ORg.plain (OR.call hs body48 rfl rfl (R_ok _ _ r _ _ hs.toSub h2.bytes h5.bytes) ?_))
    clear hs; rintro _ H w hs hle1 rfl
    exact ⟨_, [], hle1, hs, ⟨_, _, rfl, h2.mono hle1, h5.mono hle1⟩, rfl⟩
  intro H w hle2; (try replace hle := hle.trans hle2); (try replace hlb := hlb.trans hle2)
  refine forAllVals_eq rfl ?_
  refine forAllVals_eq rfl ?_
  refine forAllVals_of rfl ?_; intro v2 h2
  refine forAllVals_eq rfl ?_
  refine forAllVals_eq rfl ?_
  refine forAllVals_of rfl ?_; intro v5 h5
  refine forAllVals_of rfl ?_; intro v6 h6
  refine forAllVals_nil ?_; (try clear hs); intro hs
  obtain ⟨nc, np, rfl, hnc, hnp⟩ := h6
  obtain ⟨_, _, rfl⟩ := hnc.bytes.form
  obtain ⟨_, _, rfl⟩ := hnp.bytes.form
  refine WO.stepN (OR.storeAll hs T35 rfl rfl rfl rfl rfl ?_)
  clear hs; intro w hs
  refine WO.done (WX.seq (WC.ret ?_))
  refine WX.retCell T35 rfl rfl rfl rfl (hs.blk (i := 0) rfl) ?_
  exact .mk hs ⟨_, _, rfl, hnc, hnp⟩

structure PActD where
  what : Int
  row : RowD
  b : List UInt8
/-- A list of calls in memory. -/
def PActs (H : Hp) (v : Value) (len : Nat) (A : Nat → PActD) (V : Nat → Value × Value × Value) : Prop :=
  Sl H 4 v len ((List.range len).flatMap fun i => [.int .i64 (A i).what, (V i).1, (V i).2.1, (V i).2.2]) ∧ ∀ i, i < len → Bytes H (V i).1 (A i).row.1 ∧ Bytes H (V i).2.1 (A i).row.2 ∧ Bytes H (V i).2.2 (A i).b ∧ (A i).row.1.length ≤ 9223372036854775807 ∧ (A i).row.2.length ≤ 9223372036854775807 ∧ (A i).b.length ≤ 9223372036854775807
theorem PActs.pos {H : Hp} {len cap : Nat} {base : Option Addr} {A : Nat → PActD} {V : Nat → Value × Value × Value} (h : PActs H (.slice base len cap) len A V) (hn : 0 < len) :
    ∃ b o, base = some ⟨b, o, none⟩ ∧ ∀ i, i < len → ∀ j u, [.int .i64 (A i).what, (V i).1, (V i).2.1, (V i).2.2][j]? = some u → hcell H ((⟨b, o + i * 4, none⟩ : Addr).add j) = some u := by
  obtain ⟨b, o, h4, h5⟩ := h.1.pos hn
  refine ⟨b, o, h4, fun i hi j u hj => ?_⟩
  have h6 := (flat_get (C := fun i => [Value.int .i64 (A i).what, (V i).1, (V i).2.1, (V i).2.2]) (sz := 4) len (fun _ _ => rfl)).2 i hi j (by have := (List.getElem?_eq_some_iff.1 hj).1; simpa using this)
  rw [add_off, Nat.add_assoc]
  exact h5 _ _ (h6.trans hj)

theorem Bytes.cut {H : Hp} {base : Option Addr} {n cap k : Nat} {l : List UInt8} (h : Bytes H (.slice base n cap) l) (hk : k ≤ l.length) : Bytes H (.slice base k cap) (l.take k) := by
  obtain ⟨hl, b', c', he, hn, hb0, hc⟩ := h
  cases he
  have e : (l.take k).length = k := by rw [List.length_take]; omega
  refine ⟨by simp, base, cap, by rw [e], by omega, fun e2 => ?_, fun a ha => ⟨fun hp => ?_, fun i u hi => ?_⟩⟩
  · have := hb0 e2
    omega
  · exact (hc a ha).1 (by omega)
  · rw [List.map_take] at hi
    exact (hc a ha).2 i u (get_take hi)
theorem Bytes.cap {H : Hp} {base : Option Addr} {n cap : Nat} {l : List UInt8} (h : Bytes H (.slice base n cap) l) : l.length ≤ cap := by
  obtain ⟨hl, b', c', he, hn, hb0, hc⟩ := h
  cases he
  exact hn
theorem min13 (n : Nat) : (if (13 : Int) < (n : Int) then (13 : Int) else (n : Int)) = ((min n 13 : Nat) : Int) := by split <;> omega

/-- What holds ahead of each round: both bases have the same rows. -/
def PI (H0 : Hp) (w0 : World) (g s rb gi gr b : Nat) (w : World) : Prop := ∃ H rv ci cr f, Hp.le H0 H ∧ Rws H rv (upto f g) ∧ RefC H g f ci cr ∧ Leads g s f ∧ Red g s (upto f g) ∧
  HS [] H0 w0 H [(b, basisObj g s rv, true), (rb, refObj g s gi gr, true), (gi, .cells ci 4, true), (gr, .cells cr 35, true)] w

set_option maxRecDepth 20000 in
set_option maxHeartbeats 2000000 in
theorem plays_ok (g0 s0 : Int) (vl : Value) (len : Nat) (A : Nat → PActD) (V : Nat → Value × Value × Value) (H0 : Hp) (w0 : World) (h0 : Sub H0 w0) (hl : PActs H0 vl len A V) (hlen : len ≤ 9223372036854775807) :
    Calls Try.prog 7 #[.int .i64 g0, .int .i64 s0, vl] w0 (Pure H0 w0 fun v _ => v = .bool true) := by
  have hs := HS.init h0
  have hle := Hp.le.refl H0
  obtain ⟨bl, cl, rfl⟩ := hl.1.form
  refine Calls.enter (args := [.int .i64 g0, .int .i64 s0, .slice bl len cl]) Try.func7 rfl Try.ntmps7 rfl ?_
  refine WC.seq (WC.region (WO.step rfl (OR.assign rfl (WO.done (WX.seq (WC.seq (WC.seq ?_)))))))
  refine WC.region ?_
  refine WO.step rfl (OR.call hs body16 rfl rfl (awake_ok _ _ hs.toSub) ?_)
  clear hs; rintro _ H w hs hle1 rfl; replace hle := hle.trans hle1; (try replace hlb := hlb.trans hle1)
  refine WO.step rfl (OR.not rfl (WO.done (WX.seq ?_)))
  refine WC.no rfl rfl ?_
  refine WC.skip (WX.seq (WC.seq ?_))
  refine WC.joinK (ι := Int) (fun g => [(0, .int .i64 g), (1, .int .i64 s0), (2, .slice bl len cl)]) (fun g w => ((g ≤ 12 ∨ 255 < g) ∧ ∃ H, Hp.le H0 H ∧ HS [] H0 w0 H [] w)) ?_ (fun g w hW => ?_)
  · refine WC.seq (WC.region (WO.step rfl (OR.move rfl (WO.step rfl (OR.gtr rfl rfl (WO.step rfl (OR.move rfl ?_)))))))
    refine WO.guardSplit (j := 2) rfl (fun hg12 => ?_) (fun hg12 => ?_)
    · refine WO.guardYes rfl (decide_eq_true hg12) rfl rfl (OR.move rfl (WO.guardYes rfl (decide_eq_true hg12) rfl rfl (OR.leq rfl rfl (WO.step rfl (OR.pickT rfl (decide_eq_true hg12) rfl (WO.done (WX.seq ?_)))))))
      refine WC.condD rfl (fun hg255 => ?_) (fun hg255 => ?_)
      · refine WC.region (WO.step rfl (OR.move rfl ?_))
        refine WO.step rfl (OR.rem rfl rfl (by omega) ?_)
        have hm : (0 : Int) ≤ g0.tmod 12 ∧ g0.tmod 12 < 12 := by
          rw [Int.tmod_eq_emod_of_nonneg (by omega)]
          omega
        refine WO.step rfl (OR.addI rfl rfl (by omega) (by omega) (WO.step rfl (OR.assign rfl (WO.done ?_))))
        refine WX.arrive (1 + g0.tmod 12) ⟨rfl, rfl, rfl,  trivial⟩ ?_
        exact ⟨by omega, H, hle, hs⟩
      · refine WC.skip ?_
        refine WX.arrive (g0) ⟨rfl, rfl, rfl,  trivial⟩ ?_
        exact ⟨by omega, H, hle, hs⟩
    · refine WO.guardNo rfl (decide_eq_false hg12) rfl rfl (WO.guardNo rfl (decide_eq_false hg12) rfl rfl (WO.step rfl (OR.pickF rfl (decide_eq_false hg12) rfl (WO.done (WX.seq (WC.no rfl rfl (WC.skip ?_)))))))
      refine WX.arrive (g0) ⟨rfl, rfl, rfl,  trivial⟩ ?_
      exact ⟨by omega, H, hle, hs⟩
  · clear hs hle
    obtain ⟨hg, H, hle, hs⟩ := hW
    refine WC.seq ?_
    refine WC.joinK (ι := Int) (fun s => [(0, .int .i64 g), (1, .int .i64 s), (2, .slice bl len cl)]) (fun s w => ((s ≤ 12 ∨ 65535 < s) ∧ ∃ H, Hp.le H0 H ∧ HS [] H0 w0 H [] w)) ?_ (fun s w hW => ?_)
    · refine WC.seq (WC.region (WO.step rfl (OR.move rfl (WO.step rfl (OR.gtr rfl rfl (WO.step rfl (OR.move rfl ?_)))))))
      refine WO.guardSplit (j := 2) rfl (fun hg12 => ?_) (fun hg12 => ?_)
      · refine WO.guardYes rfl (decide_eq_true hg12) rfl rfl (OR.move rfl (WO.guardYes rfl (decide_eq_true hg12) rfl rfl (OR.leq rfl rfl (WO.step rfl (OR.pickT rfl (decide_eq_true hg12) rfl (WO.done (WX.seq ?_)))))))
        refine WC.condD rfl (fun hg255 => ?_) (fun hg255 => ?_)
        · refine WC.region (WO.step rfl (OR.move rfl ?_))
          refine WO.step rfl (OR.rem rfl rfl (by omega) ?_)
          have hm : (0 : Int) ≤ s0.tmod 12 ∧ s0.tmod 12 < 12 := by
            rw [Int.tmod_eq_emod_of_nonneg (by omega)]
            omega
          refine WO.step rfl (OR.addI rfl rfl (by omega) (by omega) (WO.step rfl (OR.assign rfl (WO.done ?_))))
          refine WX.arrive (1 + s0.tmod 12) ⟨rfl, rfl, rfl,  trivial⟩ ?_
          exact ⟨by omega, H, hle, hs⟩
        · refine WC.skip ?_
          refine WX.arrive (s0) ⟨rfl, rfl, rfl,  trivial⟩ ?_
          exact ⟨by omega, H, hle, hs⟩
      · refine WO.guardNo rfl (decide_eq_false hg12) rfl rfl (WO.guardNo rfl (decide_eq_false hg12) rfl rfl (WO.step rfl (OR.pickF rfl (decide_eq_false hg12) rfl (WO.done (WX.seq (WC.no rfl rfl (WC.skip ?_)))))))
        refine WX.arrive (s0) ⟨rfl, rfl, rfl,  trivial⟩ ?_
        exact ⟨by omega, H, hle, hs⟩
    · clear hs hle
      obtain ⟨hs12, H, hle, hs⟩ := hW
      by_cases hall : 1 ≤ g ∧ g ≤ 255 ∧ 1 ≤ s ∧ s ≤ 65535
      · have hall' := hall
        obtain ⟨G, rfl⟩ := Int.eq_ofNat_of_zero_le (by omega : 0 ≤ g)
        obtain ⟨S, rfl⟩ := Int.eq_ofNat_of_zero_le (by omega : 0 ≤ s)
        refine WC.seq (WC.region (WO.step rfl (OR.move rfl (WO.step rfl (OR.move rfl ?_)))))
        refine WO.step rfl (OR.callX (Mx := []) hs body15 rfl rfl (new_ok (G : Int) (S : Int) _ _ hs.toSub) rfl rfl ?_)
        clear hs; rintro _ H M' w hs hle1 hnew ⟨_, hn⟩; replace hle := hle.trans hle1; (try replace hlb := hlb.trans hle1)
        rw [if_pos hall] at hn
        obtain ⟨b, hb0, rfl, rfl⟩ := hn
        refine WO.step rfl (OR.move rfl (WO.step rfl (OR.extract rfl rfl (WO.step rfl (OR.extract rfl rfl (WO.step rfl (OR.assign rfl ?_)))))))
        refine WO.step rfl (OR.assign rfl (WO.done (WX.seq (WC.seq (WC.region (WO.step rfl (OR.move rfl ?_)))))))
        refine WO.step rfl (OR.move rfl ?_)
        refine WO.step rfl (OR.callX (Mx := []) hs body38 rfl rfl (refNew_ok (G : Int) (S : Int) _ _ hs.toSub) rfl rfl ?_)
        clear hs; rintro _ H M' w hs hle1 hnew hn; replace hle := hle.trans hle1; (try replace hlb := hlb.trans hle1)
        rw [if_pos hall] at hn
        obtain ⟨rb, gi, gr, ci, cr, rfl, hrb, hgi, hgr, rfl, hrc, _⟩ := hn
        replace hs : HS [] H0 w0 H [(rb, refObj G S gi gr, true), (gi, .cells ci 4, true), (gr, .cells cr 35, true), (b, basisObj G S (.slice none 0 0), true)] w := hs
        replace hrc : RefC H G (fun _ => none) ci cr := hrc
        have hG1 : 1 ≤ G := by omega
        have hG2 : G ≤ 12 := by omega
        have hS1 : 1 ≤ S := by omega
        have hS2 : S ≤ 12 := by omega
        refine WO.step rfl (OR.move rfl (WO.step rfl (OR.extract rfl rfl (WO.step rfl (OR.extract rfl rfl (WO.step rfl (OR.assign rfl ?_)))))))
        refine WO.step rfl (OR.assign rfl (WO.done (WX.seq (WC.seq (WC.seq (WC.region (WO.step rfl ?_)))))))
        refine OR.move rfl (WO.step rfl (OR.move rfl (WO.step rfl (OR.neq rfl rfl (WO.step rfl (OR.move rfl ?_))))))
        refine WO.guardYes rfl rfl rfl rfl (OR.move rfl (WO.guardYes rfl rfl rfl rfl (OR.eqlNilP T29.und rfl rfl (WO.guardYes rfl rfl rfl rfl (OR.move rfl (WO.guardYes rfl rfl rfl rfl (OR.eqlNilP T70.und rfl rfl ?_)))))))
        refine WO.guardYes rfl rfl rfl rfl (OR.neqB T4.und rfl rfl (WO.step rfl (OR.pickF rfl rfl rfl (WO.done (WX.seq ?_)))))
        refine WC.no rfl rfl ?_
        refine WC.skip (WX.seq (WC.seq (WC.seq (WC.region (WO.step rfl (OR.move rfl (WO.step rfl ?_)))))))
        refine OR.eqlNilP T70.und rfl rfl (WO.done (WX.seq ?_))
        refine WC.no rfl rfl ?_
        have hinit : PI H0 w0 G S rb gi gr b w := by
          refine ⟨H, _, ci, cr, fun _ => none, hle, ?_, hrc, (fun i r h => by cases h), ?_, hs.front (i := 3) rfl⟩
          · rw [upto_zero]
            exact ⟨[], Sl.nil _ _, rfl, fun i h => by simp at h⟩
          · rw [upto_zero]
            exact ⟨(fun x hx => by cases hx), (fun x hx => by cases hx), List.Pairwise.nil, (fun x hx => by cases hx), fun x hx => by cases hx⟩
        clear hs hle hrc
        refine WC.skip (WX.seq (WC.seq (WC.seq (WC.region (WO.step rfl (OR.move rfl (WO.step rfl ?_)))))))
        refine OR.lenSlice T69.und rfl (WO.step rfl (OR.move rfl (WO.done (WX.seq (WC.block ?_)))))
        refine WC.loop (ι := Nat × Nat) (fun ix => [(7, ptr ix.2), (9, ptr rb), (81, .slice bl len cl), (82, .int .i64 (len : Int)), (83, .int .i64 (ix.1 : Int))]) (fun ix w => (ix.1 ≤ len ∧ PI H0 w0 G S rb gi gr ix.2 w)) (fun ix => len - ix.1) (0, b) ⟨rfl, rfl, rfl, rfl, rfl,  trivial⟩ ?_ (fun ix w hW => ?_)
        · exact ⟨by omega, hinit⟩
        clear hinit
        obtain ⟨i, b⟩ := ix
        obtain ⟨hi, H, rv, ci, cr, f, hle, hv, hrc, hL, hRd, hs⟩ := hW
        simp only at hi hs
        have hul : (upto f G).length ≤ G := hRd.len
        have hAr : ∀ x ∈ upto f G, RowGS G S x ∧ 0 ≤ lead x.1 := fun x hx => ⟨hRd.gs x hx, hRd.ld x hx⟩
        refine WC.seq (WC.region (WO.step rfl (OR.lss rfl rfl (WO.done (WX.seq (WC.seq ?_))))))
        refine WC.condD rfl (fun hlt => ?_) (fun hlt => ?_)
        · have hi' : i < len := by omega
          obtain ⟨xb, xo, rfl, hcx⟩ := hl.pos (by omega)
          obtain ⟨hac, hap, hab, hl1, hl2, hl3⟩ := hl.2 i hi'
          have hci := hcx i hi'
          generalize hAi : A i = a at hac hap hab hl1 hl2 hl3 hci
          generalize hVi : V i = va at hac hap hab hci
          obtain ⟨vc, vp, vb⟩ := va
          obtain ⟨aw, ⟨ac, ap⟩, ab⟩ := a
          simp only at hac hap hab hl1 hl2 hl3 hci
          obtain ⟨b1, c1, rfl⟩ := hac.form
          obtain ⟨b2, c2, rfl⟩ := hap.form
          obtain ⟨b3, c3, rfl⟩ := hab.form
          refine WC.skip (WX.seq (WC.seq (WC.block (WC.seq (WC.region (WO.step rfl (OR.move rfl ?_)))))))
          refine WO.step rfl (OR.idxN i T69.und T74 rfl rfl rfl hi' ?_)
          refine WO.step rfl (OR.loadN (cs := [.int .i64 aw, .slice b1 ac.length c1, .slice b2 ap.length c2, .slice b3 ab.length c3]) T74 rfl rfl rfl (fun j u hj => hs.cell (hcell.mono hle (hci j u hj))) ?_)
          refine WO.step rfl (OR.alloc hs T74 ?_)
          clear hs; intro g1 w hg1 hs
          refine WO.step rfl (OR.assign rfl (WO.stepN (OR.storeAll hs T74 rfl rfl rfl rfl rfl ?_)))
          clear hs; intro w hs
          refine WO.done (WX.seq (WC.seq (WC.seq (WC.region (WO.step rfl (OR.move rfl (WO.step rfl ?_)))))))
          refine OR.eql rfl rfl (WO.done (WX.seq ?_))
          refine WC.condD rfl (fun h60 => ?_) (fun h60 => ?_)
          · refine WC.exit (WX.seq_exit (WX.block_miss rfl (WX.seq_exit (WX.loop_exit (WX.block_hit (WX.seq (WC.seq ?_)))))))
            refine WC.region (WO.step rfl (OR.assign rfl (WO.done (WX.seq (WC.ret ?_)))))
            refine WX.ret1 rfl rfl ?_
            exact .mk hs rfl
          · have hm1 := min13 ac.length
            have hm2 := min13 ap.length
            have hcc1 := hac.cap
            have hcc2 := hap.cap
            refine WC.skip (WX.seq (WC.seq ?_))
            refine WC.drawP 18 [15, 16, 17] mixed hs (by kernel_rfl) ?_
            refine ⟨MF.eq _, by intro Mx H w hle hs; refine forVals_nil (ORg.plain (OR.fieldAddr FA74_1 rfl ?_)); exact ⟨_, [], Hp.le.refl _, hs, rfl, rfl⟩, ?_⟩
            refine ⟨MF.eq _, by intro Mx H w hle hs; refine forVals_eq rfl rfl rfl ?_; refine forVals_nil (ORg.plain (OR.fieldAddr FA35_0 rfl ?_)); exact ⟨_, [], Hp.le.refl _, hs, rfl, rfl⟩, ?_⟩
            refine ⟨MF.eq _, by intro Mx H w hle hs; refine forVals_eq rfl rfl rfl ?_; refine forVals_nil (ORg.plain (OR.load T23 rfl rfl (hs.right.cellM (i := 0) rfl rfl) ?_)); exact ⟨_, [], Hp.le.refl _, hs, rfl, rfl⟩, ?_⟩
            refine ⟨MF.eq _, by intro Mx H w hle hs; refine forVals_nil (ORg.plain (OR.fieldAddr FA74_1 rfl ?_)); exact ⟨_, [], Hp.le.refl _, hs, rfl, rfl⟩, ?_⟩
            refine ⟨MF.eq _, by intro Mx H w hle hs; refine forVals_eq rfl rfl rfl ?_; refine forVals_nil (ORg.plain (OR.fieldAddr FA35_0 rfl ?_)); exact ⟨_, [], Hp.le.refl _, hs, rfl, rfl⟩, ?_⟩
            refine ⟨MF.eq _, by intro Mx H w hle hs; refine forVals_eq rfl rfl rfl ?_; refine forVals_nil (ORg.plain (OR.load T23 rfl rfl (hs.right.cellM (i := 0) rfl rfl) ?_)); exact ⟨_, [], Hp.le.refl _, hs, rfl, rfl⟩, ?_⟩
            refine ⟨MF.eq _, by intro Mx H w hle hs; refine forVals_eq rfl rfl rfl ?_; refine forVals_nil (ORg.plain (OR.lenSlice T23.und rfl ?_)); exact ⟨_, [], Hp.le.refl _, hs, rfl, rfl⟩, ?_⟩
            refine ⟨MF.eq (.int .i64 ((min ac.length 13 : Nat) : Int)), ?_, ?_⟩
            · intro Mx H w hle2 hs; (try replace hle := hle.trans hle2); (try replace hlb := hlb.trans hle2); refine forVals_eq rfl rfl rfl ?_
              refine forVals_nil (ORg.plain (OR.minI rfl rfl ?_))
              exact ⟨_, [], Hp.le.refl _, hs, (by rw [hm1]), rfl⟩
            refine ⟨MF.eq (.slice b1 (min ac.length 13) c1), ?_, ?_⟩
            · intro Mx H w hle2 hs; (try replace hle := hle.trans hle2); (try replace hlb := hlb.trans hle2); refine forVals_eq rfl rfl rfl ?_; refine forVals_eq rfl rfl rfl ?_
              refine forVals_nil (ORg.plain (OR.sliceHiG (min ac.length 13) T23.und T5 rfl rfl rfl (by omega) ?_))
              exact ⟨_, [], Hp.le.refl _, hs, rfl, rfl⟩
            refine ⟨MF.eq _, by intro Mx H w hle hs; refine forVals_nil (ORg.plain (OR.fieldAddr FA74_1 rfl ?_)); exact ⟨_, [], Hp.le.refl _, hs, rfl, rfl⟩, ?_⟩
            refine ⟨MF.eq _, by intro Mx H w hle hs; refine forVals_eq rfl rfl rfl ?_; refine forVals_nil (ORg.plain (OR.fieldAddr FA35_1 rfl ?_)); exact ⟨_, [], Hp.le.refl _, hs, rfl, rfl⟩, ?_⟩
            refine ⟨MF.eq _, by intro Mx H w hle hs; refine forVals_eq rfl rfl rfl ?_; refine forVals_nil (ORg.plain (OR.load T23 rfl rfl (hs.right.cellM (i := 0) rfl rfl) ?_)); exact ⟨_, [], Hp.le.refl _, hs, rfl, rfl⟩, ?_⟩
            refine ⟨MF.eq _, by intro Mx H w hle hs; refine forVals_nil (ORg.plain (OR.fieldAddr FA74_1 rfl ?_)); exact ⟨_, [], Hp.le.refl _, hs, rfl, rfl⟩, ?_⟩
            refine ⟨MF.eq _, by intro Mx H w hle hs; refine forVals_eq rfl rfl rfl ?_; refine forVals_nil (ORg.plain (OR.fieldAddr FA35_1 rfl ?_)); exact ⟨_, [], Hp.le.refl _, hs, rfl, rfl⟩, ?_⟩
            refine ⟨MF.eq _, by intro Mx H w hle hs; refine forVals_eq rfl rfl rfl ?_; refine forVals_nil (ORg.plain (OR.load T23 rfl rfl (hs.right.cellM (i := 0) rfl rfl) ?_)); exact ⟨_, [], Hp.le.refl _, hs, rfl, rfl⟩, ?_⟩
            refine ⟨MF.eq _, by intro Mx H w hle hs; refine forVals_eq rfl rfl rfl ?_; refine forVals_nil (ORg.plain (OR.lenSlice T23.und rfl ?_)); exact ⟨_, [], Hp.le.refl _, hs, rfl, rfl⟩, ?_⟩
            refine ⟨MF.eq (.int .i64 ((min ap.length 13 : Nat) : Int)), ?_, ?_⟩
            · intro Mx H w hle2 hs; (try replace hle := hle.trans hle2); (try replace hlb := hlb.trans hle2); refine forVals_eq rfl rfl rfl ?_
              refine forVals_nil (ORg.plain (OR.minI rfl rfl ?_))
              exact ⟨_, [], Hp.le.refl _, hs, (by rw [hm2]), rfl⟩
            refine ⟨MF.eq (.slice b2 (min ap.length 13) c2), ?_, ?_⟩
            · intro Mx H w hle2 hs; (try replace hle := hle.trans hle2); (try replace hlb := hlb.trans hle2); refine forVals_eq rfl rfl rfl ?_; refine forVals_eq rfl rfl rfl ?_
              refine forVals_nil (ORg.plain (OR.sliceHiG (min ap.length 13) T23.und T5 rfl rfl rfl (by omega) ?_))
              exact ⟨_, [], Hp.le.refl _, hs, rfl, rfl⟩
            refine ⟨⟨fun H2 => ?_, ⟨fun H2 => ?_, ⟨fun H2 => ?_, trivial⟩⟩⟩, ?_⟩
            · refine forVals_eq rfl rfl rfl ?_; refine forVals_nil ?_; exact PureAt.lenSlice T23.und rfl
            · refine forVals_eq rfl rfl rfl ?_; refine forVals_nil ?_; exact PureAt.minI rfl rfl
            · refine forVals_eq rfl rfl rfl ?_; refine forVals_eq rfl rfl rfl ?_; refine forVals_nil ?_; exact PureAt.sliceHiG (min ap.length 13) T23.und T5 rfl rfl rfl (by omega)
            intro H w hle2; (try replace hle := hle.trans hle2); (try replace hlb := hlb.trans hle2)
            refine forAllVals_eq rfl ?_
            refine forAllVals_eq rfl ?_
            refine forAllVals_eq rfl ?_
            refine forAllVals_eq rfl ?_
            refine forAllVals_eq rfl ?_
            refine forAllVals_eq rfl ?_
            refine forAllVals_eq rfl ?_
            refine forAllVals_eq rfl ?_
            refine forAllVals_eq rfl ?_
            refine forAllVals_eq rfl ?_
            refine forAllVals_eq rfl ?_
            refine forAllVals_eq rfl ?_
            refine forAllVals_eq rfl ?_
            refine forAllVals_eq rfl ?_
            refine forAllVals_eq rfl ?_
            refine forAllVals_eq rfl ?_
            refine forAllVals_eq rfl ?_
            refine forAllVals_eq rfl ?_
            refine forAllVals_nil ?_; (try clear hs); intro hs
            refine WO.step rfl (OR.fieldAddr FA74_1 rfl (WO.step rfl (OR.fieldAddr FA35_0 rfl (WO.stepN (OR.store hs T23 rfl rfl rfl (Nat.le_of_ble_eq_true rfl) rfl ?_)))))
            clear hs; intro w hs
            refine WO.step rfl (OR.fieldAddr FA74_1 rfl (WO.step rfl (OR.fieldAddr FA35_1 rfl (WO.stepN (OR.store hs T23 rfl rfl rfl (Nat.le_of_ble_eq_true rfl) rfl ?_)))))
            clear hs; intro w hs
            obtain ⟨xc, hxc⟩ : ∃ xc, xc = ac.take (min ac.length 13) := ⟨_, rfl⟩
            obtain ⟨xp, hxp⟩ : ∃ xp, xp = ap.take (min ap.length 13) := ⟨_, rfl⟩
            have hlx : min ac.length 13 = xc.length := by rw [hxc, List.length_take]; omega
            have hlp : min ap.length 13 = xp.length := by rw [hxp, List.length_take]; omega
            have hB1 : Bytes H0 (.slice b1 xc.length c1) xc := by rw [← hlx, hxc]; exact hac.cut (by omega)
            have hB2 : Bytes H0 (.slice b2 xp.length c2) xp := by rw [← hlp, hxp]; exact hap.cut (by omega)
            have hx13 : xc.length ≤ 13 := by omega
            have hp13 : xp.length ≤ 13 := by omega
            replace hs : HS [] H0 w0 H [(g1, .cells #[.int .i64 aw, .slice b1 xc.length c1, .slice b2 xp.length c2, .slice b3 ab.length c3] 74, true), (b, basisObj G S rv, true), (rb, refObj G S gi gr, true), (gi, .cells ci 4, true), (gr, .cells cr 35, true)] w := by rw [← hlx, ← hlp]; exact hs
            clear hxc hxp hlx hlp hac hap hl1 hl2 hm1 hm2 hcc1 hcc2 hci hAi hVi
            replace hv := hv.mono hle2
            replace hrc := hrc.mono hle2
            refine WO.done (WX.seq (WC.seq (WC.seq (WC.region (WO.step rfl (OR.fieldAddr FA74_0 rfl (WO.step rfl ?_)))))))
            refine OR.load T3 rfl rfl (hs.cellM (i := 0) rfl rfl) (WO.done (WX.seq ?_))
            refine WC.joinK (ι := Nat) (fun b2 => [(7, ptr b2), (9, ptr rb), (81, .slice (some ⟨xb, xo, none⟩) len cl), (82, .int .i64 (len : Int)), (83, .int .i64 (i : Int))]) (fun b2 w => (PI H0 w0 G S rb gi gr b2 w)) ?_ (fun b2 w hW => ?_)
            · refine WC.block (WC.seq (WC.region (WO.step rfl (OR.eql rfl rfl (WO.step rfl (OR.assign rfl (WO.done ?_)))))))
              refine WX.seq ?_
              refine WC.condD rfl (fun hw0 => ?_) (fun hw0 => ?_)
              · refine WC.seq (WC.region (WO.step rfl (OR.fieldAddr FA74_1 rfl ?_)))
                refine WO.step rfl (OR.loadN (cs := [.slice b1 xc.length c1, .slice b2 xp.length c2]) T35 rfl rfl rfl (two_cells (o := 1) (hs.blk (i := 0) rfl) rfl rfl) ?_)
                obtain ⟨N, hN⟩ : ∃ N, N = w.heap.size := ⟨_, rfl⟩
                have hNw : w0.heap.size ≤ N := by rw [hN]; exact hs.size
                obtain ⟨K, hK⟩ : ∃ K, K = H := ⟨_, rfl⟩
                have hKN : ∀ q o, K q = some o → q < N := fun q o h => by rw [hN]; rw [hK] at h; exact lt_of_heap (hs.sub _ _ h)
                have hleK : Hp.le H0 K := by rw [hK]; exact hle
                have hvK : Rws K rv (upto f G) := by rw [hK]; exact hv
                have hrcK : RefC K G f ci cr := by rw [hK]; exact hrc
                have hlb := Hp.le.refl H
                refine WO.step rfl (OR.call hs body39 rfl rfl (lawOwn_ok (xc, xp) _ _ _ _ hs.toSub (hB1.mono hle) (hB2.mono hle) (by show xc.length ≤ 1000000; omega) (by show xp.length ≤ 1000000; omega)) ?_)
                clear hs; rintro _ H w hs hle1 ⟨nc, np, rfl, hnc, hnp⟩; replace hle := hle.trans hle1; (try replace hlb := hlb.trans hle1)
                rw [← hN] at hnc hnp
                obtain ⟨b5, c5, rfl⟩ := hnc.bytes.form
                obtain ⟨b6, c6, rfl⟩ := hnp.bytes.form
                obtain ⟨HO, hHO⟩ : ∃ X, X = H := ⟨_, rfl⟩
                rw [← hHO] at hnc hnp
                refine WO.step rfl (OR.alloc hs T35 ?_)
                clear hs; intro g2 w hg2 hs
                refine WO.stepN (OR.storeAll hs T35 rfl rfl rfl rfl rfl ?_)
                clear hs; intro w hs
                refine WO.done (WX.seq (WC.seq (WC.region (WO.step rfl (OR.move rfl (WO.step rfl (OR.loadAll T35 rfl rfl (hs.blk (i := 0) rfl) rfl ?_)))))))
                have hKHO : Hp.le K HO := by rw [hK, hHO]; exact hlb
                replace hs := hs.front (i := 2) rfl
                obtain ⟨N2, hN2⟩ : ∃ N, N = w.heap.size := ⟨_, rfl⟩
                have hON : ∀ q o, HO q = some o → q < N2 := fun q o h => by rw [hN2]; rw [hHO] at h; exact lt_of_heap (hs.sub _ _ h)
                refine WO.step rfl (OR.callX (Mx := [(b, _, true)]) hs body18 rfl rfl (insert_new (upto f G) (xc, xp) _ _ _ b G S _ _ hs.toSub (hs.blk (i := 0) rfl) (hs.none (i := 0) rfl) (hv.mono hlb) (hnc.bytes.mono (by rw [hHO]; exact Hp.le.refl _)) (hnp.bytes.mono (by rw [hHO]; exact Hp.le.refl _)) hAr (by omega) (by omega) (by omega) (by omega)) rfl rfl ?_)
                clear hs; rintro _ H M' w hs hle1 hnew ⟨rv2, rfl, hv2, rfl, hnu, hold⟩; replace hle := hle.trans hle1; (try replace hlb := hlb.trans hle1)
                have hHOH : Hp.le HO H := by rw [hHO]; exact hle1
                have hKH : Hp.le K H := hKHO.trans hHOH
                have hnu2 : (insR G S (upto f G) (xc, xp)).1 = true → Rws (Hp.frm N2 H) rv2 (insR G S (upto f G) (xc, xp)).2 := by rw [hN2]; exact hnu
                have hrv : Rws (K.join (Hp.frm N2 H)) rv2 (insR G S (upto f G) (xc, xp)).2 := by
                  cases hb : (insR G S (upto f G) (xc, xp)).1 with
                  | true => exact (hnu2 hb).mono (Hp.join_r hKH (Hp.frm_le _ _))
                  | false => rw [hold hb, insR_false hb]; exact hvK.mono (Hp.join_l _ _)
                obtain ⟨Ml, hs2, _, hlo⟩ := HS.loosen hs (hleK.trans (Hp.join_l _ _)) (Hp.join_le hKH (Hp.frm_le _ _)) hHOH hNw (fun q o h1 h2 => by
                  unfold Hp.join
                  cases hk : K q with
                  | some u => have := hKN q u hk; omega
                  | none =>
                    have h9 := hON q o h1
                    show Hp.frm N2 H q = none
                    unfold Hp.frm
                    rw [if_neg (show ¬ N2 ≤ q by omega)]) [(.slice b5 xc.length c5, xc), (.slice b6 xp.length c6, xp)] (fun p hp => by
                  rcases List.mem_cons.1 hp with e | hp
                  · subst e; exact hnc
                  · rw [List.mem_singleton.1 hp]; exact hnp)
                have hll1 := hlo (.slice b5 xc.length c5, xc) (by simp)
                have hll2 := hlo (.slice b6 xp.length c6, xp) (by simp)
                clear hs hlo hle hlb
                have hs := hs2
                clear hs2
                obtain ⟨KX, hKX⟩ : ∃ X, X = K.join (Hp.frm N2 H) := ⟨_, rfl⟩
                rw [← hKX] at hs hrv
                have hle : Hp.le H0 KX := by rw [hKX]; exact hleK.trans (Hp.join_l _ _)
                have hrcX : RefC KX G f ci cr := by rw [hKX]; exact hrcK.mono (Hp.join_l _ _)
                clear hKX
                refine WO.step rfl (OR.move rfl (WO.step rfl (OR.extract rfl rfl (WO.step rfl (OR.extract rfl rfl (WO.step rfl (OR.assign rfl ?_)))))))
                refine WO.step rfl (OR.assign rfl (WO.done (WX.seq (WC.seq (WC.region (WO.step rfl (OR.move rfl ?_)))))))
                refine WO.step rfl (OR.fieldAddr FA74_1 rfl ?_)
                refine WO.step rfl (OR.loadN (cs := [.slice b1 xc.length c1, .slice b2 xp.length c2]) T35 rfl rfl rfl (two_cells (o := 1) (hs.blk (i := 2) rfl) rfl rfl) ?_)
                replace hs := hs.front (i := 5) rfl
                replace hs := hs.front (i := 5) rfl
                refine WO.step rfl (OR.callX (Mx := [(gi, _, true), (gr, _, true)]) hs body40 rfl rfl (refInsert_ok (f := f) (xc, xp) _ _ _ _ hs.toSub (RefAt.of hs (i := 5) (j := 0) (k := 1) rfl rfl rfl (by omega) (by omega) (by omega)) hrcX hL hRd (by omega) (by omega) (hB1.mono hle) (hB2.mono hle)) rfl rfl ?_)
                clear hs; rintro _ H M' w hs hle1 hnew ⟨ci2, cr2, f2, rfl, hrc2, hL2, hup, rfl⟩; replace hle := hle.trans hle1; (try replace hlb := hlb.trans hle1)
                have hRd2 : Red G S (upto f2 G) := by rw [hup]; exact hRd.insAny _
                replace hrv := hrv.mono hle1
                rw [← hup] at hrv
                obtain ⟨XB, hXB⟩ : ∃ XB, XB = (insR G S (upto f G) (xc, xp)).1 := ⟨_, rfl⟩
                rw [← hXB]
                obtain ⟨XE, hXE⟩ : ∃ XE : Int, XE = if (xc, xp).1.length = G ∧ (xc, xp).2.length = S then 0 else 21 := ⟨_, rfl⟩
                rw [← hXE]
                replace hs : HS [] H0 w0 H ([(gi, .cells ci2 4, true), (gr, .cells cr2 35, true), (b, basisObj G S rv2, true), (g2, .cells #[.slice b5 xc.length c5, .slice b6 xp.length c6] 35, true), (g1, .cells #[.int .i64 aw, .slice b1 xc.length c1, .slice b2 xp.length c2, .slice b3 ab.length c3] 74, true), (rb, refObj G S gi gr, true)] ++ Ml) w := hs
                obtain ⟨HR, hHR⟩ : ∃ X, X = H := ⟨_, rfl⟩
                subst hHR
                refine WO.step rfl (OR.move rfl (WO.step rfl (OR.extract rfl rfl (WO.step rfl (OR.extract rfl rfl (WO.step rfl (OR.assign rfl ?_)))))))
                refine WO.step rfl (OR.assign rfl (WO.done (WX.seq (WC.seq (WC.seq (WC.region (WO.step rfl ?_)))))))
                refine OR.fieldAddr FA35_0 rfl (WO.step rfl (OR.load T23 rfl rfl (hs.cellM (i := 3) rfl rfl) (WO.step rfl (OR.lenSlice T23.und rfl (WO.step rfl (OR.move rfl (WO.done ?_)))))))
                refine WX.seq (WC.block ?_)
                refine WC.loop (ι := Nat) (fun k => [(7, ptr b), (9, ptr rb), (13, ptr g2), (14, .bool XB), (15, .int .i64 XE), (16, .bool XB), (17, .int .i64 XE), (81, .slice (some ⟨xb, xo, none⟩) len cl), (82, .int .i64 (len : Int)), (83, .int .i64 (i : Int)), (134, .int .i64 (xc.length : Int)), (135, .int .i64 (k : Int))]) (fun k w => (k ≤ xc.length ∧ ∃ Ml, HS [] H0 w0 HR ([(gi, .cells ci2 4, true), (gr, .cells cr2 35, true), (b, basisObj G S rv2, true), (g2, .cells #[.slice b5 xc.length c5, .slice b6 xp.length c6] 35, true), (g1, .cells #[.int .i64 aw, .slice b1 xc.length c1, .slice b2 xp.length c2, .slice b3 ab.length c3] 74, true), (rb, refObj G S gi gr, true)] ++ Ml) w ∧ LooseIn Ml (.slice b5 xc.length c5) xc.length ∧ LooseIn Ml (.slice b6 xp.length c6) xp.length)) (fun k => xc.length - k) 0 ⟨rfl, rfl, rfl, rfl, rfl, rfl, rfl, rfl, rfl, rfl, rfl, rfl,  trivial⟩ ?_ (fun k w hW => ?_)
                · exact ⟨by omega, Ml, hs, hll1, hll2⟩
                clear hs hll1 hll2
                obtain ⟨hk, Ml, hs, hll1, hll2⟩ := hW
                refine WC.seq (WC.region (WO.step rfl (OR.lss rfl rfl (WO.done (WX.seq (WC.seq ?_))))))
                refine WC.condD rfl (fun hlt2 => ?_) (fun hlt2 => ?_)
                · have hk' : k < xc.length := by omega
                  have hll1' := hll1
                  have hll2' := hll2
                  rcases hll1 with ⟨_, _, hn9⟩ | ⟨q, cq, capq, hvq, hmq, hbq⟩
                  · omega
                  cases hvq
                  obtain ⟨x9, hx9⟩ := hbq k hk'
                  have hsz9 : k < cq.size := by have := (List.getElem?_eq_some_iff.1 hx9).1; simpa using this
                  have hnd := hs.nd_right (F := [_, _, _, _, _, _])
                  refine WC.skip (WX.seq (WC.seq (WC.block (WC.seq (WC.region (WO.step rfl (OR.move rfl ?_)))))))
                  refine WO.step rfl (OR.assign rfl (WO.done (WX.seq (WC.region (WO.step rfl (OR.fieldAddr FA35_0 rfl (WO.step rfl ?_)))))))
                  refine OR.load T23 rfl rfl (hs.cellM (i := 3) rfl rfl) (WO.step rfl (OR.move rfl ?_))
                  refine WO.step rfl (OR.idx k T23.und T5 rfl rfl rfl hk' ?_)
                  refine WO.step rfl (OR.load T5 rfl rfl (by rw [Nat.zero_add]; exact hs.cellIn (F := [_, _, _, _, _, _]) hmq hx9) ?_)
                  refine WO.step rfl (OR.xorB _ 255 rfl rfl rfl rfl ?_)
                  refine WO.step rfl (OR.idx k T23.und T5 rfl rfl rfl hk' ?_)
                  refine WO.stepN (OR.storeIn (F := [_, _, _, _, _, _]) hs hmq T5 rfl rfl rfl (by omega) rfl ?_)
                  clear hs; intro w Ml1 Ml2 hMe hs
                  subst hMe
                  refine WO.done (WX.block (WX.seq (WC.region (WO.step rfl (OR.addI rfl rfl (by omega) (by omega) (WO.step rfl (OR.move rfl ?_)))))))
                  refine WO.done ?_
                  refine WX.again (k + 1) ⟨rfl, rfl, rfl, rfl, rfl, rfl, rfl, rfl, rfl, rfl, rfl, rfl,  trivial⟩ ?_ ?_
                  · exact ⟨hk', _, hs, LooseIn.upd hnd hll1', LooseIn.upd hnd hll2'⟩
                  · omega
                · have e : k = xc.length := by omega
                  subst e
                  refine WC.exit (WX.seq_exit (WX.loop_exit (WX.block_hit (WX.seq (WC.seq (WC.seq (WC.region ?_)))))))
                  refine WO.step rfl (OR.fieldAddr FA35_1 rfl (WO.step rfl (OR.load T23 rfl rfl (hs.cellM (i := 3) rfl rfl) (WO.step rfl (OR.lenSlice T23.und rfl (WO.step rfl (OR.move rfl ?_)))))))
                  refine WO.done (WX.seq (WC.block ?_))
                  refine WC.loop (ι := Nat) (fun k => [(7, ptr b), (9, ptr rb), (13, ptr g2), (14, .bool XB), (15, .int .i64 XE), (16, .bool XB), (17, .int .i64 XE), (81, .slice (some ⟨xb, xo, none⟩) len cl), (82, .int .i64 (len : Int)), (83, .int .i64 (i : Int)), (148, .int .i64 (xp.length : Int)), (149, .int .i64 (k : Int))]) (fun k w => (k ≤ xp.length ∧ ∃ Ml, HS [] H0 w0 HR ([(gi, .cells ci2 4, true), (gr, .cells cr2 35, true), (b, basisObj G S rv2, true), (g2, .cells #[.slice b5 xc.length c5, .slice b6 xp.length c6] 35, true), (g1, .cells #[.int .i64 aw, .slice b1 xc.length c1, .slice b2 xp.length c2, .slice b3 ab.length c3] 74, true), (rb, refObj G S gi gr, true)] ++ Ml) w ∧ LooseIn Ml (.slice b5 xc.length c5) xc.length ∧ LooseIn Ml (.slice b6 xp.length c6) xp.length)) (fun k => xp.length - k) 0 ⟨rfl, rfl, rfl, rfl, rfl, rfl, rfl, rfl, rfl, rfl, rfl, rfl,  trivial⟩ ?_ (fun k w hW => ?_)
                  · exact ⟨by omega, Ml, hs, hll1, hll2⟩
                  clear hs hll1 hll2
                  obtain ⟨hk, Ml, hs, hll1, hll2⟩ := hW
                  refine WC.seq (WC.region (WO.step rfl (OR.lss rfl rfl (WO.done (WX.seq (WC.seq ?_))))))
                  refine WC.condD rfl (fun hlt2 => ?_) (fun hlt2 => ?_)
                  · have hk' : k < xp.length := by omega
                    have hll1' := hll1
                    have hll2' := hll2
                    rcases hll2 with ⟨_, _, hn9⟩ | ⟨q, cq, capq, hvq, hmq, hbq⟩
                    · omega
                    cases hvq
                    obtain ⟨x9, hx9⟩ := hbq k hk'
                    have hsz9 : k < cq.size := by have := (List.getElem?_eq_some_iff.1 hx9).1; simpa using this
                    have hnd := hs.nd_right (F := [_, _, _, _, _, _])
                    refine WC.skip (WX.seq (WC.seq (WC.block (WC.seq (WC.region (WO.step rfl (OR.move rfl ?_)))))))
                    refine WO.step rfl (OR.assign rfl (WO.done (WX.seq (WC.region (WO.step rfl (OR.fieldAddr FA35_1 rfl (WO.step rfl ?_)))))))
                    refine OR.load T23 rfl rfl (hs.cellM (i := 3) rfl rfl) (WO.step rfl (OR.move rfl ?_))
                    refine WO.step rfl (OR.idx k T23.und T5 rfl rfl rfl hk' ?_)
                    refine WO.step rfl (OR.load T5 rfl rfl (by rw [Nat.zero_add]; exact hs.cellIn (F := [_, _, _, _, _, _]) hmq hx9) ?_)
                    refine WO.step rfl (OR.xorB _ 255 rfl rfl rfl rfl ?_)
                    refine WO.step rfl (OR.idx k T23.und T5 rfl rfl rfl hk' ?_)
                    refine WO.stepN (OR.storeIn (F := [_, _, _, _, _, _]) hs hmq T5 rfl rfl rfl (by omega) rfl ?_)
                    clear hs; intro w Ml1 Ml2 hMe hs
                    subst hMe
                    refine WO.done (WX.block (WX.seq (WC.region (WO.step rfl (OR.addI rfl rfl (by omega) (by omega) (WO.step rfl (OR.move rfl ?_)))))))
                    refine WO.done ?_
                    refine WX.again (k + 1) ⟨rfl, rfl, rfl, rfl, rfl, rfl, rfl, rfl, rfl, rfl, rfl, rfl,  trivial⟩ ?_ ?_
                    · exact ⟨hk', _, hs, LooseIn.upd hnd hll1', LooseIn.upd hnd hll2'⟩
                    · omega
                  · have e : k = xp.length := by omega
                    subst e
                    refine WC.exit (WX.seq_exit (WX.loop_exit (WX.block_hit (WX.seq (WC.seq (WC.region (WO.step rfl ?_)))))))
                    refine OR.move rfl (WO.step rfl (OR.move rfl (WO.step rfl (OR.neqB T4.und rfl rfl (WO.step rfl (OR.move rfl ?_))))))
                    refine WO.guardYes rfl (by simp) rfl rfl (OR.move rfl (WO.guardYes rfl (by simp) rfl rfl (OR.move rfl (WO.guardYes rfl (by simp) rfl rfl (OR.neq rfl rfl (WO.step rfl (OR.pickF rfl (by simp) rfl ?_)))))))
                    refine WO.done (WX.seq ?_)
                    refine WC.no rfl (decide_eq_false (fun h => h rfl : ¬ (XE ≠ XE))) ?_
                    refine WC.skip (WX.block ?_)
                    refine WX.arrive (b) ⟨rfl, rfl, rfl, rfl, rfl,  trivial⟩ ?_
                    exact ⟨HR, rv2, ci2, cr2, f2, hle, hrv, hrc2, hL2, hRd2, by
                      have h1 := hs.sublist (List.sublist_append_left _ _)
                      exact (((((h1.front (i := 5) rfl).front (i := 3) rfl).front (i := 0) rfl).drop 5).drop 4).perm (by
                        exact List.Perm.refl _)⟩
              · refine WC.seq (WC.region (WO.step rfl (OR.eql rfl rfl (WO.step rfl (OR.assign rfl (WO.done (WX.seq ?_)))))))
                refine WC.condD rfl (fun hw1 => ?_) (fun hw1 => ?_)
                · obtain ⟨x, e, he⟩ : ∃ x e, (if xc.length = G then Value.tuple #[.bool (hasR S (upto f G) xc), .int .i64 0] else Value.tuple #[.bool false, .int .i64 21]) = .tuple #[.bool x, .int .i64 e] := by split <;> exact ⟨_, _, rfl⟩
                  refine WC.seq (WC.region (WO.step rfl (OR.move rfl (WO.step rfl (OR.fieldAddr FA74_1 rfl (WO.step rfl (OR.fieldAddr FA35_0 rfl ?_)))))))
                  refine WO.step rfl (OR.load T23 rfl rfl (hs.cellM (i := 0) rfl rfl) ?_)
                  refine WO.step rfl (OR.call hs body17 rfl rfl (contains_ok (upto f G) _ _ xc b G S _ _ hs.toSub (hs.blk (i := 1) rfl) (hs.none (i := 1) rfl) hv (hB1.mono hle) hAr (by omega) (by omega) (by omega) (by omega)) ?_)
                  clear hs; rintro _ H w hs hle1 rfl; replace hle := hle.trans hle1; (try replace hlb := hlb.trans hle1)
                  rw [he]
                  replace hv := hv.mono hle1
                  replace hrc := hrc.mono hle1
                  refine WO.step rfl (OR.move rfl (WO.step rfl (OR.extract rfl rfl (WO.step rfl (OR.extract rfl rfl (WO.step rfl (OR.assign rfl ?_)))))))
                  refine WO.step rfl (OR.assign rfl (WO.done (WX.seq (WC.seq (WC.region (WO.step rfl (OR.move rfl ?_)))))))
                  refine WO.step rfl (OR.fieldAddr FA74_1 rfl (WO.step rfl (OR.fieldAddr FA35_0 rfl (WO.step rfl (OR.load T23 rfl rfl (hs.cellM (i := 0) rfl rfl) ?_)))))
                  refine WO.step rfl (OR.call hs body41 rfl rfl (refContains_ok (f := f) _ xc _ _ hs.toSub (RefAt.of hs (i := 2) (j := 3) (k := 4) rfl rfl rfl (by omega) (by omega) (by omega)) hrc hL (by omega) (by omega) (hB1.mono hle)) ?_)
                  clear hs; rintro _ H w hs hle1 rfl; replace hle := hle.trans hle1; (try replace hlb := hlb.trans hle1)
                  rw [he]
                  refine WO.step rfl (OR.move rfl (WO.step rfl (OR.extract rfl rfl (WO.step rfl (OR.extract rfl rfl (WO.step rfl (OR.assign rfl ?_)))))))
                  refine WO.step rfl (OR.assign rfl (WO.done (WX.seq (WC.seq (WC.region (WO.step rfl (OR.move rfl ?_)))))))
                  refine WO.step rfl (OR.move rfl (WO.step rfl (OR.neqB T4.und rfl rfl (WO.step rfl (OR.move rfl ?_)))))
                  refine WO.guardYes rfl (by simp) rfl rfl (OR.move rfl (WO.guardYes rfl (by simp) rfl rfl (OR.move rfl (WO.guardYes rfl (by simp) rfl rfl (OR.neq rfl rfl (WO.step rfl (OR.pickF rfl (by simp) rfl ?_)))))))
                  refine WO.done (WX.seq ?_)
                  refine WC.no rfl (decide_eq_false (fun h => h rfl : ¬ (e ≠ e))) ?_
                  refine WC.skip (WX.block ?_)
                  refine WX.arrive (b) ⟨rfl, rfl, rfl, rfl, rfl,  trivial⟩ ?_
                  exact ⟨H, rv, ci, cr, f, hle, hv.mono hle1, hrc.mono hle1, hL, hRd, hs.drop 0⟩
                · refine WC.seq (WC.region (WO.step rfl (OR.eql rfl rfl (WO.step rfl (OR.assign rfl (WO.done (WX.seq ?_)))))))
                  refine WC.condD rfl (fun hw2 => ?_) (fun hw2 => ?_)
                  · refine WC.seq (WC.region (WO.step rfl (OR.move rfl (WO.step rfl (OR.fieldAddr FA74_2 rfl (WO.step rfl (OR.load T23 rfl rfl (hs.cellM (i := 0) rfl rfl) ?_)))))))
                    refine WO.step rfl (OR.call hs body24 rfl rfl (combineB_ok (upto f G) _ _ ab b G S _ _ hs.toSub (hs.blk (i := 1) rfl) (hs.none (i := 1) rfl) hv (hab.mono hle) hRd.gs (by omega) (by omega) (by omega) (by omega)) ?_)
                    clear hs; rintro _ H w hs hle1 ⟨_, rfl, hr1⟩; replace hle := hle.trans hle1; (try replace hlb := hlb.trans hle1)
                    replace hv := hv.mono hle1
                    replace hrc := hrc.mono hle1
                    obtain ⟨er, her⟩ : ∃ er : Int, er = if ab.length = (upto f G).length then 0 else 21 := ⟨_, rfl⟩
                    obtain ⟨rr, hrr⟩ : ∃ rr : RowD, rr = if ab.length = (upto f G).length then combR G S (upto f G) ab else ([], []) := ⟨_, rfl⟩
                    rw [← hrr] at hr1
                    rw [← her]
                    obtain ⟨d1, d2, rfl, hd1, hd2⟩ := hr1
                    obtain ⟨b5, c5, rfl⟩ := hd1.form
                    obtain ⟨b6, c6, rfl⟩ := hd2.form
                    refine WO.step rfl (OR.move rfl (WO.step rfl (OR.extract rfl rfl (WO.step rfl (OR.extract rfl rfl (WO.step rfl (OR.alloc hs T35 ?_)))))))
                    clear hs; intro g3 w hg3 hs
                    refine WO.stepN (OR.storeAll hs T35 rfl rfl rfl rfl rfl ?_)
                    clear hs; intro w hs
                    refine WO.step rfl (OR.assign rfl (WO.done (WX.seq (WC.seq (WC.region (WO.step rfl (OR.move rfl ?_)))))))
                    refine WO.step rfl (OR.fieldAddr FA74_2 rfl (WO.step rfl (OR.load T23 rfl rfl (hs.cellM (i := 1) rfl rfl) ?_)))
                    have hlb := Hp.le.refl H
                    refine WO.step rfl (OR.call hs body42 rfl rfl (refCombine_ok (f := f) _ ab _ _ hs.toSub (RefAt.of hs (i := 3) (j := 4) (k := 5) rfl rfl rfl (by omega) (by omega) (by omega)) hrc hL (by omega) (by omega) (hab.mono hle)) ?_)
                    clear hs; rintro _ H w hs hle1 ⟨_, rfl, hr2⟩; replace hle := hle.trans hle1; (try replace hlb := hlb.trans hle1)
                    replace hv := hv.mono hle1
                    replace hrc := hrc.mono hle1
                    rw [← hrr] at hr2
                    rw [← her]
                    obtain ⟨d3, d4, rfl, hd3, hd4⟩ := hr2
                    obtain ⟨b7, c7, rfl⟩ := hd3.form
                    obtain ⟨b8, c8, rfl⟩ := hd4.form
                    refine WO.step rfl (OR.move rfl (WO.step rfl (OR.extract rfl rfl (WO.step rfl (OR.extract rfl rfl (WO.step rfl (OR.alloc hs T35 ?_)))))))
                    clear hs; intro g4 w hg4 hs
                    refine WO.stepN (OR.storeAll hs T35 rfl rfl rfl rfl rfl ?_)
                    clear hs; intro w hs
                    refine WO.step rfl (OR.assign rfl (WO.done (WX.seq (WC.seq (WC.region (WO.step rfl (OR.move rfl ?_)))))))
                    refine WO.step rfl (OR.move rfl (WO.step rfl (OR.neq rfl rfl (WO.step rfl (OR.move rfl ?_)))))
                    refine WO.guardYes rfl (decide_eq_false (fun h => h rfl)) rfl rfl (OR.fieldAddr FA35_0 rfl (WO.guardYes rfl (decide_eq_false (fun h => h rfl)) rfl rfl (OR.load T23 rfl rfl (hs.cellM (i := 1) rfl rfl) (WO.guardYes rfl (decide_eq_false (fun h => h rfl)) rfl rfl (OR.fieldAddr FA35_0 rfl (WO.guardYes rfl (decide_eq_false (fun h => h rfl)) rfl rfl (OR.load T23 rfl rfl (hs.cellM (i := 0) rfl rfl) ?_)))))))
                    refine WO.guardYes rfl (decide_eq_false (fun h => h rfl)) rfl rfl (OR.call hs body21 rfl rfl (equal_ok _ _ rr.1 rr.1 _ _ hs.toSub (hd1.mono hlb) hd3) ?_)
                    clear hs; rintro _ H w hs hle1 rfl; replace hle := hle.trans hle1; (try replace hlb := hlb.trans hle1)
                    replace hd4 := hd4.mono hle1
                    replace hv := hv.mono hle1
                    replace hrc := hrc.mono hle1
                    refine WO.guardYes rfl (decide_eq_false (fun h => h rfl)) rfl rfl (OR.not rfl (WO.step rfl (OR.pickF rfl (decide_eq_false (fun h => h rfl)) rfl (WO.step rfl (OR.move rfl ?_)))))
                    refine WO.guardYes rfl (by simp) rfl rfl (OR.fieldAddr FA35_1 rfl (WO.guardYes rfl (by simp) rfl rfl (OR.load T23 rfl rfl (hs.cellM (i := 1) rfl rfl) (WO.guardYes rfl (by simp) rfl rfl (OR.fieldAddr FA35_1 rfl (WO.guardYes rfl (by simp) rfl rfl (OR.load T23 rfl rfl (hs.cellM (i := 0) rfl rfl) ?_)))))))
                    refine WO.guardYes rfl (by simp) rfl rfl (OR.call hs body21 rfl rfl (equal_ok _ _ rr.2 rr.2 _ _ hs.toSub (hd2.mono hlb) hd4) ?_)
                    clear hs; rintro _ H w hs hle1 rfl; replace hle := hle.trans hle1; (try replace hlb := hlb.trans hle1)
                    refine WO.guardYes rfl (by simp) rfl rfl (OR.not rfl (WO.step rfl (OR.pickF rfl (by simp) rfl (WO.done (WX.seq ?_)))))
                    refine WC.no rfl (by simp) ?_
                    refine WC.skip (WX.block ?_)
                    refine WX.arrive (b) ⟨rfl, rfl, rfl, rfl, rfl,  trivial⟩ ?_
                    exact ⟨H, rv, ci, cr, f, hle, hv.mono hle1, hrc.mono hle1, hL, hRd, ((hs.drop 0).drop 0).drop 0⟩
                  · refine WC.seq (WC.region (WO.step rfl (OR.eql rfl rfl (WO.step rfl (OR.assign rfl (WO.done (WX.seq ?_)))))))
                    refine WC.condD rfl (fun hw3 => ?_) (fun hw3 => ?_)
                    · obtain ⟨N, hN⟩ : ∃ N, N = w.heap.size := ⟨_, rfl⟩
                      have hNw : w0.heap.size ≤ N := by rw [hN]; exact hs.size
                      obtain ⟨K, hK⟩ : ∃ K, K = H := ⟨_, rfl⟩
                      have hKN : ∀ q o, K q = some o → q < N := fun q o h => by rw [hN]; rw [hK] at h; exact lt_of_heap (hs.sub _ _ h)
                      have hleK : Hp.le H0 K := by rw [hK]; exact hle
                      have hvK : Rws K rv (upto f G) := by rw [hK]; exact hv
                      have hrcK : RefC K G f ci cr := by rw [hK]; exact hrc
                      have hlb : Hp.le K H := by rw [hK]; exact Hp.le.refl _
                      refine WC.seq (WC.region (WO.step rfl (OR.move rfl ?_)))
                      refine WO.step rfl (OR.callX (Mx := []) hs body23 rfl rfl (solve_new (upto f G) _ b G S _ _ hs.toSub (hs.blk (i := 1) rfl) (hs.none (i := 1) rfl) hv hRd.gs (by omega) (by omega) (by omega) (by omega) (by omega)) rfl rfl ?_)
                      clear hs; rintro _ H M' w hs hle1 hnew ⟨r1, rfl, hlo, hhi⟩; replace hle := hle.trans hle1; (try replace hlb := hlb.trans hle1)
                      by_cases hfull : (upto f G).length < G
                      · obtain ⟨rfl, rfl⟩ := hlo hfull
                        refine WO.step rfl (OR.move rfl (WO.step rfl (OR.extract rfl rfl (WO.step rfl (OR.extract rfl rfl (WO.step rfl (OR.assign rfl ?_)))))))
                        refine WO.step rfl (OR.assign rfl (WO.done (WX.seq (WC.seq (WC.region (WO.step rfl (OR.move rfl ?_)))))))
                        refine WO.step rfl (OR.call hs body43 rfl rfl (refSolveK (f := f) K _ _ hs.toSub (RefAt.of hs (i := 2) (j := 3) (k := 4) rfl rfl rfl (by omega) (by omega) (by omega)) hrcK (by omega)) ?_)
                        clear hs; rintro _ H w hs hle1 ⟨r2, cs2, rfl, hr2, _⟩; replace hle := hle.trans hle1; (try replace hlb := hlb.trans hle1)
                        rw [if_pos hfull] at hr2 ⊢
                        obtain ⟨b9, c9, rfl⟩ := hr2.form
                        refine WO.step rfl (OR.move rfl (WO.step rfl (OR.extract rfl rfl (WO.step rfl (OR.extract rfl rfl (WO.step rfl (OR.assign rfl ?_)))))))
                        refine WO.step rfl (OR.assign rfl (WO.done (WX.seq (WC.seq (WC.seq (WC.region (WO.step rfl ?_)))))))
                        refine OR.move rfl (WO.step rfl (OR.move rfl (WO.step rfl (OR.neq rfl rfl (WO.step rfl (OR.move rfl ?_))))))
                        refine WO.guardYes rfl (decide_eq_false (fun h => h rfl)) rfl rfl (OR.move rfl (WO.guardYes rfl (decide_eq_false (fun h => h rfl)) rfl rfl (OR.lenSlice T22.und rfl (WO.guardYes rfl (decide_eq_false (fun h => h rfl)) rfl rfl (OR.move rfl (WO.guardYes rfl (decide_eq_false (fun h => h rfl)) rfl rfl (OR.lenSlice T22.und rfl ?_)))))))
                        refine WO.guardYes rfl (decide_eq_false (fun h => h rfl)) rfl rfl (OR.neq rfl rfl (WO.step rfl (OR.pickF rfl (decide_eq_false (fun h => h rfl)) rfl (WO.done (WX.seq ?_)))))
                        refine WC.no rfl (decide_eq_false (fun h => h rfl : ¬ (((0 : Nat) : Int) ≠ ((([] : List (List UInt8)).length : Nat) : Int)))) ?_
                        refine WC.skip (WX.seq (WC.seq (WC.region (WO.step rfl (OR.move rfl (WO.step rfl (OR.lenSlice T22.und rfl ?_)))))))
                        refine WO.step rfl (OR.move rfl (WO.done (WX.seq (WC.block ?_))))
                        refine WC.loop (ι := Nat) (fun k => [(7, ptr b), (9, ptr rb), (81, .slice (some ⟨xb, xo, none⟩) len cl), (82, .int .i64 (len : Int)), (83, .int .i64 (i : Int)), (252, .int .i64 ((0 : Nat) : Int)), (253, .int .i64 0)]) (fun k w => (HS [] H0 w0 H [(g1, .cells #[.int .i64 aw, .slice b1 xc.length c1, .slice b2 xp.length c2, .slice b3 ab.length c3] 74, true), (b, basisObj G S rv, true), (rb, refObj G S gi gr, true), (gi, .cells ci 4, true), (gr, .cells cr 35, true)] w)) (fun k => 0) 0 ⟨rfl, rfl, rfl, rfl, rfl, rfl, rfl,  trivial⟩ ?_ (fun k w hW => ?_)
                        · exact hs
                        clear hs
                        have hs := hW
                        refine WC.seq (WC.region (WO.step rfl (OR.lss rfl rfl (WO.done (WX.seq (WC.seq ?_))))))
                        refine WC.no rfl (decide_eq_false (by omega : ¬ ((0 : Int) < ((0 : Nat) : Int)))) ?_
                        refine WC.exit (WX.seq_exit (WX.loop_exit (WX.block_hit (WX.block ?_))))
                        refine WX.arrive (b) ⟨rfl, rfl, rfl, rfl, rfl,  trivial⟩ ?_
                        exact ⟨H, rv, ci, cr, f, hle, hvK.mono hlb, hrcK.mono hlb, hL, hRd, hs.drop 0⟩
                      · obtain ⟨cs1, ho, hblo, hpw⟩ := hhi hfull
                        have hGn : (upto f G).length = G := by omega
                        rw [← hN] at ho hblo
                        have hl9 : ((upto f G).map (fun x : RowD => x.2)).length = (upto f G).length := List.length_map ..
                        have hpay : ∀ j (hj : j < ((upto f G).map (fun x : RowD => x.2)).length), (((upto f G).map (fun x : RowD => x.2))[j]).length = S := fun j hj => by
                          simp only [List.getElem_map]
                          exact (hRd.gs _ (List.getElem_mem _)).2
                        obtain ⟨hcl1, ⟨rfl, _, h09⟩ | ⟨gh, ch, caph, rfl, rfl, hnc, hcc, hxx, hgh⟩⟩ := ho
                        · omega
                        obtain ⟨N2, hN2⟩ : ∃ N, N = w.heap.size := ⟨_, rfl⟩
                        have hON : ∀ q o, H q = some o → q < N2 := fun q o h => by rw [hN2]; exact lt_of_heap (hs.sub _ _ h)
                        have hqb : ∀ j (hj : j < cs1.length), blkOf cs1[j] < N2 ∧ N ≤ blkOf cs1[j] := fun j hj => by
                          have hj2 : j < ((upto f G).map (fun x : RowD => x.2)).length := by omega
                          obtain ⟨h1, _, _, _, h2, _⟩ := OwnH.blk (hblo.2 j hj2 hj) (by rw [hpay j hj2]; omega)
                          exact ⟨hON _ _ h2, h1⟩
                        have hne : ∀ j k (hj : j < cs1.length) (hk : k < cs1.length), k < j → blkOf cs1[j] ≠ blkOf cs1[k] := fun j k hj hk hjk => by
                          have h1 := List.pairwise_iff_getElem.1 hpw k j (by simpa using hk) (by simpa using hj) hjk
                          simp only [List.getElem_map] at h1
                          omega
                        refine WO.step rfl (OR.move rfl (WO.step rfl (OR.extract rfl rfl (WO.step rfl (OR.extract rfl rfl (WO.step rfl (OR.assign rfl ?_)))))))
                        refine WO.step rfl (OR.assign rfl (WO.done (WX.seq (WC.seq (WC.region (WO.step rfl (OR.move rfl ?_)))))))
                        refine WO.step rfl (OR.call hs body43 rfl rfl (refSolveK (f := f) K _ _ hs.toSub (RefAt.of hs (i := 3) (j := 4) (k := 5) rfl rfl rfl (by omega) (by omega) (by omega)) hrcK (by omega)) ?_)
                        clear hs; rintro _ H w hs hle1 ⟨r2, cs2, rfl, hr2, hbl2⟩; replace hle := hle.trans hle1; (try replace hlb := hlb.trans hle1)
                        rw [if_neg hfull] at hr2 hbl2
                        rw [if_neg hfull]
                        have hr3 : Sl (Hp.frm N2 H) 1 r2 ((upto f G).map (fun x : RowD => x.2)).length cs2 := by rw [hN2]; exact hr2
                        clear hr2
                        have hr2 := hr3
                        clear hr3
                        obtain ⟨HN, hHN⟩ : ∃ X, X = Hp.frm N2 H := ⟨_, rfl⟩
                        rw [← hHN] at hr2
                        have hHNH : Hp.le HN H := by rw [hHN]; exact Hp.frm_le _ _
                        have hHNq : ∀ q, q < N2 → HN q = none := fun q hq => by rw [hHN]; unfold Hp.frm; rw [if_neg (by omega)]
                        obtain ⟨b9, c9, rfl⟩ := hr2.form
                        replace hblo := hblo.mono hle1
                        generalize hXX : (upto f G).map (fun x : RowD => x.2) = X at hblo hr2 hbl2 hl9 hpay
                        refine WO.step rfl (OR.move rfl (WO.step rfl (OR.extract rfl rfl (WO.step rfl (OR.extract rfl rfl (WO.step rfl (OR.assign rfl ?_)))))))
                        refine WO.step rfl (OR.assign rfl (WO.done (WX.seq (WC.seq (WC.seq (WC.region (WO.step rfl ?_)))))))
                        refine OR.move rfl (WO.step rfl (OR.move rfl (WO.step rfl (OR.neq rfl rfl (WO.step rfl (OR.move rfl ?_))))))
                        refine WO.guardYes rfl (decide_eq_false (fun h => h rfl)) rfl rfl (OR.move rfl (WO.guardYes rfl (decide_eq_false (fun h => h rfl)) rfl rfl (OR.lenSlice T22.und rfl (WO.guardYes rfl (decide_eq_false (fun h => h rfl)) rfl rfl (OR.move rfl (WO.guardYes rfl (decide_eq_false (fun h => h rfl)) rfl rfl (OR.lenSlice T22.und rfl ?_)))))))
                        refine WO.guardYes rfl (decide_eq_false (fun h => h rfl)) rfl rfl (OR.neq rfl rfl (WO.step rfl (OR.pickF rfl (decide_eq_false (fun h => h rfl)) rfl (WO.done (WX.seq ?_)))))
                        refine WC.no rfl (decide_eq_false (by rw [hl9]; exact fun h => h rfl : ¬ (((upto f G).length : Int) ≠ (X.length : Int)))) ?_
                        refine WC.skip (WX.seq (WC.seq (WC.region (WO.step rfl (OR.move rfl (WO.step rfl (OR.lenSlice T22.und rfl ?_)))))))
                        refine WO.step rfl (OR.move rfl (WO.done (WX.seq (WC.block ?_))))
                        have hXG : X.length = G := by omega
                        rw [hGn] at hnc hxx hcl1
                        rw [hGn]
                        replace hs : HS [] H0 w0 H [(gh, .cells ch 23, true), (g1, .cells #[.int .i64 aw, .slice b1 xc.length c1, .slice b2 xp.length c2, .slice b3 ab.length c3] 74, true), (b, basisObj G S rv, true), (rb, refObj G S gi gr, true), (gi, .cells ci 4, true), (gr, .cells cr 35, true)] w := hs
                        refine WC.loop (ι := Nat) (fun k => [(7, ptr b), (9, ptr rb), (28, .slice (some ⟨gh, 0, none⟩) G caph), (30, .slice b9 X.length c9), (81, .slice (some ⟨xb, xo, none⟩) len cl), (82, .int .i64 (len : Int)), (83, .int .i64 (i : Int)), (252, .int .i64 (G : Int)), (253, .int .i64 (k : Int))]) (fun k w => (k ≤ G ∧ ∃ Hk, Hp.le H0 Hk ∧ Hp.le K Hk ∧ Hp.le HN Hk ∧ (∀ j, k ≤ j → ∀ (h1 : j < X.length) (h2 : j < cs1.length), BytesO Hk N cs1[j] X[j]) ∧ HS [] H0 w0 Hk [(gh, .cells ch 23, true), (g1, .cells #[.int .i64 aw, .slice b1 xc.length c1, .slice b2 xp.length c2, .slice b3 ab.length c3] 74, true), (b, basisObj G S rv, true), (rb, refObj G S gi gr, true), (gi, .cells ci 4, true), (gr, .cells cr 35, true)] w)) (fun k => G - k) 0 ⟨rfl, rfl, rfl, rfl, rfl, rfl, rfl, rfl, rfl,  trivial⟩ ?_ (fun k w hW => ?_)
                        · exact ⟨by omega, H, hle, hlb, hHNH, fun j _ h1 h2 => hblo.2 j h1 h2, hs⟩
                        clear hs hle hlb
                        obtain ⟨hk, Hk, hle, hKk, hNk, hbk, hs⟩ := hW
                        refine WC.seq (WC.region (WO.step rfl (OR.lss rfl rfl (WO.done (WX.seq (WC.seq ?_))))))
                        refine WC.condD rfl (fun hlt2 => ?_) (fun hlt2 => ?_)
                        · have hk' : k < G := by omega
                          have hkX : k < X.length := by omega
                          have hkc : k < cs1.length := by omega
                          have hbo := hbk k (Nat.le_refl _) hkX hkc
                          obtain ⟨hqN, cq, capq, hvq, hHq, hnq, hcq, hxq⟩ := OwnH.blk hbo (by rw [hpay]; omega)
                          have hq1 := hqb k hkc
                          generalize hqq : blkOf cs1[k] = q at hqN hvq hHq hq1
                          have hcell1 : ch.toList[k]? = some cs1[k] := by
                            have h1 : (ch.toList.take (G * 1))[k]? = cs1[k]? := by rw [hxx]
                            rw [List.getElem?_take, if_pos (by omega), List.getElem?_eq_getElem hkc] at h1
                            exact h1
                          rw [hvq] at hcell1
                          have hby := hbo.bytes
                          rw [hvq] at hby
                          obtain ⟨yb, yo, rfl, hcy⟩ := hr2.pos (by omega)
                          have hkc2 : k < cs2.length := by have := hbl2.1; omega
                          have hcy2 := hcy k cs2[k] (List.getElem?_eq_getElem hkc2)
                          have hby2 := hbl2.2 k hkX hkc2
                          obtain ⟨_, _, hxe, hcx0⟩ := hby.pos (by rw [hpay]; omega)
                          have hXk0 : 0 < X[k].length := by rw [hpay]; omega
                          have hcx1 := hcx0 0 hXk0
                          cases hxe
                          obtain ⟨HQ, hHQ⟩ : ∃ X, X = Hk := ⟨_, rfl⟩
                          subst hHQ
                          have hlb := Hp.le.refl HQ
                          refine WC.skip (WX.seq (WC.seq (WC.block (WC.seq (WC.region (WO.step rfl (OR.move rfl ?_)))))))
                          refine WO.step rfl (OR.assign rfl (WO.done (WX.seq (WC.seq (WC.seq ?_)))))
                          refine WC.draw 10 mixed hs (by kernel_rfl) ?_
                          refine ⟨MF.eq _, by intro Mx H w hle hs; refine forVals_nil (ORg.plain (OR.move rfl ?_)); exact ⟨_, [], Hp.le.refl _, hs, rfl, rfl⟩, ?_⟩
                          refine ⟨MF.eq _, by intro Mx H w hle hs; refine forVals_nil (ORg.plain (OR.move rfl ?_)); exact ⟨_, [], Hp.le.refl _, hs, rfl, rfl⟩, ?_⟩
                          refine ⟨MF.eq (.pointer (some ⟨gh, 0 + k, none⟩)), ?_, ?_⟩
                          · intro Mx H w hle2 hs; (try replace hle := hle.trans hle2); (try replace hlb := hlb.trans hle2); refine forVals_eq rfl rfl rfl ?_; refine forVals_eq rfl rfl rfl ?_
                            refine forVals_nil (ORg.plain (OR.idx k T22.und T23 rfl rfl rfl hk' ?_))
                            exact ⟨_, [], Hp.le.refl _, hs, rfl, rfl⟩
                          refine ⟨MF.eq (.slice (some ⟨q, 0, none⟩) X[k].length capq), ?_, ?_⟩
                          · intro Mx H w hle2 hs; (try replace hle := hle.trans hle2); (try replace hlb := hlb.trans hle2); refine forVals_eq rfl rfl rfl ?_
                            refine forVals_nil (ORg.plain (OR.load T23 rfl rfl (cells_at (j := 0) (hs.right.blk (i := 0) rfl) (by rw [Nat.zero_add]; exact hcell1)) ?_))
                            exact ⟨_, [], Hp.le.refl _, hs, rfl, rfl⟩
                          refine ⟨MF.eq _, by intro Mx H w hle hs; refine forVals_nil (ORg.plain (OR.move rfl ?_)); exact ⟨_, [], Hp.le.refl _, hs, rfl, rfl⟩, ?_⟩
                          refine ⟨MF.eq _, by intro Mx H w hle hs; refine forVals_nil (ORg.plain (OR.move rfl ?_)); exact ⟨_, [], Hp.le.refl _, hs, rfl, rfl⟩, ?_⟩
                          refine ⟨MF.eq (.pointer (some ⟨yb, yo + k, none⟩)), ?_, ?_⟩
                          · intro Mx H w hle2 hs; (try replace hle := hle.trans hle2); (try replace hlb := hlb.trans hle2); refine forVals_eq rfl rfl rfl ?_; refine forVals_eq rfl rfl rfl ?_
                            refine forVals_nil (ORg.plain (OR.idx k T22.und T23 rfl rfl rfl hkX ?_))
                            exact ⟨_, [], Hp.le.refl _, hs, rfl, rfl⟩
                          refine ⟨MF.eq cs2[k], ?_, ?_⟩
                          · intro Mx H w hle2 hs; (try replace hle := hle.trans hle2); (try replace hlb := hlb.trans hle2); refine forVals_eq rfl rfl rfl ?_
                            refine forVals_nil (ORg.plain (OR.load T23 rfl rfl (hs.cell (hcell.mono hlb (hcell.mono hNk hcy2))) ?_))
                            exact ⟨_, [], Hp.le.refl _, hs, rfl, rfl⟩
                          refine ⟨MF.eq (.bool true), ?_, ?_⟩
                          · intro Mx H w hle2 hs; (try replace hle := hle.trans hle2); (try replace hlb := hlb.trans hle2); refine forVals_eq rfl rfl rfl ?_; refine forVals_eq rfl rfl rfl ?_
                            refine forVals_nil (ORg.plain (OR.call hs body21 rfl rfl (equal_ok _ _ X[k] X[k] _ _ hs.toSub (hby.mono hlb) ((hby2.mono hKk).mono hlb)) ?_))
                            clear hs; rintro _ H w hs hle1 rfl
                            exact ⟨_, [], hle1, hs, (by rw [decide_eq_true rfl]), rfl⟩
                          refine ⟨MF.eq _, by intro Mx H w hle hs; refine forVals_eq rfl rfl rfl ?_; refine forVals_nil (ORg.plain (OR.not rfl ?_)); exact ⟨_, [], Hp.le.refl _, hs, rfl, rfl⟩, ?_⟩
                          intro H w hle2; (try replace hle := hle.trans hle2); (try replace hlb := hlb.trans hle2)
                          refine forAllVals_eq rfl ?_
                          refine forAllVals_eq rfl ?_
                          refine forAllVals_eq rfl ?_
                          refine forAllVals_eq rfl ?_
                          refine forAllVals_eq rfl ?_
                          refine forAllVals_eq rfl ?_
                          refine forAllVals_eq rfl ?_
                          refine forAllVals_eq rfl ?_
                          refine forAllVals_eq rfl ?_
                          refine forAllVals_eq rfl ?_
                          refine forAllVals_nil ?_; (try clear hs); intro hs
                          refine WO.done (WX.seq ?_)
                          refine WC.no rfl rfl ?_
                          refine WC.skip (WX.seq (WC.region (WO.step rfl (OR.move rfl (WO.step rfl (OR.move rfl ?_))))))
                          refine WO.step rfl (OR.idx k T22.und T23 rfl rfl rfl hk' ?_)
                          refine WO.step rfl (OR.load T23 rfl rfl (cells_at (j := 0) (hs.blk (i := 0) rfl) (by rw [Nat.zero_add]; exact hcell1)) ?_)
                          refine WO.step rfl (OR.idx 0 T23.und T5 rfl rfl rfl hXk0 ?_)
                          refine WO.step rfl (OR.load T5 rfl rfl (hs.cell (hcell.mono hlb hcx1)) ?_)
                          refine WO.step rfl (OR.xorB _ 255 rfl rfl rfl rfl ?_)
                          refine WO.step rfl (OR.idx 0 T23.und T5 rfl rfl rfl hXk0 ?_)
                          replace hs := HS.unpub h0 hs (hlb _ _ hHq) (Nat.le_trans hNw hqN)
                          refine WO.stepN (OR.store hs T5 rfl rfl rfl (by rw [hcq]; omega) rfl ?_)
                          clear hs; intro w hs
                          refine WO.done (WX.block (WX.seq (WC.region (WO.step rfl (OR.addI rfl rfl (by omega) (by omega) (WO.step rfl (OR.move rfl ?_)))))))
                          refine WO.done ?_
                          replace hs := hs.drop (i := 0)
                          refine WX.again (k + 1) ⟨rfl, rfl, rfl, rfl, rfl, rfl, rfl, rfl, rfl,  trivial⟩ ?_ ?_
                          · have hKq : K q = none := by
                              cases hkq : K q with
                              | none => rfl
                              | some u => have := hKN q u hkq; omega
                            refine ⟨hk', _, hs.le, Hp.le_del (hKk.trans hlb) hKq, Hp.le_del (hNk.trans hlb) (hHNq q hq1.1), fun j hj h1 h2 => ?_, hs⟩
                            obtain ⟨Mo9, ho9, hm9⟩ := hbk j (by omega) h1 h2
                            refine ⟨Mo9, ho9, fun p hp => ?_⟩
                            have hpq : p.1 ≠ q := by
                              obtain ⟨_, ⟨rfl, _, _⟩ | ⟨g9, c9', cap9, rfl, hv9, _⟩⟩ := ho9
                              · cases hp
                              · rw [List.mem_singleton.1 hp]
                                have h5 := hne j k h2 hkc (by omega)
                                rw [hqq, hv9] at h5
                                exact h5
                            unfold Hp.del
                            rw [if_neg hpq]
                            exact hlb _ _ (hm9 p hp)
                          · omega
                        · refine WC.exit (WX.seq_exit (WX.loop_exit (WX.block_hit (WX.block ?_))))
                          refine WX.arrive (b) ⟨rfl, rfl, rfl, rfl, rfl,  trivial⟩ ?_
                          exact ⟨Hk, rv, ci, cr, f, hle, hvK.mono hKk, hrcK.mono hKk, hL, hRd, (hs.drop 0).drop 0⟩
                    · refine WC.seq (WC.region (WO.step rfl (OR.eql rfl rfl (WO.step rfl (OR.assign rfl (WO.done (WX.seq ?_)))))))
                      refine WC.condD rfl (fun hw4 => ?_) (fun hw4 => ?_)
                      · refine WC.seq (WC.region (WO.step rfl (OR.move rfl (WO.step rfl (OR.assign rfl (WO.done (WX.seq ?_)))))))
                        refine WC.seq (WC.region (WO.step rfl (OR.move rfl ?_)))
                        refine WO.step rfl (OR.callX (Mx := []) hs body44 rfl rfl (copy_ok (upto f G) _ b G S _ _ hs.toSub (hs.blk (i := 1) rfl) (hs.none (i := 1) rfl) hv hRd.gs (by omega) (by omega) (by omega) (by omega)) rfl rfl ?_)
                        clear hs; rintro _ H M' w hs hle1 hnew ⟨bb, rv2, hbb, rfl, rfl, hv2⟩; replace hle := hle.trans hle1; (try replace hlb := hlb.trans hle1)
                        replace hv := hv.mono hle1
                        replace hrc := hrc.mono hle1
                        refine WO.step rfl (OR.assign rfl (WO.done (WX.seq (WC.region (WO.step rfl (OR.move rfl (WO.step rfl ?_)))))))
                        refine OR.fieldAddr FA74_1 rfl ?_
                        refine WO.step rfl (OR.loadN (cs := [.slice b1 xc.length c1, .slice b2 xp.length c2]) T35 rfl rfl rfl (two_cells (o := 1) (hs.blk (i := 1) rfl) rfl rfl) ?_)
                        replace hs := hs.front (i := 2) rfl
                        refine WO.step rfl (OR.callX (Mx := [(b, _, true)]) hs body18 rfl rfl (insert_ok (upto f G) (xc, xp) _ _ _ b G S _ _ hs.toSub (hs.blk (i := 0) rfl) (hs.none (i := 0) rfl) hv (hB1.mono hle) (hB2.mono hle) hAr (by omega) (by omega) (by omega) (by omega)) rfl rfl ?_)
                        clear hs; rintro _ H M' w hs hle1 hnew ⟨rv3, rfl, hv3, rfl⟩; replace hle := hle.trans hle1; (try replace hlb := hlb.trans hle1)
                        refine WO.done (WX.block ?_)
                        refine WX.arrive (bb) ⟨rfl, rfl, rfl, rfl, rfl,  trivial⟩ ?_
                        exact ⟨H, rv2, ci, cr, f, hle, hv2.mono hle1, hrc.mono hle1, hL, hRd, (hs.drop 0).drop 1⟩
                      · refine WC.skip (WX.block ?_)
                        refine WX.arrive (b) ⟨rfl, rfl, rfl, rfl, rfl,  trivial⟩ ?_
                        exact ⟨H, rv, ci, cr, f, hle, hv, hrc, hL, hRd, hs.drop 0⟩
            · clear hs hle hv hrc hL hRd hul hAr hle2
              obtain ⟨H, rv, ci, cr, f, hle, hv, hrc, hL, hRd, hs⟩ := hW
              have hul : (upto f G).length ≤ G := hRd.len
              obtain ⟨N, hN⟩ : ∃ N, N = w.heap.size := ⟨_, rfl⟩
              have hNw : w0.heap.size ≤ N := by rw [hN]; exact hs.size
              obtain ⟨K, hK⟩ : ∃ K, K = H := ⟨_, rfl⟩
              have hKN : ∀ q o, K q = some o → q < N := fun q o h => by rw [hN]; rw [hK] at h; exact lt_of_heap (hs.sub _ _ h)
              have hleK : Hp.le H0 K := by rw [hK]; exact hle
              have hvK : Rws K rv (upto f G) := by rw [hK]; exact hv
              have hrcK : RefC K G f ci cr := by rw [hK]; exact hrc
              have hlb : Hp.le K H := by rw [hK]; exact Hp.le.refl _
              clear hK
              refine WC.seq (WC.region (WO.step rfl (OR.move rfl ?_)))
              refine WO.step rfl (OR.callX (Mx := []) hs body20 rfl rfl (rows_new (upto f G) _ b2 G S _ _ hs.toSub (hs.blk (i := 0) rfl) (hs.none (i := 0) rfl) hv hRd.gs (by omega) (by omega) (by omega) (by omega)) rfl rfl ?_)
              clear hs; rintro v H M' w hs hle1 hnew ⟨cs, ho, hro⟩; replace hle := hle.trans hle1; (try replace hlb := hlb.trans hle1)
              rw [← hN] at ho hro
              have hhd : 0 < (upto f G).length → ∃ gh ch cap, v = .slice (some ⟨gh, 0, none⟩) (upto f G).length cap ∧ (gh, Obj.cells ch 35, true) ∈ M' ∧ ch.toList.take ((upto f G).length * 2) = rowCells cs := by
                intro hpos
                obtain ⟨_, ⟨_, _, h09⟩ | ⟨gh, ch, caph, h1, h2, _, _, h3, _⟩⟩ := ho
                · omega
                · exact ⟨gh, ch, caph, h2, by rw [h1]; simp, h3⟩
              have hone : M' = [] ∨ ∃ p, M' = [p] := by
                obtain ⟨_, ⟨h1, _, _⟩ | ⟨gh, ch, caph, h1, _⟩⟩ := ho
                · exact .inl h1
                · exact .inr ⟨_, h1⟩
              have hMn : ∀ p ∈ M', w0.heap.size ≤ p.1 ∧ K p.1 = none ∧ p.2.2 = true ∧ H p.1 = none := fun p hp => by
                have h1 := hs.mem p.1 p.2.1 p.2.2 (List.mem_append_left _ hp)
                have h2 := ho.tt p hp
                refine ⟨by simpa using h1.2.2 h2, ?_, h2, h1.2.1⟩
                cases hk : K p.1 with
                | none => rfl
                | some u => have := hlb _ _ hk; rw [h1.2.1] at this; cases this
              obtain ⟨HA, hHA⟩ : ∃ X, X = H := ⟨_, rfl⟩
              rw [← hHA] at hro hMn
              have hpb : ∃ H2, Hp.le H H2 ∧ HS [] H0 w0 H2 [(b2, basisObj G S rv, true), (rb, refObj G S gi gr, true), (gi, .cells ci 4, true), (gr, .cells cr 35, true)] w ∧ Sl H2 2 v (upto f G).length (rowCells cs) ∧ ∀ p ∈ M', H2 p.1 = some p.2.1 := by
                have ho2 := ho.mono hNw
                obtain ⟨hcl, ⟨rfl, ⟨b9, rfl⟩, hn0⟩ | ⟨gh, ch, caph, rfl, rfl, hnc, hcc, hxx, hgh⟩⟩ := ho2
                · refine ⟨H, Hp.le.refl H, hs, ?_, fun p hp => by cases hp⟩
                  have e : rowCells cs = [] := List.eq_nil_of_length_eq_zero (by omega)
                  rw [hn0, e]
                  exact Sl.empty _ _ _
                · refine ⟨H.put gh (.cells ch 35), Hp.le_put (hs.none (i := 0) rfl) _, HS.publish hs hgh, Sl.block (Hp.put_same ..) hcl hxx hnc, fun p hp => by rw [List.mem_singleton.1 hp]; exact Hp.put_same ..⟩
              clear hs
              obtain ⟨H2, hle2, hs, hsl, hM2⟩ := hpb
              replace hle := hle.trans hle2
              replace hlb := hlb.trans hle2
              have hHA2 : Hp.le HA H2 := by rw [hHA]; exact hle2
              clear hHA
              obtain ⟨bv, cv, rfl⟩ := hsl.form
              have hrw : Rws H2 (.slice bv (upto f G).length cv) (upto f G) := ⟨cs, hsl, hro.ok.mono hHA2⟩
              obtain ⟨HB, hHB⟩ : ∃ X, X = H2 := ⟨_, rfl⟩
              subst hHB
              have hlk := hlb
              clear hlb
              have hlb := Hp.le.refl HB
              refine WO.step rfl (OR.assign rfl (WO.done (WX.seq (WC.seq (WC.seq (WC.region (WO.step rfl ?_)))))))
              refine OR.move rfl ?_
              refine WO.step rfl (OR.call hs body19 rfl rfl (rank_ok b2 G S _ (upto f G) _ _ hs.toSub (hs.blk (i := 0) rfl) (hs.none (i := 0) rfl) (by omega) (hvK.mono hlk)) ?_)
              clear hs; rintro _ H w hs hle1 rfl; replace hle := hle.trans hle1; (try replace hlb := hlb.trans hle1)
              refine WO.step rfl (OR.move rfl ?_)
              refine WO.step rfl (OR.call hs body45 rfl rfl (refRank_ok (f := f) _ _ hs.toSub (RefAt.of hs (i := 1) (j := 2) (k := 3) rfl rfl rfl (by omega) (by omega) (by omega)) (hrcK.mono (hlk.trans hlb)) (by omega)) ?_)
              clear hs; rintro _ H w hs hle1 rfl; replace hle := hle.trans hle1; (try replace hlb := hlb.trans hle1)
              refine WO.step rfl (OR.neq rfl rfl (WO.step rfl (OR.move rfl ?_)))
              refine WO.guardYes rfl (decide_eq_false (fun h => h rfl)) rfl rfl (OR.move rfl (WO.guardYes rfl (decide_eq_false (fun h => h rfl)) rfl rfl (OR.move rfl ?_)))
              refine WO.guardYes rfl (decide_eq_false (fun h => h rfl)) rfl rfl (OR.call hs body47 rfl rfl (refRows_ok (f := f) _ _ hs.toSub (RefAt.of hs (i := 1) (j := 2) (k := 3) rfl rfl rfl (by omega) (by omega) (by omega)) (hrcK.mono (hlk.trans hlb)) (by omega)) ?_)
              clear hs; rintro _ H w hs hle1 hrw2; replace hle := hle.trans hle1; (try replace hlb := hlb.trans hle1)
              refine WO.guardYes rfl (decide_eq_false (fun h => h rfl)) rfl rfl (OR.call hs body46 rfl rfl (refSame_ok _ _ (upto f G) _ _ hs.toSub (hrw.mono hlb) hrw2 (by omega)) ?_)
              clear hs; rintro _ H w hs hle1 rfl; replace hle := hle.trans hle1; (try replace hlb := hlb.trans hle1)
              refine WO.guardYes rfl (decide_eq_false (fun h => h rfl)) rfl rfl (OR.not rfl (WO.step rfl (OR.pickF rfl (decide_eq_false (fun h => h rfl)) rfl (WO.done (WX.seq ?_)))))
              refine WC.no rfl rfl ?_
              refine WC.skip (WX.seq (WC.seq (WC.region (WO.step rfl (OR.move rfl (WO.step rfl (OR.lenSlice T26.und rfl ?_)))))))
              refine WO.step rfl (OR.move rfl (WO.done (WX.seq (WC.block ?_))))
              have hps : ∀ p ∈ (cs.zip (upto f G)).flatMap (fun q => [(q.1.1, q.2.1), (q.1.2, q.2.2)]), BytesO HA N p.1 p.2 := by
                intro p hp
                obtain ⟨q, hq, hp⟩ := List.mem_flatMap.1 hp
                obtain ⟨j, hj, rfl⟩ := List.mem_iff_getElem.1 hq
                rw [List.length_zip] at hj
                have h1 := hro.2 j (by omega) (by omega)
                rw [List.getElem_zip] at hp
                rcases List.mem_cons.1 hp with e | hp
                · rw [e]; exact h1.1
                · rw [List.mem_singleton.1 hp]; exact h1.2
              obtain ⟨Ml0, hs2, hMl0, hlo⟩ := HS.loosen hs hleK (hlk.trans hlb) (hHA2.trans hlb) hNw (fun q o h1 h2 => by
                cases hk : K q with
                | none => rfl
                | some u => have := hKN q u hk; omega) _ hps
              have hll0 : ∀ j (h1 : j < (upto f G).length) (h2 : j < cs.length), LooseIn Ml0 cs[j].1 (upto f G)[j].1.length ∧ LooseIn Ml0 cs[j].2 (upto f G)[j].2.length := by
                intro j h1 h2
                have hz : (cs[j], (upto f G)[j]) ∈ cs.zip (upto f G) := by
                  rw [List.mem_iff_getElem]
                  exact ⟨j, by rw [List.length_zip]; omega, by rw [List.getElem_zip]⟩
                exact ⟨hlo (cs[j].1, (upto f G)[j].1) (List.mem_flatMap.2 ⟨_, hz, by simp⟩), hlo (cs[j].2, (upto f G)[j].2) (List.mem_flatMap.2 ⟨_, hz, by simp⟩)⟩
              have hml : ∃ Ml, HS [] H0 w0 K ([(b2, basisObj G S rv, true), (rb, refObj G S gi gr, true), (gi, .cells ci 4, true), (gr, .cells cr 35, true)] ++ Ml) w ∧ (∀ p ∈ M', p ∈ Ml) ∧ ∀ p ∈ Ml0, p ∈ Ml := by
                rcases hone with e | ⟨p, e⟩
                · exact ⟨Ml0, hs2, (fun p hp => by rw [e] at hp; cases hp), fun p hp => hp⟩
                · have hp0 := hMn p (by rw [e]; simp)
                  have hp2 := hlb _ _ (hM2 p (by rw [e]; simp))
                  obtain ⟨pg, po, pt⟩ := p
                  simp only at hp0 hp2
                  obtain ⟨hp01, hp02, rfl, hp04⟩ := hp0
                  refine ⟨(pg, po, true) :: Ml0, hs2.learn (hs.sub _ _ hp2) hp02 ?_ hp01, (fun q hq => by rw [e] at hq; rw [List.mem_singleton.1 hq]; simp), fun q hq => by simp [hq]⟩
                  intro hm
                  simp only [Mem.keys, List.map_append, List.mem_append] at hm
                  rcases hm with hm | hm
                  · obtain ⟨⟨q, o, t⟩, hq, e2⟩ := List.mem_map.1 hm
                    simp only at e2
                    subst e2
                    have h6 := (hs.mem q o t hq).2.1
                    rw [hp2] at h6
                    cases h6
                  · obtain ⟨⟨q, o, t⟩, hq, e2⟩ := List.mem_map.1 hm
                    simp only at e2
                    subst e2
                    have h6 := (hMl0 _ hq).1
                    simp only at h6
                    rw [hp04] at h6
                    cases h6
              obtain ⟨Ml, hs3, hMM, hM00⟩ := hml
              replace hll0 : ∀ j (h1 : j < (upto f G).length) (h2 : j < cs.length), LooseIn Ml cs[j].1 (upto f G)[j].1.length ∧ LooseIn Ml cs[j].2 (upto f G)[j].2.length := fun j h1 h2 => ⟨(hll0 j h1 h2).1.mono hM00, (hll0 j h1 h2).2.mono hM00⟩
              have hhd2 : 0 < (upto f G).length → ∃ gh ch cap, Value.slice bv (upto f G).length cv = .slice (some ⟨gh, 0, none⟩) (upto f G).length cap ∧ (gh, Obj.cells ch 35, true) ∈ Ml ∧ ch.toList.take ((upto f G).length * 2) = rowCells cs := by
                intro hpos
                obtain ⟨gh, ch, cap, h1, h2, h3⟩ := hhd hpos
                exact ⟨gh, ch, cap, h1, hMM _ h2, h3⟩
              clear hs hs2 hlo hhd hM2 hMn hone hMM hM00 hMl0 hps hle hlb
              refine WC.loop (ι := Nat) (fun k => [(7, ptr b2), (9, ptr rb), (81, .slice (some ⟨xb, xo, none⟩) len cl), (82, .int .i64 (len : Int)), (83, .int .i64 (i : Int)), (298, .slice bv (upto f G).length cv), (299, .int .i64 ((upto f G).length : Int)), (300, .int .i64 (k : Int))]) (fun k w => (k ≤ (upto f G).length ∧ ∃ Ml, HS [] H0 w0 K ([(b2, basisObj G S rv, true), (rb, refObj G S gi gr, true), (gi, .cells ci 4, true), (gr, .cells cr 35, true)] ++ Ml) w ∧ (∀ j (h1 : j < (upto f G).length) (h2 : j < cs.length), LooseIn Ml cs[j].1 (upto f G)[j].1.length ∧ LooseIn Ml cs[j].2 (upto f G)[j].2.length) ∧ (0 < (upto f G).length → ∃ gh ch cap, Value.slice bv (upto f G).length cv = .slice (some ⟨gh, 0, none⟩) (upto f G).length cap ∧ (gh, Obj.cells ch 35, true) ∈ Ml ∧ ch.toList.take ((upto f G).length * 2) = rowCells cs))) (fun k => (upto f G).length - k) 0 ⟨rfl, rfl, rfl, rfl, rfl, rfl, rfl, rfl,  trivial⟩ ?_ (fun k w hW => ?_)
              · exact ⟨by omega, Ml, hs3, hll0, hhd2⟩
              clear hs3 hll0 hhd2
              obtain ⟨hk, Ml, hs, hll, hhd⟩ := hW
              refine WC.seq (WC.region (WO.step rfl (OR.lss rfl rfl (WO.done (WX.seq (WC.seq ?_))))))
              refine WC.condD rfl (fun hlt2 => ?_) (fun hlt2 => ?_)
              · have hk' : k < (upto f G).length := by omega
                have hkc : k < cs.length := by have := hro.1; omega
                obtain ⟨gh, ch, cap, hv9, hmh, hxx⟩ := hhd (by omega)
                have hhd' := hhd
                cases hv9
                obtain ⟨hg1, hg2⟩ := rowCells_get cs k hkc
                rw [← hxx] at hg1 hg2
                have hgs := hRd.gs _ (List.getElem_mem hk')
                obtain ⟨hl1, hl2⟩ := hll k hk' hkc
                rcases hl1 with ⟨_, _, hn9⟩ | ⟨q, cq, capq, hvq, hmq, hbq⟩
                · rw [hgs.1] at hn9; omega
                rcases hl2 with ⟨_, _, hn9⟩ | ⟨q2, cq2, capq2, hvq2, hmq2, hbq2⟩
                · rw [hgs.2] at hn9; omega
                rw [hvq] at hg1
                rw [hvq2] at hg2
                have hp1 : 0 < (upto f G)[k].1.length := by rw [hgs.1]; omega
                have hp2 : 0 < (upto f G)[k].2.length := by rw [hgs.2]; omega
                obtain ⟨x9, hx9⟩ := hbq 0 hp1
                have hsz9 : 0 < cq.size := by have := (List.getElem?_eq_some_iff.1 hx9).1; simpa using this
                have hbh := (hs.mem gh _ true (List.mem_append_right _ hmh)).1
                refine WC.skip (WX.seq (WC.seq (WC.block (WC.seq (WC.region ?_)))))
                refine WO.step rfl (OR.idxN k T26.und T35 rfl rfl rfl hk' ?_)
                refine WO.step rfl (OR.loadN (cs := [.slice (some ⟨q, 0, none⟩) (upto f G)[k].1.length capq, .slice (some ⟨q2, 0, none⟩) (upto f G)[k].2.length capq2]) T35 rfl rfl rfl (two_cells hbh (by rw [Nat.zero_add]; exact get_take hg1) (by rw [Nat.zero_add]; exact get_take hg2)) ?_)
                refine WO.step rfl (OR.alloc hs T35 ?_)
                clear hs; intro g5 w hg5 hs
                refine WO.stepN (OR.storeAll hs T35 rfl rfl rfl rfl rfl ?_)
                clear hs; intro w hs
                refine WO.done (WX.seq (WC.seq (WC.region (WO.step rfl (OR.fieldAddr FA35_0 rfl (WO.step rfl (OR.load T23 rfl rfl (hs.cellM (i := 0) rfl rfl) ?_)))))))
                have hnd := hs.nd_right (F := [_, _, _, _, _])
                refine WO.step rfl (OR.idx 0 T23.und T5 rfl rfl rfl hp1 ?_)
                refine WO.step rfl (OR.load T5 rfl rfl (hs.cellIn (F := [_, _, _, _, _]) hmq hx9) ?_)
                refine WO.step rfl (OR.xorB _ 255 rfl rfl rfl rfl ?_)
                refine WO.step rfl (OR.idx 0 T23.und T5 rfl rfl rfl hp1 ?_)
                refine WO.stepN (OR.storeIn (F := [_, _, _, _, _]) hs hmq T5 rfl rfl rfl (by omega) rfl ?_)
                clear hs; intro w Ml1 Ml2 hMe hs
                subst hMe
                have hneh : gh ≠ q := fun e => by
                  subst e
                  have h7 := Mem.inj hnd hmh hmq
                  exact cells_ne (congrArg some h7) (by decide)
                have hmh2 := mem_upd (p' := (q, Obj.cells (setL cq.toList (0 + 0) [B (x9 ^^^ 255)]).toArray 5, true)) hmh hneh
                have hll2 : ∀ j (h1 : j < (upto f G).length) (h2 : j < cs.length), LooseIn (Ml1 ++ (q, Obj.cells (setL cq.toList (0 + 0) [B (x9 ^^^ 255)]).toArray 5, true) :: Ml2) cs[j].1 (upto f G)[j].1.length ∧ LooseIn (Ml1 ++ (q, Obj.cells (setL cq.toList (0 + 0) [B (x9 ^^^ 255)]).toArray 5, true) :: Ml2) cs[j].2 (upto f G)[j].2.length :=
                  fun j h1 h2 => ⟨LooseIn.upd hnd (hll j h1 h2).1, LooseIn.upd hnd (hll j h1 h2).2⟩
                replace hs : HS [] H0 w0 K ([(g5, .cells #[.slice (some ⟨q, 0, none⟩) (upto f G)[k].1.length capq, .slice (some ⟨q2, 0, none⟩) (upto f G)[k].2.length capq2] 35, true), (b2, basisObj G S rv, true), (rb, refObj G S gi gr, true), (gi, .cells ci 4, true), (gr, .cells cr 35, true)] ++ (Ml1 ++ (q, Obj.cells (setL cq.toList (0 + 0) [B (x9 ^^^ 255)]).toArray 5, true) :: Ml2)) w := hs
                obtain ⟨MX, hMX⟩ : ∃ X, X = Ml1 ++ (q, Obj.cells (setL cq.toList (0 + 0) [B (x9 ^^^ 255)]).toArray 5, true) :: Ml2 := ⟨_, rfl⟩
                rw [← hMX] at hs hmh2 hll2
                clear hMX hll hnd hmq hmq2 hbq2 hmh
                rcases (hll2 k hk' hkc).2 with ⟨_, _, hn9⟩ | ⟨q3, cq2, capq3, hvq3, hmq2, hbq2⟩
                · rw [hgs.2] at hn9; omega
                have heq9 := hvq2.symm.trans hvq3
                cases heq9
                obtain ⟨y9, hy9⟩ := hbq2 0 hp2
                have hsz8 : 0 < cq2.size := by have := (List.getElem?_eq_some_iff.1 hy9).1; simpa using this
                have hnd := hs.nd_right (F := [_, _, _, _, _])
                refine WO.done (WX.seq (WC.region (WO.step rfl (OR.fieldAddr FA35_1 rfl (WO.step rfl (OR.load T23 rfl rfl (hs.cellM (i := 0) rfl rfl) ?_))))))
                refine WO.step rfl (OR.idx 0 T23.und T5 rfl rfl rfl hp2 ?_)
                refine WO.step rfl (OR.load T5 rfl rfl (hs.cellIn (F := [_, _, _, _, _]) hmq2 hy9) ?_)
                refine WO.step rfl (OR.xorB _ 255 rfl rfl rfl rfl ?_)
                refine WO.step rfl (OR.idx 0 T23.und T5 rfl rfl rfl hp2 ?_)
                refine WO.stepN (OR.storeIn (F := [_, _, _, _, _]) hs hmq2 T5 rfl rfl rfl (by omega) rfl ?_)
                clear hs; intro w Mla Mlb hMe hs
                subst hMe
                have hneh2 : gh ≠ q2 := fun e => by
                  subst e
                  have h7 := Mem.inj hnd hmh2 hmq2
                  exact cells_ne (congrArg some h7) (by decide)
                refine WO.done (WX.block (WX.seq (WC.region (WO.step rfl (OR.addI rfl rfl (by omega) (by omega) (WO.step rfl (OR.move rfl ?_)))))))
                refine WO.done ?_
                refine WX.again (k + 1) ⟨rfl, rfl, rfl, rfl, rfl, rfl, rfl, rfl,  trivial⟩ ?_ ?_
                · refine ⟨hk', _, hs.drop 0, fun j h1 h2 => ⟨LooseIn.upd hnd (hll2 j h1 h2).1, LooseIn.upd hnd (hll2 j h1 h2).2⟩, fun _ => ⟨gh, ch, _, rfl, mem_upd hmh2 hneh2, hxx⟩⟩
                · omega
              · refine WC.exit (WX.seq_exit (WX.loop_exit (WX.block_hit (WX.block (WX.seq (WC.region (WO.step rfl ?_)))))))
                refine OR.addI rfl rfl (by omega) (by omega) (WO.step rfl (OR.move rfl (WO.done ?_)))
                refine WX.again ((i + 1, b2)) ⟨rfl, rfl, rfl, rfl, rfl,  trivial⟩ ?_ ?_
                · exact ⟨hi', K, rv, ci, cr, f, hleK, hvK, hrcK, hL, hRd, hs.sublist (List.sublist_append_left _ _)⟩
                · simp only; omega
        · have e : i = len := by omega
          subst e
          refine WC.exit (WX.seq_exit (WX.loop_exit (WX.block_hit (WX.seq (WC.seq (WC.region (WO.step rfl ?_)))))))
          refine OR.assign rfl (WO.done (WX.seq (WC.ret ?_)))
          refine WX.ret1 rfl rfl ?_
          exact .mk hs rfl
      · have hall' := hall
        refine WC.seq (WC.region (WO.step rfl (OR.move rfl (WO.step rfl (OR.move rfl ?_)))))
        refine WO.step rfl (OR.callX (Mx := []) hs body15 rfl rfl (new_ok g s _ _ hs.toSub) rfl rfl ?_)
        clear hs; rintro _ H M' w hs hle1 hnew ⟨_, hn⟩; replace hle := hle.trans hle1; (try replace hlb := hlb.trans hle1)
        rw [if_neg hall] at hn
        obtain ⟨rfl, rfl⟩ := hn
        refine WO.step rfl (OR.move rfl (WO.step rfl (OR.extract rfl rfl (WO.step rfl (OR.extract rfl rfl (WO.step rfl (OR.assign rfl ?_)))))))
        refine WO.step rfl (OR.assign rfl (WO.done (WX.seq (WC.seq (WC.region (WO.step rfl (OR.move rfl ?_)))))))
        refine WO.step rfl (OR.move rfl ?_)
        refine WO.step rfl (OR.callX (Mx := []) hs body38 rfl rfl (refNew_ok g s _ _ hs.toSub) rfl rfl ?_)
        clear hs; rintro _ H M' w hs hle1 hnew hn; replace hle := hle.trans hle1; (try replace hlb := hlb.trans hle1)
        rw [if_neg hall] at hn
        obtain ⟨rfl, rfl⟩ := hn
        refine WO.step rfl (OR.move rfl (WO.step rfl (OR.extract rfl rfl (WO.step rfl (OR.extract rfl rfl (WO.step rfl (OR.assign rfl ?_)))))))
        refine WO.step rfl (OR.assign rfl (WO.done (WX.seq (WC.seq (WC.seq (WC.region (WO.step rfl ?_)))))))
        refine OR.move rfl (WO.step rfl (OR.move rfl (WO.step rfl (OR.neq rfl rfl (WO.step rfl (OR.move rfl ?_))))))
        refine WO.guardYes rfl rfl rfl rfl (OR.move rfl (WO.guardYes rfl rfl rfl rfl (OR.eqlNilP T29.und rfl rfl (WO.guardYes rfl rfl rfl rfl (OR.move rfl (WO.guardYes rfl rfl rfl rfl (OR.eqlNilP T70.und rfl rfl ?_)))))))
        refine WO.guardYes rfl rfl rfl rfl (OR.neqB T4.und rfl rfl (WO.step rfl (OR.pickF rfl rfl rfl (WO.done (WX.seq ?_)))))
        refine WC.no rfl rfl ?_
        refine WC.skip (WX.seq (WC.seq (WC.seq (WC.region (WO.step rfl (OR.move rfl (WO.step rfl ?_)))))))
        refine OR.eqlNilP T70.und rfl rfl (WO.done (WX.seq ?_))
        refine WC.yes rfl rfl ?_
        refine WC.seq (WC.region (WO.step rfl (OR.assign rfl (WO.done (WX.seq (WC.ret (WX.seq_ret ?_)))))))
        refine WX.ret1 rfl rfl ?_
        exact .mk hs rfl
end Go.Bw
