/- The document's own basis, walked: what only reads it. -/
import Derived.Test.YtbgdgmilcojlbaaRefP
import Derived.Test.YtbgdgmilcojlbaaTimes
import Derived.Test.YtbgdgmilcojlbaaOps4
import Derived.Test.YtbgdgmilcojlbaaMatrix2
import Derived.Test.YtbgdgmilcojlbaaFresh
namespace Go.Bw
set_option linter.unusedVariables false
set_option linter.unusedSimpArgs false
open Go.Proofs

def refObj (g s gi gr : Nat) : Obj := .cells #[.int .i64 (g : Int), .int .i64 (s : Int), .slice (some ⟨gi, 0, none⟩) g g, .slice (some ⟨gr, 0, none⟩) g g] 165
/-- The cells of its two slices. -/
def RefC (H : Hp) (g : Nat) (f : Nat → Option RowD) (ci cr : Array Value) : Prop :=
  ci.size = g ∧ cr.size = g * 2 ∧ ∀ i, i < g → ci.toList[i]? = some (.bool (f i).isSome) ∧
    ∃ c p, cr.toList[i * 2]? = some c ∧ cr.toList[i * 2 + 1]? = some p ∧ ∀ r, f i = some r → Bytes H c r.1 ∧ Bytes H p r.2
theorem RefC.mono {H H' : Hp} {g : Nat} {f : Nat → Option RowD} {ci cr : Array Value} (h : RefC H g f ci cr) (hle : Hp.le H H') : RefC H' g f ci cr := by
  refine ⟨h.1, h.2.1, fun i hi => ?_⟩
  obtain ⟨h1, c, p, h2, h3, h4⟩ := h.2.2 i hi
  exact ⟨h1, c, p, h2, h3, fun r hr => ⟨(h4 r hr).1.mono hle, (h4 r hr).2.mono hle⟩⟩
structure RefAt (H : Hp) (w : World) (rb gi gr g s : Nat) (ci cr : Array Value) : Prop where
  hb : w.heap[rb]? = some (refObj g s gi gr)
  nb : H rb = none
  hi : w.heap[gi]? = some (.cells ci 4)
  ni : H gi = none
  hr : w.heap[gr]? = some (.cells cr 35)
  nr : H gr = none
  d1 : rb ≠ gi
  d2 : rb ≠ gr
  d3 : gi ≠ gr
theorem RefAt.start {H : Hp} {w : World} {rb gi gr g s : Nat} {ci cr : Array Value} (h : RefAt H w rb gi gr g s ci cr) (h0 : Sub H w) :
    HS [] H w H [(rb, refObj g s gi gr, false), (gi, .cells ci 4, false), (gr, .cells cr 35, false)] w := by
  refine HS.start [] h0 (fun q o t hm => ?_) ?_
  · simp only [List.mem_cons, List.not_mem_nil, or_false] at hm
    rcases hm with e | e | e <;> cases e
    · exact ⟨h.hb, h.nb, fun h => by cases h⟩
    · exact ⟨h.hi, h.ni, fun h => by cases h⟩
    · exact ⟨h.hr, h.nr, fun h => by cases h⟩
  · simp [Mem.keys]
    exact ⟨⟨h.d1, h.d2⟩, h.d3⟩
theorem RefAt.startW {H : Hp} {w : World} {rb gi gr g s : Nat} {ci cr : Array Value} (h : RefAt H w rb gi gr g s ci cr) (h0 : Sub H w) :
    HS [gi, gr] H w H [(rb, refObj g s gi gr, false), (gi, .cells ci 4, true), (gr, .cells cr 35, true)] w := by
  refine HS.start [gi, gr] h0 (fun q o t hm => ?_) ?_
  · simp only [List.mem_cons, List.not_mem_nil, or_false] at hm
    rcases hm with e | e | e <;> cases e
    · exact ⟨h.hb, h.nb, fun h => by cases h⟩
    · exact ⟨h.hi, h.ni, fun _ => by simp⟩
    · exact ⟨h.hr, h.nr, fun _ => by simp⟩
  · simp [Mem.keys]
    exact ⟨⟨h.d1, h.d2⟩, h.d3⟩
theorem HS.none {xs : List Nat} {H0 H : Hp} {w0 w : World} {M : Mem} (h : HS xs H0 w0 H M w) {i : Nat} {g : Nat} {o : Obj} {t : Bool} (hm : nth M i = some (g, o, t)) : H g = none :=
  (h.mem g o t (List.mem_of_getElem? (by rw [← nth_eq]; exact hm))).2.1
theorem HS.ne {xs : List Nat} {H0 H : Hp} {w0 w : World} {M : Mem} (h : HS xs H0 w0 H M w) {i j : Nat} {g g' : Nat} {o o' : Obj} {t t' : Bool} (hi : nth M i = some (g, o, t)) (hj : nth M j = some (g', o', t')) (hne : i ≠ j) : g ≠ g' := by
  rw [nth_eq] at hi hj
  obtain ⟨hi1, hi2⟩ := List.getElem?_eq_some_iff.1 hi
  obtain ⟨hj1, hj2⟩ := List.getElem?_eq_some_iff.1 hj
  intro e
  have h1 : (M.map (·.1)).Pairwise (· ≠ ·) := h.nd
  rw [List.pairwise_iff_getElem] at h1
  rcases Nat.lt_trichotomy i j with h2 | h2 | h2
  · exact h1 i j (by simpa using hi1) (by simpa using hj1) h2 (by simp [hi2, hj2, e])
  · exact hne h2
  · exact h1 j i (by simpa using hj1) (by simpa using hi1) h2 (by simp [hi2, hj2, e])
theorem RefAt.of {xs : List Nat} {H0 H : Hp} {w0 w : World} {M : Mem} (hs : HS xs H0 w0 H M w) {i j k : Nat} {rb gi gr g s : Nat} {ci cr : Array Value} {t1 t2 t3 : Bool}
    (h1 : nth M i = some (rb, refObj g s gi gr, t1)) (h2 : nth M j = some (gi, .cells ci 4, t2)) (h3 : nth M k = some (gr, .cells cr 35, t3)) (hij : i ≠ j) (hik : i ≠ k) (hjk : j ≠ k) : RefAt H w rb gi gr g s ci cr :=
  ⟨hs.blk h1, hs.none h1, hs.blk h2, hs.none h2, hs.blk h3, hs.none h3, hs.ne h1 h2 hij, hs.ne h1 h3 hik, hs.ne h2 h3 hjk⟩

set_option maxRecDepth 20000 in
set_option maxHeartbeats 2000000 in
/-- A row plus a multiple of another. -/
theorem refPlusR_ok (r x : RowD) (c : UInt8) (rc rp xc xp : Value) (H0 : Hp) (w0 : World) (h0 : Sub H0 w0) (hrc : Bytes H0 rc r.1) (hrp : Bytes H0 rp r.2) (hxc : Bytes H0 xc x.1) (hxp : Bytes H0 xp x.2)
    (hl1 : r.1.length ≤ 140737488355328) (hl2 : r.2.length ≤ 140737488355328) (he1 : r.1.length = x.1.length) (he2 : r.2.length = x.2.length) :
    Calls Try.prog 115 #[.agg #[rc, rp], .agg #[xc, xp], B c] w0 (Pure H0 w0 fun v H' => RowV H' v (plusR r x c)) := by
  have hs := HS.init h0
  have hle := Hp.le.refl H0
  obtain ⟨_, _, rfl⟩ := hrc.form
  obtain ⟨_, _, rfl⟩ := hrp.form
  obtain ⟨_, _, rfl⟩ := hxc.form
  obtain ⟨_, _, rfl⟩ := hxp.form
  refine Calls.enter (args := [.agg #[_, _], .agg #[_, _], B c]) Try.func115 rfl Try.ntmps115 rfl ?_
  refine WC.seq (WC.region (WO.step rfl (OR.box hs rfl ?_)))
  clear hs; intro g1 w hg1 hs
  refine WO.step rfl (OR.box hs rfl ?_)
  clear hs; intro g2 w hg2 hs
  refine WO.step rfl (OR.alloc hs T35 ?_)
  clear hs; intro g3 w hg3 hs
  refine WO.done (WX.seq (WC.seq ?_))
  refine WC.draw 13 mixed hs (by kernel_rfl) ?_
  refine ⟨MF.eq _, by intro Mx H w hle hs; refine forVals_nil (ORg.plain (OR.fieldAddr FA35_0 rfl ?_)); exact ⟨_, [], Hp.le.refl _, hs, rfl, rfl⟩, ?_⟩
  refine ⟨MF.eq _, by intro Mx H w hle hs; refine forVals_eq rfl rfl rfl ?_; refine forVals_nil (ORg.plain (OR.load T23 rfl rfl (hs.right.cellM (i := 2) rfl rfl) ?_)); exact ⟨_, [], Hp.le.refl _, hs, rfl, rfl⟩, ?_⟩
  refine ⟨MF.eq _, by intro Mx H w hle hs; refine forVals_nil (ORg.plain (OR.fieldAddr FA35_0 rfl ?_)); exact ⟨_, [], Hp.le.refl _, hs, rfl, rfl⟩, ?_⟩
  refine ⟨MF.eq _, by intro Mx H w hle hs; refine forVals_eq rfl rfl rfl ?_; refine forVals_nil (ORg.plain (OR.load T23 rfl rfl (hs.right.cellM (i := 1) rfl rfl) ?_)); exact ⟨_, [], Hp.le.refl _, hs, rfl, rfl⟩, ?_⟩
  refine ⟨MF.eq _, by intro Mx H w hle hs; refine forVals_nil (ORg.plain (OR.move rfl ?_)); exact ⟨_, [], Hp.le.refl _, hs, rfl, rfl⟩, ?_⟩
  refine ⟨MF.bytes (addS c r.1 x.1), ?_, ?_⟩
  · intro Mx H w hle2 hs; (try replace hle := hle.trans hle2); (try replace hlb := hlb.trans hle2); refine forVals_eq rfl rfl rfl ?_; refine forVals_eq rfl rfl rfl ?_; refine forVals_eq rfl rfl rfl ?_
    refine forVals_nil (ORg.plain (OR.call hs body89 rfl rfl (refPlus_ok _ _ r.1 x.1 c _ _ hs.toSub (hrc.mono hle) (hxc.mono hle) hl1 he1) ?_))
    clear hs; rintro _ H w hs hle1 hb
    exact ⟨_, [], hle1, hs, hb, rfl⟩
  refine ⟨MF.eq _, by intro Mx H w hle hs; refine forVals_nil (ORg.plain (OR.fieldAddr FA35_1 rfl ?_)); exact ⟨_, [], Hp.le.refl _, hs, rfl, rfl⟩, ?_⟩
  refine ⟨MF.eq _, by intro Mx H w hle hs; refine forVals_eq rfl rfl rfl ?_; refine forVals_nil (ORg.plain (OR.load T23 rfl rfl (hs.right.cellM (i := 2) rfl rfl) ?_)); exact ⟨_, [], Hp.le.refl _, hs, rfl, rfl⟩, ?_⟩
  refine ⟨MF.eq _, by intro Mx H w hle hs; refine forVals_nil (ORg.plain (OR.fieldAddr FA35_1 rfl ?_)); exact ⟨_, [], Hp.le.refl _, hs, rfl, rfl⟩, ?_⟩
  refine ⟨MF.eq _, by intro Mx H w hle hs; refine forVals_eq rfl rfl rfl ?_; refine forVals_nil (ORg.plain (OR.load T23 rfl rfl (hs.right.cellM (i := 1) rfl rfl) ?_)); exact ⟨_, [], Hp.le.refl _, hs, rfl, rfl⟩, ?_⟩
  refine ⟨MF.eq _, by intro Mx H w hle hs; refine forVals_nil (ORg.plain (OR.move rfl ?_)); exact ⟨_, [], Hp.le.refl _, hs, rfl, rfl⟩, ?_⟩
  refine ⟨MF.bytes (addS c r.2 x.2), ?_, ?_⟩
  · intro Mx H w hle2 hs; (try replace hle := hle.trans hle2); (try replace hlb := hlb.trans hle2); refine forVals_eq rfl rfl rfl ?_; refine forVals_eq rfl rfl rfl ?_; refine forVals_eq rfl rfl rfl ?_
    refine forVals_nil (ORg.plain (OR.call hs body89 rfl rfl (refPlus_ok _ _ r.2 x.2 c _ _ hs.toSub (hrp.mono hle) (hxp.mono hle) hl2 he2) ?_))
    clear hs; rintro _ H w hs hle1 hb
    exact ⟨_, [], hle1, hs, hb, rfl⟩
  refine ⟨MF.row (plusR r x c), ?_, ?_⟩
  · intro Mx H w hle2 hs; (try replace hle := hle.trans hle2); (try replace hlb := hlb.trans hle2); refine forVals_of rfl rfl rfl ?_; intro v5 h5; refine forVals_of rfl rfl rfl ?_; intro v11 h11
    obtain ⟨_, _, rfl⟩ := h5.form
    obtain ⟨_, _, rfl⟩ := h11.form
    refine forVals_nil (ORg.plain (OR.buildAll T35 rfl rfl PL35 rfl rfl ?_))
    exact ⟨_, [], Hp.le.refl _, hs, ⟨_, _, rfl, h5, h11⟩, rfl⟩
  intro H w hle2; (try replace hle := hle.trans hle2); (try replace hlb := hlb.trans hle2)
  refine forAllVals_eq rfl ?_
  refine forAllVals_eq rfl ?_
  refine forAllVals_eq rfl ?_
  refine forAllVals_eq rfl ?_
  refine forAllVals_eq rfl ?_
  refine forAllVals_of rfl ?_; intro v5 h5
  refine forAllVals_eq rfl ?_
  refine forAllVals_eq rfl ?_
  refine forAllVals_eq rfl ?_
  refine forAllVals_eq rfl ?_
  refine forAllVals_eq rfl ?_
  refine forAllVals_of rfl ?_; intro v11 h11
  refine forAllVals_of rfl ?_; intro v12 h12
  refine forAllVals_nil ?_; (try clear hs); intro hs
  obtain ⟨nc, np, rfl, hnc, hnp⟩ := h12
  obtain ⟨_, _, rfl⟩ := hnc.form
  obtain ⟨_, _, rfl⟩ := hnp.form
  refine WO.stepN (OR.storeAll hs T35 rfl rfl rfl rfl rfl ?_)
  clear hs; intro w hs
  refine WO.done (WX.seq (WC.ret ?_))
  refine WX.retCell T35 rfl rfl rfl rfl (hs.blk (i := 0) rfl) ?_
  exact .mk hs ⟨_, _, rfl, hnc, hnp⟩

set_option maxRecDepth 20000 in
set_option maxHeartbeats 2000000 in
/-- Where the first coefficient stands that is not 0; how many there are, if none is. -/
theorem refLead_ok (v : Value) (l : List UInt8) (H0 : Hp) (w0 : World) (h0 : Sub H0 w0) (hv : Bytes H0 v l) (hl : l.length ≤ 1000000) :
    Calls Try.prog 113 #[v] w0 (Pure H0 w0 fun v _ => v = .int .i64 (if lead l < 0 then (l.length : Int) else lead l)) := by
  have hs := HS.init h0
  have hle := Hp.le.refl H0
  have hv0 := hv
  obtain ⟨b1, c1, rfl⟩ := hv0.form
  refine Calls.enter (args := [.slice b1 l.length c1]) Try.func113 rfl Try.ntmps113 rfl ?_
  refine WC.seq (WC.region (WO.step rfl (OR.assign rfl (WO.done (WX.seq (WC.seq (WC.seq ?_)))))))
  refine WC.region (WO.step rfl (OR.assign rfl (WO.done (WX.seq (WC.block ?_)))))
  refine WC.loop (ι := Nat) (fun k => [(0, .slice b1 l.length c1), (3, .int .i64 (k : Int))]) (fun k w => (k ≤ l.length ∧ (∀ j (hj : j < l.length), j < k → l[j] = 0) ∧ ∃ H, Hp.le H0 H ∧ HS [] H0 w0 H [] w)) (fun k => l.length - k) 0 ⟨rfl, rfl,  trivial⟩ ?_ (fun k w hW => ?_)
  · exact ⟨by omega, fun j _ h => by omega, H0, hle, hs⟩
  obtain ⟨hk, hz, H, hle, hs⟩ := hW
  refine WC.seq (WC.seq (WC.region (WO.step rfl (OR.move rfl (WO.step rfl (OR.move rfl (WO.step rfl ?_)))))))
  refine OR.lenSlice T23.und rfl (WO.step rfl (OR.lss rfl rfl (WO.done (WX.seq ?_))))
  refine WC.condD rfl (fun hlt => ?_) (fun hlt => ?_)
  · have hk' : k < l.length := by omega
    obtain ⟨xb, xo, rfl, hc⟩ := hv.pos (by omega)
    refine WC.skip (WX.seq (WC.seq (WC.block (WC.seq (WC.region (WO.step rfl (OR.move rfl ?_)))))))
    refine WO.step rfl (OR.move rfl ?_)
    refine WO.step rfl (OR.idx k T23.und T5 rfl rfl rfl hk' ?_)
    refine WO.step rfl (OR.load T5 rfl rfl (hs.cell (hcell.mono hle (hc k hk'))) ?_)
    refine WO.step rfl (OR.neq rfl rfl (WO.done (WX.seq ?_)))
    refine WC.condD rfl (fun hne => ?_) (fun hne => ?_)
    · refine WC.seq (WC.region (WO.step rfl (OR.move rfl (WO.step rfl (OR.assign rfl (WO.done (WX.seq ?_)))))))
      refine WC.ret (WX.block_ret (WX.seq_ret (WX.loop_ret (WX.block_ret (WX.seq_ret ?_)))))
      refine WX.ret1 rfl rfl ?_
      refine .mk hs ?_
      have hl0 : lead l = (k : Int) := lead_of (i := k) (by rw [List.getD_eq_getElem?_getD, List.getElem?_eq_getElem hk']; intro e; exact hne (by simp only [Option.getD_some] at e; rw [e]; rfl)) (fun j hj => by
        rw [List.getD_eq_getElem?_getD, List.getElem?_eq_getElem (by omega)]
        exact hz j (by omega) hj)
      rw [if_neg (by omega), hl0]
    · have h0' : l[k] = 0 := UInt8.toNat.inj (by simpa using hne)
      refine WC.skip (WX.block (WX.seq (WC.region (WO.step rfl (OR.move rfl (WO.step rfl (OR.addI rfl rfl (by omega) (by omega) ?_)))))))
      refine WO.step rfl (OR.assign rfl (WO.done ?_))
      refine WX.again (k + 1) ⟨rfl, rfl,  trivial⟩ ?_ ?_
      · refine ⟨hk', fun j hj hjk => ?_, H, hle, hs⟩
        by_cases e : j = k
        · subst e; exact h0'
        · exact hz j hj (by omega)
      · omega
  · have e : k = l.length := by omega
    subst e
    refine WC.exit (WX.seq_exit (WX.loop_exit (WX.block_hit (WX.seq (WC.seq (WC.region (WO.step rfl ?_)))))))
    refine OR.move rfl (WO.step rfl (OR.lenSlice T23.und rfl (WO.step rfl (OR.assign rfl (WO.done (WX.seq (WC.ret ?_)))))))
    refine WX.ret1 rfl rfl ?_
    refine .mk hs ?_
    have hl0 : lead l < 0 := by
      by_cases h : lead l < 0
      · exact h
      · replace h : 0 ≤ lead l := by omega
        obtain ⟨i, hi⟩ := Int.eq_ofNat_of_zero_le h
        obtain ⟨h1, h2, _⟩ := lead_some hi
        exact absurd (hz i h1 h1) h2
    rw [if_pos hl0]

theorem inv_unique {a x : UInt8} (h0 : a ≠ 0) (h : mul a x = 1) : x = inv a := by
  have h1 : mul (mul x a) (inv a) = mul 1 (inv a) := by rw [mul_comm x a, h]
  rw [mul_assoc, mul_inv a h0, mul_one, one_mul] at h1
  exact h1
set_option maxRecDepth 20000 in
set_option maxHeartbeats 2000000 in
theorem refInv_ok (a : UInt8) (h0' : a ≠ 0) (H0 : Hp) (w0 : World) (h0 : Sub H0 w0) : Calls Try.prog 114 #[B a] w0 (Pure H0 w0 fun v _ => v = .tuple #[B (inv a), .int .i64 0]) := by
  have hs := HS.init h0
  have hle := Hp.le.refl H0
  refine Calls.enter (args := [B a]) Try.func114 rfl Try.ntmps114 rfl ?_
  refine WC.seq (WC.region (WO.step rfl (OR.assign rfl (WO.step rfl (OR.assign rfl (WO.done (WX.seq ?_)))))))
  refine WC.seq (WC.seq (WC.region (WO.step rfl (OR.assign rfl (WO.done (WX.seq (WC.block ?_)))))))
  refine WC.loop (ι := Nat) (fun k => [(0, B a), (4, .int .i64 (k : Int))]) (fun k w => (1 ≤ k ∧ k ≤ 256 ∧ (∀ j, 1 ≤ j → j < k → mul a (UInt8.ofNat j) ≠ 1) ∧ ∃ H, Hp.le H0 H ∧ HS [] H0 w0 H [] w)) (fun k => 256 - k) 1 ⟨rfl, rfl,  trivial⟩ ?_ (fun k w hW => ?_)
  · exact ⟨by omega, by omega, fun j h1 h2 => by omega, H0, hle, hs⟩
  obtain ⟨hk1, hk2, hz, H, hle, hs⟩ := hW
  refine WC.seq (WC.seq (WC.region (WO.step rfl (OR.move rfl (WO.step rfl (OR.lss rfl rfl (WO.done ?_)))))))
  refine WX.seq ?_
  refine WC.condD rfl (fun hlt => ?_) (fun hlt => ?_)
  · refine WC.skip (WX.seq (WC.seq (WC.block (WC.seq (WC.region (WO.step rfl (OR.move rfl ?_)))))))
    refine WO.step rfl (OR.move rfl ?_)
    refine WO.step rfl (OR.convN T3.und T5.und rfl rfl ?_)
    refine WO.step rfl (OR.call hs body156 rfl rfl (refMul_ok a (UInt8.ofNat k) _ _ hs.toSub) ?_)
    clear hs; rintro _ H w hs hle1 rfl; replace hle := hle.trans hle1; (try replace hlb := hlb.trans hle1)
    refine WO.step rfl (OR.eql rfl rfl (WO.done (WX.seq ?_)))
    refine WC.condD rfl (fun hone => ?_) (fun hone => ?_)
    · have h1 : mul a (UInt8.ofNat k) = 1 := UInt8.toNat.inj (by have : ((mul a (UInt8.ofNat k)).toNat : Int) = 1 := hone; show (mul a (UInt8.ofNat k)).toNat = 1; omega)
      refine WC.seq (WC.region (WO.step rfl (OR.move rfl ?_)))
      refine WO.step rfl (OR.convN T3.und T5.und rfl rfl ?_)
      refine WO.step rfl (OR.assign rfl (WO.step rfl (OR.assign rfl (WO.done (WX.seq (WC.ret (WX.block_ret ?_)))))))
      refine WX.seq_ret (WX.loop_ret (WX.block_ret (WX.seq_ret ?_)))
      refine WX.ret2 rfl rfl rfl ?_
      refine .mk hs ?_
      rw [inv_unique h0' h1]
    · refine WC.skip (WX.block (WX.seq (WC.region (WO.step rfl (OR.move rfl (WO.step rfl (OR.addI rfl rfl (by omega) (by omega) ?_)))))))
      refine WO.step rfl (OR.assign rfl (WO.done ?_))
      refine WX.again (k + 1) ⟨rfl, rfl,  trivial⟩ ?_ ?_
      · refine ⟨by omega, by omega, fun j h1 h2 => ?_, H, hle, hs⟩
        by_cases e : j = k
        · subst e
          intro h
          exact hone (by rw [h]; rfl)
        · exact hz j h1 (by omega)
      · omega
  · exfalso
    have hi0 : inv a ≠ 0 := fun h => by
      have := mul_inv a h0'
      rw [h, mul_zero] at this
      exact absurd this (by decide)
    have hlt2 := (inv a).toNat_lt
    have hpos : 1 ≤ (inv a).toNat := by
      rcases Nat.eq_zero_or_pos (inv a).toNat with h | h
      · exact absurd (UInt8.toNat.inj h) hi0
      · exact h
    refine hz (inv a).toNat hpos (by omega) ?_
    rw [UInt8.ofNat_toNat]
    exact mul_inv a h0'

section
variable {f : Nat → Option RowD} {g s rb gi gr : Nat} {ci cr : Array Value}

set_option maxRecDepth 20000 in
set_option maxHeartbeats 2000000 in
theorem refRowsK (K H0 : Hp) (w0 : World) (h0 : Sub H0 w0) (ha : RefAt H0 w0 rb gi gr g s ci cr) (hc : RefC K g f ci cr) (hg : g ≤ 255) :
    Calls Try.prog 47 #[ptr rb] w0 (Pure H0 w0 fun v H' => ∃ cs, Sl (H'.nu w0) 2 v (upto f g).length (rowCells cs) ∧ RowsOk K cs (upto f g)) := by
  have hs := ha.start h0
  have hle := Hp.le.refl H0
  refine Calls.enter (args := [ptr rb]) Try.func47 rfl Try.ntmps47 rfl ?_
  refine WC.seq (WC.region (WO.step rfl (OR.assign rfl (WO.done (WX.seq (WC.seq (WC.region ?_)))))))
  refine WO.step rfl (OR.assign rfl (WO.done (WX.seq (WC.seq (WC.seq (WC.region (WO.step rfl ?_)))))))
  refine OR.assign rfl (WO.done (WX.seq (WC.block ?_)))
  refine WC.loop (ι := Nat × Value) (fun ix => [(0, ptr rb), (3, ix.2), (4, .int .i64 (ix.1 : Int))]) (fun ix w => (ix.1 ≤ g ∧ ∃ H cs Mo, Hp.le H0 H ∧ RowsOk K cs (upto f ix.1) ∧ (upto f ix.1).length ≤ ix.1 ∧ Own w0.heap.size 35 2 ix.2 (upto f ix.1).length (rowCells cs) Mo ∧ HS [] H0 w0 H ((rb, refObj g s gi gr, false) :: (gi, .cells ci 4, false) :: (gr, .cells cr 35, false) :: Mo) w)) (fun ix => g - ix.1) (0, .slice none 0 0) ⟨rfl, rfl, rfl,  trivial⟩ ?_ (fun ix w hW => ?_)
  · exact ⟨by omega, H0, [], [], hle, ⟨rfl, fun i h => by simp [upto] at h⟩, by simp [upto], Own.nil _ _ _, hs⟩
  obtain ⟨k, vo⟩ := ix
  obtain ⟨hk, H, cs, Mo, hle, hok, hul, ho, hs⟩ := hW
  simp only at hk hok ho hul
  refine WC.seq (WC.seq (WC.region (WO.step rfl (OR.move rfl (WO.step rfl (OR.move rfl (WO.step rfl ?_)))))))
  refine OR.nilCheck rfl (WO.step rfl (OR.fieldAddr FA165_0 rfl (WO.step rfl (OR.load T3 rfl rfl (hs.cellM (i := 0) rfl rfl) (WO.step rfl (OR.lss rfl rfl (WO.done ?_)))))))
  refine WX.seq ?_
  refine WC.condD rfl (fun hlt => ?_) (fun hlt => ?_)
  · have hk' : k < g := by omega
    obtain ⟨h1, ec, ep, h2, h3, h4⟩ := hc.2.2 k hk'
    refine WC.skip (WX.seq (WC.seq (WC.block (WC.seq (WC.region (WO.step rfl (OR.move rfl ?_)))))))
    refine WO.step rfl (OR.nilCheck rfl (WO.step rfl (OR.fieldAddr FA165_2 rfl (WO.step rfl (OR.load T163 rfl rfl (hs.cellM (i := 0) rfl rfl) (WO.step rfl (OR.move rfl ?_)))))))
    refine WO.step rfl (OR.idx k T163.und T4 rfl rfl rfl hk' ?_)
    refine WO.step rfl (OR.load T4 rfl rfl (cells_at (j := 0) (hs.blk (i := 1) rfl) (by rw [Nat.zero_add]; exact h1)) ?_)
    refine WO.done (WX.seq ?_)
    refine WC.cond rfl (fun hb => ?_) (fun hb => ?_)
    · obtain ⟨r, hr⟩ := Option.isSome_iff_exists.1 hb
      obtain ⟨hec, hep⟩ := h4 r hr
      obtain ⟨e1, e2, rfl⟩ := hec.form
      obtain ⟨e3, e4, rfl⟩ := hep.form
      refine WC.region (WO.step rfl (OR.move rfl (WO.step rfl (OR.move rfl (WO.step rfl (OR.nilCheck rfl (WO.step rfl ?_)))))))
      refine OR.fieldAddr FA165_3 rfl (WO.step rfl (OR.load T26 rfl rfl (hs.cellM (i := 0) rfl rfl) (WO.step rfl (OR.move rfl ?_))))
      refine WO.step rfl (OR.idxN k T26.und T35 rfl rfl rfl hk' ?_)
      refine WO.step rfl (OR.loadN (cs := [_, _]) T35 rfl rfl rfl (two_cells (hs.blk (i := 2) rfl) (by rw [Nat.zero_add]; exact h2) (by rw [Nat.zero_add]; exact h3)) ?_)
      refine WO.step rfl (OR.buildSlice (vs := [_]) hs T26.und T35 rfl rfl rfl rfl (by simp) ?_)
      clear hs; intro g4 w hg4 hs
      have hb1 := hs.blk (i := 0) rfl
      replace hs := hs.perm (List.perm_append_comm (l₁ := Mo) (l₂ := [_, _, _, _]))
      refine WO.step rfl (OR.append (m := 1) (news := [_, _]) hs ho T26.und T35 rfl (by omega) rfl rfl rfl (cells_of hb1) (fun h => by cases h) rfl (by omega) (by omega) ?_)
      clear hs ho; intro vo' w Mo' hs ho hge
      replace hs := (hs.perm (List.perm_append_comm (l₁ := [_, _, _, _]) (l₂ := Mo'))).drop 0
      refine WO.step rfl (OR.assign rfl (WO.done (WX.block (WX.seq (WC.region (WO.step rfl (OR.move rfl ?_)))))))
      refine WO.step rfl (OR.addI rfl rfl (by omega) (by omega) (WO.step rfl (OR.assign rfl (WO.done ?_))))
      refine WX.again ((k + 1, vo')) ⟨rfl, rfl, rfl,  trivial⟩ ?_ ?_
      · refine ⟨hk', H, cs ++ [(.slice e1 r.1.length e2, .slice e3 r.2.length e4)], Mo', hle, ?_, ?_, ?_, hs⟩
        · rw [upto_some hr]
          exact RowsOk.snoc hok hec hep
        · rw [upto_some hr, List.length_append]; simp; omega
        · rw [upto_some hr, rowCells_append, List.length_append]
          exact ho
      · simp only; omega
    · have hr : f k = none := by
        cases hf : f k with
        | none => rfl
        | some r => rw [hf] at hb; cases hb
      refine WC.skip (WX.block (WX.seq (WC.region (WO.step rfl (OR.move rfl (WO.step rfl (OR.addI rfl rfl (by omega) (by omega) ?_)))))))
      refine WO.step rfl (OR.assign rfl (WO.done ?_))
      refine WX.again ((k + 1, vo)) ⟨rfl, rfl, rfl,  trivial⟩ ?_ ?_
      · refine ⟨hk', H, cs, Mo, hle, ?_, ?_, ?_, hs⟩
        · rw [upto_none hr]; exact hok
        · rw [upto_none hr]; omega
        · rw [upto_none hr]; exact ho
      · simp only; omega
  · have e : k = g := by omega
    subst e
    refine WC.exit (WX.seq_exit (WX.loop_exit (WX.block_hit (WX.seq (WC.seq (WC.region (WO.step rfl ?_)))))))
    refine OR.move rfl (WO.step rfl (OR.assign rfl (WO.done (WX.seq (WC.ret ?_)))))
    refine WX.ret1 rfl rfl ?_
    replace hs := hs.perm (List.perm_append_comm (l₁ := Mo) (l₂ := [_, _, _]))
    obtain ⟨H2, hle2, hs2, hsl⟩ := HS.pubN hs ho
    exact .mk hs2 ⟨cs, hsl, hok⟩

theorem refRows_ok (H0 : Hp) (w0 : World) (h0 : Sub H0 w0) (ha : RefAt H0 w0 rb gi gr g s ci cr) (hc : RefC H0 g f ci cr) (hg : g ≤ 255) :
    Calls Try.prog 47 #[ptr rb] w0 (Pure H0 w0 fun v H' => Rws H' v (upto f g)) :=
  (refRowsK H0 H0 w0 h0 ha hc hg).mono fun E w' h => by
    obtain ⟨v, H', M', rfl, hs, hM, h1, cs, h2, h3⟩ := h
    exact ⟨v, H', M', rfl, hs, hM, h1, cs, h2.mono (Hp.nu_le _ _), h3.mono hs.le⟩

set_option maxRecDepth 20000 in
set_option maxHeartbeats 2000000 in
theorem refRank_ok (H0 : Hp) (w0 : World) (h0 : Sub H0 w0) (ha : RefAt H0 w0 rb gi gr g s ci cr) (hc : RefC H0 g f ci cr) (hg : g ≤ 255) :
    Calls Try.prog 45 #[ptr rb] w0 (Pure H0 w0 fun v _ => v = .int .i64 ((upto f g).length : Int)) := by
  have hs := ha.start h0
  have hle := Hp.le.refl H0
  refine Calls.enter (args := [ptr rb]) Try.func45 rfl Try.ntmps45 rfl ?_
  refine WC.seq (WC.region (WO.step rfl (OR.assign rfl (WO.done (WX.seq (WC.seq (WC.region ?_)))))))
  refine WO.step rfl (OR.move rfl ?_)
  refine WO.step rfl (OR.call hs body47 rfl rfl (refRows_ok _ _ hs.toSub ha hc hg) ?_)
  clear hs; rintro _ H w hs hle1 hr; replace hle := hle.trans hle1; (try replace hlb := hlb.trans hle1)
  obtain ⟨_, _, rfl⟩ := hr.form
  refine WO.step rfl (OR.lenSlice T26.und rfl (WO.step rfl (OR.assign rfl (WO.done (WX.seq (WC.ret ?_))))))
  refine WX.ret1 rfl rfl ?_
  exact .mk hs rfl

set_option maxRecDepth 20000 in
set_option maxHeartbeats 2000000 in
theorem refReduce_ok (r : RowD) (rc rp : Value) (H0 : Hp) (w0 : World) (h0 : Sub H0 w0) (ha : RefAt H0 w0 rb gi gr g s ci cr) (hc : RefC H0 g f ci cr) (hL : Leads g s f) (hg : g ≤ 255) (hsm : s ≤ 65535)
    (hrc : Bytes H0 rc r.1) (hrp : Bytes H0 rp r.2) (hr : RowGS g s r) :
    Calls Try.prog 112 #[ptr rb, .agg #[rc, rp]] w0 (Pure H0 w0 fun v H' => RowV H' v (redR (upto f g) r)) := by
  have hs := ha.start h0
  have hle := Hp.le.refl H0
  obtain ⟨b1, c1, rfl⟩ := hrc.form
  obtain ⟨b2, c2, rfl⟩ := hrp.form
  have hR : ∀ k, ∀ x ∈ upto f k, RowGS g s x := fun k x hx => by
    obtain ⟨i, _, hi⟩ := mem_upto.1 hx
    exact (hL i x hi).2.2
  refine Calls.enter (args := [ptr rb, .agg #[.slice b1 r.1.length c1, .slice b2 r.2.length c2]]) Try.func112 rfl Try.ntmps112 rfl ?_
  refine WC.seq (WC.region (WO.step rfl (OR.box hs rfl ?_)))
  clear hs; intro g1 w hg1 hs
  refine WO.step rfl (OR.alloc hs T35 ?_)
  clear hs; intro g2 w hg2 hs
  refine WO.done (WX.seq (WC.seq (WC.seq (WC.region (WO.step rfl (OR.assign rfl (WO.done ?_)))))))
  refine WX.seq (WC.block ?_)
  refine WC.loop (ι := Nat × Value × Value) (fun ix => [(0, ptr rb), (3, ptr g1), (4, ptr g2), (5, .int .i64 (ix.1 : Int))]) (fun ix w => (ix.1 ≤ g ∧ ∃ H, Hp.le H0 H ∧ Bytes H ix.2.1 (redR (upto f ix.1) r).1 ∧ Bytes H ix.2.2 (redR (upto f ix.1) r).2 ∧ HS [] H0 w0 H [(g1, .cells #[ix.2.1, ix.2.2] 35, true), (g2, .cells #[.slice none 0 0, .slice none 0 0] 35, true), (rb, refObj g s gi gr, false), (gi, .cells ci 4, false), (gr, .cells cr 35, false)] w)) (fun ix => g - ix.1) (0, .slice b1 r.1.length c1, .slice b2 r.2.length c2) ⟨rfl, rfl, rfl, rfl,  trivial⟩ ?_ (fun ix w hW => ?_)
  · exact ⟨by omega, H0, hle, hrc, hrp, hs.front (i := 1) rfl⟩
  obtain ⟨k, qc, qp⟩ := ix
  obtain ⟨hk, H, hle, hqc, hqp, hs⟩ := hW
  simp only at hk hqc hqp hs
  refine WC.seq (WC.seq (WC.region (WO.step rfl (OR.move rfl (WO.step rfl (OR.move rfl (WO.step rfl ?_)))))))
  refine OR.nilCheck rfl (WO.step rfl (OR.fieldAddr FA165_0 rfl (WO.step rfl (OR.load T3 rfl rfl (hs.cellM (i := 2) rfl rfl) (WO.step rfl (OR.lss rfl rfl (WO.done ?_)))))))
  refine WX.seq ?_
  refine WC.condD rfl (fun hlt => ?_) (fun hlt => ?_)
  · have hk' : k < g := by omega
    obtain ⟨h1, ec, ep, h2, h3, h4⟩ := hc.2.2 k hk'
    refine WC.skip (WX.seq (WC.seq (WC.block (WC.seq (WC.region (WO.step rfl (OR.move rfl ?_)))))))
    refine WO.step rfl (OR.nilCheck rfl (WO.step rfl (OR.fieldAddr FA165_2 rfl (WO.step rfl (OR.load T163 rfl rfl (hs.cellM (i := 2) rfl rfl) (WO.step rfl (OR.move rfl ?_)))))))
    refine WO.step rfl (OR.idx k T163.und T4 rfl rfl rfl hk' ?_)
    refine WO.step rfl (OR.load T4 rfl rfl (cells_at (j := 0) (hs.blk (i := 3) rfl) (by rw [Nat.zero_add]; exact h1)) ?_)
    refine WO.done (WX.seq ?_)
    refine WC.cond rfl (fun hb => ?_) (fun hb => ?_)
    · obtain ⟨x, hx⟩ := Option.isSome_iff_exists.1 hb
      obtain ⟨hec, hep⟩ := h4 x hx
      have hxg := (hL k x hx).2.2
      have hqg := redR_gs (upto f k) r hr (hR k)
      have hst := hL.step hx r
      generalize hqd : redR (upto f k) r = q at hqc hqp hqg hst
      obtain ⟨e1, e2, rfl⟩ := hec.form
      obtain ⟨e3, e4, rfl⟩ := hep.form
      obtain ⟨b3, c3, rfl⟩ := hqc.form
      obtain ⟨b4, c4, rfl⟩ := hqp.form
      obtain ⟨yb, yo, rfl, hcy⟩ := hqc.pos (by rw [hqg.1]; omega)
      have hcy2 := hcy k (by rw [hqg.1]; exact hk')
      have hgd : q.1.getD k 0 = q.1[k]'(by rw [hqg.1]; exact hk') := by rw [List.getD_eq_getElem?_getD, List.getElem?_eq_getElem (by rw [hqg.1]; exact hk')]; rfl
      have hlb := Hp.le.refl H
      refine WC.draw 14 mixed hs (by kernel_rfl) ?_
      refine ⟨MF.eq _, by intro Mx H w hle hs; refine forVals_nil (ORg.plain (OR.loadAll T35 rfl rfl (hs.right.blk (i := 0) rfl) rfl ?_)); exact ⟨_, [], Hp.le.refl _, hs, rfl, rfl⟩, ?_⟩
      refine ⟨MF.eq _, by intro Mx H w hle hs; refine forVals_nil (ORg.plain (OR.move rfl ?_)); exact ⟨_, [], Hp.le.refl _, hs, rfl, rfl⟩, ?_⟩
      refine ⟨MF.eq _, by intro Mx H w hle hs; refine forVals_eq rfl rfl rfl ?_; refine forVals_nil (ORg.plain (OR.nilCheck rfl ?_)); exact ⟨_, [], Hp.le.refl _, hs, rfl, rfl⟩, ?_⟩
      refine ⟨MF.eq _, by intro Mx H w hle hs; refine forVals_eq rfl rfl rfl ?_; refine forVals_nil (ORg.plain (OR.fieldAddr FA165_3 rfl ?_)); exact ⟨_, [], Hp.le.refl _, hs, rfl, rfl⟩, ?_⟩
      refine ⟨MF.eq _, by intro Mx H w hle hs; refine forVals_eq rfl rfl rfl ?_; refine forVals_nil (ORg.plain (OR.load T26 rfl rfl (hs.right.cellM (i := 2) rfl rfl) ?_)); exact ⟨_, [], Hp.le.refl _, hs, rfl, rfl⟩, ?_⟩
      refine ⟨MF.eq _, by intro Mx H w hle hs; refine forVals_nil (ORg.plain (OR.move rfl ?_)); exact ⟨_, [], Hp.le.refl _, hs, rfl, rfl⟩, ?_⟩
      refine ⟨MF.eq (.pointer (some ⟨gr, 0 + k * 2, none⟩)), ?_, ?_⟩
      · intro Mx H w hle2 hs; (try replace hle := hle.trans hle2); (try replace hlb := hlb.trans hle2); refine forVals_eq rfl rfl rfl ?_; refine forVals_eq rfl rfl rfl ?_
        refine forVals_nil (ORg.plain (OR.idxN k T26.und T35 rfl rfl rfl hk' ?_))
        exact ⟨_, [], Hp.le.refl _, hs, rfl, rfl⟩
      refine ⟨MF.eq (.agg #[.slice e1 x.1.length e2, .slice e3 x.2.length e4]), ?_, ?_⟩
      · intro Mx H w hle2 hs; (try replace hle := hle.trans hle2); (try replace hlb := hlb.trans hle2); refine forVals_eq rfl rfl rfl ?_
        refine forVals_nil (ORg.plain (OR.loadN (cs := [_, _]) T35 rfl rfl rfl (two_cells (hs.right.blk (i := 4) rfl) (by rw [Nat.zero_add]; exact h2) (by rw [Nat.zero_add]; exact h3)) ?_))
        exact ⟨_, [], Hp.le.refl _, hs, rfl, rfl⟩
      refine ⟨MF.eq _, by intro Mx H w hle hs; refine forVals_nil (ORg.plain (OR.fieldAddr FA35_0 rfl ?_)); exact ⟨_, [], Hp.le.refl _, hs, rfl, rfl⟩, ?_⟩
      refine ⟨MF.eq _, by intro Mx H w hle hs; refine forVals_eq rfl rfl rfl ?_; refine forVals_nil (ORg.plain (OR.load T23 rfl rfl (hs.right.cellM (i := 0) rfl rfl) ?_)); exact ⟨_, [], Hp.le.refl _, hs, rfl, rfl⟩, ?_⟩
      refine ⟨MF.eq _, by intro Mx H w hle hs; refine forVals_nil (ORg.plain (OR.move rfl ?_)); exact ⟨_, [], Hp.le.refl _, hs, rfl, rfl⟩, ?_⟩
      refine ⟨MF.eq (.pointer (some ⟨yb, yo + k, none⟩)), ?_, ?_⟩
      · intro Mx H w hle2 hs; (try replace hle := hle.trans hle2); (try replace hlb := hlb.trans hle2); refine forVals_eq rfl rfl rfl ?_; refine forVals_eq rfl rfl rfl ?_
        refine forVals_nil (ORg.plain (OR.idx k T23.und T5 rfl rfl rfl (by rw [hqg.1]; exact hk') ?_))
        exact ⟨_, [], Hp.le.refl _, hs, rfl, rfl⟩
      refine ⟨MF.eq (B (q.1[k]'(by rw [hqg.1]; exact hk'))), ?_, ?_⟩
      · intro Mx H w hle2 hs; (try replace hle := hle.trans hle2); (try replace hlb := hlb.trans hle2); refine forVals_eq rfl rfl rfl ?_
        refine forVals_nil (ORg.plain (OR.load T5 rfl rfl (hs.cell (hcell.mono hlb hcy2)) ?_))
        exact ⟨_, [], Hp.le.refl _, hs, rfl, rfl⟩
      refine ⟨MF.row (redR (upto f (k + 1)) r), ?_, ?_⟩
      · intro Mx H w hle2 hs; (try replace hle := hle.trans hle2); (try replace hlb := hlb.trans hle2); refine forVals_eq rfl rfl rfl ?_; refine forVals_eq rfl rfl rfl ?_; refine forVals_eq rfl rfl rfl ?_
        refine forVals_nil (ORg.plain (OR.call hs body115 rfl rfl (refPlusR_ok q x _ _ _ _ _ _ _ hs.toSub (hqc.mono hlb) (hqp.mono hlb) (hec.mono hle) (hep.mono hle) (by rw [hqg.1]; omega) (by rw [hqg.2]; omega) (hqg.1.trans hxg.1.symm) (hqg.2.trans hxg.2.symm)) ?_))
        clear hs; rintro _ H w hs hle1 hq
        exact ⟨_, [], hle1, hs, (by rw [hst, hgd]; exact hq), rfl⟩
      intro H w hle2; (try replace hle := hle.trans hle2); (try replace hlb := hlb.trans hle2)
      refine forAllVals_eq rfl ?_
      refine forAllVals_eq rfl ?_
      refine forAllVals_eq rfl ?_
      refine forAllVals_eq rfl ?_
      refine forAllVals_eq rfl ?_
      refine forAllVals_eq rfl ?_
      refine forAllVals_eq rfl ?_
      refine forAllVals_eq rfl ?_
      refine forAllVals_eq rfl ?_
      refine forAllVals_eq rfl ?_
      refine forAllVals_eq rfl ?_
      refine forAllVals_eq rfl ?_
      refine forAllVals_eq rfl ?_
      refine forAllVals_of rfl ?_; intro v13 h13
      refine forAllVals_nil ?_; (try clear hs); intro hs
      obtain ⟨nc, np, rfl, hnc, hnp⟩ := h13
      obtain ⟨b5, c5, rfl⟩ := hnc.form
      obtain ⟨b6, c6, rfl⟩ := hnp.form
      refine WO.stepN (OR.storeAll hs T35 rfl rfl rfl rfl rfl ?_)
      clear hs; intro w hs
      refine WO.done (WX.block (WX.seq (WC.region (WO.step rfl (OR.move rfl (WO.step rfl (OR.addI rfl rfl (by omega) (by omega) ?_)))))))
      refine WO.step rfl (OR.assign rfl (WO.done ?_))
      refine WX.again ((k + 1, .slice b5 (redR (upto f (k + 1)) r).1.length c5, .slice b6 (redR (upto f (k + 1)) r).2.length c6)) ⟨rfl, rfl, rfl, rfl,  trivial⟩ ?_ ?_
      · exact ⟨hk', H, hle, hnc, hnp, hs⟩
      · simp only; omega
    · have hx : f k = none := by
        cases hf : f k with
        | none => rfl
        | some r => rw [hf] at hb; cases hb
      refine WC.skip (WX.block (WX.seq (WC.region (WO.step rfl (OR.move rfl (WO.step rfl (OR.addI rfl rfl (by omega) (by omega) ?_)))))))
      refine WO.step rfl (OR.assign rfl (WO.done ?_))
      refine WX.again ((k + 1, qc, qp)) ⟨rfl, rfl, rfl, rfl,  trivial⟩ ?_ ?_
      · refine ⟨hk', H, hle, ?_, ?_, hs⟩
        · rw [upto_none hx]; exact hqc
        · rw [upto_none hx]; exact hqp
      · simp only; omega
  · have e : k = g := by omega
    subst e
    obtain ⟨b3, c3, rfl⟩ := hqc.form
    obtain ⟨b4, c4, rfl⟩ := hqp.form
    refine WC.exit (WX.seq_exit (WX.loop_exit (WX.block_hit (WX.seq (WC.seq (WC.region (WO.step rfl ?_)))))))
    refine OR.loadAll T35 rfl rfl (hs.blk (i := 0) rfl) rfl ?_
    replace hs := hs.front (i := 1) rfl
    refine WO.stepN (OR.storeAll hs T35 rfl rfl rfl rfl rfl ?_)
    clear hs; intro w hs
    refine WO.done (WX.seq (WC.ret ?_))
    refine WX.retCell T35 rfl rfl rfl rfl (hs.blk (i := 0) rfl) ?_
    exact .mk hs ⟨_, _, rfl, hqc, hqp⟩

set_option maxRecDepth 20000 in
set_option maxHeartbeats 2000000 in
theorem refContains_ok (vc : Value) (l : List UInt8) (H0 : Hp) (w0 : World) (h0 : Sub H0 w0) (ha : RefAt H0 w0 rb gi gr g s ci cr) (hc : RefC H0 g f ci cr) (hL : Leads g s f) (hg : g ≤ 255) (hsm : s ≤ 65535)
    (hv : Bytes H0 vc l) :
    Calls Try.prog 41 #[ptr rb, vc] w0 (Pure H0 w0 fun v _ => v = if l.length = g then .tuple #[.bool (hasR s (upto f g) l), .int .i64 0] else .tuple #[.bool false, .int .i64 21]) := by
  have hs := ha.start h0
  have hle := Hp.le.refl H0
  obtain ⟨b1, c1, rfl⟩ := hv.form
  refine Calls.enter (args := [ptr rb, .slice b1 l.length c1]) Try.func41 rfl Try.ntmps41 rfl ?_
  refine WC.seq (WC.region (WO.step rfl (OR.assign rfl (WO.step rfl (OR.assign rfl (WO.done (WX.seq ?_)))))))
  refine WC.seq (WC.seq (WC.region (WO.step rfl (OR.move rfl (WO.step rfl (OR.lenSlice T23.und rfl (WO.step rfl ?_)))))))
  refine OR.move rfl (WO.step rfl (OR.nilCheck rfl (WO.step rfl (OR.fieldAddr FA165_0 rfl (WO.step rfl (OR.load T3 rfl rfl (hs.cellM (i := 0) rfl rfl) (WO.step rfl ?_)))))))
  refine OR.neq rfl rfl (WO.done (WX.seq ?_))
  refine WC.condD rfl (fun hne => ?_) (fun hne => ?_)
  · refine WC.seq (WC.region (WO.step rfl (OR.assign rfl (WO.step rfl (OR.assign rfl (WO.done (WX.seq ?_)))))))
    refine WC.ret (WX.seq_ret ?_)
    refine WX.ret2 rfl rfl rfl ?_
    exact .mk hs (by rw [if_neg (by omega)])
  · have heq : l.length = g := by omega
    refine WC.skip (WX.seq (WC.seq (WC.region (WO.step rfl (OR.move rfl (WO.step rfl (OR.move rfl ?_)))))))
    refine WO.step rfl (OR.move rfl (WO.step rfl (OR.nilCheck rfl (WO.step rfl (OR.fieldAddr FA165_1 rfl (WO.step rfl (OR.load T3 rfl rfl (hs.cellM (i := 0) rfl rfl) ?_)))))))
    refine WO.step rfl (OR.make1 (m := s) hs T23.und T5 rfl rfl rfl (by omega) (by omega) ?_)
    clear hs; intro gz w hgz hs
    refine WO.step rfl (OR.buildAll T35 rfl rfl PL35 rfl rfl ?_)
    obtain ⟨H, hle1, hp_gz, hs9⟩ := hs.pub1 hgz; clear hs; have hs := hs9; clear hs9; replace hle := hle.trans hle1; (try replace hlb := hlb.trans hle1)
    have hz := Bytes.block (l := List.replicate s 0) (cap := s) hp_gz (by simp) (by simp)
    rw [List.length_replicate] at hz
    refine WO.step rfl (OR.call hs body112 rfl rfl (refReduce_ok (f := f) (l, List.replicate s 0) _ _ _ _ hs.toSub (RefAt.of hs (i := 0) (j := 1) (k := 2) rfl rfl rfl (by omega) (by omega) (by omega)) (hc.mono hle) hL hg hsm (hv.mono hle) hz ⟨heq, by simp⟩) ?_)
    clear hs; rintro _ H w hs hle1 ⟨nc, np, rfl, hnc, hnp⟩; replace hle := hle.trans hle1; (try replace hlb := hlb.trans hle1)
    have hq := redR_gs (g := g) (s := s) (upto f g) (l, List.replicate s 0) ⟨heq, by simp⟩ (fun x hx => by
      obtain ⟨i, _, hi⟩ := mem_upto.1 hx
      exact (hL i x hi).2.2)
    obtain ⟨b5, c5, rfl⟩ := hnc.form
    obtain ⟨b6, c6, rfl⟩ := hnp.form
    refine WO.step rfl (OR.alloc hs T35 ?_)
    clear hs; intro g1 w hg1 hs
    refine WO.stepN (OR.storeAll hs T35 rfl rfl rfl rfl rfl ?_)
    clear hs; intro w hs
    refine WO.done (WX.seq (WC.seq ?_))
    refine WC.sub [(0, ptr rb), (6, ptr g1)] ⟨rfl, rfl,  trivial⟩ ?_
    refine WC.draw 10 mixed hs (by kernel_rfl) ?_
    refine ⟨MF.eq _, by intro Mx H w hle hs; refine forVals_nil (ORg.plain (OR.fieldAddr FA35_0 rfl ?_)); exact ⟨_, [], Hp.le.refl _, hs, rfl, rfl⟩, ?_⟩
    refine ⟨MF.eq _, by intro Mx H w hle hs; refine forVals_eq rfl rfl rfl ?_; refine forVals_nil (ORg.plain (OR.load T23 rfl rfl (hs.right.cellM (i := 0) rfl rfl) ?_)); exact ⟨_, [], Hp.le.refl _, hs, rfl, rfl⟩, ?_⟩
    refine ⟨MF.eq (.int .i64 (if lead (redR (upto f g) (l, List.replicate s 0)).1 < 0 then ((redR (upto f g) (l, List.replicate s 0)).1.length : Int) else lead (redR (upto f g) (l, List.replicate s 0)).1)), ?_, ?_⟩
    · intro Mx H w hle2 hs; (try replace hle := hle.trans hle2); (try replace hlb := hlb.trans hle2); refine forVals_eq rfl rfl rfl ?_
      refine forVals_nil (ORg.plain (OR.call hs body113 rfl rfl (refLead_ok _ _ _ _ hs.toSub (hnc.mono hle2) (by rw [hq.1]; omega)) ?_))
      clear hs; rintro _ H w hs hle1 rfl
      exact ⟨_, [], hle1, hs, rfl, rfl⟩
    refine ⟨MF.eq _, by intro Mx H w hle hs; refine forVals_nil (ORg.plain (OR.move rfl ?_)); exact ⟨_, [], Hp.le.refl _, hs, rfl, rfl⟩, ?_⟩
    refine ⟨MF.eq _, by intro Mx H w hle hs; refine forVals_eq rfl rfl rfl ?_; refine forVals_nil (ORg.plain (OR.nilCheck rfl ?_)); exact ⟨_, [], Hp.le.refl _, hs, rfl, rfl⟩, ?_⟩
    refine ⟨MF.eq _, by intro Mx H w hle hs; refine forVals_eq rfl rfl rfl ?_; refine forVals_nil (ORg.plain (OR.fieldAddr FA165_0 rfl ?_)); exact ⟨_, [], Hp.le.refl _, hs, rfl, rfl⟩, ?_⟩
    refine ⟨MF.eq _, by intro Mx H w hle hs; refine forVals_eq rfl rfl rfl ?_; refine forVals_nil (ORg.plain (OR.load T3 rfl rfl (hs.right.cellM (i := 1) rfl rfl) ?_)); exact ⟨_, [], Hp.le.refl _, hs, rfl, rfl⟩, ?_⟩
    refine ⟨MF.eq _, by intro Mx H w hle hs; refine forVals_eq rfl rfl rfl ?_; refine forVals_eq rfl rfl rfl ?_; refine forVals_nil (ORg.plain (OR.eql rfl rfl ?_)); exact ⟨_, [], Hp.le.refl _, hs, rfl, rfl⟩, ?_⟩
    refine ⟨MF.eq _, by intro Mx H w hle hs; refine forVals_eq rfl rfl rfl ?_; refine forVals_nil (ORg.plain (OR.assign rfl ?_)); exact ⟨_, [], Hp.le.refl _, hs, rfl, rfl⟩, ?_⟩
    refine ⟨MF.eq _, by intro Mx H w hle hs; refine forVals_nil (ORg.plain (OR.assign rfl ?_)); exact ⟨_, [], Hp.le.refl _, hs, rfl, rfl⟩, ?_⟩
    intro H w hle2; (try replace hle := hle.trans hle2); (try replace hlb := hlb.trans hle2)
    refine forAllVals_eq rfl ?_
    refine forAllVals_eq rfl ?_
    refine forAllVals_eq rfl ?_
    refine forAllVals_eq rfl ?_
    refine forAllVals_eq rfl ?_
    refine forAllVals_eq rfl ?_
    refine forAllVals_eq rfl ?_
    refine forAllVals_eq rfl ?_
    refine forAllVals_eq rfl ?_
    refine forAllVals_eq rfl ?_
    refine forAllVals_nil ?_; (try clear hs); intro hs
    refine WO.done (WX.seq (WC.ret ?_))
    refine WX.ret2 rfl rfl rfl ?_
    refine .mk hs ?_
    rw [if_pos heq]
    have hlt : 0 ≤ lead (redR (upto f g) (l, List.replicate s 0)).1 → (lead (redR (upto f g) (l, List.replicate s 0)).1).toNat < (redR (upto f g) (l, List.replicate s 0)).1.length := lead_lt
    unfold hasR
    have e : decide ((if lead (redR (upto f g) (l, List.replicate s 0)).1 < 0 then ((redR (upto f g) (l, List.replicate s 0)).1.length : Int) else lead (redR (upto f g) (l, List.replicate s 0)).1) = (g : Int)) = decide (lead (redR (upto f g) (l, List.replicate s 0)).1 < 0) := by
      rw [decide_eq_decide]
      rw [hq.1] at hlt ⊢
      split <;> omega
    rw [e]

set_option maxRecDepth 20000 in
set_option maxHeartbeats 2000000 in
theorem refSolveK (K H0 : Hp) (w0 : World) (h0 : Sub H0 w0) (ha : RefAt H0 w0 rb gi gr g s ci cr) (hc : RefC K g f ci cr) (hg : g ≤ 255) :
    Calls Try.prog 43 #[ptr rb] w0 (Pure H0 w0 fun v H' => ∃ r cs, v = .tuple #[r, .int .i64 (if (upto f g).length < g then 24 else 0)] ∧ Sl (H'.nu w0) 1 r (if (upto f g).length < g then [] else (upto f g).map (·.2)).length cs ∧ BLOk K cs (if (upto f g).length < g then [] else (upto f g).map (·.2))) := by
  have hs := ha.start h0
  have hle := Hp.le.refl H0
  refine Calls.enter (args := [ptr rb]) Try.func43 rfl Try.ntmps43 rfl ?_
  refine WC.seq (WC.region (WO.step rfl (OR.assign rfl (WO.step rfl (OR.assign rfl (WO.done (WX.seq ?_)))))))
  refine WC.seq (WC.region (WO.step rfl (OR.move rfl ?_)))
  refine WO.step rfl (OR.call hs body47 rfl rfl (refRowsK K _ _ hs.toSub ha hc hg) ?_)
  clear hs; rintro _ H w hs hle1 ⟨rc, hrs, hrk⟩; replace hle := hle.trans hle1; (try replace hlb := hlb.trans hle1)
  have hul : (upto f g).length ≤ g := by
    have := List.length_filterMap_le f (List.range g)
    simpa [upto] using this
  generalize upto f g = rows at *
  obtain ⟨br, cr', rfl⟩ := hrs.form
  replace hrs := hrs.mono (Hp.nu_le _ _)
  refine WO.step rfl (OR.assign rfl (WO.done (WX.seq (WC.seq (WC.seq (WC.region (WO.step rfl ?_)))))))
  refine OR.move rfl (WO.step rfl (OR.lenSlice T26.und rfl (WO.step rfl (OR.move rfl (WO.step rfl (OR.nilCheck rfl (WO.step rfl ?_)))))))
  refine OR.fieldAddr FA165_0 rfl (WO.step rfl (OR.load T3 rfl rfl (hs.cellM (i := 0) rfl rfl) (WO.step rfl (OR.lss rfl rfl (WO.done (WX.seq ?_))))))
  refine WC.condD rfl (fun hlt => ?_) (fun hlt => ?_)
  · refine WC.seq (WC.region (WO.step rfl (OR.assign rfl (WO.step rfl (OR.assign rfl (WO.done (WX.seq ?_)))))))
    refine WC.ret (WX.seq_ret ?_)
    refine WX.ret2 rfl rfl rfl ?_
    have : rows.length < g := by omega
    refine .mk hs ⟨_, [], by rw [if_pos this], ?_, ?_⟩
    · rw [if_pos this]; exact Sl.nil _ _
    · rw [if_pos this]; exact BLOk.nil _
  · have hge : ¬ rows.length < g := by omega
    obtain ⟨HB, hHB⟩ : ∃ X, X = H := ⟨_, rfl⟩
    subst hHB
    refine WC.skip (WX.seq (WC.seq (WC.region (WO.step rfl (OR.assign rfl (WO.done (WX.seq ?_)))))))
    refine WC.seq (WC.seq (WC.region (WO.step rfl (OR.assign rfl (WO.done (WX.seq (WC.block ?_)))))))
    refine WC.loop (ι := Nat × Value) (fun ix => [(4, .slice br rows.length cr'), (5, ix.2), (6, .int .i64 (ix.1 : Int))]) (fun ix w => (ix.1 ≤ rows.length ∧ ∃ H cs Mo, Hp.le H0 H ∧ Hp.le HB H ∧ BLOk K cs ((rows.take ix.1).map (·.2)) ∧ Own w0.heap.size 23 1 ix.2 ix.1 cs Mo ∧ HS [] H0 w0 H Mo w)) (fun ix => rows.length - ix.1) (0, .slice none 0 0) ⟨rfl, rfl, rfl,  trivial⟩ ?_ (fun ix w hW => ?_)
    · exact ⟨by omega, HB, [], [], hle, Hp.le.refl HB, BLOk.nil _, Own.nil _ _ _, hs.sublist (List.nil_sublist _)⟩
    clear hs hle
    obtain ⟨k, vo⟩ := ix
    obtain ⟨hk, H, cs, Mo, hle, hlb, hok, ho, hs⟩ := hW
    simp only at hk hok ho
    refine WC.seq (WC.seq (WC.region (WO.step rfl (OR.move rfl (WO.step rfl (OR.move rfl (WO.step rfl ?_)))))))
    refine OR.lenSlice T26.und rfl (WO.step rfl (OR.lss rfl rfl (WO.done (WX.seq ?_))))
    refine WC.condD rfl (fun hlt => ?_) (fun hlt => ?_)
    · have hk' : k < rows.length := by omega
      obtain ⟨xb, xo, rfl, hcr⟩ := hrs.pos (by omega)
      obtain ⟨ec, ep, hg1, hg2, hec, hep⟩ := hrk.get k hk'
      obtain ⟨b2, c2, rfl⟩ := hep.form
      have hcc := hcr _ _ hg2
      refine WC.skip (WX.seq (WC.seq (WC.block (WC.region (WO.step rfl (OR.move rfl (WO.step rfl ?_)))))))
      refine OR.move rfl (WO.step rfl (OR.move rfl ?_))
      refine WO.step rfl (OR.idxN k T26.und T35 rfl rfl rfl hk' ?_)
      refine WO.step rfl (OR.fieldAddr FA35_1 rfl ?_)
      refine WO.step rfl (OR.load T23 rfl rfl (hs.cell (hcell.mono hlb hcc)) ?_)
      refine WO.step rfl (OR.buildSlice (vs := [_]) hs T22.und T23 rfl rfl rfl rfl (by simp) ?_)
      clear hs; intro g2 w hg2 hs
      have hb1 := hs.blk (i := 0) rfl
      replace hs := hs.perm (List.perm_append_comm (l₁ := Mo) (l₂ := [_]))
      refine WO.step rfl (OR.append (m := 1) (news := [_]) hs ho T22.und T23 rfl (by omega) rfl rfl rfl (cells_of hb1) (fun h => by cases h) rfl (by omega) (by omega) ?_)
      clear hs ho; intro vo' w Mo' hs ho hge
      replace hs := hs.sublist (List.sublist_append_left _ _)
      refine WO.step rfl (OR.assign rfl (WO.done (WX.block (WX.seq (WC.region (WO.step rfl (OR.move rfl ?_)))))))
      refine WO.step rfl (OR.addI rfl rfl (by omega) (by omega) (WO.step rfl (OR.assign rfl (WO.done ?_))))
      refine WX.again ((k + 1, vo')) ⟨rfl, rfl, rfl,  trivial⟩ ?_ ?_
      · refine ⟨hk', H, cs ++ [_], Mo', hle, hlb, ?_, ho, hs⟩
        rw [List.take_succ_eq_append_getElem hk', List.map_append]
        exact hok.snoc hep
      · simp only; omega
    · have e : k = rows.length := by omega
      subst e
      refine WC.exit (WX.seq_exit (WX.loop_exit (WX.block_hit (WX.seq (WC.seq (WC.region (WO.step rfl ?_)))))))
      refine OR.move rfl (WO.step rfl (OR.assign rfl (WO.step rfl (OR.assign rfl (WO.done (WX.seq (WC.ret ?_)))))))
      refine WX.ret2 rfl rfl rfl ?_
      obtain ⟨H2, hle2, hs2, hsl⟩ := HS.pubN (M := []) (by simpa using hs) ho
      rw [List.take_of_length_le (Nat.le_refl _)] at hok
      refine .mk hs2 ⟨vo, cs, by rw [if_neg hge], ?_, ?_⟩
      · rw [if_neg hge, List.length_map]; exact hsl
      · rw [if_neg hge]; exact hok
end
end Go.Bw
