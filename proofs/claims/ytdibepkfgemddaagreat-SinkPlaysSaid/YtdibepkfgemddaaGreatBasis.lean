/- A basis: what the code reckons. -/
import Derived.Test.YtdibepkfgemddaaGreatVector
namespace Go.Bw
set_option linter.unusedVariables false
set_option linter.unusedSimpArgs false
open Go.Proofs

/-- A row, and another one multiplied with an element. -/
def plusR (r x : RowD) (c : UInt8) : RowD := (addS c r.1 x.1, addS c r.2 x.2)
def lim : Nat := 140737488355328

set_option maxRecDepth 20000 in
set_option maxHeartbeats 2000000 in
theorem plus_ok (r x : RowD) (c : UInt8) (rc rp xc xp : Value) (H0 : Hp) (w0 : World) (h0 : Sub H0 w0) (hrc : Bytes H0 rc r.1) (hrp : Bytes H0 rp r.2) (hxc : Bytes H0 xc x.1) (hxp : Bytes H0 xp x.2)
    (hl1 : r.1.length ≤ 140737488355328) (hl2 : r.2.length ≤ 140737488355328) :
    Calls Tryz.prog 125 #[.agg #[rc, rp], .agg #[xc, xp], B c] w0 (Pure H0 w0 fun v H' => RowV H' v (plusR r x c)) := by
  have hs := HS.init h0
  have hle := Hp.le.refl H0
  refine Calls.enter (args := [.agg #[rc, rp], .agg #[xc, xp], B c]) Tryz.func125 rfl Tryz.ntmps125 rfl ?_
  refine WC.seq (WC.region (WO.step rfl (OR.box hs rfl ?_)))
  clear hs; intro g1 w hg1 hs
  refine WO.step rfl (OR.box hs rfl ?_)
  clear hs; intro g2 w hg2 hs
  refine WO.step rfl (OR.alloc hs T45 ?_)
  clear hs; intro g3 w hg3 hs
  refine WO.done (WX.seq (WC.seq (WC.region (WO.step rfl (OR.fieldAddr FA45_0 rfl (WO.step rfl (OR.load T43 rfl rfl (hs.cellM (i := 2) rfl rfl) ?_)))))))
  refine WO.step rfl (OR.fieldAddr FA45_0 rfl (WO.step rfl (OR.load T43 rfl rfl (hs.cellM (i := 1) rfl rfl) (WO.step rfl (OR.move rfl ?_)))))
  refine WO.step rfl (OR.call hs body139 rfl rfl (addScaled_ok _ _ _ _ c _ _ hs.toSub hrc hxc hl1) ?_)
  clear hs; rintro _ H w hs hle1 ⟨r1, rfl, hr1⟩; replace hle := hle.trans hle1; (try replace hlb := hlb.trans hle1)
  refine WO.step rfl (OR.move rfl (WO.step rfl (OR.extract rfl rfl (WO.step rfl (OR.extract rfl rfl (WO.step rfl (OR.assign rfl ?_)))))))
  refine WO.step rfl (OR.assign rfl (WO.done (WX.seq (WC.seq (WC.region (WO.step rfl (OR.fieldAddr FA45_1 rfl ?_)))))))
  refine WO.step rfl (OR.load T43 rfl rfl (hs.cellM (i := 2) rfl rfl) (WO.step rfl (OR.fieldAddr FA45_1 rfl (WO.step rfl (OR.load T43 rfl rfl (hs.cellM (i := 1) rfl rfl) (WO.step rfl (OR.move rfl ?_)))))))
  refine WO.step rfl (OR.call hs body139 rfl rfl (addScaled_ok _ _ _ _ c _ _ hs.toSub (hrp.mono hle) (hxp.mono hle) hl2) ?_)
  clear hs; rintro _ H w hs hle1 ⟨r2, rfl, hr2⟩; replace hle := hle.trans hle1; (try replace hlb := hlb.trans hle1)
  replace hr1 := hr1.mono hle1
  obtain ⟨b1, c1, rfl⟩ := hr1.form
  obtain ⟨b2, c2, rfl⟩ := hr2.form
  refine WO.step rfl (OR.move rfl (WO.step rfl (OR.extract rfl rfl (WO.step rfl (OR.extract rfl rfl (WO.step rfl (OR.assign rfl ?_)))))))
  refine WO.step rfl (OR.assign rfl (WO.done (WX.seq (WC.seq (WC.region (WO.step rfl (OR.move rfl ?_)))))))
  refine WO.step rfl (OR.move rfl (WO.step rfl (OR.buildAll T45 rfl rfl PL45 rfl rfl (WO.stepN (OR.storeAll hs T45 rfl rfl rfl rfl rfl ?_)))))
  clear hs; intro w hs
  refine WO.done (WX.seq (WC.ret ?_))
  refine WX.retCell T45 rfl rfl rfl rfl (hs.blk (i := 0) rfl) ?_
  exact .mk hs ⟨_, _, rfl, hr1, hr2⟩

set_option maxRecDepth 20000 in
set_option maxHeartbeats 2000000 in
theorem own_ok (r : RowD) (rc rp : Value) (H0 : Hp) (w0 : World) (h0 : Sub H0 w0) (hrc : Bytes H0 rc r.1) (hrp : Bytes H0 rp r.2)
    (hl1 : r.1.length ≤ 140737488355328) (hl2 : r.2.length ≤ 140737488355328) :
    Calls Tryz.prog 121 #[.agg #[rc, rp]] w0 (Pure H0 w0 fun v H' => RowV H' v r) := by
  have hs := HS.init h0
  have hle := Hp.le.refl H0
  refine Calls.enter (args := [.agg #[rc, rp]]) Tryz.func121 rfl Tryz.ntmps121 rfl ?_
  refine WC.seq (WC.region (WO.step rfl (OR.box hs rfl ?_)))
  clear hs; intro g1 w hg1 hs
  refine WO.step rfl (OR.alloc hs T45 ?_)
  clear hs; intro g2 w hg2 hs
  refine WO.done (WX.seq (WC.seq ?_))
  refine WC.draw 6 mixed hs (by kernel_rfl) ?_
  refine ⟨MF.eq _, by intro Mx H w hle hs; refine forVals_nil (ORg.plain (OR.fieldAddr FA45_0 rfl ?_)); exact ⟨_, [], Hp.le.refl _, hs, rfl, rfl⟩, ?_⟩
  refine ⟨MF.eq _, by intro Mx H w hle hs; refine forVals_eq rfl rfl rfl ?_; refine forVals_nil (ORg.plain (OR.load T43 rfl rfl (hs.right.cellM (i := 1) rfl rfl) ?_)); exact ⟨_, [], Hp.le.refl _, hs, rfl, rfl⟩, ?_⟩
  refine ⟨MF.bytes r.1, ?_, ?_⟩
  · intro Mx H w hle2 hs; (try replace hle := hle.trans hle2); (try replace hlb := hlb.trans hle2); refine forVals_eq rfl rfl rfl ?_
    refine forVals_nil (ORg.plain (OR.call hs body87 rfl rfl (clone_pure _ _ _ _ hs.toSub (hrc.mono hle) hl1) ?_))
    clear hs; rintro _ H w hs hle1 hb
    exact ⟨_, [], hle1, hs, hb, rfl⟩
  refine ⟨MF.eq _, by intro Mx H w hle hs; refine forVals_nil (ORg.plain (OR.fieldAddr FA45_1 rfl ?_)); exact ⟨_, [], Hp.le.refl _, hs, rfl, rfl⟩, ?_⟩
  refine ⟨MF.eq _, by intro Mx H w hle hs; refine forVals_eq rfl rfl rfl ?_; refine forVals_nil (ORg.plain (OR.load T43 rfl rfl (hs.right.cellM (i := 1) rfl rfl) ?_)); exact ⟨_, [], Hp.le.refl _, hs, rfl, rfl⟩, ?_⟩
  refine ⟨MF.bytes r.2, ?_, ?_⟩
  · intro Mx H w hle2 hs; (try replace hle := hle.trans hle2); (try replace hlb := hlb.trans hle2); refine forVals_eq rfl rfl rfl ?_
    refine forVals_nil (ORg.plain (OR.call hs body87 rfl rfl (clone_pure _ _ _ _ hs.toSub (hrp.mono hle) hl2) ?_))
    clear hs; rintro _ H w hs hle1 hb
    exact ⟨_, [], hle1, hs, hb, rfl⟩
  intro H w hle2; (try replace hle := hle.trans hle2); (try replace hlb := hlb.trans hle2)
  refine forAllVals_eq rfl ?_
  refine forAllVals_eq rfl ?_
  refine forAllVals_of rfl ?_; intro v2 h2
  refine forAllVals_eq rfl ?_
  refine forAllVals_eq rfl ?_
  refine forAllVals_of rfl ?_; intro v5 h5
  refine forAllVals_nil ?_; (try clear hs); intro hs
  obtain ⟨b1, c1, rfl⟩ := h2.form
  obtain ⟨b2, c2, rfl⟩ := h5.form
  refine WO.step rfl (OR.buildAll T45 rfl rfl PL45 rfl rfl (WO.stepN (OR.storeAll hs T45 rfl rfl rfl rfl rfl ?_)))
  clear hs; intro w hs
  refine WO.done (WX.seq (WC.ret ?_))
  refine WX.retCell T45 rfl rfl rfl rfl (hs.blk (i := 0) rfl) ?_
  exact .mk hs ⟨_, _, rfl, h2, h5⟩

/-- A basis in memory: its block, g, s, and the value of its rows. -/
def basisObj (g s : Nat) (rv : Value) : Obj := .cells #[.int .i64 (g : Int), .int .i64 (s : Int), rv] 194
abbrev ptr (b : Nat) : Value := .pointer (some ⟨b, 0, none⟩)

theorem build_new (g s : Int) (w : World) : (Instr.build 194 #[(0, .int .i64 g), (1, .int .i64 s)]).run Tryz.prog w = .ok (.agg #[.int .i64 g, .int .i64 s, .slice none 0 0]) w := by
  have h := PL194 w
  simp only [Instr.build, Sem.run_bind, T194.run_zero, run_underlying T194.und, Result.andThen_ok, h]
  rfl

set_option maxRecDepth 20000 in
set_option maxHeartbeats 2000000 in
theorem made_nil (H0 : Hp) (w0 : World) (h0 : Sub H0 w0) : Calls Tryz.prog 119 #[.pointer none] w0 (Pure H0 w0 fun v _ => v = .bool false) := by
  have hs := HS.init h0
  refine Calls.enter (args := [.pointer none]) Tryz.func119 rfl Tryz.ntmps119 rfl ?_
  refine WC.seq (WC.region (WO.step rfl (OR.assign rfl (WO.done (WX.seq (WC.seq (WC.region ?_)))))))
  refine WO.step rfl (OR.move rfl (WO.step rfl (OR.neqNilP T126.und rfl rfl (WO.step rfl (OR.move rfl ?_)))))
  refine WO.guardNo rfl rfl rfl rfl (WO.guardNo rfl rfl rfl rfl (WO.guardNo rfl rfl rfl rfl (WO.guardNo rfl rfl rfl rfl (WO.guardNo rfl rfl rfl rfl (WO.step rfl (OR.pickF rfl rfl rfl (WO.step rfl ?_)))))))
  refine OR.assign rfl (WO.done (WX.seq (WC.ret ?_)))
  refine WX.ret1 rfl rfl ?_
  exact .mk hs rfl

set_option maxRecDepth 20000 in
set_option maxHeartbeats 2000000 in
theorem made_yes (b g s : Nat) (rv : Value) (H0 : Hp) (w0 : World) (h0 : Sub H0 w0) (hb : w0.heap[b]? = some (basisObj g s rv)) (hn : H0 b = none) (hg : 0 < g) :
    Calls Tryz.prog 119 #[ptr b] w0 (Pure H0 w0 fun v _ => v = .bool true) := by
  have hs := HS.startR h0 hb hn
  refine Calls.enter (args := [ptr b]) Tryz.func119 rfl Tryz.ntmps119 rfl ?_
  refine WC.seq (WC.region (WO.step rfl (OR.assign rfl (WO.done (WX.seq (WC.seq (WC.region ?_)))))))
  refine WO.step rfl (OR.move rfl (WO.step rfl (OR.neqNilP T126.und rfl rfl (WO.step rfl (OR.move rfl (WO.guardYes rfl rfl rfl rfl (OR.move rfl ?_)))))))
  refine WO.guardYes rfl rfl rfl rfl (OR.nilCheck rfl (WO.guardYes rfl rfl rfl rfl (OR.fieldAddr FA194_0 rfl (WO.guardYes rfl rfl rfl rfl (OR.load T3 rfl rfl (hs.cellM (i := 0) rfl rfl) (WO.guardYes rfl rfl rfl rfl (OR.gtr rfl rfl ?_)))))))
  refine WO.step rfl (OR.pickT rfl rfl rfl (WO.step rfl (OR.assign rfl (WO.done (WX.seq (WC.ret ?_))))))
  refine WX.ret1 rfl rfl ?_
  exact .mk hs (by rw [decide_eq_true (by omega)])

set_option maxRecDepth 20000 in
set_option maxHeartbeats 2000000 in
theorem rank_nil (H0 : Hp) (w0 : World) (h0 : Sub H0 w0) : Calls Tryz.prog 93 #[.pointer none] w0 (Pure H0 w0 fun v _ => v = .int .i64 0) := by
  have hs := HS.init h0
  have hle := Hp.le.refl H0
  refine Calls.enter (args := [.pointer none]) Tryz.func93 rfl Tryz.ntmps93 rfl ?_
  refine WC.seq (WC.region (WO.step rfl (OR.assign rfl (WO.done (WX.seq (WC.seq (WC.seq ?_)))))))
  refine WC.region (WO.step rfl (OR.move rfl ?_))
  refine WO.step rfl (OR.call hs body119 rfl rfl (made_nil _ _ hs.toSub) ?_)
  clear hs; rintro _ H w hs hle1 rfl; replace hle := hle.trans hle1; (try replace hlb := hlb.trans hle1)
  refine WO.step rfl (OR.not rfl (WO.done (WX.seq ?_)))
  refine WC.yes rfl rfl ?_
  refine WC.seq (WC.region (WO.step rfl (OR.assign rfl (WO.done (WX.seq (WC.ret (WX.seq_ret ?_)))))))
  refine WX.ret1 rfl rfl ?_
  exact .mk hs rfl

set_option maxRecDepth 20000 in
set_option maxHeartbeats 2000000 in
theorem rank_ok (b g s : Nat) (rv : Value) (rows : List RowD) (H0 : Hp) (w0 : World) (h0 : Sub H0 w0) (hb : w0.heap[b]? = some (basisObj g s rv)) (hn : H0 b = none) (hg : 0 < g) (hr : Rws H0 rv rows) :
    Calls Tryz.prog 93 #[ptr b] w0 (Pure H0 w0 fun v _ => v = .int .i64 (rows.length : Int)) := by
  have hs := HS.startR h0 hb hn
  have hle := Hp.le.refl H0
  obtain ⟨br, cr, rfl⟩ := hr.form
  refine Calls.enter (args := [ptr b]) Tryz.func93 rfl Tryz.ntmps93 rfl ?_
  refine WC.seq (WC.region (WO.step rfl (OR.assign rfl (WO.done (WX.seq (WC.seq (WC.seq ?_)))))))
  refine WC.region (WO.step rfl (OR.move rfl ?_))
  refine WO.step rfl (OR.call hs body119 rfl rfl (made_yes b g s _ _ _ hs.toSub hb hn hg) ?_)
  clear hs; rintro _ H w hs hle1 rfl; replace hle := hle.trans hle1; (try replace hlb := hlb.trans hle1)
  refine WO.step rfl (OR.not rfl (WO.done (WX.seq ?_)))
  refine WC.no rfl rfl ?_
  refine WC.skip (WX.seq (WC.seq (WC.region (WO.step rfl (OR.move rfl (WO.step rfl (OR.nilCheck rfl ?_)))))))
  refine WO.step rfl (OR.fieldAddr FA194_2 rfl (WO.step rfl (OR.load T97 rfl rfl (hs.cellM (i := 0) rfl rfl) (WO.step rfl (OR.lenSlice T97.und rfl (WO.step rfl (OR.assign rfl ?_)))))))
  refine WO.done (WX.seq (WC.ret ?_))
  refine WX.ret1 rfl rfl ?_
  exact .mk hs rfl

set_option maxRecDepth 20000 in
set_option maxHeartbeats 2000000 in
/-- What New answers. -/
theorem new_ok (g s : Int) (H0 : Hp) (w0 : World) (h0 : Sub H0 w0) :
    Calls Tryz.prog 65 #[.int .i64 g, .int .i64 s] w0 (Ret [] H0 w0 fun v H' M' => H' = H0 ∧ if 1 ≤ g ∧ g ≤ 255 ∧ 1 ≤ s ∧ s ≤ 65535 then
      ∃ b, w0.heap.size ≤ b ∧ v = .tuple #[ptr b, .int .i64 0] ∧ M' = [(b, basisObj g.toNat s.toNat (.slice none 0 0), true)] else v = .tuple #[.pointer none, .int .i64 1] ∧ M' = []) := by
  have hs := HS.init h0
  by_cases hall : 1 ≤ g ∧ g ≤ 255 ∧ 1 ≤ s ∧ s ≤ 65535
  · simp only [if_pos hall]
    obtain ⟨h1, h2, h3, h4⟩ := hall
    obtain ⟨g', rfl⟩ := Int.eq_ofNat_of_zero_le (by omega : 0 ≤ g)
    obtain ⟨s', rfl⟩ := Int.eq_ofNat_of_zero_le (by omega : 0 ≤ s)
    refine Calls.enter (args := [.int .i64 (g' : Int), .int .i64 (s' : Int)]) Tryz.func65 rfl Tryz.ntmps65 rfl ?_
    refine WC.seq (WC.region (WO.step rfl (OR.assign rfl (WO.step rfl (OR.assign rfl (WO.done (WX.seq ?_)))))))
    refine WC.seq (WC.seq (WC.region (WO.step rfl (OR.move rfl (WO.step rfl (OR.lss rfl rfl (WO.step rfl ?_)))))))
    refine OR.move rfl ?_
    refine WO.guardYes rfl (decide_eq_false (by omega : ¬ (g' : Int) < 1)) rfl rfl (OR.move rfl (WO.guardYes rfl (decide_eq_false (by omega : ¬ (g' : Int) < 1)) rfl rfl (OR.gtr rfl rfl (WO.step rfl (OR.pickF rfl (decide_eq_false (by omega : ¬ (g' : Int) < 1)) rfl (WO.step rfl (OR.move rfl ?_)))))))
    refine WO.guardYes rfl (decide_eq_false (by omega : ¬ (g' : Int) > 255)) rfl rfl (OR.move rfl (WO.guardYes rfl (decide_eq_false (by omega : ¬ (g' : Int) > 255)) rfl rfl (OR.lss rfl rfl (WO.step rfl (OR.pickF rfl (decide_eq_false (by omega : ¬ (g' : Int) > 255)) rfl (WO.step rfl (OR.move rfl ?_)))))))
    refine WO.guardYes rfl (decide_eq_false (by omega : ¬ (s' : Int) < 1)) rfl rfl (OR.move rfl (WO.guardYes rfl (decide_eq_false (by omega : ¬ (s' : Int) < 1)) rfl rfl (OR.gtr rfl rfl (WO.step rfl (OR.pickF rfl (decide_eq_false (by omega : ¬ (s' : Int) < 1)) rfl (WO.done (WX.seq ?_)))))))
    refine WC.no rfl (decide_eq_false (by omega : ¬ (s' : Int) > 65535)) ?_
    refine WC.skip (WX.seq (WC.seq (WC.region (WO.step rfl (OR.move rfl (WO.step rfl (OR.move rfl ?_)))))))
    refine WO.step rfl (OR.build (cs := #[.int .i64 (g' : Int), .int .i64 (s' : Int), .slice none 0 0]) rfl (by intro w; exact build_new _ _ w) ?_)
    refine WO.step rfl (OR.box hs rfl ?_)
    clear hs; intro g1 w hg1 hs
    refine WO.step rfl (OR.assign rfl (WO.step rfl (OR.assign rfl (WO.done (WX.seq (WC.ret ?_))))))
    refine WX.ret2 rfl rfl rfl ?_
    exact ⟨_, H0, _, rfl, hs, by simp, rfl, g1, hg1, rfl, rfl⟩
  · simp only [if_neg hall]
    refine Calls.enter (args := [.int .i64 g, .int .i64 s]) Tryz.func65 rfl Tryz.ntmps65 rfl ?_
    refine WC.seq (WC.region (WO.step rfl (OR.assign rfl (WO.step rfl (OR.assign rfl (WO.done (WX.seq ?_)))))))
    refine WC.seq (WC.seq (WC.region (WO.step rfl (OR.move rfl (WO.step rfl (OR.lss rfl rfl (WO.step rfl ?_)))))))
    refine OR.move rfl ?_
    refine WO.guardSplit (j := 2) rfl (fun q1 => ?_) (fun q1 => ?_)
    · refine WO.guardNo rfl (decide_eq_true q1) rfl rfl (WO.guardNo rfl (decide_eq_true q1) rfl rfl (WO.step rfl (OR.pickT rfl (decide_eq_true q1) rfl (WO.step rfl (OR.move rfl (WO.guardNo rfl rfl rfl rfl (WO.guardNo rfl rfl rfl rfl ?_)))))))
      refine WO.step rfl (OR.pickT rfl rfl rfl (WO.step rfl (OR.move rfl (WO.guardNo rfl rfl rfl rfl (WO.guardNo rfl rfl rfl rfl (WO.step rfl (OR.pickT rfl rfl rfl ?_)))))))
      refine WO.done (WX.seq (WC.yes rfl rfl (WC.seq (WC.region (WO.step rfl (OR.assign rfl (WO.step rfl ?_)))))))
      refine OR.assign rfl (WO.done (WX.seq (WC.ret (WX.seq_ret ?_))))
      refine WX.ret2 rfl rfl rfl ?_
      exact ⟨_, H0, [], rfl, hs, by simp, rfl, rfl, rfl⟩
    · refine WO.guardYes rfl (decide_eq_false q1) rfl rfl (OR.move rfl (WO.guardYes rfl (decide_eq_false q1) rfl rfl (OR.gtr rfl rfl (WO.step rfl (OR.pickF rfl (decide_eq_false q1) rfl (WO.step rfl (OR.move rfl ?_)))))))
      refine WO.guardSplit (j := 6) rfl (fun q2 => ?_) (fun q2 => ?_)
      · refine WO.guardNo rfl (decide_eq_true q2) rfl rfl (WO.guardNo rfl (decide_eq_true q2) rfl rfl (WO.step rfl (OR.pickT rfl (decide_eq_true q2) rfl (WO.step rfl (OR.move rfl (WO.guardNo rfl rfl rfl rfl (WO.guardNo rfl rfl rfl rfl ?_)))))))
        refine WO.step rfl (OR.pickT rfl rfl rfl (WO.done (WX.seq (WC.yes rfl rfl (WC.seq (WC.region (WO.step rfl ?_)))))))
        refine OR.assign rfl (WO.step rfl (OR.assign rfl (WO.done (WX.seq (WC.ret (WX.seq_ret ?_))))))
        refine WX.ret2 rfl rfl rfl ?_
        exact ⟨_, H0, [], rfl, hs, by simp, rfl, rfl, rfl⟩
      · refine WO.guardYes rfl (decide_eq_false q2) rfl rfl (OR.move rfl (WO.guardYes rfl (decide_eq_false q2) rfl rfl (OR.lss rfl rfl (WO.step rfl (OR.pickF rfl (decide_eq_false q2) rfl (WO.step rfl (OR.move rfl ?_)))))))
        refine WO.guardSplit (j := 10) rfl (fun q3 => ?_) (fun q3 => ?_)
        · refine WO.guardNo rfl (decide_eq_true q3) rfl rfl (WO.guardNo rfl (decide_eq_true q3) rfl rfl (WO.step rfl (OR.pickT rfl (decide_eq_true q3) rfl (WO.done (WX.seq (WC.yes rfl rfl (WC.seq ?_)))))))
          refine WC.region (WO.step rfl (OR.assign rfl (WO.step rfl (OR.assign rfl (WO.done (WX.seq (WC.ret ?_)))))))
          refine WX.seq_ret ?_
          refine WX.ret2 rfl rfl rfl ?_
          exact ⟨_, H0, [], rfl, hs, by simp, rfl, rfl, rfl⟩
        · refine WO.guardYes rfl (decide_eq_false q3) rfl rfl (OR.move rfl (WO.guardYes rfl (decide_eq_false q3) rfl rfl (OR.gtr rfl rfl (WO.step rfl (OR.pickF rfl (decide_eq_false q3) rfl (WO.done (WX.seq ?_)))))))
          refine WC.condD rfl (fun q4 => ?_) (fun q4 => ?_)
          · refine WC.seq (WC.region (WO.step rfl (OR.assign rfl (WO.step rfl (OR.assign rfl (WO.done (WX.seq ?_)))))))
            refine WC.ret (WX.seq_ret ?_)
            refine WX.ret2 rfl rfl rfl ?_
            exact ⟨_, H0, [], rfl, hs, by simp, rfl, rfl, rfl⟩
          · exact (hall (by omega)).elim

theorem lead_lt {l : List UInt8} (h : 0 ≤ lead l) : (lead l).toNat < l.length := by
  unfold lead idxFrom at *
  rw [List.drop_zero] at *
  cases hf : l.findIdx? (fun x => decide (x ≠ 0)) with
  | none => rw [hf] at h; simp at h
  | some i =>
    have := (List.findIdx?_eq_some_iff_getElem.1 hf).1
    simp; omega

/-- What is left of a row behind one of the basis's. -/
def stepR (r x : RowD) : RowD := plusR r x (r.1.getD (lead x.1).toNat 0)
/-- What the rows leave of one. -/
def redR (rows : List RowD) (r : RowD) : RowD := rows.foldl stepR r
/-- A row of g and s. -/
def RowGS (g s : Nat) (r : RowD) : Prop := r.1.length = g ∧ r.2.length = s

theorem plusR_gs {g s : Nat} {r x : RowD} (hr : RowGS g s r) (hx : RowGS g s x) (c : UInt8) : RowGS g s (plusR r x c) :=
  ⟨by rw [plusR, addS_length _ _ _ (hr.1.trans hx.1.symm)]; exact hr.1, by rw [plusR, addS_length _ _ _ (hr.2.trans hx.2.symm)]; exact hr.2⟩
theorem redR_gs {g s : Nat} : ∀ (rows : List RowD) (r : RowD), RowGS g s r → (∀ x ∈ rows, RowGS g s x) → RowGS g s (redR rows r)
  | [], r, h, _ => h
  | x :: rows, r, h, hx => redR_gs rows (stepR r x) (plusR_gs h (hx x (by simp)) _) (fun y hy => hx y (by simp [hy]))
theorem redR_step (rows : List RowD) (r : RowD) (k : Nat) (h : k < rows.length) : redR (rows.take (k + 1)) r = stepR (redR (rows.take k) r) rows[k] := by
  unfold redR
  rw [List.take_succ_eq_append_getElem h, List.foldl_append]
  rfl

set_option maxRecDepth 20000 in
set_option maxHeartbeats 2000000 in
theorem reduced1_ok (r x : RowD) (rc rp xc xp : Value) (b : Nat) (H0 : Hp) (w0 : World) (h0 : Sub H0 w0) (hb : w0.heap[b]? = some (.cells #[rc, rp] 45)) (hn : H0 b = none)
    (hrc : Bytes H0 rc r.1) (hrp : Bytes H0 rp r.2) (hxc : Bytes H0 xc x.1) (hxp : Bytes H0 xp x.2) (hl1 : r.1.length ≤ 140737488355328) (hl2 : r.2.length ≤ 140737488355328) (hlx : x.1.length < 9223372036854775807)
    (hlead : 0 ≤ lead x.1) (hlt : (lead x.1).toNat < r.1.length) :
    Calls Tryz.prog 162 #[.agg #[xc, xp], ptr b] w0 (Ret [b] H0 w0 fun v H' M' => v = .tuple #[] ∧ ∃ rc' rp', M' = [(b, .cells #[rc', rp'] 45, true)] ∧
      Bytes H' rc' (stepR r x).1 ∧ Bytes H' rp' (stepR r x).2) := by
  have hs := HS.start1 h0 hb hn
  have hle := Hp.le.refl H0
  obtain ⟨b1, c1, rfl⟩ := hrc.form
  obtain ⟨xb, xo, rfl, hcr⟩ := hrc.pos (by omega)
  obtain ⟨k, hk⟩ := Int.eq_ofNat_of_zero_le hlead
  have hk' : k < r.1.length := by rw [hk] at hlt; exact hlt
  have hcoef : r.1.getD (lead x.1).toNat 0 = r.1[k] := by rw [hk]; simp [hk']
  refine Calls.enter (args := [.agg #[xc, xp], ptr b]) Tryz.func162 rfl Tryz.ntmps162 rfl ?_
  refine WC.seq (WC.region (WO.step rfl (OR.box hs rfl ?_)))
  clear hs; intro g1 w hg1 hs
  refine WO.done (WX.seq ?_)
  refine WC.draw 10 mixed hs (by kernel_rfl) ?_
  refine ⟨MF.eq _, by intro Mx H w hle hs; refine forVals_nil (ORg.plain (OR.loadAll T45 rfl rfl (hs.right.blk (i := 1) rfl) rfl ?_)); exact ⟨_, [], Hp.le.refl _, hs, rfl, rfl⟩, ?_⟩
  refine ⟨MF.eq _, by intro Mx H w hle hs; refine forVals_nil (ORg.plain (OR.loadAll T45 rfl rfl (hs.right.blk (i := 0) rfl) rfl ?_)); exact ⟨_, [], Hp.le.refl _, hs, rfl, rfl⟩, ?_⟩
  refine ⟨MF.eq _, by intro Mx H w hle hs; refine forVals_nil (ORg.plain (OR.fieldAddr FA45_0 rfl ?_)); exact ⟨_, [], Hp.le.refl _, hs, rfl, rfl⟩, ?_⟩
  refine ⟨MF.eq _, by intro Mx H w hle hs; refine forVals_eq rfl rfl rfl ?_; refine forVals_nil (ORg.plain (OR.load T43 rfl rfl (hs.right.cellM (i := 1) rfl rfl) ?_)); exact ⟨_, [], Hp.le.refl _, hs, rfl, rfl⟩, ?_⟩
  refine ⟨MF.eq _, by intro Mx H w hle hs; refine forVals_nil (ORg.plain (OR.fieldAddr FA45_0 rfl ?_)); exact ⟨_, [], Hp.le.refl _, hs, rfl, rfl⟩, ?_⟩
  refine ⟨MF.eq _, by intro Mx H w hle hs; refine forVals_eq rfl rfl rfl ?_; refine forVals_nil (ORg.plain (OR.load T43 rfl rfl (hs.right.cellM (i := 0) rfl rfl) ?_)); exact ⟨_, [], Hp.le.refl _, hs, rfl, rfl⟩, ?_⟩
  refine ⟨MF.eq (.int .i64 (lead x.1)), ?_, ?_⟩
  · intro Mx H w hle2 hs; (try replace hle := hle.trans hle2); (try replace hlb := hlb.trans hle2); refine forVals_eq rfl rfl rfl ?_
    refine forVals_nil (ORg.plain (OR.call hs body110 rfl rfl (lead_ok _ _ _ _ hs.toSub (hxc.mono hle) hlx) ?_))
    clear hs; rintro _ H w hs hle1 rfl
    exact ⟨_, [], hle1, hs, rfl, rfl⟩
  refine ⟨MF.eq (.pointer (some ⟨xb, xo + k, none⟩)), ?_, ?_⟩
  · intro Mx H w hle2 hs; (try replace hle := hle.trans hle2); (try replace hlb := hlb.trans hle2); refine forVals_eq rfl rfl rfl ?_; refine forVals_eq rfl rfl rfl ?_
    refine forVals_nil (ORg.plain (OR.idx k T43.und T5 rfl rfl hk hk' ?_))
    exact ⟨_, [], Hp.le.refl _, hs, rfl, rfl⟩
  refine ⟨MF.eq (B r.1[k]), ?_, ?_⟩
  · intro Mx H w hle2 hs; (try replace hle := hle.trans hle2); (try replace hlb := hlb.trans hle2); refine forVals_eq rfl rfl rfl ?_
    refine forVals_nil (ORg.plain (OR.load T5 rfl rfl (hs.cell (hcell.mono hle (hcr k hk'))) ?_))
    exact ⟨_, [], Hp.le.refl _, hs, rfl, rfl⟩
  refine ⟨MF.row (stepR r x), ?_, ?_⟩
  · intro Mx H w hle2 hs; (try replace hle := hle.trans hle2); (try replace hlb := hlb.trans hle2); refine forVals_eq rfl rfl rfl ?_; refine forVals_eq rfl rfl rfl ?_; refine forVals_eq rfl rfl rfl ?_
    refine forVals_nil (ORg.plain (OR.call hs body125 rfl rfl (plus_ok r x _ _ _ _ _ _ _ hs.toSub (hrc.mono hle) (hrp.mono hle) (hxc.mono hle) (hxp.mono hle) hl1 hl2) ?_))
    clear hs; rintro _ H w hs hle1 hr
    exact ⟨_, [], hle1, hs, (by rw [stepR, hcoef]; exact hr), rfl⟩
  intro H w hle2; (try replace hle := hle.trans hle2); (try replace hlb := hlb.trans hle2)
  refine forAllVals_eq rfl ?_
  refine forAllVals_eq rfl ?_
  refine forAllVals_eq rfl ?_
  refine forAllVals_eq rfl ?_
  refine forAllVals_eq rfl ?_
  refine forAllVals_eq rfl ?_
  refine forAllVals_eq rfl ?_
  refine forAllVals_eq rfl ?_
  refine forAllVals_eq rfl ?_
  refine forAllVals_of rfl ?_; intro v9 h9
  refine forAllVals_nil ?_; (try clear hs); intro hs
  obtain ⟨rc', rp', rfl, q1, q2⟩ := h9
  obtain ⟨_, _, rfl⟩ := q1.form
  obtain ⟨_, _, rfl⟩ := q2.form
  replace hs := hs.front (i := 1) rfl
  refine WO.stepN (OR.storeAll hs T45 rfl rfl rfl rfl rfl ?_)
  clear hs; intro w hs
  refine WO.done ?_
  replace hs := hs.drop (i := 1)
  refine WX.end0 rfl ?_
  exact ⟨_, H, _, rfl, hs, by simp [dropAt], rfl, _, _, rfl, q1, q2⟩

set_option maxRecDepth 20000 in
set_option maxHeartbeats 2000000 in
theorem reduced_ok (r : RowD) (rows : List RowD) (rc rp rv : Value) (b g s : Nat) (H0 : Hp) (w0 : World) (h0 : Sub H0 w0) (hb : w0.heap[b]? = some (basisObj g s rv)) (hn : H0 b = none) (hv : Rws H0 rv rows)
    (hrc : Bytes H0 rc r.1) (hrp : Bytes H0 rp r.2) (hr : RowGS g s r) (hrs : ∀ x ∈ rows, RowGS g s x ∧ 0 ≤ lead x.1) (hg : g ≤ 255) (hsm : s ≤ 65535) (hlen : rows.length ≤ 255) :
    Calls Tryz.prog 120 #[ptr b, .agg #[rc, rp]] w0 (Pure H0 w0 fun v H' => RowV H' v (redR rows r)) := by
  have hs := HS.startR h0 hb hn
  have hle := Hp.le.refl H0
  obtain ⟨br, cr, rfl⟩ := hv.form
  refine Calls.enter (args := [ptr b, .agg #[rc, rp]]) Tryz.func120 rfl Tryz.ntmps120 rfl ?_
  refine WC.seq (WC.region (WO.step rfl (OR.box hs rfl ?_)))
  clear hs; intro g1 w hg1 hs
  refine WO.step rfl (OR.alloc hs T45 ?_)
  clear hs; intro g2 w hg2 hs
  refine WO.done (WX.seq (WC.seq (WC.region (WO.step rfl (OR.makeFunc rfl rfl (WO.step rfl (OR.assign rfl ?_)))))))
  refine WO.done (WX.seq (WC.seq (WC.seq (WC.region (WO.step rfl (OR.move rfl (WO.step rfl ?_)))))))
  refine OR.nilCheck rfl (WO.step rfl (OR.fieldAddr FA194_2 rfl (WO.step rfl (OR.load T97 rfl rfl (hs.cellM (i := 2) rfl rfl) (WO.step rfl (OR.lenSlice T97.und rfl (WO.step rfl ?_)))))))
  refine OR.move rfl (WO.done (WX.seq (WC.block ?_)))
  refine WC.loop (ι := Nat × Value × Value) (fun ix => [(0, ptr b), (3, ptr g1), (4, ptr g2), (5, .func (.func 162) #[] #[ptr g1]), (12, .slice br rows.length cr), (13, .int .i64 (rows.length : Int)), (14, .int .i64 (ix.1 : Int))]) (fun ix w => (ix.1 ≤ rows.length ∧ ∃ H, Hp.le H0 H ∧ Bytes H ix.2.1 (redR (rows.take ix.1) r).1 ∧ Bytes H ix.2.2 (redR (rows.take ix.1) r).2 ∧ HS [] H0 w0 H [(g1, .cells #[ix.2.1, ix.2.2] 45, true), (g2, .cells #[.slice none 0 0, .slice none 0 0] 45, true), (b, basisObj g s (.slice br rows.length cr), false)] w)) (fun ix => rows.length - ix.1) (0, rc, rp) ⟨rfl, rfl, rfl, rfl, rfl, rfl, rfl,  trivial⟩ ?_ (fun ix w hW => ?_)
  · exact ⟨by omega, H0, hle, hrc, hrp, hs.front (i := 1) rfl⟩
  obtain ⟨k, qc, qp⟩ := ix
  obtain ⟨hk, H, hle, hqc, hqp, hs⟩ := hW
  simp only at hk hqc hqp hs
  refine WC.seq (WC.region (WO.step rfl (OR.lss rfl rfl (WO.done (WX.seq (WC.seq ?_))))))
  refine WC.condD rfl (fun hlt => ?_) (fun hlt => ?_)
  · have hk' : k < rows.length := by omega
    obtain ⟨xb, xo, rfl, hcr⟩ := hv.pos (by omega)
    obtain ⟨ec, ep, hcc, hec, hep⟩ := hcr k hk'
    obtain ⟨hgs, hld⟩ := hrs rows[k] (List.getElem_mem _)
    have hq := redR_gs (rows.take k) r hr (fun x hx => (hrs x (List.mem_of_mem_take hx)).1)
    have hldlt := lead_lt hld
    obtain ⟨_, _, rfl⟩ := hec.form
    obtain ⟨_, _, rfl⟩ := hep.form
    refine WC.skip (WX.seq (WC.seq (WC.block (WC.seq (WC.region ?_)))))
    refine WO.step rfl (OR.idxN k T97.und T45 rfl rfl rfl hk' ?_)
    refine WO.step rfl (OR.loadN (cs := [_, _]) T45 rfl rfl rfl (fun j u hj => hs.cell (hcell.mono hle (hcc j u hj))) ?_)
    refine WO.step rfl (OR.alloc hs T45 ?_)
    clear hs; intro g3 w hg3 hs
    refine WO.stepN (OR.storeAll hs T45 rfl rfl rfl rfl rfl ?_)
    clear hs; intro w hs
    refine WO.done (WX.seq (WC.region (WO.step rfl (OR.move rfl (WO.step rfl (OR.loadAll T45 rfl rfl (hs.blk (i := 0) rfl) rfl ?_))))))
    replace hs := hs.front (i := 1) rfl
    refine WO.step rfl (OR.callX (Mx := [(g1, _, true)]) hs body162 rfl rfl (reduced1_ok (redR (rows.take k) r) rows[k] qc qp _ _ g1 _ _ hs.toSub (hs.blk (i := 0) rfl) (hs.mem g1 _ true (List.mem_cons_self ..)).2.1 hqc hqp (hec.mono hle) (hep.mono hle) (by rw [hq.1]; omega) (by rw [hq.2]; omega) (by rw [hgs.1]; omega) hld (by rw [hq.1, ← hgs.1]; exact hldlt)) rfl rfl ?_)
    clear hs; rintro _ H M' w hs hle1 hnew ⟨rfl, qc', qp', rfl, hqc', hqp'⟩; replace hle := hle.trans hle1; (try replace hlb := hlb.trans hle1)
    refine WO.done (WX.block (WX.seq (WC.region (WO.step rfl (OR.addI rfl rfl (by omega) (by omega) (WO.step rfl (OR.move rfl ?_)))))))
    refine WO.done ?_
    replace hs := hs.drop (i := 1)
    refine WX.again ((k + 1, qc', qp')) ⟨rfl, rfl, rfl, rfl, rfl, rfl, rfl,  trivial⟩ ?_ ?_
    · refine ⟨hk', H, hle, ?_, ?_, hs⟩
      · simp only; rw [redR_step _ _ _ hk']; exact hqc'
      · simp only; rw [redR_step _ _ _ hk']; exact hqp'
    · simp only; omega
  · have e : k = rows.length := by omega
    subst e
    rw [List.take_of_length_le (Nat.le_refl _)] at hqc hqp
    obtain ⟨_, _, rfl⟩ := hqc.form
    obtain ⟨_, _, rfl⟩ := hqp.form
    refine WC.exit (WX.seq_exit (WX.loop_exit (WX.block_hit (WX.seq (WC.seq (WC.region (WO.step rfl ?_)))))))
    refine OR.loadAll T45 rfl rfl (hs.blk (i := 0) rfl) rfl ?_
    replace hs := hs.front (i := 1) rfl
    refine WO.stepN (OR.storeAll hs T45 rfl rfl rfl rfl rfl ?_)
    clear hs; intro w hs
    refine WO.done (WX.seq (WC.ret ?_))
    refine WX.retCell T45 rfl rfl rfl rfl (hs.blk (i := 0) rfl) ?_
    exact .mk hs ⟨_, _, rfl, hqc, hqp⟩

/-- Where a row of a lead belongs. -/
def placeOf : List RowD → Int → Nat
  | [], _ => 0
  | x :: rows, l => if lead x.1 > l then 0 else placeOf rows l + 1

theorem placeOf_le : ∀ (rows : List RowD) (l : Int), placeOf rows l ≤ rows.length
  | [], _ => Nat.le_refl _
  | x :: rows, l => by
    unfold placeOf
    split
    · omega
    · have := placeOf_le rows l; simp; omega
theorem placeOf_at : ∀ (rows : List RowD) (l : Int) (k : Nat) (hk : k < rows.length), (∀ j (hj : j < k), ¬ lead (rows[j]'(by omega)).1 > l) → lead rows[k].1 > l → placeOf rows l = k
  | [], _, k, hk, _, _ => by simp at hk
  | x :: rows, l, 0, _, _, h => by simp at h; simp [placeOf, h]
  | x :: rows, l, k + 1, hk, hno, h => by
    have h0 := hno 0 (by omega)
    simp only [List.getElem_cons_zero] at h0
    unfold placeOf
    rw [if_neg h0, placeOf_at rows l k (by simpa using hk) (fun j hj => by have := hno (j + 1) (by omega); simpa using this) (by simpa using h)]
theorem placeOf_end : ∀ (rows : List RowD) (l : Int), (∀ j (hj : j < rows.length), ¬ lead rows[j].1 > l) → placeOf rows l = rows.length
  | [], _, _ => rfl
  | x :: rows, l, hno => by
    have h0 := hno 0 (by simp)
    simp only [List.getElem_cons_zero] at h0
    unfold placeOf
    rw [if_neg h0, placeOf_end rows l (fun j hj => by have := hno (j + 1) (by simpa using hj); simpa using this)]
    rfl

set_option maxRecDepth 20000 in
set_option maxHeartbeats 2000000 in
theorem place_ok (rows : List RowD) (rv : Value) (l : Int) (b g s : Nat) (H0 : Hp) (w0 : World) (h0 : Sub H0 w0) (hb : w0.heap[b]? = some (basisObj g s rv)) (hn : H0 b = none) (hv : Rws H0 rv rows)
    (hrs : ∀ x ∈ rows, RowGS g s x) (hg : g ≤ 255) (hlen : rows.length ≤ 255) :
    Calls Tryz.prog 127 #[ptr b, .int .i64 l] w0 (Pure H0 w0 fun v _ => v = .int .i64 (placeOf rows l : Int)) := by
  have hs := HS.startR h0 hb hn
  have hle := Hp.le.refl H0
  obtain ⟨br, cr, rfl⟩ := hv.form
  refine Calls.enter (args := [ptr b, .int .i64 l]) Tryz.func127 rfl Tryz.ntmps127 rfl ?_
  refine WC.seq (WC.region (WO.step rfl (OR.assign rfl (WO.done (WX.seq (WC.scope (WC.seq ?_)))))))
  refine WC.region (WO.step rfl (OR.assign rfl (WO.done (WX.seq (WC.seq (WC.label (WX.seq ?_)))))))
  refine WC.seq (WC.block ?_)
  refine WC.loop (ι := Nat) (fun k => [(0, ptr b), (1, .int .i64 l), (5, .int .i64 (k : Int))]) (fun k w => (k ≤ rows.length ∧ (∀ j (hj : j < rows.length), j < k → ¬ lead rows[j].1 > l) ∧ ∃ H, Hp.le H0 H ∧ HS [] H0 w0 H [(b, basisObj g s (.slice br rows.length cr), false)] w)) (fun k => rows.length - k) 0 ⟨rfl, rfl, rfl,  trivial⟩ ?_ (fun k w hW => ?_)
  · exact ⟨by omega, fun j _ hj => by omega, H0, hle, hs⟩
  obtain ⟨hk, hno, H, hle, hs⟩ := hW
  refine WC.seq (WC.seq (WC.region (WO.step rfl (OR.move rfl (WO.step rfl (OR.move rfl (WO.step rfl ?_)))))))
  refine OR.nilCheck rfl (WO.step rfl (OR.fieldAddr FA194_2 rfl (WO.step rfl (OR.load T97 rfl rfl (hs.cellM (i := 0) rfl rfl) (WO.step rfl (OR.lenSlice T97.und rfl (WO.step rfl ?_)))))))
  refine OR.lss rfl rfl (WO.done (WX.seq ?_))
  refine WC.condD rfl (fun hlt => ?_) (fun hlt => ?_)
  · have hk' : k < rows.length := by omega
    obtain ⟨xb, xo, rfl, hcr⟩ := hv.pos (by omega)
    obtain ⟨ec, ep, hcc, hec, hep⟩ := hcr k hk'
    have hgs := hrs rows[k] (List.getElem_mem _)
    refine WC.skip (WX.seq (WC.block (WC.seq (WC.seq (WC.region (WO.step rfl (OR.move rfl ?_)))))))
    refine WO.step rfl (OR.nilCheck rfl (WO.step rfl (OR.fieldAddr FA194_2 rfl (WO.step rfl (OR.load T97 rfl rfl (hs.cellM (i := 0) rfl rfl) (WO.step rfl (OR.move rfl ?_)))))))
    refine WO.step rfl (OR.idxN k T97.und T45 rfl rfl rfl hk' ?_)
    refine WO.step rfl (OR.fieldAddr FA45_0 rfl ?_)
    refine WO.step rfl (OR.load T43 rfl rfl (hs.cell (hcell.mono hle (by have := hcc 0 ec rfl; rw [add_off] at this; exact this))) ?_)
    refine WO.step rfl (OR.call hs body110 rfl rfl (lead_ok _ _ _ _ hs.toSub (hec.mono hle) (by rw [hgs.1]; omega)) ?_)
    clear hs; rintro _ H w hs hle1 rfl; replace hle := hle.trans hle1; (try replace hlb := hlb.trans hle1)
    refine WO.step rfl (OR.move rfl (WO.step rfl (OR.gtr rfl rfl (WO.done (WX.seq ?_)))))
    refine WC.condD rfl (fun hgt => ?_) (fun hgt => ?_)
    · refine WC.exit (WX.seq_exit (WX.block_miss rfl (WX.loop_exit (WX.block_hit (WX.seq (WC.seq (WC.region ?_)))))))
      refine WO.step rfl (OR.move rfl (WO.step rfl (OR.assign rfl (WO.done (WX.seq (WC.ret (WX.scope_ret ?_)))))))
      refine WX.ret1 rfl rfl ?_
      refine .mk hs ?_
      rw [placeOf_at rows l k hk' (fun j hj => hno j (by omega) hj) hgt]
    · refine WC.skip (WX.seq (WC.region (WO.step rfl (OR.move rfl (WO.step rfl (OR.addI rfl rfl (by omega) (by omega) (WO.step rfl ?_)))))))
      refine OR.assign rfl (WO.done (WX.block ?_))
      refine WX.again (k + 1) ⟨rfl, rfl, rfl,  trivial⟩ ?_ ?_
      · refine ⟨hk', fun j hj hjk => ?_, H, hle, hs⟩
        by_cases e : j = k
        · subst e; exact hgt
        · exact hno j hj (by omega)
      · omega
  · have e : k = rows.length := by omega
    subst e
    refine WC.exit (WX.seq_exit (WX.loop_exit (WX.block_hit (WX.seq (WC.seq (WC.region (WO.step rfl ?_)))))))
    refine OR.move rfl (WO.step rfl (OR.assign rfl (WO.done (WX.seq (WC.ret (WX.scope_ret ?_))))))
    refine WX.ret1 rfl rfl ?_
    refine .mk hs ?_
    rw [placeOf_end rows l (fun j hj => hno j hj hj)]

set_option maxRecDepth 20000 in
set_option maxHeartbeats 2000000 in
/-- Rows in new memory. -/
theorem rows_ok (rows : List RowD) (rv : Value) (b g s : Nat) (H0 : Hp) (w0 : World) (h0 : Sub H0 w0) (hb : w0.heap[b]? = some (basisObj g s rv)) (hn : H0 b = none) (hv : Rws H0 rv rows)
    (hrs : ∀ x ∈ rows, RowGS g s x) (hg0 : 0 < g) (hg : g ≤ 255) (hsm : s ≤ 65535) (hlen : rows.length ≤ 255) :
    Calls Tryz.prog 143 #[ptr b] w0 (Pure H0 w0 fun v H' => Rws H' v rows) := by
  have hs := HS.startR h0 hb hn
  have hle := Hp.le.refl H0
  have hv0 := hv
  obtain ⟨br, cr, rfl⟩ := hv.form
  refine Calls.enter (args := [ptr b]) Tryz.func143 rfl Tryz.ntmps143 rfl ?_
  refine WC.seq (WC.region (WO.step rfl (OR.assign rfl (WO.done (WX.seq (WC.seq (WC.region ?_)))))))
  refine WO.step rfl (OR.assign rfl (WO.done (WX.seq (WC.seq (WC.seq (WC.region (WO.step rfl ?_)))))))
  refine OR.move rfl ?_
  refine WO.step rfl (OR.call hs body93 rfl rfl (rank_ok b g s _ rows _ _ hs.toSub hb hn hg0 hv0) ?_)
  clear hs; rintro _ H w hs hle1 rfl; replace hle := hle.trans hle1; (try replace hlb := hlb.trans hle1)
  refine WO.step rfl (OR.move rfl (WO.done (WX.seq (WC.block ?_))))
  refine WC.loop (ι := Nat × Value) (fun ix => [(0, ptr b), (3, ix.2), (6, .int .i64 (rows.length : Int)), (7, .int .i64 (ix.1 : Int))]) (fun ix w => (ix.1 ≤ rows.length ∧ ∃ H cs Mo, Hp.le H0 H ∧ RowsOk H cs (rows.take ix.1) ∧ Own w0.heap.size 45 2 ix.2 ix.1 (rowCells cs) Mo ∧ HS [] H0 w0 H (Mo ++ [(b, basisObj g s (.slice br rows.length cr), false)]) w)) (fun ix => rows.length - ix.1) (0, .slice none 0 0) ⟨rfl, rfl, rfl, rfl,  trivial⟩ ?_ (fun ix w hW => ?_)
  · exact ⟨by omega, H, [], [], hle, ⟨by simp, fun i h => by simp at h⟩, Own.nil _ _ _, hs⟩
  obtain ⟨k, vo⟩ := ix
  obtain ⟨hk, H, cs, Mo, hle, hok, ho, hs⟩ := hW
  simp only at hk hok ho
  refine WC.seq (WC.region (WO.step rfl (OR.lss rfl rfl (WO.done (WX.seq (WC.seq ?_))))))
  refine WC.condD rfl (fun hlt => ?_) (fun hlt => ?_)
  · have hk' : k < rows.length := by omega
    obtain ⟨xb, xo, rfl, hcr⟩ := hv.pos (by omega)
    obtain ⟨ec, ep, hcc, hec, hep⟩ := hcr k hk'
    have hgs := hrs rows[k] (List.getElem_mem _)
    refine WC.skip (WX.seq (WC.seq (WC.block (WC.seq (WC.region (WO.step rfl (OR.move rfl ?_)))))))
    refine WO.step rfl (OR.assign rfl (WO.done (WX.seq (WC.region (WO.step rfl (OR.move rfl (WO.step rfl ?_)))))))
    refine OR.move rfl (WO.step rfl (OR.nilCheck rfl (WO.step rfl (OR.fieldAddr FA194_2 rfl ?_))))
    refine WO.step rfl (OR.load T97 rfl rfl (hs.right.cellM (i := 0) rfl rfl) ?_)
    refine WO.step rfl (OR.move rfl ?_)
    refine WO.step rfl (OR.idxN k T97.und T45 rfl rfl rfl hk' ?_)
    refine WO.step rfl (OR.loadN (cs := [_, _]) T45 rfl rfl rfl (fun j u hj => hs.cell (hcell.mono hle (hcc j u hj))) ?_)
    refine WO.step rfl (OR.call hs body121 rfl rfl (own_ok rows[k] _ _ _ _ hs.toSub (hec.mono hle) (hep.mono hle) (by rw [hgs.1]; omega) (by rw [hgs.2]; omega)) ?_)
    clear hs; rintro _ H w hs hle1 ⟨oc, op, rfl, hoc, hop⟩; replace hle := hle.trans hle1; (try replace hlb := hlb.trans hle1)
    obtain ⟨_, _, rfl⟩ := hoc.form
    obtain ⟨_, _, rfl⟩ := hop.form
    refine WO.step rfl (OR.buildSlice (vs := [_]) hs T97.und T45 rfl rfl rfl rfl (by simp) ?_)
    clear hs; intro g1 w hg1 hs
    have hb1 := hs.blk (i := 0) rfl
    replace hs := hs.sink
    refine WO.step rfl (OR.append (m := 1) (news := [_, _]) hs ho T97.und T45 rfl (by omega) rfl rfl rfl (cells_of hb1) (fun h => by cases h) rfl (by omega) (by omega) ?_)
    clear hs ho; intro vo' w Mo' hs ho hge
    replace hs := hs.dropMid
    refine WO.step rfl (OR.assign rfl (WO.done (WX.block (WX.seq (WC.region (WO.step rfl (OR.addI rfl rfl (by omega) (by omega) ?_)))))))
    refine WO.step rfl (OR.move rfl (WO.done ?_))
    refine WX.again ((k + 1, vo')) ⟨rfl, rfl, rfl, rfl,  trivial⟩ ?_ ?_
    · refine ⟨hk', H, cs ++ [(_, _)], Mo', hle, RowsOk.snoc' hk' (hok.mono hle1) hoc hop, ?_, hs⟩
      rw [rowCells_append]
      exact ho
    · simp only; omega
  · have e : k = rows.length := by omega
    subst e
    refine WC.exit (WX.seq_exit (WX.loop_exit (WX.block_hit (WX.seq (WC.seq (WC.region (WO.step rfl ?_)))))))
    refine OR.move rfl (WO.step rfl (OR.assign rfl (WO.done (WX.seq (WC.ret ?_)))))
    refine WX.ret1 rfl rfl ?_
    obtain ⟨H2, hle2, hs2, hsl, _⟩ := HS.pub hs ho
    rw [List.take_of_length_le (Nat.le_refl _)] at hok
    exact .mk hs2 ⟨cs, hsl, hok.mono hle2⟩

-- left out, for this seat has no (*braidwork/basis.Basis).Contains: theorem contains_nil (vc
/-- What Contains tells. -/
def hasR (s : Nat) (rows : List RowD) (l : List UInt8) : Bool := decide (lead (redR rows (l, List.replicate s 0)).1 < 0)

-- left out, for this seat has no (*braidwork/basis.Basis).Contains: theorem contains_ok (rows
set_option maxRecDepth 20000 in
set_option maxHeartbeats 2000000 in
theorem combineB_nil (vc : Value) (H0 : Hp) (w0 : World) (h0 : Sub H0 w0) :
    Calls Tryz.prog 204 #[.pointer none, vc] w0 (Pure H0 w0 fun v _ => v = .tuple #[.agg #[.slice none 0 0, .slice none 0 0], .int .i64 2]) := by
  have hs := HS.init h0
  have hle := Hp.le.refl H0
  refine Calls.enter (args := [.pointer none, vc]) Tryz.func204 rfl Tryz.ntmps204 rfl ?_
  refine WC.seq (WC.region (WO.step rfl (OR.alloc hs T45 ?_)))
  clear hs; intro g1 w hg1 hs
  refine WO.step rfl (OR.assign rfl (WO.done (WX.seq (WC.seq (WC.block (WC.seq (WC.region ?_)))))))
  refine WO.step rfl (OR.move rfl ?_)
  refine WO.step rfl (OR.call hs body119 rfl rfl (made_nil _ _ hs.toSub) ?_)
  clear hs; rintro _ H w hs hle1 rfl; replace hle := hle.trans hle1; (try replace hlb := hlb.trans hle1)
  refine WO.step rfl (OR.not rfl (WO.step rfl (OR.assign rfl (WO.done (WX.seq ?_)))))
  refine WC.yes rfl rfl ?_
  refine WC.seq (WC.region (WO.step rfl (OR.buildZero T45 PL45 (WO.stepN (OR.storeAll hs T45 rfl rfl rfl rfl rfl ?_)))))
  clear hs; intro w hs
  refine WO.step rfl (OR.assign rfl (WO.done (WX.seq (WC.ret (WX.block_ret (WX.seq_ret ?_))))))
  refine WX.retCT T45 rfl rfl rfl rfl rfl (hs.blk (i := 0) rfl) ?_
  exact .mk hs rfl

/-- What Combine makes. -/
def combR (g s : Nat) (rows : List RowD) (by_ : List UInt8) : RowD := (rows.zip by_).foldl (fun r p => plusR r p.1 p.2) (List.replicate g 0, List.replicate s 0)

theorem combR_step (g s : Nat) (rows : List RowD) (c : List UInt8) (k : Nat) (h1 : k < rows.length) (h2 : k < c.length) :
    combR g s (rows.take (k + 1)) (c.take (k + 1)) = plusR (combR g s (rows.take k) (c.take k)) rows[k] c[k] := by
  unfold combR
  rw [List.take_succ_eq_append_getElem h1, List.take_succ_eq_append_getElem h2, List.zip_append (by simp; omega), List.foldl_append]
  rfl
theorem combR_gs (g s : Nat) (rows : List RowD) (c : List UInt8) (h : ∀ r ∈ rows, RowGS g s r) : RowGS g s (combR g s rows c) := by
  have key : ∀ (l : List (RowD × UInt8)) (out : RowD), RowGS g s out → (∀ p ∈ l, RowGS g s p.1) → RowGS g s (l.foldl (fun r p => plusR r p.1 p.2) out) := by
    intro l
    induction l with
    | nil => intro out h _; exact h
    | cons p l ih =>
      intro out ho hp
      rw [List.foldl_cons]
      exact ih _ (plusR_gs ho (hp p (by simp)) _) (fun q hq => hp q (by simp [hq]))
  exact key _ _ ⟨by simp, by simp⟩ (fun p hp => h _ (List.of_mem_zip hp).1)

set_option maxRecDepth 20000 in
set_option maxHeartbeats 2000000 in
theorem combineB_ok (rows : List RowD) (rv vc : Value) (c : List UInt8) (b g s : Nat) (H0 : Hp) (w0 : World) (h0 : Sub H0 w0) (hb : w0.heap[b]? = some (basisObj g s rv)) (hn : H0 b = none) (hv : Rws H0 rv rows)
    (hc : Bytes H0 vc c) (hrs : ∀ x ∈ rows, RowGS g s x) (hg0 : 0 < g) (hg : g ≤ 255) (hsm : s ≤ 65535) (hlen : rows.length ≤ 255) :
    Calls Tryz.prog 204 #[ptr b, vc] w0 (Pure H0 w0 fun v H' => ∃ r, v = .tuple #[r, .int .i64 (if c.length = rows.length then 0 else 21)] ∧ RowV H' r (if c.length = rows.length then combR g s rows c else ([], []))) := by
  have hs := HS.startR h0 hb hn
  have hle := Hp.le.refl H0
  obtain ⟨bc, cc, rfl⟩ := hc.form
  obtain ⟨br, cr, rfl⟩ := hv.form
  refine Calls.enter (args := [ptr b, .slice bc c.length cc]) Tryz.func204 rfl Tryz.ntmps204 rfl ?_
  refine WC.seq (WC.region (WO.step rfl (OR.alloc hs T45 ?_)))
  clear hs; intro g1 w hg1 hs
  refine WO.step rfl (OR.assign rfl (WO.done (WX.seq (WC.seq (WC.block (WC.seq (WC.region ?_)))))))
  refine WO.step rfl (OR.move rfl ?_)
  have hbw := hs.blk (i := 1) rfl
  refine WO.step rfl (OR.call hs body119 rfl rfl (made_yes b g s _ _ _ hs.toSub hbw hn hg0) ?_)
  clear hs; rintro _ H w hs hle1 rfl; replace hle := hle.trans hle1; (try replace hlb := hlb.trans hle1)
  refine WO.step rfl (OR.not rfl (WO.step rfl (OR.assign rfl (WO.done (WX.seq ?_)))))
  refine WC.no rfl rfl ?_
  refine WC.seq (WC.region (WO.step rfl (OR.move rfl (WO.step rfl (OR.lenSlice T43.und rfl (WO.step rfl (OR.move rfl ?_)))))))
  refine WO.step rfl (OR.nilCheck rfl (WO.step rfl (OR.fieldAddr FA194_2 rfl (WO.step rfl (OR.load T97 rfl rfl (hs.cellM (i := 1) rfl rfl) (WO.step rfl (OR.lenSlice T97.und rfl ?_)))))))
  refine WO.step rfl (OR.neq rfl rfl (WO.step rfl (OR.assign rfl (WO.done (WX.seq ?_)))))
  refine WC.condD rfl (fun hne => ?_) (fun hne => ?_)
  · refine WC.seq (WC.region (WO.step rfl (OR.buildZero T45 PL45 (WO.stepN (OR.storeAll hs T45 rfl rfl rfl rfl rfl ?_)))))
    clear hs; intro w hs
    refine WO.step rfl (OR.assign rfl (WO.done (WX.seq (WC.ret (WX.block_ret (WX.seq_ret ?_))))))
    refine WX.retCT T45 rfl rfl rfl rfl rfl (hs.blk (i := 0) rfl) ?_
    have : ¬ c.length = rows.length := by omega
    refine .mk hs ⟨_, by rw [if_neg this], ?_⟩
    rw [if_neg this]
    exact ⟨_, _, rfl, Bytes.nil _, Bytes.nil _⟩
  · have heq : c.length = rows.length := by omega
    refine WC.skip (WX.block (WX.seq (WC.seq ?_)))
    refine WC.draw 12 mixed hs (by kernel_rfl) ?_
    refine ⟨MF.eq _, by intro Mx H w hle hs; refine forVals_nil (ORg.plain (OR.move rfl ?_)); exact ⟨_, [], Hp.le.refl _, hs, rfl, rfl⟩, ?_⟩
    refine ⟨MF.eq _, by intro Mx H w hle hs; refine forVals_eq rfl rfl rfl ?_; refine forVals_nil (ORg.plain (OR.nilCheck rfl ?_)); exact ⟨_, [], Hp.le.refl _, hs, rfl, rfl⟩, ?_⟩
    refine ⟨MF.eq _, by intro Mx H w hle hs; refine forVals_eq rfl rfl rfl ?_; refine forVals_nil (ORg.plain (OR.fieldAddr FA194_0 rfl ?_)); exact ⟨_, [], Hp.le.refl _, hs, rfl, rfl⟩, ?_⟩
    refine ⟨MF.eq _, by intro Mx H w hle hs; refine forVals_eq rfl rfl rfl ?_; refine forVals_nil (ORg.plain (OR.load T3 rfl rfl (hs.right.cellM (i := 1) rfl rfl) ?_)); exact ⟨_, [], Hp.le.refl _, hs, rfl, rfl⟩, ?_⟩
    refine ⟨MF.bytes (List.replicate g 0), ?_, ?_⟩
    · intro Mx H w hle2 hs; (try replace hle := hle.trans hle2); (try replace hlb := hlb.trans hle2); refine forVals_eq rfl rfl rfl ?_
      refine forVals_nil (ORg.plain (OR.make1 hs T43.und T5 rfl rfl rfl (by omega) (by omega) ?_))
      intro q1 w hq1 hs
      obtain ⟨H, hle1, hp, hs⟩ := hs.pub1 hq1
      exact ⟨_, [], hle1, hs, (by have := Bytes.block (l := List.replicate g 0) (cap := g) hp (by simp) (by simp); rwa [List.length_replicate] at this), rfl⟩
    refine ⟨MF.eq _, by intro Mx H w hle hs; refine forVals_nil (ORg.plain (OR.move rfl ?_)); exact ⟨_, [], Hp.le.refl _, hs, rfl, rfl⟩, ?_⟩
    refine ⟨MF.eq _, by intro Mx H w hle hs; refine forVals_eq rfl rfl rfl ?_; refine forVals_nil (ORg.plain (OR.nilCheck rfl ?_)); exact ⟨_, [], Hp.le.refl _, hs, rfl, rfl⟩, ?_⟩
    refine ⟨MF.eq _, by intro Mx H w hle hs; refine forVals_eq rfl rfl rfl ?_; refine forVals_nil (ORg.plain (OR.fieldAddr FA194_1 rfl ?_)); exact ⟨_, [], Hp.le.refl _, hs, rfl, rfl⟩, ?_⟩
    refine ⟨MF.eq _, by intro Mx H w hle hs; refine forVals_eq rfl rfl rfl ?_; refine forVals_nil (ORg.plain (OR.load T3 rfl rfl (hs.right.cellM (i := 1) rfl rfl) ?_)); exact ⟨_, [], Hp.le.refl _, hs, rfl, rfl⟩, ?_⟩
    refine ⟨MF.bytes (List.replicate s 0), ?_, ?_⟩
    · intro Mx H w hle2 hs; (try replace hle := hle.trans hle2); (try replace hlb := hlb.trans hle2); refine forVals_eq rfl rfl rfl ?_
      refine forVals_nil (ORg.plain (OR.make1 hs T43.und T5 rfl rfl rfl (by omega) (by omega) ?_))
      intro q1 w hq1 hs
      obtain ⟨H, hle1, hp, hs⟩ := hs.pub1 hq1
      exact ⟨_, [], hle1, hs, (by have := Bytes.block (l := List.replicate s 0) (cap := s) hp (by simp) (by simp); rwa [List.length_replicate] at this), rfl⟩
    refine ⟨MF.row (List.replicate g 0, List.replicate s 0), ?_, ?_⟩
    · intro Mx H w hle2 hs; (try replace hle := hle.trans hle2); (try replace hlb := hlb.trans hle2); refine forVals_of rfl rfl rfl ?_; intro v4 h4; refine forVals_of rfl rfl rfl ?_; intro v9 h9
      obtain ⟨_, _, rfl⟩ := h4.form
      obtain ⟨_, _, rfl⟩ := h9.form
      refine forVals_nil (ORg.plain (OR.buildAll T45 rfl rfl PL45 rfl rfl ?_))
      exact ⟨_, [], Hp.le.refl _, hs, ⟨_, _, rfl, h4, h9⟩, rfl⟩
    refine ⟨MF.ptr w0.heap.size _, by intro Mx H w hle hs; refine forVals_nil (ORg.plain (OR.alloc hs T45 ?_)); intro g w hg hs; exact ⟨_, [_], Hp.le.refl _, hs, g, hg, rfl, rfl⟩, ?_⟩
    intro H w hle2; (try replace hle := hle.trans hle2); (try replace hlb := hlb.trans hle2)
    refine forAllVals_eq rfl ?_
    refine forAllVals_eq rfl ?_
    refine forAllVals_eq rfl ?_
    refine forAllVals_eq rfl ?_
    refine forAllVals_of rfl ?_; intro v4 h4
    refine forAllVals_eq rfl ?_
    refine forAllVals_eq rfl ?_
    refine forAllVals_eq rfl ?_
    refine forAllVals_eq rfl ?_
    refine forAllVals_of rfl ?_; intro v9 h9
    refine forAllVals_of rfl ?_; intro v10 h10
    refine forAllVals_ptr rfl ?_; intro g2 hg2
    refine forAllVals_nil ?_; (try clear hs); intro hs
    obtain ⟨qc, qp, rfl, hqc, hqp⟩ := h10
    obtain ⟨b4, c4, rfl⟩ := hqc.form
    obtain ⟨b9, c9, rfl⟩ := hqp.form
    refine WO.stepN (OR.storeAll hs T45 rfl rfl rfl rfl rfl ?_)
    clear hs; intro w hs
    refine WO.done (WX.seq (WC.seq (WC.seq (WC.region (WO.step rfl (OR.move rfl (WO.step rfl ?_)))))))
    refine OR.nilCheck rfl (WO.step rfl (OR.fieldAddr FA194_2 rfl (WO.step rfl (OR.load T97 rfl rfl (hs.cellM (i := 2) rfl rfl) (WO.step rfl (OR.lenSlice T97.und rfl (WO.step rfl ?_)))))))
    refine OR.move rfl (WO.done (WX.seq (WC.block ?_)))
    refine WC.loop (ι := Nat × Value × Value) (fun ix => [(0, ptr b), (1, .slice bc c.length cc), (4, ptr g1), (6, ptr g2), (38, .slice br rows.length cr), (39, .int .i64 (rows.length : Int)), (40, .int .i64 (ix.1 : Int))]) (fun ix w => (ix.1 ≤ rows.length ∧ ∃ H, Hp.le H0 H ∧ Bytes H ix.2.1 (combR g s (rows.take ix.1) (c.take ix.1)).1 ∧ Bytes H ix.2.2 (combR g s (rows.take ix.1) (c.take ix.1)).2 ∧ HS [] H0 w0 H [(g2, .cells #[ix.2.1, ix.2.2] 45, true), (g1, .cells #[.slice none 0 0, .slice none 0 0] 45, true), (b, basisObj g s (.slice br rows.length cr), false)] w)) (fun ix => rows.length - ix.1) (0, .slice b4 (List.replicate g (0 : UInt8)).length c4, .slice b9 (List.replicate s (0 : UInt8)).length c9) ⟨rfl, rfl, rfl, rfl, rfl, rfl, rfl,  trivial⟩ ?_ (fun ix w hW => ?_)
    · refine ⟨by omega, H, hle, ?_, ?_, hs⟩
      · have : combR g s (rows.take 0) (c.take 0) = (List.replicate g 0, List.replicate s 0) := by simp [combR]
        rw [this]; exact hqc
      · have : combR g s (rows.take 0) (c.take 0) = (List.replicate g 0, List.replicate s 0) := by simp [combR]
        rw [this]; exact hqp
    obtain ⟨k, qc, qp⟩ := ix
    obtain ⟨hk, H, hle, hqc, hqp, hs⟩ := hW
    simp only at hk hqc hqp hs
    refine WC.seq (WC.region (WO.step rfl (OR.lss rfl rfl (WO.done (WX.seq (WC.seq ?_))))))
    refine WC.condD rfl (fun hlt => ?_) (fun hlt => ?_)
    · have hk' : k < rows.length := by omega
      have hkc : k < c.length := by omega
      obtain ⟨xb, xo, rfl, hcr⟩ := hv.pos (by omega)
      obtain ⟨yb, yo, rfl, hcc⟩ := hc.pos (by omega)
      obtain ⟨ec, ep, hcc2, hec, hep⟩ := hcr k hk'
      have hq := combR_gs g s (rows.take k) (c.take k) (fun x hx => hrs x (List.mem_of_mem_take hx))
      obtain ⟨_, _, rfl⟩ := hec.form
      obtain ⟨_, _, rfl⟩ := hep.form
      refine WC.skip (WX.seq (WC.seq (WC.block (WC.seq (WC.region (WO.step rfl (OR.move rfl ?_)))))))
      refine WO.step rfl (OR.idxN k T97.und T45 rfl rfl rfl hk' ?_)
      refine WO.step rfl (OR.loadN (cs := [_, _]) T45 rfl rfl rfl (fun j u hj => hs.cell (hcell.mono hle (hcc2 j u hj))) ?_)
      refine WO.step rfl (OR.alloc hs T45 ?_)
      clear hs; intro g3 w hg3 hs
      refine WO.step rfl (OR.assign rfl (WO.stepN (OR.storeAll hs T45 rfl rfl rfl rfl rfl ?_)))
      clear hs; intro w hs
      refine WO.done (WX.seq ?_)
      refine WC.draw 7 mixed hs (by kernel_rfl) ?_
      refine ⟨MF.eq _, by intro Mx H w hle hs; refine forVals_nil (ORg.plain (OR.loadAll T45 rfl rfl (hs.right.blk (i := 1) rfl) rfl ?_)); exact ⟨_, [], Hp.le.refl _, hs, rfl, rfl⟩, ?_⟩
      refine ⟨MF.eq _, by intro Mx H w hle hs; refine forVals_nil (ORg.plain (OR.loadAll T45 rfl rfl (hs.right.blk (i := 0) rfl) rfl ?_)); exact ⟨_, [], Hp.le.refl _, hs, rfl, rfl⟩, ?_⟩
      refine ⟨MF.eq _, by intro Mx H w hle hs; refine forVals_nil (ORg.plain (OR.move rfl ?_)); exact ⟨_, [], Hp.le.refl _, hs, rfl, rfl⟩, ?_⟩
      refine ⟨MF.eq _, by intro Mx H w hle hs; refine forVals_nil (ORg.plain (OR.move rfl ?_)); exact ⟨_, [], Hp.le.refl _, hs, rfl, rfl⟩, ?_⟩
      refine ⟨MF.eq (.pointer (some ⟨yb, yo + k, none⟩)), ?_, ?_⟩
      · intro Mx H w hle2 hs; (try replace hle := hle.trans hle2); (try replace hlb := hlb.trans hle2); refine forVals_eq rfl rfl rfl ?_; refine forVals_eq rfl rfl rfl ?_
        refine forVals_nil (ORg.plain (OR.idx k T43.und T5 rfl rfl rfl hkc ?_))
        exact ⟨_, [], Hp.le.refl _, hs, rfl, rfl⟩
      refine ⟨MF.eq (B c[k]), ?_, ?_⟩
      · intro Mx H w hle2 hs; (try replace hle := hle.trans hle2); (try replace hlb := hlb.trans hle2); refine forVals_eq rfl rfl rfl ?_
        refine forVals_nil (ORg.plain (OR.load T5 rfl rfl (hs.cell (hcell.mono hle (hcc k hkc))) ?_))
        exact ⟨_, [], Hp.le.refl _, hs, rfl, rfl⟩
      refine ⟨MF.row (combR g s (rows.take (k + 1)) (c.take (k + 1))), ?_, ?_⟩
      · intro Mx H w hle2 hs; (try replace hle := hle.trans hle2); (try replace hlb := hlb.trans hle2); refine forVals_eq rfl rfl rfl ?_; refine forVals_eq rfl rfl rfl ?_; refine forVals_eq rfl rfl rfl ?_
        refine forVals_nil (ORg.plain (OR.call hs body125 rfl rfl (plus_ok (combR g s (rows.take k) (c.take k)) rows[k] c[k] _ _ _ _ _ _ hs.toSub (hqc.mono hle2) (hqp.mono hle2) (hec.mono hle) (hep.mono hle) (by rw [hq.1]; omega) (by rw [hq.2]; omega)) ?_))
        clear hs; rintro _ H w hs hle1 hr
        exact ⟨_, [], hle1, hs, (by rw [combR_step _ _ _ _ _ hk' hkc]; exact hr), rfl⟩
      intro H w hle2; (try replace hle := hle.trans hle2); (try replace hlb := hlb.trans hle2)
      refine forAllVals_eq rfl ?_
      refine forAllVals_eq rfl ?_
      refine forAllVals_eq rfl ?_
      refine forAllVals_eq rfl ?_
      refine forAllVals_eq rfl ?_
      refine forAllVals_eq rfl ?_
      refine forAllVals_of rfl ?_; intro v6 h6
      refine forAllVals_nil ?_; (try clear hs); intro hs
      obtain ⟨nc, np, rfl, hnc, hnp⟩ := h6
      obtain ⟨b6, c6, rfl⟩ := hnc.form
      obtain ⟨b7, c7, rfl⟩ := hnp.form
      replace hs := hs.front (i := 1) rfl
      refine WO.stepN (OR.storeAll hs T45 rfl rfl rfl rfl rfl ?_)
      clear hs; intro w hs
      refine WO.done (WX.block (WX.seq (WC.region (WO.step rfl (OR.addI rfl rfl (by omega) (by omega) (WO.step rfl (OR.move rfl ?_)))))))
      refine WO.done ?_
      replace hs := hs.drop (i := 1)
      refine WX.again ((k + 1, .slice b6 (combR g s (rows.take (k + 1)) (c.take (k + 1))).1.length c6, .slice b7 (combR g s (rows.take (k + 1)) (c.take (k + 1))).2.length c7)) ⟨rfl, rfl, rfl, rfl, rfl, rfl, rfl,  trivial⟩ ?_ ?_
      · exact ⟨hk', H, hle, hnc, hnp, hs⟩
      · simp only; omega
    · have e : k = rows.length := by omega
      subst e
      rw [List.take_of_length_le (Nat.le_refl _), List.take_of_length_le (by omega)] at hqc hqp
      obtain ⟨_, _, rfl⟩ := hqc.form
      obtain ⟨_, _, rfl⟩ := hqp.form
      refine WC.exit (WX.seq_exit (WX.loop_exit (WX.block_hit (WX.seq (WC.seq (WC.region (WO.step rfl ?_)))))))
      refine OR.loadAll T45 rfl rfl (hs.blk (i := 0) rfl) rfl ?_
      replace hs := hs.front (i := 1) rfl
      refine WO.stepN (OR.storeAll hs T45 rfl rfl rfl rfl rfl ?_)
      clear hs; intro w hs
      refine WO.step rfl (OR.assign rfl (WO.done (WX.seq (WC.ret ?_))))
      refine WX.retCT T45 rfl rfl rfl rfl rfl (hs.blk (i := 0) rfl) ?_
      refine .mk hs ⟨_, by rw [if_pos heq], ?_⟩
      rw [if_pos heq]
      exact ⟨_, _, rfl, hqc, hqp⟩

end Go.Bw
