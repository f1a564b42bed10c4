/- Coefficients times symbols. -/
import Derived.Test.YtbgdgmilcojlbaaRef
namespace Go.Bw
set_option linter.unusedVariables false
set_option linter.unusedSimpArgs false
open Go.Proofs

theorem zip_takeR {α β : Type} : ∀ (a : List α) (b : List β), a.zip (b.take a.length) = a.zip b
  | [], b => by simp
  | x :: a, [] => by simp
  | x :: a, y :: b => by simp [zip_takeR a b]
theorem zip_takeL {α β : Type} : ∀ (a : List α) (b : List β), (a.take b.length).zip b = a.zip b
  | [], b => by simp
  | x :: a, [] => by simp
  | x :: a, y :: b => by simp [zip_takeL a b]

set_option maxRecDepth 20000 in
set_option maxHeartbeats 2000000 in
theorem times_ok (vc vs : Value) (c : List UInt8) (syms : List (List UInt8)) (s : Nat) (H0 : Hp) (w0 : World) (h0 : Sub H0 w0) (hc : Bytes H0 vc c) (hv : BytesL H0 vs syms) (hrow : ∀ r ∈ syms, r.length = s) (hsm : s ≤ 65535)
    (hlc : c.length ≤ 100000) (hls : syms.length ≤ 100000) :
    Calls Try.prog 22 #[vc, vs, .int .i64 (s : Int)] w0 (Pure H0 w0 fun v H' => Bytes H' v (comb s syms c)) := by
  have hs := HS.init h0
  have hle := Hp.le.refl H0
  obtain ⟨bc, cc, rfl⟩ := hc.form
  obtain ⟨bv, cv, rfl⟩ := hv.form
  refine Calls.enter (args := [.slice bc c.length cc, .slice bv syms.length cv, .int .i64 (s : Int)]) Try.func22 rfl Try.ntmps22 rfl ?_
  refine WC.seq (WC.region (WO.step rfl (OR.assign rfl (WO.done (WX.seq (WC.seq (WC.region ?_)))))))
  refine WO.step rfl (OR.move rfl ?_)
  refine WO.step rfl (OR.make1 hs T23.und T5 rfl rfl rfl (by omega) (by omega) ?_)
  clear hs; intro g1 w hg1 hs
  refine WO.step rfl (OR.assign rfl (WO.done (WX.seq (WC.seq (WC.seq (WC.region (WO.step rfl ?_)))))))
  refine OR.assign rfl (WO.done (WX.seq (WC.block ?_)))
  obtain ⟨H, hle1, hp_g1, hs9⟩ := hs.pub1 hg1; clear hs; have hs := hs9; clear hs9; replace hle := hle.trans hle1; (try replace hlb := hlb.trans hle1)
  have hz : Bytes H (.slice (some ⟨g1, 0, none⟩) s s) (List.replicate s 0) := by have := Bytes.block (l := List.replicate s 0) (cap := s) hp_g1 (by simp) (by simp); rwa [List.length_replicate] at this
  refine WC.loop (ι := Nat × Value) (fun ix => [(0, .slice bc c.length cc), (1, .slice bv syms.length cv), (2, .int .i64 (s : Int)), (7, ix.2), (8, .int .i64 (ix.1 : Int))]) (fun ix w => (ix.1 ≤ c.length ∧ ix.1 ≤ syms.length ∧ ∃ H, Hp.le H0 H ∧ Bytes H ix.2 (comb s (syms.take ix.1) (c.take ix.1)) ∧ HS [] H0 w0 H [] w)) (fun ix => c.length - ix.1) (0, .slice (some ⟨g1, 0, none⟩) s s) ⟨rfl, rfl, rfl, rfl, rfl,  trivial⟩ ?_ (fun ix w hW => ?_)
  · refine ⟨by omega, by omega, H, hle, ?_, hs⟩
    simpa [comb] using hz
  obtain ⟨k, vo⟩ := ix
  obtain ⟨hk1, hk2, H, hle, ho, hs⟩ := hW
  simp only at hk1 hk2 ho
  refine WC.seq (WC.seq (WC.region (WO.step rfl (OR.move rfl (WO.step rfl (OR.move rfl (WO.step rfl ?_)))))))
  refine OR.lenSlice T23.und rfl (WO.step rfl (OR.lss rfl rfl (WO.step rfl (OR.move rfl ?_))))
  refine WO.guardSplit (j := 4) rfl (fun hq => ?_) (fun hq => ?_)
  · refine WO.guardYes rfl (decide_eq_true hq) rfl rfl (OR.move rfl (WO.guardYes rfl (decide_eq_true hq) rfl rfl (OR.move rfl (WO.guardYes rfl (decide_eq_true hq) rfl rfl (OR.lenSlice T22.und rfl (WO.guardYes rfl (decide_eq_true hq) rfl rfl (OR.lss rfl rfl ?_)))))))
    refine WO.step rfl (OR.pickT rfl (decide_eq_true hq) rfl (WO.done (WX.seq ?_)))
    refine WC.condD rfl (fun hq2 => ?_) (fun hq2 => ?_)
    · have h1 : k < c.length := by omega
      have h2 : k < syms.length := by omega
      obtain ⟨xb, xo, rfl, hcx⟩ := hc.pos (by omega)
      obtain ⟨yb, yo, rfl, hcy⟩ := hv.pos (by omega)
      obtain ⟨e, hce, hbe⟩ := hcy k h2
      have hl := hrow syms[k] (List.getElem_mem _)
      have hcl := comb_length s (syms.take k) (c.take k) (fun r hr => hrow r (List.mem_of_mem_take hr))
      obtain ⟨be, ce, rfl⟩ := hbe.form
      obtain ⟨_, _, rfl⟩ := ho.form
      refine WC.skip (WX.seq (WC.seq (WC.block ?_)))
      refine WC.draw 10 mixed hs (by kernel_rfl) ?_
      refine ⟨MF.eq _, by intro Mx H w hle hs; refine forVals_nil (ORg.plain (OR.move rfl ?_)); exact ⟨_, [], Hp.le.refl _, hs, rfl, rfl⟩, ?_⟩
      refine ⟨MF.eq _, by intro Mx H w hle hs; refine forVals_nil (ORg.plain (OR.move rfl ?_)); exact ⟨_, [], Hp.le.refl _, hs, rfl, rfl⟩, ?_⟩
      refine ⟨MF.eq _, by intro Mx H w hle hs; refine forVals_nil (ORg.plain (OR.move rfl ?_)); exact ⟨_, [], Hp.le.refl _, hs, rfl, rfl⟩, ?_⟩
      refine ⟨MF.eq (.pointer (some ⟨yb, yo + k, none⟩)), ?_, ?_⟩
      · intro Mx H w hle2 hs; (try replace hle := hle.trans hle2); (try replace hlb := hlb.trans hle2); refine forVals_eq rfl rfl rfl ?_; refine forVals_eq rfl rfl rfl ?_
        refine forVals_nil (ORg.plain (OR.idx k T22.und T23 rfl rfl rfl h2 ?_))
        exact ⟨_, [], Hp.le.refl _, hs, rfl, rfl⟩
      refine ⟨MF.eq (.slice be syms[k].length ce), ?_, ?_⟩
      · intro Mx H w hle2 hs; (try replace hle := hle.trans hle2); (try replace hlb := hlb.trans hle2); refine forVals_eq rfl rfl rfl ?_
        refine forVals_nil (ORg.plain (OR.load T23 rfl rfl (hs.cell (hcell.mono hle hce)) ?_))
        exact ⟨_, [], Hp.le.refl _, hs, rfl, rfl⟩
      refine ⟨MF.eq _, by intro Mx H w hle hs; refine forVals_nil (ORg.plain (OR.move rfl ?_)); exact ⟨_, [], Hp.le.refl _, hs, rfl, rfl⟩, ?_⟩
      refine ⟨MF.eq _, by intro Mx H w hle hs; refine forVals_nil (ORg.plain (OR.move rfl ?_)); exact ⟨_, [], Hp.le.refl _, hs, rfl, rfl⟩, ?_⟩
      refine ⟨MF.eq (.pointer (some ⟨xb, xo + k, none⟩)), ?_, ?_⟩
      · intro Mx H w hle2 hs; (try replace hle := hle.trans hle2); (try replace hlb := hlb.trans hle2); refine forVals_eq rfl rfl rfl ?_; refine forVals_eq rfl rfl rfl ?_
        refine forVals_nil (ORg.plain (OR.idx k T23.und T5 rfl rfl rfl h1 ?_))
        exact ⟨_, [], Hp.le.refl _, hs, rfl, rfl⟩
      refine ⟨MF.eq (B c[k]), ?_, ?_⟩
      · intro Mx H w hle2 hs; (try replace hle := hle.trans hle2); (try replace hlb := hlb.trans hle2); refine forVals_eq rfl rfl rfl ?_
        refine forVals_nil (ORg.plain (OR.load T5 rfl rfl (hs.cell (hcell.mono hle (hcx k h1))) ?_))
        exact ⟨_, [], Hp.le.refl _, hs, rfl, rfl⟩
      refine ⟨MF.bytes (comb s (syms.take (k + 1)) (c.take (k + 1))), ?_, ?_⟩
      · intro Mx H w hle2 hs; (try replace hle := hle.trans hle2); (try replace hlb := hlb.trans hle2); refine forVals_eq rfl rfl rfl ?_; refine forVals_eq rfl rfl rfl ?_; refine forVals_eq rfl rfl rfl ?_
        refine forVals_nil (ORg.plain (OR.call hs body89 rfl rfl (refPlus_ok _ _ (comb s (syms.take k) (c.take k)) syms[k] c[k] _ _ hs.toSub (ho.mono hle2) (hbe.mono hle) (by rw [hcl]; omega) (by rw [hcl, hl])) ?_))
        clear hs; rintro _ H w hs hle1 hr
        exact ⟨_, [], hle1, hs, (by rw [comb_step _ _ _ _ h2 h1]; exact hr), rfl⟩
      intro H w hle2; (try replace hle := hle.trans hle2); (try replace hlb := hlb.trans hle2)
      refine forAllVals_eq rfl ?_
      refine forAllVals_eq rfl ?_
      refine forAllVals_eq rfl ?_
      refine forAllVals_eq rfl ?_
      refine forAllVals_eq rfl ?_
      refine forAllVals_eq rfl ?_
      refine forAllVals_eq rfl ?_
      refine forAllVals_eq rfl ?_
      refine forAllVals_eq rfl ?_
      refine forAllVals_of rfl ?_; intro v9 h9
      refine forAllVals_nil ?_; (try clear hs); intro hs
      obtain ⟨b9, c9, rfl⟩ := h9.form
      refine WO.step rfl (OR.assign rfl (WO.done (WX.block (WX.seq (WC.region (WO.step rfl (OR.move rfl ?_)))))))
      refine WO.step rfl (OR.addI rfl rfl (by omega) (by omega) (WO.step rfl (OR.assign rfl (WO.done ?_))))
      refine WX.again ((k + 1, _)) ⟨rfl, rfl, rfl, rfl, rfl,  trivial⟩ ?_ ?_
      · exact ⟨h1, h2, H, hle, h9, hs⟩
      · simp only; omega
    · have e : k = syms.length := by omega
      subst e
      refine WC.exit (WX.seq_exit (WX.loop_exit (WX.block_hit (WX.seq (WC.seq (WC.region (WO.step rfl ?_)))))))
      refine OR.move rfl (WO.step rfl (OR.assign rfl (WO.done (WX.seq (WC.ret ?_)))))
      refine WX.ret1 rfl rfl ?_
      refine .mk hs ?_
      rw [List.take_of_length_le (Nat.le_refl _)] at ho
      have e2 : comb s syms (c.take syms.length) = comb s syms c := by rw [comb, comb, zip_takeR]
      rw [← e2]; exact ho
  · have e : k = c.length := by omega
    subst e
    refine WO.guardNo rfl (decide_eq_false hq) rfl rfl (WO.guardNo rfl (decide_eq_false hq) rfl rfl (WO.guardNo rfl (decide_eq_false hq) rfl rfl (WO.guardNo rfl (decide_eq_false hq) rfl rfl (WO.step rfl (OR.pickF rfl (decide_eq_false hq) rfl (WO.done (WX.seq ?_)))))))
    refine WC.no rfl rfl (WC.exit (WX.seq_exit (WX.loop_exit (WX.block_hit (WX.seq (WC.seq (WC.region ?_)))))))
    refine WO.step rfl (OR.move rfl (WO.step rfl (OR.assign rfl (WO.done (WX.seq (WC.ret ?_))))))
    refine WX.ret1 rfl rfl ?_
    refine .mk hs ?_
    rw [List.take_of_length_le (Nat.le_refl c.length)] at ho
    have e2 : comb s (syms.take c.length) c = comb s syms c := by rw [comb, comb, zip_takeL]
    rw [← e2]; exact ho

end Go.Bw
