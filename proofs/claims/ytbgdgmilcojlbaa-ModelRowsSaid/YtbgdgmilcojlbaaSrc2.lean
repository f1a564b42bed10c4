/- A source: what changes it. -/
import Derived.Test.YtbgdgmilcojlbaaChunks
namespace Go.Bw
set_option linter.unusedVariables false
set_option linter.unusedSimpArgs false
open Go.Proofs

def Tup3 (H : Hp) (v : Value) (ll : List (List UInt8)) (l : List UInt8) (e : Int) : Prop := ∃ r1 r2, v = .tuple #[r1, r2, .int .i64 e] ∧ BytesL H r1 ll ∧ Bytes H r2 l
def MF.tup3 (ll : List (List UInt8)) (l : List UInt8) (e : Int) : MF := MF.of (fun v H => Tup3 H v ll l e) fun _ _ _ hle ⟨r1, r2, h1, h2, h3⟩ => ⟨r1, r2, h1, h2.mono hle, h3.mono hle⟩

def goodGS (g s : Int) : Prop := 1 ≤ g ∧ g ≤ 255 ∧ 1 ≤ s ∧ s ≤ 65535 ∧ 4 < g * s
instance (g s : Int) : Decidable (goodGS g s) := inferInstanceAs (Decidable (_ ∧ _))

set_option maxRecDepth 20000 in
set_option maxHeartbeats 2000000 in
theorem set_bad (b : Nat) (g s : Int) (vs vc vch vop v1 v2 : Value) (cl : Bool) (H0 : Hp) (w0 : World) (h0 : Sub H0 w0) (hb : w0.heap[b]? = some (srcObj g s vs vc cl vch vop)) (hn : H0 b = none) (hgs : ¬ goodGS g s) (h1 : v1.oneCell' = true) (h2 : v2.oneCell' = true) :
    Calls Try.prog 99 #[ptr b, v1, v2] w0 (Pure H0 w0 fun v _ => v = .int .i64 1) := by
  have hs := HS.startR h0 hb hn
  have hle := Hp.le.refl H0
  refine Calls.enter (args := [ptr b, v1, v2]) Try.func99 rfl Try.ntmps99 rfl ?_
  refine WC.seq (WC.region (WO.step rfl (OR.assign rfl (WO.done (WX.seq (WC.seq ?_))))))
  refine WC.draw 17 mixed hs (by kernel_rfl) ?_
  refine ⟨MF.eq _, by intro Mx H w hle hs; refine forVals_nil (ORg.plain (OR.move rfl ?_)); exact ⟨_, [], Hp.le.refl _, hs, rfl, rfl⟩, ?_⟩
  refine ⟨MF.eq _, by intro Mx H w hle hs; refine forVals_nil (ORg.plain (OR.move rfl ?_)); exact ⟨_, [], Hp.le.refl _, hs, rfl, rfl⟩, ?_⟩
  refine ⟨MF.eq _, by intro Mx H w hle hs; refine forVals_nil (ORg.plain (OR.move rfl ?_)); exact ⟨_, [], Hp.le.refl _, hs, rfl, rfl⟩, ?_⟩
  refine ⟨MF.eq _, by intro Mx H w hle hs; refine forVals_eq rfl rfl rfl ?_; refine forVals_nil (ORg.plain (OR.nilCheck rfl ?_)); exact ⟨_, [], Hp.le.refl _, hs, rfl, rfl⟩, ?_⟩
  refine ⟨MF.eq _, by intro Mx H w hle hs; refine forVals_eq rfl rfl rfl ?_; refine forVals_nil (ORg.plain (OR.fieldAddr FA151_0 rfl ?_)); exact ⟨_, [], Hp.le.refl _, hs, rfl, rfl⟩, ?_⟩
  refine ⟨MF.eq _, by intro Mx H w hle hs; refine forVals_eq rfl rfl rfl ?_; refine forVals_nil (ORg.plain (OR.load T3 rfl rfl (hs.right.cellM (i := 0) rfl rfl) ?_)); exact ⟨_, [], Hp.le.refl _, hs, rfl, rfl⟩, ?_⟩
  refine ⟨MF.eq _, by intro Mx H w hle hs; refine forVals_nil (ORg.plain (OR.move rfl ?_)); exact ⟨_, [], Hp.le.refl _, hs, rfl, rfl⟩, ?_⟩
  refine ⟨MF.eq _, by intro Mx H w hle hs; refine forVals_eq rfl rfl rfl ?_; refine forVals_nil (ORg.plain (OR.nilCheck rfl ?_)); exact ⟨_, [], Hp.le.refl _, hs, rfl, rfl⟩, ?_⟩
  refine ⟨MF.eq _, by intro Mx H w hle hs; refine forVals_eq rfl rfl rfl ?_; refine forVals_nil (ORg.plain (OR.fieldAddr FA151_1 rfl ?_)); exact ⟨_, [], Hp.le.refl _, hs, rfl, rfl⟩, ?_⟩
  refine ⟨MF.eq _, by intro Mx H w hle hs; refine forVals_eq rfl rfl rfl ?_; refine forVals_nil (ORg.plain (OR.load T3 rfl rfl (hs.right.cellM (i := 0) rfl rfl) ?_)); exact ⟨_, [], Hp.le.refl _, hs, rfl, rfl⟩, ?_⟩
  refine ⟨MF.eq (.tuple #[.slice none 0 0, .slice none 0 0, .int .i64 1]), ?_, ?_⟩
  · intro Mx H w hle2 hs; (try replace hle := hle.trans hle2); (try replace hlb := hlb.trans hle2); refine forVals_eq rfl rfl rfl ?_; refine forVals_eq rfl rfl rfl ?_; refine forVals_eq rfl rfl rfl ?_; refine forVals_eq rfl rfl rfl ?_
    refine forVals_nil (ORg.plain (OR.call hs body98 rfl rfl (chunks_bad g s v1 v2 _ _ hs.toSub hgs h1) ?_))
    clear hs; rintro _ H w hs hle1 rfl
    exact ⟨_, [], hle1, hs, rfl, rfl⟩
  refine ⟨MF.eq _, by intro Mx H w hle hs; refine forVals_eq rfl rfl rfl ?_; refine forVals_nil (ORg.plain (OR.move rfl ?_)); exact ⟨_, [], Hp.le.refl _, hs, rfl, rfl⟩, ?_⟩
  refine ⟨MF.eq _, by intro Mx H w hle hs; refine forVals_eq rfl rfl rfl ?_; refine forVals_nil (ORg.plain (OR.extract rfl rfl ?_)); exact ⟨_, [], Hp.le.refl _, hs, rfl, rfl⟩, ?_⟩
  refine ⟨MF.eq _, by intro Mx H w hle hs; refine forVals_eq rfl rfl rfl ?_; refine forVals_nil (ORg.plain (OR.extract rfl rfl ?_)); exact ⟨_, [], Hp.le.refl _, hs, rfl, rfl⟩, ?_⟩
  refine ⟨MF.eq _, by intro Mx H w hle hs; refine forVals_eq rfl rfl rfl ?_; refine forVals_nil (ORg.plain (OR.extract rfl rfl ?_)); exact ⟨_, [], Hp.le.refl _, hs, rfl, rfl⟩, ?_⟩
  refine ⟨MF.eq _, by intro Mx H w hle hs; refine forVals_eq rfl rfl rfl ?_; refine forVals_nil (ORg.plain (OR.assign rfl ?_)); exact ⟨_, [], Hp.le.refl _, hs, rfl, rfl⟩, ?_⟩
  refine ⟨MF.eq _, by intro Mx H w hle hs; refine forVals_eq rfl rfl rfl ?_; refine forVals_nil (ORg.plain (OR.assign rfl ?_)); exact ⟨_, [], Hp.le.refl _, hs, rfl, rfl⟩, ?_⟩
  intro H w hle2; (try replace hle := hle.trans hle2); (try replace hlb := hlb.trans hle2)
  refine forAllVals_eq rfl ?_
  refine forAllVals_eq rfl ?_
  refine forAllVals_eq rfl ?_
  refine forAllVals_eq rfl ?_
  refine forAllVals_eq rfl ?_
  refine forAllVals_eq rfl ?_
  refine forAllVals_eq rfl ?_
  refine forAllVals_eq rfl ?_
  refine forAllVals_eq rfl ?_
  refine forAllVals_eq rfl ?_
  refine forAllVals_eq rfl ?_
  refine forAllVals_eq rfl ?_
  refine forAllVals_eq rfl ?_
  refine forAllVals_eq rfl ?_
  refine forAllVals_eq rfl ?_
  refine forAllVals_eq rfl ?_
  refine forAllVals_eq rfl ?_
  refine forAllVals_nil ?_; (try clear hs); intro hs
  refine WO.step rfl (OR.assign rfl (WO.done (WX.seq (WC.seq (WC.seq (WC.region (WO.step rfl ?_)))))))
  refine OR.move rfl (WO.step rfl (OR.eql rfl rfl (WO.done (WX.seq ?_))))
  refine WC.no rfl (decide_eq_false (by omega)) ?_
  refine WC.skip (WX.seq (WC.seq (WC.region (WO.step rfl (OR.move rfl (WO.step rfl (OR.assign rfl ?_)))))))
  refine WO.done (WX.seq (WC.ret ?_))
  refine WX.ret1 rfl rfl ?_
  exact .mk hs rfl

set_option maxRecDepth 20000 in
set_option maxHeartbeats 2000000 in
theorem set_ok (b : Nat) (g s : Nat) (vs vc vch vop v1 v2 : Value) (cl : Bool) (st : List UInt8) (cuts : List Int) (H0 : Hp) (w0 : World) (h0 : Sub H0 w0) (hb : w0.heap[b]? = some (srcObj g s vs vc cl vch vop)) (hn : H0 b = none) (hgs : goodGS g s)
    (h1 : Bytes H0 v1 st) (h2 : Ints H0 v2 cuts) (hl1 : st.length ≤ 10000000000) (hl2 : cuts.length ≤ 10000000000) :
    Calls Try.prog 99 #[ptr b, v1, v2] w0 (Ret [b] H0 w0 fun v H' M' => if cutsOk st.length 0 cuts = true then
        v = .int .i64 0 ∧ ∃ o, M' = [(b, o, true)] ∧ SrcIn H' ⟨g, s, st, cuts, cl, chunksF (g * s - 4) st cuts, openF (g * s - 4) st cuts⟩ o
      else v = .int .i64 1 ∧ M' = [(b, srcObj g s vs vc cl vch vop, true)]) := by
  have hs := HS.start1 h0 hb hn
  have hle := Hp.le.refl H0
  obtain ⟨b1, c1, rfl⟩ := h1.form
  obtain ⟨b2, c2, rfl⟩ := h2.form
  obtain ⟨g1, g2, g3, g4, g5⟩ := hgs
  have hgs' : 1 ≤ g ∧ g ≤ 255 ∧ 1 ≤ s ∧ s ≤ 65535 ∧ 4 < g * s := ⟨by omega, by omega, by omega, by omega, by rw [← Int.natCast_mul] at g5; omega⟩
  refine Calls.enter (args := [ptr b, .slice b1 st.length c1, .slice b2 cuts.length c2]) Try.func99 rfl Try.ntmps99 rfl ?_
  obtain ⟨CF, hCF⟩ : ∃ X, X = (if cutsOk st.length 0 cuts = true then chunksF (g * s - 4) st cuts else []) := ⟨_, rfl⟩
  obtain ⟨OF, hOF⟩ : ∃ X, X = (if cutsOk st.length 0 cuts = true then openF (g * s - 4) st cuts else []) := ⟨_, rfl⟩
  obtain ⟨E, hE⟩ : ∃ X : Int, X = (if cutsOk st.length 0 cuts = true then 0 else 1) := ⟨_, rfl⟩
  refine WC.seq (WC.region (WO.step rfl (OR.assign rfl (WO.done (WX.seq (WC.seq ?_))))))
  refine WC.draw 17 mixed hs (by kernel_rfl) ?_
  refine ⟨MF.eq _, by intro Mx H w hle hs; refine forVals_nil (ORg.plain (OR.move rfl ?_)); exact ⟨_, [], Hp.le.refl _, hs, rfl, rfl⟩, ?_⟩
  refine ⟨MF.eq _, by intro Mx H w hle hs; refine forVals_nil (ORg.plain (OR.move rfl ?_)); exact ⟨_, [], Hp.le.refl _, hs, rfl, rfl⟩, ?_⟩
  refine ⟨MF.eq _, by intro Mx H w hle hs; refine forVals_nil (ORg.plain (OR.move rfl ?_)); exact ⟨_, [], Hp.le.refl _, hs, rfl, rfl⟩, ?_⟩
  refine ⟨MF.eq _, by intro Mx H w hle hs; refine forVals_eq rfl rfl rfl ?_; refine forVals_nil (ORg.plain (OR.nilCheck rfl ?_)); exact ⟨_, [], Hp.le.refl _, hs, rfl, rfl⟩, ?_⟩
  refine ⟨MF.eq _, by intro Mx H w hle hs; refine forVals_eq rfl rfl rfl ?_; refine forVals_nil (ORg.plain (OR.fieldAddr FA151_0 rfl ?_)); exact ⟨_, [], Hp.le.refl _, hs, rfl, rfl⟩, ?_⟩
  refine ⟨MF.eq _, by intro Mx H w hle hs; refine forVals_eq rfl rfl rfl ?_; refine forVals_nil (ORg.plain (OR.load T3 rfl rfl (hs.right.cellM (i := 0) rfl rfl) ?_)); exact ⟨_, [], Hp.le.refl _, hs, rfl, rfl⟩, ?_⟩
  refine ⟨MF.eq _, by intro Mx H w hle hs; refine forVals_nil (ORg.plain (OR.move rfl ?_)); exact ⟨_, [], Hp.le.refl _, hs, rfl, rfl⟩, ?_⟩
  refine ⟨MF.eq _, by intro Mx H w hle hs; refine forVals_eq rfl rfl rfl ?_; refine forVals_nil (ORg.plain (OR.nilCheck rfl ?_)); exact ⟨_, [], Hp.le.refl _, hs, rfl, rfl⟩, ?_⟩
  refine ⟨MF.eq _, by intro Mx H w hle hs; refine forVals_eq rfl rfl rfl ?_; refine forVals_nil (ORg.plain (OR.fieldAddr FA151_1 rfl ?_)); exact ⟨_, [], Hp.le.refl _, hs, rfl, rfl⟩, ?_⟩
  refine ⟨MF.eq _, by intro Mx H w hle hs; refine forVals_eq rfl rfl rfl ?_; refine forVals_nil (ORg.plain (OR.load T3 rfl rfl (hs.right.cellM (i := 0) rfl rfl) ?_)); exact ⟨_, [], Hp.le.refl _, hs, rfl, rfl⟩, ?_⟩
  refine ⟨MF.tup3 CF OF E, ?_, ?_⟩
  · intro Mx H w hle2 hs; (try replace hle := hle.trans hle2); (try replace hlb := hlb.trans hle2); refine forVals_eq rfl rfl rfl ?_; refine forVals_eq rfl rfl rfl ?_; refine forVals_eq rfl rfl rfl ?_; refine forVals_eq rfl rfl rfl ?_
    refine forVals_nil (ORg.plain (OR.call hs body98 rfl rfl (chunks_ok g s _ _ st cuts _ _ hs.toSub hgs' (h1.mono hle) (h2.mono hle) hl1 hl2) ?_))
    clear hs; rintro _ H w hs hle1 ⟨r1, r2, rfl, hr1, hr2⟩
    exact ⟨_, [], hle1, hs, ⟨_, _, by rw [hE], by rw [hCF]; exact hr1, by rw [hOF]; exact hr2⟩, rfl⟩
  refine ⟨MF.tup3 CF OF E, ?_, ?_⟩
  · intro Mx H w hle2 hs; (try replace hle := hle.trans hle2); (try replace hlb := hlb.trans hle2); refine forVals_of rfl rfl rfl ?_; intro v10 h10
    obtain ⟨r1, r2, rfl, hr1, hr2⟩ := h10
    refine forVals_nil (ORg.plain (OR.move rfl ?_))
    exact ⟨_, [], Hp.le.refl _, hs, ⟨_, _, rfl, hr1, hr2⟩, rfl⟩
  refine ⟨MF.bytesL CF, ?_, ?_⟩
  · intro Mx H w hle2 hs; (try replace hle := hle.trans hle2); (try replace hlb := hlb.trans hle2); refine forVals_of rfl rfl rfl ?_; intro v11 h11
    obtain ⟨r1, r2, rfl, hr1, hr2⟩ := h11
    refine forVals_nil (ORg.plain (OR.extract rfl rfl ?_))
    exact ⟨_, [], Hp.le.refl _, hs, hr1, rfl⟩
  refine ⟨MF.bytes OF, ?_, ?_⟩
  · intro Mx H w hle2 hs; (try replace hle := hle.trans hle2); (try replace hlb := hlb.trans hle2); refine forVals_of rfl rfl rfl ?_; intro v11 h11
    obtain ⟨r1, r2, rfl, hr1, hr2⟩ := h11
    refine forVals_nil (ORg.plain (OR.extract rfl rfl ?_))
    exact ⟨_, [], Hp.le.refl _, hs, hr2, rfl⟩
  refine ⟨MF.eq (.int .i64 E), ?_, ?_⟩
  · intro Mx H w hle2 hs; (try replace hle := hle.trans hle2); (try replace hlb := hlb.trans hle2); refine forVals_of rfl rfl rfl ?_; intro v11 h11
    obtain ⟨r1, r2, rfl, hr1, hr2⟩ := h11
    refine forVals_nil (ORg.plain (OR.extract rfl rfl ?_))
    exact ⟨_, [], Hp.le.refl _, hs, rfl, rfl⟩
  refine ⟨MF.bytesL CF, ?_, ?_⟩
  · intro Mx H w hle2 hs; (try replace hle := hle.trans hle2); (try replace hlb := hlb.trans hle2); refine forVals_of rfl rfl rfl ?_; intro v12 h12
    refine forVals_nil (ORg.plain (OR.assign rfl ?_))
    exact ⟨_, [], Hp.le.refl _, hs, h12, rfl⟩
  refine ⟨MF.bytes OF, ?_, ?_⟩
  · intro Mx H w hle2 hs; (try replace hle := hle.trans hle2); (try replace hlb := hlb.trans hle2); refine forVals_of rfl rfl rfl ?_; intro v13 h13
    refine forVals_nil (ORg.plain (OR.assign rfl ?_))
    exact ⟨_, [], Hp.le.refl _, hs, h13, rfl⟩
  intro H w hle2; (try replace hle := hle.trans hle2); (try replace hlb := hlb.trans hle2)
  refine forAllVals_eq rfl ?_
  refine forAllVals_eq rfl ?_
  refine forAllVals_eq rfl ?_
  refine forAllVals_eq rfl ?_
  refine forAllVals_eq rfl ?_
  refine forAllVals_eq rfl ?_
  refine forAllVals_eq rfl ?_
  refine forAllVals_eq rfl ?_
  refine forAllVals_eq rfl ?_
  refine forAllVals_eq rfl ?_
  refine forAllVals_of rfl ?_; intro v10 h10
  refine forAllVals_of rfl ?_; intro v11 h11
  refine forAllVals_of rfl ?_; intro v12 h12
  refine forAllVals_of rfl ?_; intro v13 h13
  refine forAllVals_eq rfl ?_
  refine forAllVals_of rfl ?_; intro v15 h15
  refine forAllVals_of rfl ?_; intro v16 h16
  refine forAllVals_nil ?_; (try clear hs); intro hs
  obtain ⟨b3, c3, rfl⟩ := h15.form
  obtain ⟨b4, c4, rfl⟩ := h16.form
  have hlb := Hp.le.refl H
  by_cases hT : cutsOk st.length 0 cuts = true
  · rw [if_pos hT] at hCF hOF hE
    subst hE
    refine WO.step rfl (OR.assign rfl (WO.done (WX.seq (WC.seq (WC.seq (WC.region (WO.step rfl ?_)))))))
    refine OR.move rfl (WO.step rfl (OR.eql rfl rfl (WO.done (WX.seq ?_))))
    refine WC.yes rfl (decide_eq_true rfl) ?_
    refine WC.region (WO.step rfl (OR.move rfl (WO.step rfl (OR.move rfl (WO.step rfl (OR.move rfl (WO.step rfl ?_)))))))
    refine OR.move rfl (WO.step rfl (OR.move rfl ?_))
    refine WO.step rfl (OR.call hs body57 rfl rfl (clone_pure _ _ _ _ hs.toSub (h1.mono hle) (by omega)) ?_)
    clear hs; rintro _ H w hs hle1 hr3; replace hle := hle.trans hle1; (try replace hlb := hlb.trans hle1)
    refine WO.step rfl (OR.move rfl ?_)
    refine WO.step rfl (OR.call hs body117 rfl rfl (cloneInts_pure _ _ _ _ hs.toSub (h2.mono hle) (by omega)) ?_)
    clear hs; rintro _ H w hs hle1 hr4; replace hle := hle.trans hle1; (try replace hlb := hlb.trans hle1)
    obtain ⟨b5, c5, rfl⟩ := hr3.form
    obtain ⟨b6, c6, rfl⟩ := hr4.form
    replace hr3 := hr3.mono hle1
    refine WO.step rfl (OR.move rfl (WO.step rfl (OR.move rfl (WO.step rfl (OR.nilCheck rfl (WO.step rfl (OR.fieldAddr FA151_2 rfl ?_)))))))
    refine WO.stepN (OR.store hs T23 rfl rfl rfl (Nat.le_of_ble_eq_true rfl) rfl ?_)
    clear hs; intro w hs
    refine WO.step rfl (OR.nilCheck rfl (WO.step rfl (OR.fieldAddr FA151_3 rfl (WO.stepN (OR.store hs T87 rfl rfl rfl (Nat.le_of_ble_eq_true rfl) rfl ?_)))))
    clear hs; intro w hs
    refine WO.step rfl (OR.nilCheck rfl (WO.step rfl (OR.fieldAddr FA151_5 rfl (WO.stepN (OR.store hs T22 rfl rfl rfl (Nat.le_of_ble_eq_true rfl) rfl ?_)))))
    clear hs; intro w hs
    refine WO.step rfl (OR.nilCheck rfl (WO.step rfl (OR.fieldAddr FA151_6 rfl (WO.stepN (OR.store hs T23 rfl rfl rfl (Nat.le_of_ble_eq_true rfl) rfl ?_)))))
    clear hs; intro w hs
    refine WO.done (WX.seq (WC.seq (WC.region (WO.step rfl (OR.move rfl (WO.step rfl (OR.assign rfl ?_)))))))
    refine WO.done (WX.seq (WC.ret ?_))
    refine WX.ret1 rfl rfl ?_
    refine ⟨_, H, _, rfl, hs, by simp, ?_⟩
    show ite _ _ _; rw [if_pos hT]
    exact ⟨rfl, _, rfl, _, _, _, _, rfl, hr3, hr4, by rw [← hCF]; exact h15.mono hlb, by rw [← hOF]; exact h16.mono hlb⟩
  · rw [if_neg hT] at hCF hOF hE
    subst hE
    refine WO.step rfl (OR.assign rfl (WO.done (WX.seq (WC.seq (WC.seq (WC.region (WO.step rfl ?_)))))))
    refine OR.move rfl (WO.step rfl (OR.eql rfl rfl (WO.done (WX.seq ?_))))
    refine WC.no rfl (decide_eq_false (by omega)) ?_
    refine WC.skip (WX.seq (WC.seq (WC.region (WO.step rfl (OR.move rfl (WO.step rfl (OR.assign rfl ?_)))))))
    refine WO.done (WX.seq (WC.ret ?_))
    refine WX.ret1 rfl rfl ?_
    refine ⟨_, H, _, rfl, hs, by simp, ?_⟩
    show ite _ _ _; rw [if_neg hT]
    exact ⟨rfl, rfl⟩


theorem cutsOk_snoc (n : Nat) : ∀ (cuts : List Int) (last : Int), last ≤ (n : Int) → cutsOk n last cuts = true → cutsOk n last (cuts ++ [(n : Int)]) = true
  | [], last, hl, _ => by simp [cutsOk, hl]
  | c :: cs, last, hl, h => by
    simp only [cutsOk, Bool.and_eq_true, decide_eq_true_eq] at h
    rw [List.cons_append, cutsOk, decide_eq_true h.1.1, decide_eq_true h.1.2, cutsOk_snoc n cs c h.1.2 h.2]
    rfl
/-- What a cut at the end makes. -/
def cutD (x : SrcD) : SrcD := if x.opn = [] then x else { x with cuts := x.cuts ++ [(x.st.length : Int)], chunks := chunksF (x.g * x.s - 4) x.st (x.cuts ++ [(x.st.length : Int)]), opn := openF (x.g * x.s - 4) x.st (x.cuts ++ [(x.st.length : Int)]) }

set_option maxRecDepth 20000 in
set_option maxHeartbeats 2000000 in
theorem cut_ok (b : Nat) (x : SrcD) (o : Obj) (H0 : Hp) (w0 : World) (h0 : Sub H0 w0) (hb : w0.heap[b]? = some o) (hn : H0 b = none) (hx : SrcIn H0 x o) (hgs : goodGS x.g x.s) (hc : cutsOk x.st.length 0 x.cuts = true)
    (hl1 : x.st.length ≤ 1000000000) (hl2 : x.cuts.length ≤ 1000000000) (hl3 : x.opn.length ≤ 1000000000) :
    Calls Try.prog 100 #[ptr b] w0 (Ret [b] H0 w0 fun v H' M' => v = .int .i64 0 ∧ ∃ o', M' = [(b, o', true)] ∧ SrcIn H' (cutD x) o') := by
  obtain ⟨g, s, st, cuts, cl, chunks, opn⟩ := x
  simp only at hgs hc hl1 hl2 hl3
  obtain ⟨vs, vc, vch, vop, rfl, h1, h2, h3, h4⟩ := hx
  simp only at h1 h2 h3 h4 hb
  have hs := HS.start1 h0 hb hn
  have hle := Hp.le.refl H0
  obtain ⟨b1, c1, rfl⟩ := h1.form
  obtain ⟨b2, c2, rfl⟩ := h2.form
  obtain ⟨b4, c4, rfl⟩ := h4.form
  refine Calls.enter (args := [ptr b]) Try.func100 rfl Try.ntmps100 rfl ?_
  refine WC.seq (WC.region (WO.step rfl (OR.assign rfl (WO.done (WX.seq (WC.seq (WC.seq ?_)))))))
  refine WC.region (WO.step rfl (OR.move rfl (WO.step rfl (OR.nilCheck rfl (WO.step rfl (OR.fieldAddr FA151_6 rfl (WO.step rfl ?_)))))))
  refine OR.load T23 rfl rfl (hs.cellM (i := 0) rfl rfl) (WO.step rfl (OR.lenSlice T23.und rfl (WO.step rfl (OR.eql rfl rfl (WO.done (WX.seq ?_))))))
  refine WC.condD rfl (fun ho => ?_) (fun ho => ?_)
  · have h0' : opn = [] := List.eq_nil_of_length_eq_zero (by omega)
    refine WC.seq (WC.region (WO.step rfl (OR.assign rfl (WO.done (WX.seq (WC.ret (WX.seq_ret ?_)))))))
    refine WX.ret1 rfl rfl ?_
    refine ⟨_, H0, _, rfl, hs, by simp, rfl, _, rfl, ?_⟩
    rw [cutD, if_pos h0']
    exact ⟨_, _, _, _, rfl, h1, h2, h3, h4⟩
  · have h0' : ¬ opn = [] := fun e => ho (by rw [e]; rfl)
    refine WC.skip (WX.seq (WC.seq ?_))
    refine WC.drawT 17 16 9 mixed hs (by kernel_rfl) ?_
    refine ⟨MF.eq _, by intro Mx H w hle hs; refine forVals_nil (ORg.plain (OR.move rfl ?_)); exact ⟨_, [], Hp.le.refl _, hs, rfl, rfl⟩, ?_⟩
    refine ⟨MF.eq _, by intro Mx H w hle hs; refine forVals_nil (ORg.plain (OR.move rfl ?_)); exact ⟨_, [], Hp.le.refl _, hs, rfl, rfl⟩, ?_⟩
    refine ⟨MF.eq _, by intro Mx H w hle hs; refine forVals_eq rfl rfl rfl ?_; refine forVals_nil (ORg.plain (OR.nilCheck rfl ?_)); exact ⟨_, [], Hp.le.refl _, hs, rfl, rfl⟩, ?_⟩
    refine ⟨MF.eq _, by intro Mx H w hle hs; refine forVals_eq rfl rfl rfl ?_; refine forVals_nil (ORg.plain (OR.fieldAddr FA151_2 rfl ?_)); exact ⟨_, [], Hp.le.refl _, hs, rfl, rfl⟩, ?_⟩
    refine ⟨MF.eq _, by intro Mx H w hle hs; refine forVals_eq rfl rfl rfl ?_; refine forVals_nil (ORg.plain (OR.load T23 rfl rfl (hs.right.cellM (i := 0) rfl rfl) ?_)); exact ⟨_, [], Hp.le.refl _, hs, rfl, rfl⟩, ?_⟩
    refine ⟨MF.eq _, by intro Mx H w hle hs; refine forVals_nil (ORg.plain (OR.move rfl ?_)); exact ⟨_, [], Hp.le.refl _, hs, rfl, rfl⟩, ?_⟩
    refine ⟨MF.eq _, by intro Mx H w hle hs; refine forVals_eq rfl rfl rfl ?_; refine forVals_nil (ORg.plain (OR.nilCheck rfl ?_)); exact ⟨_, [], Hp.le.refl _, hs, rfl, rfl⟩, ?_⟩
    refine ⟨MF.eq _, by intro Mx H w hle hs; refine forVals_eq rfl rfl rfl ?_; refine forVals_nil (ORg.plain (OR.fieldAddr FA151_3 rfl ?_)); exact ⟨_, [], Hp.le.refl _, hs, rfl, rfl⟩, ?_⟩
    refine ⟨MF.eq _, by intro Mx H w hle hs; refine forVals_eq rfl rfl rfl ?_; refine forVals_nil (ORg.plain (OR.load T87 rfl rfl (hs.right.cellM (i := 0) rfl rfl) ?_)); exact ⟨_, [], Hp.le.refl _, hs, rfl, rfl⟩, ?_⟩
    refine ⟨MF.own w0.heap.size 3 1 cuts.length (cuts.map fun i => .int .i64 i), ?_, ?_⟩
    · intro Mx H w hle2 hs; (try replace hle := hle.trans hle2); (try replace hlb := hlb.trans hle2); refine forVals_eq rfl rfl rfl ?_
      have hN := hs.size
      refine forVals_nil (ORg.plain (OR.callX (Mx := []) hs body117 rfl rfl (cloneInts_ok _ cuts _ _ hs.toSub (h2.mono hle) (by omega)) rfl rfl ?_))
      have hsz := hs.size
      clear hs; rintro v H1 M1 w hs hle1 hnew ⟨rfl, ho⟩
      exact ⟨_, M1, hle1, hs, ho.mono hsz⟩
    refine ⟨MF.eq _, by intro Mx H w hle hs; refine forVals_nil (ORg.plain (OR.move rfl ?_)); exact ⟨_, [], Hp.le.refl _, hs, rfl, rfl⟩, ?_⟩
    refine ⟨MF.eq _, by intro Mx H w hle hs; refine forVals_eq rfl rfl rfl ?_; refine forVals_nil (ORg.plain (OR.nilCheck rfl ?_)); exact ⟨_, [], Hp.le.refl _, hs, rfl, rfl⟩, ?_⟩
    refine ⟨MF.eq _, by intro Mx H w hle hs; refine forVals_eq rfl rfl rfl ?_; refine forVals_nil (ORg.plain (OR.fieldAddr FA151_2 rfl ?_)); exact ⟨_, [], Hp.le.refl _, hs, rfl, rfl⟩, ?_⟩
    refine ⟨MF.eq _, by intro Mx H w hle hs; refine forVals_eq rfl rfl rfl ?_; refine forVals_nil (ORg.plain (OR.load T23 rfl rfl (hs.right.cellM (i := 0) rfl rfl) ?_)); exact ⟨_, [], Hp.le.refl _, hs, rfl, rfl⟩, ?_⟩
    refine ⟨MF.eq _, by intro Mx H w hle hs; refine forVals_eq rfl rfl rfl ?_; refine forVals_nil (ORg.plain (OR.lenSlice T23.und rfl ?_)); exact ⟨_, [], Hp.le.refl _, hs, rfl, rfl⟩, ?_⟩
    refine ⟨MF.ints [(st.length : Int)], ?_, ?_⟩
    · intro Mx H w hle2 hs; (try replace hle := hle.trans hle2); (try replace hlb := hlb.trans hle2); refine forVals_eq rfl rfl rfl ?_
      refine forVals_nil (ORg.plain (OR.buildSlice (vs := [_]) hs T87.und T3 rfl rfl rfl rfl (by simp) ?_))
      intro gn w hgn hs
      obtain ⟨H, hle1, hp, hs⟩ := hs.pub1 hgn
      exact ⟨_, [], hle1, hs, (Sl.block hp rfl rfl (by simp)), rfl⟩
    refine ⟨MF.own w0.heap.size 3 1 (cuts.length + 1) ((cuts ++ [(st.length : Int)]).map fun i => .int .i64 i), _, rfl, ⟨_, rfl, ?_⟩, ?_⟩
    · intro vj Mj Mx H w hle2 hs hFj; (try replace hle := hle.trans hle2); (try replace hlb := hlb.trans hle2); refine forVals_eq rfl rfl rfl ?_; refine forVals_of rfl rfl rfl ?_; intro v15 h15
      obtain ⟨b15, c15, rfl⟩ := h15.form
      refine forVals_nil (ORg.plain (OR.append (m := 1) (news := [_]) (Mo := Mj) hs hFj T87.und T3 rfl (by omega) rfl rfl rfl (Sl.src h15 hs) (Sl.src0 h15) rfl (by omega) (by omega) ?_))
      clear hs; intro v' w Mo' hs ho' hge
      exact ⟨_, Mo', Hp.le.refl _, hs, (by rw [List.map_append]; exact ho')⟩
    intro H w hle2; (try replace hle := hle.trans hle2); (try replace hlb := hlb.trans hle2)
    refine forAllVals_eq rfl ?_
    refine forAllVals_eq rfl ?_
    refine forAllVals_eq rfl ?_
    refine forAllVals_eq rfl ?_
    refine forAllVals_eq rfl ?_
    refine forAllVals_eq rfl ?_
    refine forAllVals_eq rfl ?_
    refine forAllVals_eq rfl ?_
    refine forAllVals_eq rfl ?_
    refine forAllVals_gone rfl ?_; intro v9
    refine forAllVals_eq rfl ?_
    refine forAllVals_eq rfl ?_
    refine forAllVals_eq rfl ?_
    refine forAllVals_eq rfl ?_
    refine forAllVals_eq rfl ?_
    refine forAllVals_of rfl ?_; intro v15 h15
    refine forAllVals_cons rfl ?_; intro v16 M16 h16
    refine forAllVals_nil ?_; (try clear hs); intro hs
    obtain ⟨H3, hle3, hs, hsl3, _⟩ := HS.pub hs h16
    replace hle := hle.trans hle3
    have hv3 : Ints H3 v16 (cuts ++ [(st.length : Int)]) := by unfold Ints; rw [List.length_append, List.length_singleton]; exact hsl3
    have hc3 := cutsOk_snoc st.length cuts 0 (by omega) hc
    refine WO.step rfl (OR.callX (Mx := [(b, _, true)]) hs body99 rfl rfl (set_ok b g s _ _ _ _ _ _ cl st (cuts ++ [(st.length : Int)]) _ _ hs.toSub (hs.blk (i := 0) rfl) (hs.mem b _ true (List.mem_cons_self ..)).2.1 hgs (h1.mono hle) hv3 (by omega) (by simp; omega)) rfl rfl ?_)
    clear hs; rintro _ H4 M' w hs hle1 hnew hres; replace hle := hle.trans hle1; (try replace hlb := hlb.trans hle1)
    rw [if_pos hc3] at hres
    obtain ⟨rfl, o', rfl, hsrc⟩ := hres
    refine WO.step rfl (OR.assign rfl (WO.done (WX.seq (WC.ret ?_))))
    refine WX.ret1 rfl rfl ?_
    refine ⟨_, H4, _, rfl, hs, by simp, rfl, _, rfl, ?_⟩
    rw [cutD, if_neg h0']
    exact hsrc

end Go.Bw
