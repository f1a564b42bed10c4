/- What law_FlowBase needs: laid out of own texts. No condition. -/
import Derived.Test.YtdibepkfgemddaaGreatKFlowBase5
namespace Go.Bw
set_option linter.unusedVariables false
set_option linter.unusedSimpArgs false
open Go.Proofs
/-- What is kept from round to round. -/
structure FbI (sk : SinkS) (H0 HB H : Hp) (d : FD) (R : RelS) (vn : Value) : Prop where
  le : Hp.le H0 H
  lb : Hp.le HB H
  ok : RlOk H (some R)
  nv : Ints H d.nv d.next
  vn : Ints H vn d.next
  D : FbD (skBase sk) d
theorem FbI.mono {sk : SinkS} {H0 HB H H' : Hp} {d : FD} {R : RelS} {vn : Value} (h : FbI sk H0 HB H d R vn) (hle : Hp.le H H') : FbI sk H0 HB H' d R vn := ⟨h.le.trans hle, h.lb.trans hle, h.ok.mono hle, h.nv.mono hle, h.vn.mono hle, h.D⟩
set_option maxHeartbeats 8000000 in
set_option maxRecDepth 20000 in
set_option maxHeartbeats 2000000 in
theorem flbase_ok (sink : Bool) (vl : Value) (len : Nat) (A : Nat → MovD) (V : Nat → Value) (H0 : Hp) (w0 : World) (h0 : Sub H0 w0) (hl : Movs H0 vl len A V) (hlen : len ≤ 9223372036854775807) :
    Calls Tryz.prog 5 #[.bool sink, vl] w0 (Pure H0 w0 fun v _ => v = .bool true) := by
  have hs := HS.init h0
  have hle := Hp.le.refl H0
  obtain ⟨bl, cl, rfl⟩ := hl.1.form
  refine Calls.enter (args := [.bool sink, .slice bl len cl]) Tryz.func5 rfl Tryz.ntmps5 rfl ?_
  refine WC.seq (WC.region (WO.step rfl (OR.assign rfl (WO.done (WX.seq (WC.seq (WC.region ?_)))))))
  refine WO.step rfl (OR.buildSlice (vs := [.int .i64 5]) hs T76.und T3 rfl rfl rfl rfl (by simp) ?_)
  clear hs; intro q1 w hq1 hs
  refine WO.step rfl (OR.buildAll T78 rfl rfl PL78 rfl rfl ?_)
  obtain ⟨H, hle1, hp_q1, hs9⟩ := hs.pub1 hq1; clear hs; have hs := hs9; clear hs9; replace hle := hle.trans hle1; (try replace hlb := hlb.trans hle1)
  have hi1 : Ints H (.slice (some ⟨q1, 0, none⟩) 1 1) [5] := Sl.block hp_q1 rfl rfl (by simp)
  refine WO.step rfl (OR.buildSlice (vs := [_]) hs T79.und T78 rfl rfl rfl rfl (by simp) ?_)
  clear hs; intro q2 w hq2 hs
  refine WO.step rfl (OR.buildAll T81 rfl rfl PL81 rfl rfl (WO.step rfl (OR.alloc hs T81 ?_)))
  clear hs; intro g1 w hg1 hs
  refine WO.stepN (OR.storeAll hs T81 rfl rfl rfl rfl rfl ?_)
  clear hs; intro w hs
  refine WO.done (WX.seq (WC.seq (WC.seq (WC.region (WO.step rfl (OR.move rfl (WO.done ?_)))))))
  refine WX.seq ?_
  refine WC.joinK (ι := Unit) (fun iu => [(0, .bool sink), (1, .slice bl len cl), (5, ptr g1)]) (fun iu w => (∃ H vf vs, Hp.le H0 H ∧ CfgIn H (fbC sink vf vs) ∧ HS [] H0 w0 H [(g1, .cells #[.int .i64 6, vf, .int .i64 4, .int .i64 1] 81, true)] w)) ?_ (fun iu w hW => ?_)
  · refine WC.cond rfl (fun hsk => ?_) (fun hsk => ?_)
    · subst hsk
      refine WC.region (WO.step rfl (OR.fieldAddr FA81_1 rfl (WO.step rfl (OR.load T79 rfl rfl (hs.cellM (i := 0) rfl rfl) ?_))))
      refine WO.step rfl (OR.buildSlice (vs := [.int .i64 3, .int .i64 5]) hs T76.und T3 rfl rfl rfl rfl (by simp) ?_)
      clear hs; intro q3 w hq3 hs
      obtain ⟨H, hle1, hp_q3, hs9⟩ := hs.pub1 hq3; clear hs; have hs := hs9; clear hs9; replace hle := hle.trans hle1; (try replace hlb := hlb.trans hle1)
      have hi3 : Ints H (.slice (some ⟨q3, 0, none⟩) 2 2) [3, 5] := Sl.block hp_q3 rfl rfl (by simp)
      refine WO.step rfl (OR.idxN 0 T79.und T78 rfl rfl rfl (by simp) ?_)
      refine WO.step rfl (OR.fieldAddr FA78_3 rfl ?_)
      replace hs := hs.front (i := 1) rfl
      refine WO.stepN (OR.store hs T76 rfl rfl rfl (Nat.le_of_ble_eq_true rfl) rfl ?_)
      clear hs; intro w hs
      refine WO.done ?_
      obtain ⟨H, hle1, hp_q2, hs9⟩ := hs.pub1 hq2; clear hs; have hs := hs9; clear hs9; replace hle := hle.trans hle1; (try replace hlb := hlb.trans hle1)
      refine WX.arrive (()) ⟨rfl, rfl, rfl,  trivial⟩ ?_
      refine ⟨H, _, _, hle, ⟨⟨q2, 0, 1, rfl, by omega, fun j u hj => ?_⟩, hi3.mono hle1⟩, hs⟩
      rw [add_off, Nat.zero_add]
      exact hcell_of hp_q2 (by rw [nth_eq]; exact hj)
    · subst hsk
      refine WC.skip ?_
      replace hs := hs.front (i := 1) rfl
      obtain ⟨H, hle1, hp_q2, hs9⟩ := hs.pub1 hq2; clear hs; have hs := hs9; clear hs9; replace hle := hle.trans hle1; (try replace hlb := hlb.trans hle1)
      refine WX.arrive (()) ⟨rfl, rfl, rfl,  trivial⟩ ?_
      refine ⟨H, _, _, hle, ⟨⟨q2, 0, 1, rfl, by omega, fun j u hj => ?_⟩, hi1.mono hle1⟩, hs⟩
      rw [add_off, Nat.zero_add]
      exact hcell_of hp_q2 (by rw [nth_eq]; exact hj)
  · clear hs hle hi1
    obtain ⟨H, vf, vs, hle, hcf, hs⟩ := hW
    refine WC.seq (WC.region (WO.step rfl (OR.loadAll T81 rfl rfl (hs.blk (i := 0) rfl) rfl ?_)))
    refine WO.step rfl (OR.callX (Mx := []) hs body35 rfl rfl (fbnew_ok sink vf vs _ _ hs.toSub hcf) rfl rfl ?_)
    clear hs; rintro _ H M w hs hle1 hnew ⟨xb, tb, R, sk, rfl, rfl, hro, hsk⟩; replace hle := hle.trans hle1; (try replace hlb := hlb.trans hle1)
    have hB := fbS_base hsk
    replace hs := hs.sublist (List.sublist_append_left _ _)
    refine WO.step rfl (OR.move rfl (WO.step rfl (OR.extract rfl rfl (WO.step rfl (OR.extract rfl rfl (WO.step rfl (OR.assign rfl ?_)))))))
    refine WO.step rfl (OR.assign rfl (WO.done (WX.seq (WC.seq (WC.seq (WC.region ?_))))))
    refine WO.step rfl (OR.call hs body36 rfl rfl (fawake_ok _ _ hs.toSub) ?_)
    clear hs; rintro _ H w hs hle1 rfl; replace hle := hle.trans hle1; (try replace hlb := hlb.trans hle1)
    replace hro := hro.mono hle1
    refine WO.step rfl (OR.not rfl (WO.step rfl (OR.move rfl ?_)))
    refine WO.guardYes rfl rfl rfl rfl (OR.move rfl (WO.guardYes rfl rfl rfl rfl (OR.neq rfl rfl (WO.step rfl (OR.pickF rfl rfl rfl (WO.done (WX.seq ?_)))))))
    refine WC.no rfl rfl ?_
    refine WC.skip (WX.seq (WC.seq (WC.region (WO.step rfl (OR.assign rfl (WO.done (WX.seq ?_)))))))
    refine WC.seq (WC.region ?_)
    refine WO.step rfl (OR.makeMap hs ?_)
    clear hs; intro mb w hmb hs
    refine WO.step rfl (OR.assign rfl (WO.done (WX.seq (WC.seq (WC.seq (WC.region (WO.step rfl ?_)))))))
    refine OR.move rfl (WO.step rfl (OR.lenSlice T75.und rfl (WO.step rfl (OR.move rfl (WO.done (WX.seq (WC.block ?_)))))))
    obtain ⟨HB, hHB⟩ : ∃ X, X = H := ⟨_, rfl⟩
    subst hHB
    refine WC.loop (ι := Nat × Value × Nat) (fun ix => [(0, .bool sink), (6, ptr xb), (8, ix.2.1), (9, .map (some ix.2.2)), (48, .slice bl len cl), (49, .int .i64 (len : Int)), (50, .int .i64 (ix.1 : Int))]) (fun ix w => (ix.1 ≤ len ∧ ∃ H d R tb, FbI sk H0 HB H d R ix.2.1 ∧ HS [] H0 w0 H ((ix.2.2, toldObj d.told, true) :: fMem (fbC sink vf vs) d xb tb (.pointer none) (some R) sk) w)) (fun ix => len - ix.1) (0, .slice none 0 0, mb) ⟨rfl, rfl, rfl, rfl, rfl, rfl, rfl,  trivial⟩ ?_ (fun ix w hW => ?_)
    · exact ⟨by omega, HB, fN 3 (skBase sk), R, tb, ⟨hle, Hp.le.refl _, hro, Ints.nil _, Ints.nil _, FbD.new _⟩, hs⟩
    clear hs hle hro hmb
    obtain ⟨i, vn, mb⟩ := ix
    obtain ⟨hi, H, d, R, tb, hI, hs⟩ := hW
    simp only at hi hI hs
    have hle := hI.le
    obtain ⟨bn, cn, rfl⟩ := hI.vn.form
    refine WC.seq (WC.region (WO.step rfl (OR.lss rfl rfl (WO.done (WX.seq (WC.seq ?_))))))
    refine WC.condD rfl (fun hlt => ?_) (fun hlt => ?_)
    · have hi' : i < len := by omega
      obtain ⟨yb, yo, rfl, hcy⟩ := hl.pos (by omega)
      obtain ⟨hbm, hbl⟩ := hl.2 i hi'
      have hc4 := hcy i hi'
      obtain ⟨bb, cb, hvm⟩ := hbm.form
      rw [hvm] at hc4 hbm
      refine WC.skip (WX.seq (WC.seq (WC.block (WC.seq (WC.region (WO.step rfl (OR.move rfl ?_)))))))
      refine WO.step rfl (OR.idxN i T75.und T87 rfl rfl rfl hi' ?_)
      refine WO.step rfl (OR.loadN (cs := movC (A i) _) T87 rfl rfl rfl (fun j u hj => hs.cell (hcell.mono hle (hc4 j u hj))) ?_)
      generalize A i = a at *
      refine WO.step rfl (OR.alloc hs T87 ?_)
      clear hs; intro g2 w hg2 hs
      refine WO.step rfl (OR.assign rfl (WO.stepN (OR.storeAll hs T87 rfl rfl rfl rfl rfl ?_)))
      clear hs; intro w hs
      refine WO.done (WX.seq (WC.seq (WC.seq (WC.region (WO.step rfl (OR.move rfl (WO.step rfl ?_)))))))
      refine OR.eql rfl rfl (WO.done (WX.seq ?_))
      refine WC.condD rfl (fun h80 => ?_) (fun h80 => ?_)
      · refine WC.exit (WX.seq_exit (WX.block_miss rfl (WX.seq_exit (WX.loop_exit (WX.block_hit (WX.seq (WC.seq ?_)))))))
        refine WC.region (WO.step rfl (OR.assign rfl (WO.done (WX.seq (WC.ret ?_)))))
        refine WX.ret1 rfl rfl ?_
        exact .mk (hs.sublist (List.nil_sublist _)) rfl
      · refine WC.skip (WX.seq (WC.seq (WC.region (WO.step rfl (OR.move rfl ?_)))))
        refine WO.step rfl (OR.call hs body37 rfl rfl (fbase_ok (fbC sink vf vs) d xb tb _ _ _ _ _ hs.toSub (hs.blk (i := 2) rfl) (hs.nh (i := 2) rfl)) ?_)
        clear hs; rintro _ H w hs hle1 rfl; replace hle := hle.trans hle1; (try replace hlb := hlb.trans hle1)
        replace hI := hI.mono hle1
        replace hbm := hbm.mono hle
        refine WO.step rfl (OR.move rfl (WO.step rfl (OR.extract rfl rfl (WO.step rfl (OR.extract rfl rfl (WO.step rfl (OR.assign rfl ?_)))))))
        refine WO.step rfl (OR.assign rfl (WO.done (WX.seq (WC.seq (WC.seq ?_)))))
        refine WC.joinK (ι := Bool) (fun t => [(0, .bool sink), (6, ptr xb), (8, .slice bn d.next.length cn), (9, .map (some mb)), (11, ptr g2), (12, .int .u64 (d.base : Int)), (48, .slice (some ⟨yb, yo, none⟩) len cl), (49, .int .i64 (len : Int)), (50, .int .i64 (i : Int)), (71, .bool t)]) (fun t w => ((t = true → 0 < a.b.length) ∧ HS [] H0 w0 H ((g2, .cells #[.int .i64 a.what, B a.n, B a.sent, .slice bb a.b.length cb] 87, true) :: (mb, toldObj d.told, true) :: fMem (fbC sink vf vs) d xb tb (.pointer none) (some R) sk) w)) ?_ (fun t w hW => ?_)
        · refine WC.region (WO.step rfl (OR.fieldAddr FA87_0 rfl (WO.step rfl (OR.load T3 rfl rfl (hs.cellM (i := 0) rfl rfl) ?_))))
          refine WO.step rfl (OR.rem rfl rfl (by omega) ?_)
          refine WO.step rfl (OR.eql rfl rfl (WO.step rfl (OR.move rfl ?_)))
          refine WO.guardSplit (j := 4) rfl (fun hev => ?_) (fun hev => ?_)
          · refine WO.guardYes rfl (decide_eq_true hev) rfl rfl (OR.fieldAddr FA87_3 rfl (WO.guardYes rfl (decide_eq_true hev) rfl rfl (OR.load T43 rfl rfl (hs.cellM (i := 0) rfl rfl) (WO.guardYes rfl (decide_eq_true hev) rfl rfl (OR.lenSlice T43.und rfl (WO.guardYes rfl (decide_eq_true hev) rfl rfl (OR.gtr rfl rfl ?_)))))))
            refine WO.step rfl (OR.pickT rfl (decide_eq_true hev) rfl (WO.done ?_))
            refine WX.arrive ((decide ((a.b.length : Int) > 0))) ⟨rfl, rfl, rfl, rfl, rfl, rfl, rfl, rfl, rfl, rfl,  trivial⟩ ?_
            exact ⟨fun h => by have := of_decide_eq_true h; omega, hs⟩
          · refine WO.guardNo rfl (decide_eq_false hev) rfl rfl (WO.guardNo rfl (decide_eq_false hev) rfl rfl (WO.guardNo rfl (decide_eq_false hev) rfl rfl (WO.guardNo rfl (decide_eq_false hev) rfl rfl (WO.step rfl (OR.pickF rfl (decide_eq_false hev) rfl (WO.done ?_))))))
            refine WX.arrive (false) ⟨rfl, rfl, rfl, rfl, rfl, rfl, rfl, rfl, rfl, rfl,  trivial⟩ ?_
            exact ⟨fun h => (by cases h), hs⟩
        · clear hs
          obtain ⟨t, ht⟩ : ∃ t', t' = t := ⟨_, rfl⟩
          subst ht
          obtain ⟨htl, hs⟩ := hW
          refine WC.joinK (ι := Value × Nat) (fun ix => [(0, .bool sink), (6, ptr xb), (8, ix.1), (9, .map (some ix.2)), (12, .int .u64 (d.base : Int)), (48, .slice (some ⟨yb, yo, none⟩) len cl), (49, .int .i64 (len : Int)), (50, .int .i64 (i : Int))]) (fun ix w => (∃ H d' R' tb', FbI sk H0 HB H d' R' ix.1 ∧ (d'.worked = false → d'.base = d.base) ∧ HS [] H0 w0 H ((ix.2, toldObj d'.told, true) :: fMem (fbC sink vf vs) d' xb tb' (.pointer none) (some R') sk) w)) ?_ (fun ix w hW => ?_)
          · refine WC.cond rfl (fun htt => ?_) (fun htt => ?_)
            · have hbp := htl htt
              refine WC.seq (WC.region ?_)
              refine WO.step rfl (OR.makeMap hs ?_)
              clear hs; intro mb2 w hmb2 hs
              replace hs := hs.drop 2
              obtain ⟨zb, zo, hzb, hcb⟩ := hbm.pos hbp
              have hcb0 := hcb 0 hbp
              rw [Nat.add_zero] at hcb0
              subst hzb
              generalize hb0 : a.b[0]'hbp = b0 at *
              refine WO.step rfl (OR.assign rfl (WO.step rfl (OR.assign rfl (WO.done (WX.seq (WC.seq (WC.seq ?_)))))))
              refine WC.region (WO.step rfl (OR.move rfl (WO.done (WX.seq (WC.block ?_)))))
              refine WC.loop (ι := Nat × Value) (fun ix => [(0, .bool sink), (6, ptr xb), (8, ix.2), (9, .map (some mb2)), (11, ptr g2), (12, .int .u64 (d.base : Int)), (48, .slice (some ⟨yb, yo, none⟩) len cl), (49, .int .i64 (len : Int)), (50, .int .i64 (i : Int)), (73, .int .i64 (ix.1 : Int))]) (fun ix w => (ix.1 ≤ 6 ∧ ∃ H2 Mo, Hp.le H H2 ∧ Own w0.heap.size 3 1 ix.2 (fbNx b0 ix.1).length ((fbNx b0 ix.1).map fun i => Value.int .i64 i) Mo ∧ HS [] H0 w0 H2 (((mb2, .map #[] 0, true) :: (g2, .cells #[.int .i64 a.what, B a.n, B a.sent, .slice (some ⟨zb, zo, none⟩) a.b.length cb] 87, true) :: fMem (fbC sink vf vs) d xb tb (.pointer none) (some R) sk) ++ Mo) w)) (fun ix => 6 - ix.1) (0, .slice none 0 0) ⟨rfl, rfl, rfl, rfl, rfl, rfl, rfl, rfl, rfl, rfl,  trivial⟩ ?_ (fun ix w hW => ?_)
              · exact ⟨by omega, H, [], Hp.le.refl _, Own.nil _ _ _, by rw [List.append_nil]; exact hs⟩
              clear hs
              obtain ⟨k, vo⟩ := ix
              obtain ⟨hk, H2, Mo, hl2, ho, hs⟩ := hW
              simp only at hk ho
              obtain ⟨bo, co, rfl⟩ := ho.form
              replace hle := hle.trans hl2
              refine WC.seq (WC.region (WO.step rfl (OR.lss rfl rfl (WO.done (WX.seq (WC.seq ?_))))))
              refine WC.condD rfl (fun hlt6 => ?_) (fun hlt6 => ?_)
              · refine WC.skip (WX.seq (WC.seq (WC.block (WC.seq (WC.region (WO.step rfl (OR.move rfl ?_)))))))
                refine WO.step rfl (OR.assign rfl ?_)
                by_cases hk3 : k = 3
                · have hsel : fbSel b0 k = false := by unfold fbSel; rw [decide_eq_false (by omega : ¬ k ≠ 3)]; rfl
                  refine WO.done (WX.seq (WC.seq (WC.region (WO.step rfl (OR.move rfl (WO.step rfl (OR.neq rfl rfl ?_)))))))
                  refine WO.step rfl (OR.move rfl ?_)
                  refine WO.guardNo rfl (decide_eq_false (by omega : ¬ (k : Int) ≠ 3)) rfl rfl (WO.guardNo rfl (decide_eq_false (by omega : ¬ (k : Int) ≠ 3)) rfl rfl (WO.step rfl (OR.pickF rfl (decide_eq_false (by omega : ¬ (k : Int) ≠ 3)) rfl (WO.step rfl (OR.move rfl (WO.guardNo rfl rfl rfl rfl (WO.guardNo rfl rfl rfl rfl ?_)))))))
                  refine WO.guardNo rfl rfl rfl rfl (WO.guardNo rfl rfl rfl rfl (WO.guardNo rfl rfl rfl rfl (WO.guardNo rfl rfl rfl rfl (WO.guardNo rfl rfl rfl rfl (WO.guardNo rfl rfl rfl rfl (WO.step rfl (OR.pickF rfl rfl rfl ?_)))))))
                  refine WO.done (WX.seq (WC.no rfl rfl (WC.skip (WX.block (WX.seq (WC.region (WO.step rfl ?_)))))))
                  refine OR.addI rfl rfl (by omega) (by omega) (WO.step rfl (OR.move rfl (WO.done ?_)))
                  refine WX.again ((k + 1, .slice bo (fbNx b0 k).length co)) ⟨rfl, rfl, rfl, rfl, rfl, rfl, rfl, rfl, rfl, rfl,  trivial⟩ ?_ ?_
                  · refine ⟨by omega, H2, Mo, hl2, ?_, hs⟩
                    simp only
                    rw [fbNx_succ, hsel, if_neg (by decide), List.append_nil]
                    exact ho
                  · simp only; omega
                · have hk3' := hk3
                  refine WO.done (WX.seq (WC.seq (WC.region (WO.step rfl (OR.move rfl (WO.step rfl (OR.neq rfl rfl ?_)))))))
                  refine WO.step rfl (OR.move rfl ?_)
                  refine WO.guardYes rfl (decide_eq_true (by omega : (k : Int) ≠ 3)) rfl rfl (OR.move rfl (WO.guardYes rfl (decide_eq_true (by omega : (k : Int) ≠ 3)) rfl rfl (OR.neq rfl rfl (WO.step rfl (OR.pickT rfl (decide_eq_true (by omega : (k : Int) ≠ 3)) rfl (WO.step rfl (OR.move rfl ?_)))))))
                  by_cases hk0 : k = 0
                  · have hsel : fbSel b0 k = false := by unfold fbSel; rw [decide_eq_false (by omega : ¬ k ≠ 0)]; simp
                    refine WO.guardNo rfl (decide_eq_false (by omega : ¬ (k : Int) ≠ 0)) rfl rfl (WO.guardNo rfl (decide_eq_false (by omega : ¬ (k : Int) ≠ 0)) rfl rfl (WO.guardNo rfl (decide_eq_false (by omega : ¬ (k : Int) ≠ 0)) rfl rfl (WO.guardNo rfl (decide_eq_false (by omega : ¬ (k : Int) ≠ 0)) rfl rfl (WO.guardNo rfl (decide_eq_false (by omega : ¬ (k : Int) ≠ 0)) rfl rfl (WO.guardNo rfl (decide_eq_false (by omega : ¬ (k : Int) ≠ 0)) rfl rfl (WO.guardNo rfl (decide_eq_false (by omega : ¬ (k : Int) ≠ 0)) rfl rfl (WO.guardNo rfl (decide_eq_false (by omega : ¬ (k : Int) ≠ 0)) rfl rfl ?_)))))))
                    refine WO.step rfl (OR.pickF rfl (decide_eq_false (by omega : ¬ (k : Int) ≠ 0)) rfl (WO.done (WX.seq (WC.no rfl rfl (WC.skip (WX.block (WX.seq ?_)))))))
                    refine WC.region (WO.step rfl (OR.addI rfl rfl (by omega) (by omega) (WO.step rfl (OR.move rfl (WO.done ?_)))))
                    refine WX.again ((k + 1, .slice bo (fbNx b0 k).length co)) ⟨rfl, rfl, rfl, rfl, rfl, rfl, rfl, rfl, rfl, rfl,  trivial⟩ ?_ ?_
                    · refine ⟨by omega, H2, Mo, hl2, ?_, hs⟩
                      simp only
                      rw [fbNx_succ, hsel, if_neg (by decide), List.append_nil]
                      exact ho
                    · simp only; omega
                  · have hk0' := hk0
                    refine WO.guardYes rfl (decide_eq_true (by omega : (k : Int) ≠ 0)) rfl rfl (OR.fieldAddr FA87_3 rfl (WO.guardYes rfl (decide_eq_true (by omega : (k : Int) ≠ 0)) rfl rfl (OR.load T43 rfl rfl (hs.cellM (i := 1) rfl rfl) ?_)))
                    refine WO.guardYes rfl (decide_eq_true (by omega : (k : Int) ≠ 0)) rfl rfl (OR.idx 0 T43.und T5 rfl rfl rfl hbp ?_)
                    refine WO.guardYes rfl (decide_eq_true (by omega : (k : Int) ≠ 0)) rfl rfl (OR.load T5 rfl rfl (hs.cell (hcell.mono hl2 hcb0)) ?_)
                    refine WO.guardYes rfl (decide_eq_true (by omega : (k : Int) ≠ 0)) rfl rfl (OR.move rfl ?_)
                    refine WO.guardYes rfl (decide_eq_true (by omega : (k : Int) ≠ 0)) rfl rfl (OR.shr rfl rfl (by omega) ?_)
                    refine WO.guardYes rfl (decide_eq_true (by omega : (k : Int) ≠ 0)) rfl rfl (OR.andI rfl rfl ?_)
                    refine WO.guardYes rfl (decide_eq_true (by omega : (k : Int) ≠ 0)) rfl rfl (OR.eql rfl rfl (WO.step rfl (OR.pickT rfl (decide_eq_true (by omega : (k : Int) ≠ 0)) rfl (WO.done (WX.seq ?_)))))
                    refine WC.condD rfl (fun hbit => ?_) (fun hbit => ?_)
                    · have hsel : fbSel b0 k = true := by unfold fbSel; rw [decide_eq_true hk3, decide_eq_true hk0, decide_eq_true hbit]; rfl
                      refine WC.region (WO.step rfl (OR.move rfl (WO.step rfl (OR.move rfl ?_))))
                      refine WO.step rfl (OR.buildSlice (vs := [.int .i64 (k : Int)]) hs T76.und T3 rfl rfl rfl rfl (by simp) ?_)
                      clear hs; intro q5 w hq5 hs
                      obtain ⟨H, hle1, hp_q5, hs9⟩ := hs.pub1 hq5; clear hs; have hs := hs9; clear hs9; replace hle := hle.trans hle1; (try replace hlb := hlb.trans hle1)
                      have hone : Ints H (.slice (some ⟨q5, 0, none⟩) 1 1) [(k : Int)] := Sl.block hp_q5 rfl rfl (by simp)
                      have hnl := fbNx_len b0 k
                      refine WO.step rfl (OR.append (m := 1) (news := [.int .i64 (k : Int)]) (Mo := Mo) (M := (mb2, .map #[] 0, true) :: (g2, .cells #[.int .i64 a.what, B a.n, B a.sent, .slice (some ⟨zb, zo, none⟩) a.b.length cb] 87, true) :: fMem (fbC sink vf vs) d xb tb (.pointer none) (some R) sk) (HS.mtail (B := Mo) hs) ho T76.und T3 rfl (by omega) rfl rfl rfl (Sl.src hone hs) (Sl.src0 hone) rfl (by omega) (by omega) ?_)
                      clear hs ho; intro v' w Mo' hs ho hge
                      replace hs := HS.mtail (A := Mo') hs
                      refine WO.step rfl (OR.assign rfl (WO.done (WX.block (WX.seq (WC.region (WO.step rfl (OR.addI rfl rfl (by omega) (by omega) ?_)))))))
                      refine WO.step rfl (OR.move rfl (WO.done ?_))
                      refine WX.again ((k + 1, v')) ⟨rfl, rfl, rfl, rfl, rfl, rfl, rfl, rfl, rfl, rfl,  trivial⟩ ?_ ?_
                      · refine ⟨by omega, H, Mo', hl2.trans hle1, ?_, hs⟩
                        simp only
                        rw [fbNx_succ, hsel, if_pos rfl, List.length_append, List.map_append]
                        exact ho
                      · simp only; omega
                    · have hsel : fbSel b0 k = false := by unfold fbSel; rw [decide_eq_false hbit]; simp
                      refine WC.skip (WX.block (WX.seq (WC.region (WO.step rfl (OR.addI rfl rfl (by omega) (by omega) (WO.step rfl (OR.move rfl ?_)))))))
                      refine WO.done ?_
                      refine WX.again ((k + 1, .slice bo (fbNx b0 k).length co)) ⟨rfl, rfl, rfl, rfl, rfl, rfl, rfl, rfl, rfl, rfl,  trivial⟩ ?_ ?_
                      · refine ⟨by omega, H2, Mo, hl2, ?_, hs⟩
                        simp only
                        rw [fbNx_succ, hsel, if_neg (by decide), List.append_nil]
                        exact ho
                      · simp only; omega
              · have e6 : k = 6 := by omega
                subst e6
                obtain ⟨H3, hle3, hs3, hsl, _⟩ := HS.pub (HS.mtail (B := Mo) hs) ho
                clear hs ho
                have hs := HS.mtail (A := [_]) (hs3.drop 1)
                clear hs3
                have hnx : Ints H3 (.slice bo (fbNx b0 6).length co) (fbNx b0 6) := hsl
                have hnl := fbNx_len b0 6
                replace hle := hle.trans hle3
                have hlx := hl2.trans hle3
                refine WC.exit (WX.seq_exit (WX.loop_exit (WX.block_hit (WX.seq (WC.seq (WC.region (WO.step rfl ?_)))))))
                refine OR.move rfl (WO.step rfl (OR.move rfl ?_))
                refine WO.step rfl (OR.callX (Mx := fMem (fbC sink vf vs) d xb tb (.pointer none) (some R) sk) (Mr := [(mb2, .map #[] 0, true)]) hs body38 rfl rfl (fepoch_ok (fbC sink vf vs) d xb tb (.pointer none) (some R) sk _ (fbNx b0 6) _ _ (HS.part hs) (hI.ok.mono hlx) (by rw [hB]; split <;> omega) hnx (by omega) (fun j hj => by have h9 := fbNx_mem (List.getElem_mem hj); exact ⟨h9.1, h9.2.1, by rw [hI.D.node]; exact h9.2.2⟩) (fbNx_up b0 6)) rfl (fMem_flags _ _ _ _ _ _ _) ?_)
                clear hs; rintro v H4 M w hs hle4 hnew ⟨nv, tb2, l', rfl, rfl, hnv, hro⟩
                obtain ⟨hD, e1, e2, e3, e4⟩ := hI.D.epoch (nx := fbNx b0 6) nv hnl
                replace hs := HS.mtail (B := [(mb2, .map #[] 0, true)]) hs
                refine WO.step rfl (OR.neq rfl rfl (WO.done (WX.seq ?_)))
                refine WC.no rfl rfl ?_
                refine WC.skip ?_
                refine WX.arrive ((.slice bo (fbNx b0 6).length co, mb2)) ⟨rfl, rfl, rfl, rfl, rfl, rfl, rfl, rfl,  trivial⟩ ?_
                refine ⟨H4, (d.epoch (fbNx b0 6) nv).work (skBase sk), R.work (d.epoch (fbNx b0 6) nv) (skBase sk) l', tb2, ⟨hle.trans hle4, hI.lb.trans (hlx.trans hle4), hro, by rw [e1, e2]; exact hnv, by rw [e1]; exact hnx.mono hle4, hD⟩, e4, ?_⟩
                rw [e3]
                exact hs
            · refine WC.seq ?_
              refine WC.draw 8 mixed hs (by kernel_rfl) ?_
              refine ⟨MF.eq _, by intro Mx H w hle hs; refine forVals_nil (ORg.plain (OR.fieldAddr FA87_1 rfl ?_)); exact ⟨_, [], Hp.le.refl _, hs, rfl, rfl⟩, ?_⟩
              refine ⟨MF.eq _, by intro Mx H w hle hs; refine forVals_eq rfl rfl rfl ?_; refine forVals_nil (ORg.plain (OR.load T5 rfl rfl (hs.right.cellM (i := 0) rfl rfl) ?_)); exact ⟨_, [], Hp.le.refl _, hs, rfl, rfl⟩, ?_⟩
              refine ⟨MF.eq (.int .i64 (a.n.toNat : Int)), ?_, ?_⟩
              · intro Mx H w hle2 hs; (try replace hle := hle.trans hle2); (try replace hlb := hlb.trans hle2); refine forVals_eq rfl rfl rfl ?_
                refine forVals_nil (ORg.plain (OR.convB T5.und T3.und rfl ?_))
                exact ⟨_, [], Hp.le.refl _, hs, rfl, rfl⟩
              refine ⟨MF.eq (.int .i64 ((a.n.toNat % 6 : Nat) : Int)), ?_, ?_⟩
              · intro Mx H w hle2 hs; (try replace hle := hle.trans hle2); (try replace hlb := hlb.trans hle2); refine forVals_eq rfl rfl rfl ?_
                refine forVals_nil (ORg.plain (OR.rem rfl rfl (by omega) ?_))
                exact ⟨_, [], Hp.le.refl _, hs, rfl, rfl⟩
              refine ⟨MF.eq _, by intro Mx H w hle hs; refine forVals_nil (ORg.plain (OR.fieldAddr FA87_2 rfl ?_)); exact ⟨_, [], Hp.le.refl _, hs, rfl, rfl⟩, ?_⟩
              refine ⟨MF.eq _, by intro Mx H w hle hs; refine forVals_eq rfl rfl rfl ?_; refine forVals_nil (ORg.plain (OR.load T5 rfl rfl (hs.right.cellM (i := 0) rfl rfl) ?_)); exact ⟨_, [], Hp.le.refl _, hs, rfl, rfl⟩, ?_⟩
              refine ⟨MF.eq (.int .u64 (a.sent.toNat : Int)), ?_, ?_⟩
              · intro Mx H w hle2 hs; (try replace hle := hle.trans hle2); (try replace hlb := hlb.trans hle2); refine forVals_eq rfl rfl rfl ?_
                refine forVals_nil (ORg.plain (OR.convI T5.und T22.und rfl ?_))
                exact ⟨_, [], Hp.le.refl _, hs, (by have := a.sent.toNat_lt; rw [u64_wrap a.sent.toNat (by omega)]), rfl⟩
              refine ⟨MF.eq _, by intro Mx H w hle hs; refine forVals_eq rfl rfl rfl ?_; refine forVals_nil (ORg.plain (OR.assign rfl ?_)); exact ⟨_, [], Hp.le.refl _, hs, rfl, rfl⟩, ?_⟩
              intro H w hle2; (try replace hle := hle.trans hle2); (try replace hlb := hlb.trans hle2)
              refine forAllVals_eq rfl ?_
              refine forAllVals_eq rfl ?_
              refine forAllVals_eq rfl ?_
              refine forAllVals_eq rfl ?_
              refine forAllVals_eq rfl ?_
              refine forAllVals_eq rfl ?_
              refine forAllVals_eq rfl ?_
              refine forAllVals_eq rfl ?_
              refine forAllVals_nil ?_; (try clear hs); intro hs
              replace hI := hI.mono hle2
              have hsent := a.sent.toNat_lt
              have hl6 := hI.D.len
              refine WO.step rfl (OR.assign rfl (WO.done (WX.seq (WC.seq (WC.region (WO.step rfl (OR.assign rfl ?_)))))))
              refine WO.done (WX.seq (WC.seq (WC.seq (WC.region (WO.step rfl (OR.move rfl (WO.step rfl ?_)))))))
              refine OR.lenSlice T76.und rfl (WO.step rfl (OR.move rfl (WO.done (WX.seq (WC.block ?_)))))
              obtain ⟨nd, hnd⟩ : ∃ x : Int, x = ((a.n.toNat % 6 : Nat) : Int) := ⟨_, rfl⟩
              rw [← hnd]
              refine WC.loop (ι := Nat × Bool) (fun ix => [(0, .bool sink), (6, ptr xb), (8, .slice bn d.next.length cn), (9, .map (some mb)), (12, .int .u64 (d.base : Int)), (15, .int .i64 nd), (16, .int .u64 (a.sent.toNat : Int)), (17, .bool ix.2), (48, .slice (some ⟨yb, yo, none⟩) len cl), (49, .int .i64 (len : Int)), (50, .int .i64 (i : Int)), (108, .slice bn d.next.length cn), (109, .int .i64 (d.next.length : Int)), (110, .int .i64 (ix.1 : Int))]) (fun ix w => (ix.1 ≤ d.next.length ∧ ix.2 = decide (nd ∈ d.next.take ix.1) ∧ HS [] H0 w0 H ((g2, .cells #[.int .i64 a.what, B a.n, B a.sent, .slice bb a.b.length cb] 87, true) :: (mb, toldObj d.told, true) :: fMem (fbC sink vf vs) d xb tb (.pointer none) (some R) sk) w)) (fun ix => d.next.length - ix.1) (0, false) ⟨rfl, rfl, rfl, rfl, rfl, rfl, rfl, rfl, rfl, rfl, rfl, rfl, rfl, rfl,  trivial⟩ ?_ (fun ix w hW => ?_)
              · exact ⟨by omega, by simp, hs⟩
              clear hs
              obtain ⟨k, is⟩ := ix
              obtain ⟨hk, his, hs⟩ := hW
              simp only at hk his
              refine WC.seq (WC.region (WO.step rfl (OR.lss rfl rfl (WO.done (WX.seq (WC.seq ?_))))))
              refine WC.condD rfl (fun hltk => ?_) (fun hltk => ?_)
              · have hk' : k < d.next.length := by omega
                obtain ⟨vb9, vo9, hvb9, hcx⟩ := hI.vn.pos (by omega)
                have hck := hcx k hk'
                subst hvb9
                refine WC.skip (WX.seq (WC.seq (WC.block (WC.seq (WC.region ?_)))))
                refine WO.step rfl (OR.idx k T76.und T3 rfl rfl rfl hk' ?_)
                refine WO.step rfl (OR.load T3 rfl rfl (hs.cell hck) ?_)
                refine WO.step rfl (OR.assign rfl (WO.done (WX.seq (WC.region (WO.step rfl (OR.move rfl (WO.step rfl ?_)))))))
                refine OR.move rfl ?_
                have htk : decide (nd ∈ d.next.take (k + 1)) = (is || decide (d.next[k] = nd)) := by
                  rw [his, List.take_succ_eq_append_getElem hk', ← Bool.decide_or]
                  rw [decide_eq_decide, List.mem_append, List.mem_singleton, @eq_comm _ nd]
                cases is with
                | true =>
                  refine WO.guardNo rfl rfl rfl rfl (WO.guardNo rfl rfl rfl rfl (WO.guardNo rfl rfl rfl rfl (WO.step rfl (OR.pickT rfl rfl rfl (WO.step rfl (OR.assign rfl (WO.done ?_)))))))
                  refine WX.block (WX.seq (WC.region (WO.step rfl (OR.addI rfl rfl (by omega) (by omega) (WO.step rfl (OR.move rfl (WO.done ?_)))))))
                  refine WX.again ((k + 1, true)) ⟨rfl, rfl, rfl, rfl, rfl, rfl, rfl, rfl, rfl, rfl, rfl, rfl, rfl, rfl,  trivial⟩ ?_ ?_
                  · exact ⟨by omega, by rw [htk]; rfl, hs⟩
                  · simp only; omega
                | false =>
                  refine WO.guardYes rfl rfl rfl rfl (OR.move rfl (WO.guardYes rfl rfl rfl rfl (OR.move rfl (WO.guardYes rfl rfl rfl rfl (OR.eql rfl rfl (WO.step rfl (OR.pickF rfl rfl rfl ?_)))))))
                  refine WO.step rfl (OR.assign rfl (WO.done (WX.block (WX.seq (WC.region (WO.step rfl (OR.addI rfl rfl (by omega) (by omega) ?_)))))))
                  refine WO.step rfl (OR.move rfl (WO.done ?_))
                  refine WX.again ((k + 1, decide (d.next[k] = nd))) ⟨rfl, rfl, rfl, rfl, rfl, rfl, rfl, rfl, rfl, rfl, rfl, rfl, rfl, rfl,  trivial⟩ ?_ ?_
                  · exact ⟨by omega, by rw [htk]; rfl, hs⟩
                  · simp only; omega
              · have ek : k = d.next.length := by omega
                subst ek
                rw [List.take_length] at his
                obtain ⟨q1, q2, q3⟩ := hI.D.bound
                refine WC.exit (WX.seq_exit (WX.loop_exit (WX.block_hit (WX.seq (WC.seq (WC.seq (WC.region ?_)))))))
                refine WO.step rfl (OR.move rfl (WO.step rfl (OR.move rfl (WO.step rfl (OR.move rfl ?_)))))
                replace hs := HS.mtail (A := [_, _]) hs
                by_cases hm : nd ∈ d.next
                · rw [decide_eq_true hm] at his
                  subst his
                  refine WO.step rfl (OR.callX (Mx := fMem (fbC sink vf vs) d xb tb (.pointer none) (some R) sk) (Mr := [_, _]) hs body39 rfl rfl (fhop_ok (fbC sink vf vs) d xb tb (.pointer none) (some R) sk nd a.sent.toNat _ _ (HS.part hs) hI.ok (by rw [hB]; split <;> omega) hI.nv q1 q2 q3 hm (by omega)) rfl (fMem_flags _ _ _ _ _ _ _) ?_)
                  clear hs; rintro v H4 M w hs hle4 hnew ⟨l', rfl, rfl, hro⟩
                  obtain ⟨hD, e1, e2, e3, e4⟩ := hI.D.hop (b := a.sent.toNat) hm (by omega)
                  replace hs := (HS.mtail (B := [_, _]) hs).drop 0
                  refine WO.step rfl (OR.assign rfl (WO.done (WX.seq (WC.seq (WC.region (WO.step rfl (OR.move rfl ?_)))))))
                  refine WO.step rfl (OR.eql rfl rfl (WO.step rfl (OR.move rfl (WO.step rfl (OR.neqB T4.und rfl rfl (WO.step rfl (OR.move rfl ?_)))))))
                  refine WO.guardYes rfl rfl rfl rfl (OR.move rfl (WO.guardYes rfl rfl rfl rfl (OR.not rfl (WO.guardYes rfl rfl rfl rfl (OR.move rfl ?_)))))
                  refine WO.guardNo rfl rfl rfl rfl (WO.guardNo rfl rfl rfl rfl (WO.guardYes rfl rfl rfl rfl (OR.pickF rfl rfl rfl (WO.step rfl (OR.pickF rfl rfl rfl (WO.done (WX.seq ?_)))))))
                  refine WC.no rfl rfl (WC.skip (WX.seq (WC.seq (WC.region (WO.step rfl (OR.move rfl (WO.done ?_)))))))
                  refine WX.seq ?_
                  refine WC.yes rfl rfl ?_
                  refine WC.region (WO.step rfl (OR.move rfl (WO.step rfl (OR.move rfl (WO.step rfl (OR.move rfl ?_))))))
                  refine WO.stepN (OR.mapPut (K := .i64) (l := toldC d.told) hs T85.und T3.und rfl rfl rfl ?_)
                  clear hs; intro w hs
                  rw [← toldPut_C] at hs
                  refine WO.done ?_
                  refine WX.arrive ((.slice bn d.next.length cn, mb)) ⟨rfl, rfl, rfl, rfl, rfl, rfl, rfl, rfl,  trivial⟩ ?_
                  refine ⟨H4, (d.hop nd a.sent.toNat).work (skBase sk), R.work (d.hop nd a.sent.toNat) (skBase sk) l', tb, ⟨hI.le.trans hle4, hI.lb.trans hle4, hro, by rw [e1, e2]; exact hI.nv.mono hle4, by rw [e1]; exact hI.vn.mono hle4, hD⟩, e4, ?_⟩
                  rw [e3]
                  exact hs
                · rw [decide_eq_false hm] at his
                  subst his
                  refine WO.step rfl (OR.call hs body39 rfl rfl (fhop_none (fbC sink vf vs) d xb tb _ _ _ nd a.sent.toNat _ _ hs.toSub (hs.blk (i := 0) rfl) (hs.nh (i := 0) rfl) hI.nv q2 hm) ?_)
                  clear hs; rintro _ H w hs hle1 rfl; replace hle := hle.trans hle1; (try replace hlb := hlb.trans hle1)
                  refine WO.step rfl (OR.assign rfl (WO.done (WX.seq (WC.seq (WC.region (WO.step rfl (OR.move rfl ?_)))))))
                  refine WO.step rfl (OR.eql rfl rfl (WO.step rfl (OR.move rfl (WO.step rfl (OR.neqB T4.und rfl rfl (WO.step rfl (OR.move rfl ?_)))))))
                  refine WO.guardYes rfl rfl rfl rfl (OR.move rfl (WO.guardYes rfl rfl rfl rfl (OR.not rfl (WO.guardYes rfl rfl rfl rfl (OR.move rfl ?_)))))
                  refine WO.guardYes rfl rfl rfl rfl (OR.move rfl (WO.guardYes rfl rfl rfl rfl (OR.neq rfl rfl (WO.guardYes rfl rfl rfl rfl (OR.pickT rfl rfl rfl (WO.step rfl (OR.pickF rfl rfl rfl ?_)))))))
                  refine WO.done (WX.seq ?_)
                  refine WC.no rfl rfl ?_
                  refine WC.skip (WX.seq (WC.seq (WC.region (WO.step rfl (OR.move rfl (WO.done (WX.seq ?_)))))))
                  refine WC.no rfl rfl ?_
                  replace hs := (HS.mtail (B := [_, _]) hs).drop 0
                  refine WC.skip ?_
                  refine WX.arrive ((.slice bn d.next.length cn, mb)) ⟨rfl, rfl, rfl, rfl, rfl, rfl, rfl, rfl,  trivial⟩ ?_
                  exact ⟨H, d, R, tb, hI.mono hle1, fun _ => rfl, hs⟩
          · clear hs hle hI
            obtain ⟨vn, mb⟩ := ix
            obtain ⟨H, d', R', tb', hI, hwas, hs⟩ := hW
            simp only at hI hs
            have hle := hI.le
            generalize d.base = was at *
            obtain ⟨bn', cn', rfl⟩ := hI.vn.form
            refine WC.seq (WC.region (WO.step rfl (OR.move rfl ?_)))
            refine WO.step rfl (OR.call hs body37 rfl rfl (fbase_ok (fbC sink vf vs) d' xb tb' _ _ _ _ _ hs.toSub (hs.blk (i := 1) rfl) (hs.nh (i := 1) rfl)) ?_)
            clear hs; rintro _ H w hs hle1 rfl; replace hle := hle.trans hle1; (try replace hlb := hlb.trans hle1)
            replace hI := hI.mono hle1
            have htl' : (mEnt .i64 0 (toldC d'.told)).toArray.size = d'.told.length := by simp [mEnt_len, toldC]
            have hob : toldObj d'.told = .map (mEnt .i64 0 (toldC d'.told)).toArray d'.told.length := by simp [toldObj, mObj, toldC]
            refine WO.step rfl (OR.move rfl (WO.step rfl (OR.extract rfl rfl (WO.step rfl (OR.extract rfl rfl (WO.step rfl (OR.assign rfl ?_)))))))
            refine WO.step rfl (OR.assign rfl (WO.done (WX.seq (WC.seq (WC.seq ?_)))))
            refine WC.joinK (ι := Unit) (fun iu => [(0, .bool sink), (6, ptr xb), (8, .slice bn' d'.next.length cn'), (9, .map (some mb)), (21, .int .u64 (d'.base : Int)), (22, .bool d'.worked), (48, .slice (some ⟨yb, yo, none⟩) len cl), (49, .int .i64 (len : Int)), (50, .int .i64 (i : Int)), (161, .bool false)]) (fun iu w => (HS [] H0 w0 H ((mb, toldObj d'.told, true) :: fMem (fbC sink vf vs) d' xb tb' (.pointer none) (some R') sk) w)) ?_ (fun iu w hW => ?_)
            · have hkm := hs.blk (i := 0) rfl
              rw [hob] at hkm
              refine WC.region (WO.step rfl (OR.move rfl (WO.step rfl (OR.move rfl ?_))))
              refine WO.step rfl (OR.lenMap hkm T85.und rfl ?_)
              rw [htl']
              have hwk2 : (!(d'.worked == decide ((d'.told.length : Int) = (d'.next.length : Int)))) = false := by
                have e9 : decide ((d'.told.length : Int) = (d'.next.length : Int)) = decide (d'.told.length = d'.next.length) := by rw [decide_eq_decide]; omega
                rw [hI.D.wk, e9]
                simp
              refine WO.step rfl (OR.move rfl (WO.step rfl (OR.lenSlice T76.und rfl (WO.step rfl (OR.eql rfl rfl (WO.step rfl (OR.neqB T4.und rfl rfl ?_)))))))
              refine WO.step rfl (OR.move rfl ?_)
              refine WO.guardYes rfl hwk2 rfl rfl (OR.move rfl (WO.guardYes rfl hwk2 rfl rfl (OR.not rfl (WO.guardYes rfl hwk2 rfl rfl (OR.move rfl ?_)))))
              cases hw9 : d'.worked with
              | true =>
                rw [hw9] at hwk2
                refine WO.guardNo rfl rfl rfl rfl (WO.guardNo rfl rfl rfl rfl (WO.guardNo rfl rfl rfl rfl (WO.guardYes rfl hwk2 rfl rfl (OR.pickF rfl rfl rfl (WO.step rfl (OR.pickF rfl hwk2 rfl (WO.done ?_)))))))
                refine WX.arrive (()) ⟨rfl, rfl, rfl, rfl, rfl, rfl, rfl, rfl, rfl, rfl,  trivial⟩ ?_
                exact hs
              | false =>
                rw [hw9] at hwk2
                refine WO.guardYes rfl rfl rfl rfl (OR.move rfl (WO.guardYes rfl rfl rfl rfl (OR.move rfl (WO.guardYes rfl rfl rfl rfl (OR.neq rfl rfl (WO.guardYes rfl hwk2 rfl rfl (OR.pickT rfl rfl rfl ?_)))))))
                refine WO.step rfl (OR.pickF rfl hwk2 rfl (WO.done ?_))
                rw [hwas hw9, decide_eq_false (by simp : ¬ ((was : Int) ≠ (was : Int)))]
                refine WX.arrive (()) ⟨rfl, rfl, rfl, rfl, rfl, rfl, rfl, rfl, rfl, rfl,  trivial⟩ ?_
                exact hs
            · replace hs := hW
              refine WC.no rfl rfl ?_
              refine WC.skip (WX.seq (WC.seq (WC.region (WO.step rfl (OR.assign rfl (WO.done (WX.seq ?_)))))))
              refine WC.seq (WC.seq (WC.region (WO.step rfl (OR.move rfl (WO.done (WX.seq ?_))))))
              refine WC.joinK (ι := Unit) (fun iu => [(0, .bool sink), (6, ptr xb), (8, .slice bn' d'.next.length cn'), (9, .map (some mb)), (21, .int .u64 (d'.base : Int)), (22, .bool d'.worked), (23, .int .u64 (skBase sk : Int)), (48, .slice (some ⟨yb, yo, none⟩) len cl), (49, .int .i64 (len : Int)), (50, .int .i64 (i : Int))]) (fun iu w => (∃ H, FbI sk H0 HB H d' R' (.slice bn' d'.next.length cn') ∧ HS [] H0 w0 H ((mb, toldObj d'.told, true) :: fMem (fbC sink vf vs) d' xb tb' (.pointer none) (some R') sk) w)) ?_ (fun iu w hW => ?_)
              · cases sink with
                | false =>
                  have e9 : skBase sk = 1099511627776 := hB
                  rw [e9]
                  refine WC.no rfl rfl ?_
                  refine WC.skip ?_
                  refine WX.arrive (()) ⟨rfl, rfl, rfl, rfl, rfl, rfl, rfl, rfl, rfl, rfl,  trivial⟩ ?_
                  exact ⟨H, hI, hs⟩
                | true =>
                  obtain ⟨kb, q, rfl, hq⟩ := hsk
                  refine WC.yes rfl rfl ?_
                  refine WC.region (WO.step rfl (OR.move rfl ?_))
                  refine WO.step rfl (OR.call hs body40 rfl rfl (fdel_ok (fbC true vf vs) d' xb tb' kb _ _ q _ _ (hs.view [(xb, fObj (fbC true vf vs) d' tb' (.pointer none) (ptr R'.rb) (ptr kb), false), (kb, sinkObj q, false)] (by simp [fMem, skMem, skV, rlV]) (.cons _ (.cons_cons _ (.cons _ (.cons_cons _ (List.nil_sublist _))))))) ?_)
                  clear hs; rintro _ H w hs hle1 rfl; replace hle := hle.trans hle1; (try replace hlb := hlb.trans hle1)
                  refine WO.step rfl (OR.assign rfl (WO.done ?_))
                  refine WX.arrive (()) ⟨rfl, rfl, rfl, rfl, rfl, rfl, rfl, rfl, rfl, rfl,  trivial⟩ ?_
                  exact ⟨H, hI.mono hle1, hs⟩
              · clear hs hI hle
                obtain ⟨H, hI, hs⟩ := hW
                have hle := hI.le
                refine WC.seq (WC.seq (WC.region (WO.step rfl (OR.move rfl ?_))))
                have hkt := hs.blk (i := 0) rfl
                rw [hob] at hkt
                refine WO.step rfl (OR.rangeM hs hkt T85.und rfl ?_)
                clear hs hkt; intro r w hr hs
                refine WO.done (WX.seq (WC.block ?_))
                refine WC.loop (ι := Array Nat × Nat) (fun ix => [(0, .bool sink), (6, ptr xb), (8, .slice bn' d'.next.length cn'), (9, .map (some mb)), (21, .int .u64 (d'.base : Int)), (22, .bool d'.worked), (23, .int .u64 (ix.2 : Int)), (48, .slice (some ⟨yb, yo, none⟩) len cl), (49, .int .i64 (len : Int)), (50, .int .i64 (i : Int)), (166, .pointer (some ⟨r, 0, none⟩))]) (fun ix w => (Seen (skBase sk) d'.told ix.1 ix.2 ∧ ∃ last, d'.told.length ≤ last ∧ HS [] H0 w0 H ((r, .mapIter (some mb) d'.told.length ix.1 last, true) :: (mb, toldObj d'.told, true) :: fMem (fbC sink vf vs) d' xb tb' (.pointer none) (some R') sk) w)) (fun ix => unseen d'.told.length ix.1) (#[], skBase sk) ⟨rfl, rfl, rfl, rfl, rfl, rfl, rfl, rfl, rfl, rfl, rfl,  trivial⟩ ?_ (fun ix w hW => ?_)
                · exact ⟨⟨Nat.le_refl _, fun j _ h => absurd h (by simp), .inl rfl⟩, d'.told.length, Nat.le_refl _, hs⟩
                clear hs
                obtain ⟨seen, m⟩ := ix
                obtain ⟨hsn, last, hlast, hs⟩ := hW
                simp only at hsn hs
                have hkt := hs.blk (i := 1) rfl
                rw [hob] at hkt
                refine WC.seq (WC.region ?_)
                refine WO.step rfl (OR.nextM' hs hkt rfl (fun e he => by obtain ⟨j, hj, rfl⟩ := toldC_at he; exact hj) hlast ?_)
                clear hs hkt; intro v w hv
                rcases hv with ⟨hall, rfl, hs⟩ | ⟨e, he, hns, rfl, hs⟩
                · have hm := hsn.done hall
                  refine WO.step rfl (OR.extract rfl rfl (WO.done (WX.seq (WC.seq ?_))))
                  refine WC.no rfl rfl ?_
                  subst hm
                  replace hs := hs.drop 0
                  refine WC.exit (WX.seq_exit (WX.loop_exit (WX.block_hit (WX.seq (WC.seq (WC.region (WO.step rfl ?_)))))))
                  refine OR.move rfl (WO.step rfl (OR.move rfl ?_))
                  cases hw9 : d'.worked with
                  | true =>
                    refine WO.guardYes rfl rfl rfl rfl (OR.move rfl (WO.guardYes rfl rfl rfl rfl (OR.move rfl (WO.guardYes rfl rfl rfl rfl (OR.neq rfl rfl (WO.step rfl (OR.pickT rfl rfl rfl ?_)))))))
                    refine WO.done (WX.seq ?_)
                    refine WC.no rfl (decide_eq_false (by rw [hI.D.bs hw9]; simp)) ?_
                    refine WC.skip (WX.block (WX.seq (WC.region (WO.step rfl (OR.addI rfl rfl (by omega) (by omega) (WO.step rfl (OR.move rfl ?_)))))))
                    refine WO.done ?_
                    refine WX.again ((i + 1, .slice bn' d'.next.length cn', mb)) ⟨rfl, rfl, rfl, rfl, rfl, rfl, rfl,  trivial⟩ ?_ ?_
                    · exact ⟨by omega, H, d', R', tb', hI, hs⟩
                    · simp only; omega
                  | false =>
                    refine WO.guardNo rfl rfl rfl rfl (WO.guardNo rfl rfl rfl rfl (WO.guardNo rfl rfl rfl rfl (WO.step rfl (OR.pickF rfl rfl rfl (WO.done (WX.seq (WC.no rfl rfl ?_)))))))
                    refine WC.skip (WX.block (WX.seq (WC.region (WO.step rfl (OR.addI rfl rfl (by omega) (by omega) (WO.step rfl (OR.move rfl ?_)))))))
                    refine WO.done ?_
                    refine WX.again ((i + 1, .slice bn' d'.next.length cn', mb)) ⟨rfl, rfl, rfl, rfl, rfl, rfl, rfl,  trivial⟩ ?_ ?_
                    · exact ⟨by omega, H, d', R', tb', hI, hs⟩
                    · simp only; omega
                · have he2 := he
                  refine WO.step rfl (OR.extract rfl rfl (WO.done (WX.seq (WC.seq ?_))))
                  refine WC.yes rfl rfl ?_
                  obtain ⟨j, hj, rfl⟩ := toldC_at he
                  have hkt := hs.blk (i := 1) rfl
                  rw [hob] at hkt
                  refine WC.skip (WX.seq (WC.block (WC.seq (WC.region ?_))))
                  refine WO.step rfl (OR.entryM (hs.blk (i := 0) rfl) hkt rfl (by simpa using mEnt_nodup .i64 (toldC d'.told) 0) he2 ?_)
                  refine WO.step rfl (OR.extract rfl rfl (WO.step rfl (OR.assign rfl (WO.done (WX.seq (WC.region (WO.step rfl ?_)))))))
                  refine OR.move rfl (WO.step rfl (OR.move rfl ?_))
                  refine WO.step rfl (OR.minI rfl rfl ?_)
                  rw [min_u64]
                  refine WO.step rfl (OR.assign rfl (WO.done (WX.block ?_)))
                  refine WX.again ((seen.push j, min m d'.told[j].2)) ⟨rfl, rfl, rfl, rfl, rfl, rfl, rfl, rfl, rfl, rfl, rfl,  trivial⟩ ?_ ?_
                  · exact ⟨hsn.step hj, d'.told.length, Nat.le_refl _, hs⟩
                  · exact unseen_push hj hns
    · refine WC.exit (WX.seq_exit (WX.loop_exit (WX.block_hit (WX.seq (WC.seq (WC.region (WO.step rfl ?_)))))))
      refine OR.assign rfl (WO.done (WX.seq (WC.ret ?_)))
      refine WX.ret1 rfl rfl ?_
      exact .mk (hs.sublist (List.nil_sublist _)) rfl
end Go.Bw
namespace Go.Bw
set_option linter.unusedVariables false
set_option linter.unusedSimpArgs false
open Go.Proofs Go.RowKit Go.ChangeShapes Go.Deep
instance : Inhabited MovD := ⟨⟨0, 0, 0, []⟩⟩
theorem read_i64 {H : Type} {enc : TypeId × Value → H} {P : Program} {w : World} {base : Nat} {spare : Nat → Bool} {held : Bool} {t : TypeId} {fuel : Nat} {cs : List Value} {x : DataW H × List MemPlace} (ht : P.underlying t = some (.int .i64)) (h : DataW.trod enc P w base spare held fuel t cs = some x) : ∃ n : Int, cs = [.int .i64 n] := by
  obtain ⟨n, rfl, _, _⟩ := DataW.trod_int ht h
  exact ⟨n, rfl⟩
set_option maxRecDepth 20000 in
theorem read_mov {H : Type} {enc : TypeId × Value → H} {W : World} {spare : Nat → Bool} {held : Bool} {fuel base : Nat} {cs : List Value} {x : DataW H × List MemPlace} (h : DataW.trod enc Tryz.prog W base spare held fuel 87 cs = some x) :
    ∃ (a : MovD) (v : Value), cs = movC a v ∧ Bytes (heapOf W) v a.b ∧ a.b.length ≤ 9223372036854775807 := by
  obtain ⟨hsz, n, hf⟩ := read_fields T87.und h
  have c1 : Tryz.prog.cellsOf 5 = 1 := by kernel_rfl
  have c2 : Tryz.prog.cellsOf 43 = 1 := by kernel_rfl
  have c3 : Tryz.prog.cellsOf 3 = 1 := by kernel_rfl
  have c4 : Tryz.prog.cellsOf 87 = 4 := by kernel_rfl
  rw [c4] at hsz
  match cs, hsz with
  | [a0, a1, a2, a3], _ =>
    obtain ⟨y0, h0⟩ := read_field 3 [a0] (hf 0 _ rfl) rfl c3 rfl
    obtain ⟨y1, h1⟩ := read_field 5 [a1] (hf 1 _ rfl) rfl c1 rfl
    obtain ⟨y2, h2⟩ := read_field 5 [a2] (hf 2 _ rfl) rfl c1 rfl
    obtain ⟨y3, h3⟩ := read_field 43 [a3] (hf 3 _ rfl) rfl c2 rfl
    obtain ⟨wh, e0⟩ := read_i64 T3.und h0
    obtain ⟨nn, e1⟩ := read_byte T5.und h1
    obtain ⟨se, e2⟩ := read_byte T5.und h2
    obtain ⟨v1, l, e3, hl, hll⟩ := read_bytes T43.und T5.und c1 h3
    simp at e0 e1 e2 e3
    subst e0 e1 e2 e3
    exact ⟨⟨wh, nn, se, l⟩, _, rfl, hl, hll⟩
theorem okWide_bool {P : Program} {w : World} {r : Go.Reach} {base : Nat} {t : TypeId} {v : Value} (ht : P.underlying t = some .bool) (h : Value.okWide P w r base t v) : v.cells = #[v] := by
  simp only [Value.okWide, ht, Cell.okWide] at h
  cases v <;> simp_all [Cell.ok, Value.cells]
set_option maxRecDepth 20000 in
theorem law_FlowBase {H : Type} {enc : TypeId × Value → H} {W : World} {base : Nat} {v v1 : Value} {d d1 : DataW H} {p p1 : List MemPlace}
    (hv : Value.okWide Tryz.prog W .any base 4 v) (h : DataW.Trod enc Tryz.prog W 0 (fun _ => true) true 4 v d p)
    (hv1 : Value.okWide Tryz.prog W .any base 75 v1) (h1 : DataW.Trod enc Tryz.prog W 0 (fun _ => true) true 75 v1 d1 p1) :
    Calls Tryz.prog 5 #[v, v1] W fun e w' => e = .returned (.bool true) ∧ Below W.heap.size W w' := by
  obtain ⟨a, len, cap, rfl⟩ := Go.WideShapes.okWide_slice T75.und hv1
  obtain ⟨f0, h⟩ := h
  obtain ⟨f1, h1⟩ := h1
  have c4 : Tryz.prog.cellsOf 87 = 4 := by kernel_rfl
  rw [okWide_bool T4.und hv] at h
  obtain ⟨sink, e0⟩ := read_bool T4.und h
  have e0' : v = .bool sink := by simpa using e0
  obtain ⟨vl, ln, C, n, e2, hln, hC, hsl⟩ := read_slice T75.und c4 (by omega) h1
  have e2' : Value.slice a len cap = vl := by simpa [Value.cells] using e2
  obtain ⟨q, hq⟩ := choose_lt (α := MovD × Value) (p := fun i q => C i = movC q.1 q.2 ∧ Bytes (heapOf W) q.2 q.1.b ∧ q.1.b.length ≤ 9223372036854775807) (fun i hi => by
    obtain ⟨_, y, hy⟩ := hC i hi
    obtain ⟨a, v, h1, h2⟩ := read_mov hy
    exact ⟨(a, v), h1, h2⟩)
  rw [e0', e2']
  refine (flbase_ok sink vl ln (fun i => (q i).1) (fun i => (q i).2) _ W (heapOf.sub W) ⟨?_, fun i hi => (hq i hi).2⟩ hln).mono fun e w' h => h.law fun _ _ h => h
  have : (List.range ln).flatMap C = (List.range ln).flatMap fun i => movC (q i).1 (q i).2 := by
    rw [List.flatMap_def, List.flatMap_def]
    congr 1
    exact List.map_congr_left fun i hi => (hq i (List.mem_range.1 hi)).1
  rw [← this]
  exact hsl
end Go.Bw
