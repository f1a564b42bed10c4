/- A sink over a relay: whoever holds both. -/
import Derived.Test.YtdibepkfgemddaaSinkA
import Derived.Test.YtdibepkfgemddaaSame05
namespace Go.Bw
set_option linter.unusedVariables false
set_option linter.unusedSimpArgs false
open Go.Proofs

theorem HS.relKB {xs : List Nat} {H0 H : Hp} {w0 w : World} {x : RelD} {rb wb kb : Nat} {l : Slots} {A : Mem} {o : Obj} (hs : HS xs H0 w0 H ((kb, o, true) :: (A ++ relMem true x rb wb l)) w) : HS [kb] H w H ((kb, o, true) :: relMem false x rb wb l) w := by
  have hs2 : HS xs H0 w0 H ((kb, o, true) :: (relMem true x rb wb l ++ A)) w := hs.perm (List.Perm.cons _ List.perm_append_comm)
  have hro := HS.relRO (hs2.drop 0)
  refine HS.start [kb] hs.sub (fun b o' t h => ?_) ?_
  · rcases List.mem_cons.1 h with e | h
    · cases e
      have h1 := hs.mem kb o true (by simp)
      exact ⟨h1.1, h1.2.1, fun _ => by simp⟩
    · have h1 := hro.mem b o' t h
      exact ⟨h1.1, h1.2.1, fun ht => by rw [relMem_false h] at ht; cases ht⟩
  · have h1 := hs2.nd
    have e : Mem.keys (relMem false x rb wb l) = Mem.keys (relMem true x rb wb l) := by
      have := slotMem_keys x.g x.s false l
      simp only [Mem.keys] at this
      simp [Mem.keys, relMem, this]
    simp only [Mem.keys, List.map_cons, List.map_append, List.nodup_cons, List.nodup_append, List.mem_append, not_or] at h1 e ⊢
    rw [e]
    exact ⟨h1.1.1, h1.2.1⟩
def relEnd (x : RelD) (d0 n : Nat) (e : Int) (br : Bool) : Prop := (e = 0 ∧ br = false ∧ (d0 + n = 1099511627776 ∨ x.solE (d0 + n) ≠ 0)) ∨ (e = 5 ∧ br = true ∧ d0 + n < 1099511627776 ∧ x.solE (d0 + n) = 0 ∧ rdyE x (d0 + n) ≠ 0)
theorem rel_stop {x : RelD} {d0 n m : Nat} {e : Int} {br : Bool} (hg : goodTo x d0 n) (h : relEnd x d0 n e br) (hm : goodTo x d0 m) (h1 : d0 + m < 1099511627776) (h2 : x.solE (d0 + m) ≠ 0) : n = m ∧ e = 0 ∧ br = false := by
  have e1 : n = m := by
    rcases Nat.lt_trichotomy n m with h3 | h3 | h3
    · have h4 := hm n h3
      rcases h with ⟨_, _, h5 | h5⟩ | ⟨_, _, _, _, h5⟩
      · omega
      · exact absurd h4.1 h5
      · exact absurd h4.2 h5
    · exact h3
    · exact absurd (hg m h3).1 h2
  subst e1
  rcases h with ⟨h3, h4, _⟩ | ⟨_, _, _, h3, _⟩
  · exact ⟨rfl, h3, h4⟩
  · exact absurd h3 h2
theorem rel_bad {x : RelD} {d0 n m : Nat} {e : Int} {br : Bool} (hg : goodTo x d0 n) (h : relEnd x d0 n e br) (hm : goodTo x d0 m) (h1 : d0 + m < 1099511627776) (h2 : x.solE (d0 + m) = 0) (h9 : rdyE x (d0 + m) ≠ 0) : n = m ∧ e = 5 ∧ br = true := by
  have e1 : n = m := by
    rcases Nat.lt_trichotomy n m with h3 | h3 | h3
    · have h4 := hm n h3
      rcases h with ⟨_, _, h5 | h5⟩ | ⟨_, _, _, _, h5⟩
      · omega
      · exact absurd h4.1 h5
      · exact absurd h4.2 h5
    · exact h3
    · exact absurd (hg m h3).2 h9
  subst e1
  rcases h with ⟨h3, h4, h5 | h5⟩ | ⟨h3, h4, _⟩
  · omega
  · exact absurd h2 h5
  · exact ⟨rfl, h3, h4⟩
theorem rel_end {x : RelD} {n : Nat} {e : Int} {br : Bool} (hn : 1099511627776 + n ≤ 1099511627776) (h : relEnd x 1099511627776 n e br) : n = 0 ∧ e = 0 ∧ br = false := by
  have : n = 0 := by omega
  subst this
  rcases h with ⟨h3, h4, _⟩ | ⟨_, _, h3, _⟩
  · exact ⟨rfl, h3, h4⟩
  · omega
end Go.Bw
namespace Go.Bw
set_option linter.unusedVariables false
set_option linter.unusedSimpArgs false
open Go.Proofs

theorem slots_new (H : Hp) (g s width : Nat) : SlotsOk H (newR g s width) (List.replicate 16 none) := by
  refine ⟨by simp, fun i y hy => ?_⟩
  rw [List.getElem?_replicate] at hy
  split at hy
  · obtain rfl := Option.some.inj hy
    rfl
  · cases hy
theorem good1 {x : RelD} {d0 : Nat} (h1 : x.solE (d0 + 0) = 0) (h2 : rdyE x (d0 + 0) = 0) : goodTo x d0 1 := by
  intro i hi
  obtain rfl : i = 0 := by omega
  exact ⟨h1, h2⟩
def awA : RelD := (newR 2 3 4).take 0 ([1, 0], [0, 0, 0])
def awB : RelD := awA.take 0 ([0, 1], [1, 97, 0])
def awC : RelD := awB.take 1 ([1, 0], [0, 0, 0])
theorem awC_0 : awC.solE 0 = 0 ∧ rdyE awC 0 = 0 ∧ rdyF awC 0 = [97] ∧ awC.solE 1 ≠ 0 := by decide +kernel
theorem awC_g : awC.g = 2 ∧ awC.s = 3 := by decide +kernel
theorem awA_g : awA.g = 2 ∧ awA.s = 3 := by decide +kernel
theorem awB_g : awB.g = 2 ∧ awB.s = 3 := by decide +kernel
set_option maxRecDepth 20000 in
set_option maxHeartbeats 2000000 in
theorem kawake_ok (H0 : Hp) (w0 : World) (h0 : Sub H0 w0) :
    Calls Try.prog 6 #[] w0 (Pure H0 w0 fun v _ => v = .bool true) := by
  have hs := HS.init h0
  have hle := Hp.le.refl H0
  have hok0 := newR_ok (g := 2) (s := 3) (width := 4) (by omega) (by omega)
  have hokA : RelOk awA := hok0.take _ _
  have hokB : RelOk awB := hokA.take _ _
  have hokC : RelOk awC := hokB.take _ _
  refine Calls.enter (args := []) Try.func6 rfl Try.ntmps6 rfl ?_
  refine WC.seq (WC.region (WO.step rfl (OR.assign rfl (WO.done (WX.seq (WC.seq (WC.region ?_)))))))
  refine WO.step rfl (OR.callX (Mx := []) hs body8 rfl rfl (rnew_ok 2 3 4 _ _ hs.toSub (by omega) (by omega)) rfl rfl ?_)
  clear hs; rintro v H M w hs hle1 hnew ⟨hH, rb, wb, rfl, rfl⟩
  replace hs : HS [] H0 w0 H (relMem true (newR 2 3 4) rb wb (List.replicate 16 none)) w := by rw [List.append_nil] at hs; exact hs
  replace hle := hle.trans hle1
  refine WO.step rfl (OR.move rfl (WO.step rfl (OR.extract rfl rfl (WO.step rfl (OR.extract rfl rfl (WO.step rfl (OR.assign rfl ?_)))))))
  refine WO.step rfl (OR.assign rfl (WO.done (WX.seq (WC.seq (WC.region (WO.step rfl (OR.move rfl ?_)))))))
  refine WO.step rfl (OR.buildSlice (vs := [B 1, B 0]) hs T37.und T5 rfl rfl rfl rfl (by simp) ?_)
  clear hs; intro qac w hqac hs
  obtain ⟨H, hle1, hp_qac, hs9⟩ := hs.pub1 hqac; clear hs; have hs := hs9; clear hs9; replace hle := hle.trans hle1; (try replace hlb := hlb.trans hle1)
  have hrc1 : Bytes H (.slice (some ⟨qac, 0, none⟩) 2 2) [1, 0] := Bytes.block (l := [1, 0]) hp_qac rfl (by simp)
  refine WO.step rfl (OR.buildSlice (vs := [B 0, B 0, B 0]) hs T37.und T5 rfl rfl rfl rfl (by simp) ?_)
  clear hs; intro qap w hqap hs
  refine WO.step rfl (OR.buildAll T39 rfl rfl PL39 rfl rfl ?_)
  obtain ⟨H, hle1, hp_qap, hs9⟩ := hs.pub1 hqap; clear hs; have hs := hs9; clear hs9; replace hle := hle.trans hle1; (try replace hlb := hlb.trans hle1)
  replace hrc1 := hrc1.mono hle1
  have hrp1 : Bytes H (.slice (some ⟨qap, 0, none⟩) 3 3) [0, 0, 0] := Bytes.block (l := [0, 0, 0]) hp_qap rfl (by simp)
  refine WO.step rfl (OR.callX (Mx := relMem true (newR 2 3 4) rb wb (List.replicate 16 none)) (Mr := ([] : Mem)) (HS.mtail (A := ([] : Mem)) hs) body12 rfl rfl (rtake_ok' rb wb 0 _ _ (newR 2 3 4) (List.replicate 16 none) ([1, 0], [0, 0, 0]) _ _ (HS.relRW (Mr := ([] : Mem)) (HS.mtail (A := ([] : Mem)) hs)) (slots_new _ 2 3 4) hok0 (by omega) hrc1 hrp1) rfl (relMem_flags _ _ _ _) ?_)
  clear hs; rintro v H M w hs hle1 hnew ⟨rfl, l1, rfl, hx1⟩
  replace hs := HS.mtail (A := relMem true _ rb wb l1) (B := ([] : Mem)) hs
  replace hle := hle.trans hle1
  have hlb := Hp.le.refl H
  refine WO.done (WX.seq (WC.seq (WC.region (WO.step rfl (OR.move rfl ?_)))))
  refine WO.step rfl (OR.buildSlice (vs := [B 0, B 1]) hs T37.und T5 rfl rfl rfl rfl (by simp) ?_)
  clear hs; intro qbc w hqbc hs
  obtain ⟨H, hle1, hp_qbc, hs9⟩ := hs.pub1 hqbc; clear hs; have hs := hs9; clear hs9; replace hle := hle.trans hle1; (try replace hlb := hlb.trans hle1)
  have hrc2 : Bytes H (.slice (some ⟨qbc, 0, none⟩) 2 2) [0, 1] := Bytes.block (l := [0, 1]) hp_qbc rfl (by simp)
  refine WO.step rfl (OR.buildSlice (vs := [B 1, B 97, B 0]) hs T37.und T5 rfl rfl rfl rfl (by simp) ?_)
  clear hs; intro qbp w hqbp hs
  refine WO.step rfl (OR.buildAll T39 rfl rfl PL39 rfl rfl ?_)
  obtain ⟨H, hle1, hp_qbp, hs9⟩ := hs.pub1 hqbp; clear hs; have hs := hs9; clear hs9; replace hle := hle.trans hle1; (try replace hlb := hlb.trans hle1)
  replace hrc2 := hrc2.mono hle1
  have hrp2 : Bytes H (.slice (some ⟨qbp, 0, none⟩) 3 3) [1, 97, 0] := Bytes.block (l := [1, 97, 0]) hp_qbp rfl (by simp)
  refine WO.step rfl (OR.callX (Mx := relMem true awA rb wb l1) (Mr := ([] : Mem)) (HS.mtail (A := ([] : Mem)) hs) body12 rfl rfl (rtake_ok' rb wb 0 _ _ awA l1 ([0, 1], [1, 97, 0]) _ _ (HS.relRW (Mr := ([] : Mem)) (HS.mtail (A := ([] : Mem)) hs)) (hx1.mono hlb) hokA (by omega) hrc2 hrp2) rfl (relMem_flags _ _ _ _) ?_)
  clear hs; rintro v H M w hs hle1 hnew ⟨rfl, l2, rfl, hx2⟩
  replace hs := HS.mtail (A := relMem true _ rb wb l2) (B := ([] : Mem)) hs
  replace hle := hle.trans hle1
  have hlb := Hp.le.refl H
  refine WO.done (WX.seq (WC.seq (WC.region (WO.step rfl (OR.move rfl ?_)))))
  refine WO.step rfl (OR.buildSlice (vs := [B 1, B 0]) hs T37.und T5 rfl rfl rfl rfl (by simp) ?_)
  clear hs; intro qcc w hqcc hs
  obtain ⟨H, hle1, hp_qcc, hs9⟩ := hs.pub1 hqcc; clear hs; have hs := hs9; clear hs9; replace hle := hle.trans hle1; (try replace hlb := hlb.trans hle1)
  have hrc3 : Bytes H (.slice (some ⟨qcc, 0, none⟩) 2 2) [1, 0] := Bytes.block (l := [1, 0]) hp_qcc rfl (by simp)
  refine WO.step rfl (OR.buildSlice (vs := [B 0, B 0, B 0]) hs T37.und T5 rfl rfl rfl rfl (by simp) ?_)
  clear hs; intro qcp w hqcp hs
  refine WO.step rfl (OR.buildAll T39 rfl rfl PL39 rfl rfl ?_)
  obtain ⟨H, hle1, hp_qcp, hs9⟩ := hs.pub1 hqcp; clear hs; have hs := hs9; clear hs9; replace hle := hle.trans hle1; (try replace hlb := hlb.trans hle1)
  replace hrc3 := hrc3.mono hle1
  have hrp3 : Bytes H (.slice (some ⟨qcp, 0, none⟩) 3 3) [0, 0, 0] := Bytes.block (l := [0, 0, 0]) hp_qcp rfl (by simp)
  refine WO.step rfl (OR.callX (Mx := relMem true awB rb wb l2) (Mr := ([] : Mem)) (HS.mtail (A := ([] : Mem)) hs) body12 rfl rfl (rtake_ok' rb wb 1 _ _ awB l2 ([1, 0], [0, 0, 0]) _ _ (HS.relRW (Mr := ([] : Mem)) (HS.mtail (A := ([] : Mem)) hs)) (hx2.mono hlb) hokB (by omega) hrc3 hrp3) rfl (relMem_flags _ _ _ _) ?_)
  clear hs; rintro v H M w hs hle1 hnew ⟨rfl, l3, rfl, hx3⟩
  replace hs := HS.mtail (A := relMem true _ rb wb l3) (B := ([] : Mem)) hs
  replace hle := hle.trans hle1
  have hlb := Hp.le.refl H
  refine WO.done (WX.seq (WC.seq (WC.region ?_)))
  have hgC := awC_g
  refine WO.step rfl (OR.callX (Mx := []) (Mr := relMem true awC rb wb l3) hs body7 rfl rfl (knew_ok 2 3 0 _ _ hs.toSub) rfl rfl ?_)
  clear hs; rintro v H M w hs hle1 hnew hres
  replace hres : if (1 ≤ 2 ∧ 2 ≤ 255 ∧ 1 ≤ 3 ∧ 3 ≤ 65535 ∧ 4 < 2 * 3) ∧ 0 ≤ 1099511627776 then ∃ kb, v = .tuple #[ptr kb, .int .i64 0] ∧ M = [(kb, sinkObj ⟨2, 3, 0, 0, false, false⟩, true)] else v = .tuple #[.pointer none, .int .i64 1] ∧ M = [] := hres
  rw [if_pos (by decide)] at hres
  obtain ⟨kb, rfl, rfl⟩ := hres
  replace hle := hle.trans hle1
  replace hlb := hlb.trans hle1
  rw [show (⟨2, 3, 0, 0, false, false⟩ : SinkD) = skD awC 0 false false 0 by rw [skD, hgC.1, hgC.2]] at hs
  refine WO.step rfl (OR.move rfl (WO.step rfl (OR.extract rfl rfl (WO.step rfl (OR.extract rfl rfl (WO.step rfl (OR.assign rfl ?_)))))))
  refine WO.step rfl (OR.assign rfl (WO.done (WX.seq (WC.seq (WC.seq (WC.region (WO.step rfl ?_)))))))
  refine OR.move rfl (WO.step rfl (OR.neq rfl rfl (WO.done (WX.seq ?_))))
  refine WC.no rfl (decide_eq_false (by decide)) ?_
  refine WC.skip (WX.seq (WC.seq (WC.region (WO.step rfl (OR.move rfl (WO.step rfl (OR.move rfl ?_)))))))
  refine WO.step rfl (OR.callX (Mx := [(kb, _, true)]) (Mr := relMem true awC rb wb l3) hs body9 rfl rfl (krel_ok kb rb wb 0 0 false awC l3 _ _ (HS.relKB (A := ([] : Mem)) hs) (hx3.mono hlb) hokC (by rw [hgC.1, hgC.2]; decide) (by decide)) rfl rfl ?_)
  clear hs; rintro v H M w hs hle1 hnew ⟨n, r, e, br, rfl, hr, hgood, hdn, rfl, hend⟩
  replace hle := hle.trans hle1
  replace hlb := hlb.trans hle1
  obtain ⟨rfl, rfl, rfl⟩ := rel_stop (m := 1) hgood hend (good1 awC_0.1 awC_0.2.1) (by decide) awC_0.2.2.2
  rw [show rdyL awC 0 1 = [[97]] by rw [← awC_0.2.2.1]; rfl] at hr
  have hlc := Hp.le.refl H
  refine WO.step rfl (OR.move rfl (WO.step rfl (OR.extract rfl rfl (WO.step rfl (OR.extract rfl rfl (WO.step rfl (OR.assign rfl ?_)))))))
  refine WO.step rfl (OR.assign rfl (WO.done (WX.seq (WC.seq (WC.region (WO.step rfl (OR.move rfl ?_)))))))
  refine WO.step rfl (OR.move rfl ?_)
  refine WO.step rfl (OR.callX (Mx := [(kb, _, true)]) (Mr := relMem true awC rb wb l3) hs body9 rfl rfl (krel_ok kb rb wb (0 + 1) 0 false awC l3 _ _ (HS.relKB (A := ([] : Mem)) hs) (hx3.mono hlb) hokC (by rw [hgC.1, hgC.2]; decide) (by decide)) rfl rfl ?_)
  clear hs; rintro v H M w hs hle1 hnew ⟨n, r2, e, br, rfl, hr2, hgood2, hdn2, rfl, hend2⟩
  replace hle := hle.trans hle1
  replace hlc := hlc.trans hle1
  obtain ⟨rfl, rfl, rfl⟩ := rel_stop (m := 0) hgood2 hend2 (fun i hi => by omega) (by decide) awC_0.2.2.2
  obtain ⟨b2, c2, rfl⟩ := hr2.form
  refine WO.step rfl (OR.move rfl (WO.step rfl (OR.extract rfl rfl (WO.step rfl (OR.extract rfl rfl (WO.step rfl (OR.assign rfl ?_)))))))
  refine WO.step rfl (OR.assign rfl (WO.done (WX.seq (WC.seq (WC.region (WO.step rfl (OR.move rfl ?_)))))))
  refine WO.step rfl (OR.eql rfl rfl (WO.step rfl (OR.move rfl ?_)))
  refine WO.guardYes rfl rfl rfl rfl (OR.move rfl ?_)
  refine WO.guardYes rfl rfl rfl rfl (OR.buildSlice (vs := [B 97]) hs T37.und T5 rfl rfl rfl rfl (by simp) ?_)
  clear hs; intro qe w hqe hs
  refine WO.guardYes rfl rfl rfl rfl (OR.convText hs T37.und T5.und rfl ?_)
  clear hs; intro w hs
  obtain ⟨H, hle1, hp_qe, hs9⟩ := hs.pub1 hqe; clear hs; have hs := hs9; clear hs9; replace hle := hle.trans hle1; (try replace hlb := hlb.trans hle1)
  have he97 : Bytes H (.slice (some ⟨qe, 0, none⟩) 1 1) [97] := Bytes.block (l := [97]) (cap := 1) hp_qe rfl (by simp)
  replace hlc := hlc.trans hle1
  refine WO.guardYes rfl rfl rfl rfl (OR.buildSlice (vs := [_]) hs T31.und T37 rfl rfl rfl rfl (by simp) ?_)
  clear hs; intro qf w hqf hs
  obtain ⟨H, hle1, hp_qf, hs9⟩ := hs.pub1 hqf; clear hs; have hs := hs9; clear hs9; replace hle := hle.trans hle1; (try replace hlb := hlb.trans hle1)
  have hf97 : BytesL H (.slice (some ⟨qf, 0, none⟩) 1 1) [[97]] := BytesL.single (Sl.block hp_qf rfl rfl (by simp)) (he97.mono hle1)
  replace hlc := hlc.trans hle1
  refine WO.guardYes rfl rfl rfl rfl (OR.call hs body29 rfl rfl (same05_ok _ _ [[97]] [[97]] _ _ hs.toSub (hr.mono hlc) hf97 rfl (by decide)) ?_)
  clear hs; rintro _ H w hs hle1 rfl; replace hle := hle.trans hle1; (try replace hlb := hlb.trans hle1)
  refine WO.step rfl (OR.pickT rfl rfl rfl (WO.step rfl (OR.move rfl ?_)))
  refine WO.guardYes rfl rfl rfl rfl (OR.move rfl (WO.guardYes rfl rfl rfl rfl (OR.eql rfl rfl (WO.step rfl (OR.pickT rfl rfl rfl (WO.step rfl (OR.move rfl ?_)))))))
  refine WO.guardYes rfl rfl rfl rfl (OR.move rfl (WO.guardYes rfl rfl rfl rfl (OR.lenSlice T31.und rfl (WO.guardYes rfl rfl rfl rfl (OR.eql rfl rfl (WO.step rfl (OR.pickT rfl rfl rfl ?_)))))))
  refine WO.step rfl (OR.move rfl ?_)
  refine WO.guardYes rfl rfl rfl rfl (OR.move rfl ?_)
  refine WO.guardYes rfl rfl rfl rfl (OR.call hs body15 rfl rfl (kdel_ok kb (skD awC 0 false false (0 + 1 + 0)) _ _ hs.toSub (hs.blk (i := 0) rfl) (hs.nh (i := 0) rfl)) ?_)
  clear hs; rintro _ H w hs hle1 rfl; replace hle := hle.trans hle1; (try replace hlb := hlb.trans hle1)
  refine WO.guardYes rfl rfl rfl rfl (OR.eql rfl rfl (WO.step rfl (OR.pickT rfl rfl rfl (WO.step rfl (OR.assign rfl (WO.done (WX.seq ?_)))))))
  refine WC.ret ?_
  refine WX.ret1 rfl rfl ?_
  exact .mk (hs.sublist (List.nil_sublist _)) rfl
end Go.Bw
namespace Go.Bw
set_option linter.unusedVariables false
set_option linter.unusedSimpArgs false
open Go.Proofs

theorem knew_yes {g s dl : Nat} {v : Value} {M : Mem} (h : (1 ≤ g ∧ g ≤ 255 ∧ 1 ≤ s ∧ s ≤ 65535 ∧ 4 < g * s) ∧ dl ≤ 1099511627776) (hr : if (1 ≤ g ∧ g ≤ 255 ∧ 1 ≤ s ∧ s ≤ 65535 ∧ 4 < g * s) ∧ dl ≤ 1099511627776 then ∃ kb, v = .tuple #[ptr kb, .int .i64 0] ∧ M = [(kb, sinkObj ⟨g, s, dl, 0, false, false⟩, true)] else v = .tuple #[.pointer none, .int .i64 1] ∧ M = []) :
    ∃ kb, v = .tuple #[ptr kb, .int .i64 0] ∧ M = [(kb, sinkObj ⟨g, s, dl, 0, false, false⟩, true)] := by rwa [if_pos h] at hr
theorem knew_no {g s dl : Nat} {v : Value} {M : Mem} (h : ¬ ((1 ≤ g ∧ g ≤ 255 ∧ 1 ≤ s ∧ s ≤ 65535 ∧ 4 < g * s) ∧ dl ≤ 1099511627776)) (hr : if (1 ≤ g ∧ g ≤ 255 ∧ 1 ≤ s ∧ s ≤ 65535 ∧ 4 < g * s) ∧ dl ≤ 1099511627776 then ∃ kb, v = .tuple #[ptr kb, .int .i64 0] ∧ M = [(kb, sinkObj ⟨g, s, dl, 0, false, false⟩, true)] else v = .tuple #[.pointer none, .int .i64 1] ∧ M = []) :
    v = .tuple #[.pointer none, .int .i64 1] ∧ M = [] := by rwa [if_neg h] at hr
theorem SinkD.total_eq {x : SinkD} {n : Nat} (h : x.totE n = 0) : x.total n = { x with tot := n, kn := true } := if_pos h
theorem SinkD.total_ne {x : SinkD} {n : Nat} (h : x.totE n ≠ 0) : x.total n = x := if_neg h
def skA : RelD := (newR 1 5 2).take 0 ([1], [0, 0, 0, 1, 120])
def skB : RelD := skA.take 1 ([1], [0, 0, 0, 2, 120])
theorem skB_f : skB.solE 0 = 0 ∧ rdyE skB 0 = 0 ∧ rdyF skB 0 = [120] ∧ skB.solE 1 = 0 ∧ rdyE skB 1 ≠ 0 := by decide +kernel
theorem skB_g : skB.g = 1 ∧ skB.s = 5 := by decide +kernel
set_option maxRecDepth 20000 in
set_option maxHeartbeats 2000000 in
theorem known15_ok (H0 : Hp) (w0 : World) (h0 : Sub H0 w0) :
    Calls Try.prog 3 #[] w0 (Pure H0 w0 fun v _ => v = .bool true) := by
  have hs := HS.init h0
  have hle := Hp.le.refl H0
  have hlb := Hp.le.refl H0
  have hokR := newR_ok (g := 1) (s := 5) (width := 2) (by omega) (by omega)
  have hokA : RelOk skA := hokR.take _ _
  have hokB : RelOk skB := hokA.take _ _
  have hgB := skB_g
  refine Calls.enter (args := []) Try.func3 rfl Try.ntmps3 rfl ?_
  refine WC.seq (WC.region (WO.step rfl (OR.assign rfl (WO.done (WX.seq (WC.seq (WC.seq ?_)))))))
  refine WC.region (WO.step rfl (OR.move rfl ?_))
  refine WO.guardYes rfl rfl rfl rfl (OR.call hs body6 rfl rfl (kawake_ok _ _ hs.toSub) ?_)
  clear hs; rintro _ H w hs hle1 rfl; replace hle := hle.trans hle1; (try replace hlb := hlb.trans hle1)
  refine WO.guardYes rfl rfl rfl rfl (OR.not rfl (WO.step rfl (OR.pickF rfl rfl rfl (WO.done (WX.seq ?_)))))
  refine WC.no rfl rfl ?_
  refine WC.skip (WX.seq (WC.seq (WC.region ?_)))
  refine WO.step rfl (OR.callX (Mx := []) (Mr := []) hs body7 rfl rfl (knew_ok 1 4 0 _ _ hs.toSub) rfl rfl ?_)
  clear hs; rintro v H M w hs hle1 hnew hres
  replace hle := hle.trans hle1
  obtain ⟨rfl, rfl⟩ := knew_no (g := 1) (s := 4) (dl := 0) (by decide) hres
  replace hs : HS [] H0 w0 H [] w := hs
  refine WO.step rfl (OR.move rfl (WO.step rfl (OR.extract rfl rfl (WO.step rfl (OR.extract rfl rfl (WO.step rfl (OR.assign rfl ?_)))))))
  refine WO.step rfl (OR.assign rfl (WO.done (WX.seq (WC.seq (WC.region ?_)))))
  refine WO.step rfl (OR.callX (Mx := []) (Mr := []) hs body7 rfl rfl (knew_ok 2 3 1099511627777 _ _ hs.toSub) rfl rfl ?_)
  clear hs; rintro v H M w hs hle1 hnew hres
  replace hle := hle.trans hle1
  obtain ⟨rfl, rfl⟩ := knew_no (g := 2) (s := 3) (dl := 1099511627777) (by decide) hres
  replace hs : HS [] H0 w0 H [] w := hs
  refine WO.step rfl (OR.move rfl (WO.step rfl (OR.extract rfl rfl (WO.step rfl (OR.extract rfl rfl (WO.step rfl (OR.assign rfl ?_)))))))
  refine WO.step rfl (OR.assign rfl (WO.done (WX.seq (WC.seq (WC.region ?_)))))
  refine WO.step rfl (OR.callX (Mx := []) (Mr := []) hs body7 rfl rfl (knew_ok 1 5 1099511627776 _ _ hs.toSub) rfl rfl ?_)
  clear hs; rintro v H M w hs hle1 hnew hres
  replace hle := hle.trans hle1
  obtain ⟨kb, rfl, rfl⟩ := knew_yes (g := 1) (s := 5) (dl := 1099511627776) (by decide) hres
  replace hs : HS [] H0 w0 H [(kb, sinkObj ⟨1, 5, 1099511627776, 0, false, false⟩, true)] w := hs
  refine WO.step rfl (OR.move rfl (WO.step rfl (OR.extract rfl rfl (WO.step rfl (OR.extract rfl rfl (WO.step rfl (OR.assign rfl ?_)))))))
  refine WO.step rfl (OR.assign rfl (WO.done (WX.seq (WC.seq (WC.region ?_)))))
  refine WO.step rfl (OR.callX (Mx := []) (Mr := [(kb, sinkObj ⟨1, 5, 1099511627776, 0, false, false⟩, true)]) hs body8 rfl rfl (rnew_ok 1 5 2 _ _ hs.toSub (by omega) (by omega)) rfl rfl ?_)
  clear hs; rintro v H M w hs hle1 hnew ⟨hH, rb, wb, rfl, rfl⟩
  replace hle := hle.trans hle1
  replace hs := HS.mtail (A := relMem true (newR 1 5 2) rb wb (List.replicate 16 none)) (B := [_]) hs
  refine WO.step rfl (OR.move rfl (WO.step rfl (OR.extract rfl rfl (WO.step rfl (OR.extract rfl rfl (WO.step rfl (OR.assign rfl ?_)))))))
  refine WO.step rfl (OR.assign rfl (WO.done (WX.seq (WC.seq (WC.region (WO.step rfl (OR.move rfl ?_)))))))
  refine WO.step rfl (OR.move rfl ?_)
  refine WO.step rfl (OR.callX (Mx := [(kb, _, true)]) (Mr := relMem true (newR 1 5 2) rb wb (List.replicate 16 none)) hs body9 rfl rfl (krel_ok kb rb wb 1099511627776 0 false (newR 1 5 2) (List.replicate 16 none) _ _ (HS.relKB (A := ([] : Mem)) hs) (slots_new _ 1 5 2) hokR (by decide) (by decide)) rfl rfl ?_)
  clear hs; rintro v H M w hs hle1 hnew ⟨n, r, e, br, rfl, hr, hgood, hdn, rfl, hend⟩
  replace hle := hle.trans hle1
  obtain ⟨rfl, rfl, rfl⟩ := rel_end hdn hend
  obtain ⟨b9, c9, rfl⟩ := hr.form
  have hlb := Hp.le.refl H
  refine WO.step rfl (OR.move rfl (WO.step rfl (OR.extract rfl rfl (WO.step rfl (OR.extract rfl rfl (WO.step rfl (OR.assign rfl ?_)))))))
  refine WO.step rfl (OR.assign rfl (WO.done (WX.seq (WC.seq (WC.region (WO.step rfl (OR.move rfl ?_)))))))
  refine WO.step rfl (OR.callX (Mx := [(kb, _, true)]) (Mr := relMem true (newR 1 5 2) rb wb (List.replicate 16 none)) hs body10 rfl rfl (ktotal_ok kb 1099511627776 (skD (newR 1 5 2) 0 false false (1099511627776 + 0)) _ _ hs.toSub (hs.blk (i := 0) rfl) (hs.nh (i := 0) rfl) (by decide +kernel)) rfl rfl ?_)
  clear hs; rintro v H M w hs hle1 hnew ⟨rfl, rfl⟩
  replace hle := hle.trans hle1
  replace hlb := hlb.trans hle1
  rw [show SinkD.total (skD (newR 1 5 2) 0 false false (1099511627776 + 0)) 1099511627776 = ⟨1, 5, 1099511627776, 1099511627776, true, false⟩ from (SinkD.total_eq (by decide +kernel)).trans rfl] at hs
  rw [show SinkD.totE (skD (newR 1 5 2) 0 false false (1099511627776 + 0)) 1099511627776 = 0 by decide +kernel]
  refine WO.step rfl (OR.move rfl ?_)
  refine WO.step rfl (OR.call hs body11 rfl rfl (kdone_ok kb _ _ _ hs.toSub (hs.blk (i := 0) rfl) (hs.nh (i := 0) rfl)) ?_)
  clear hs; rintro v9 H w hs hle1 hv
  replace hle := hle.trans hle1
  replace hv : v9 = .bool true := hv
  subst hv
  replace hs : HS [] H0 w0 H (relMem true (newR 1 5 2) rb wb (List.replicate 16 none)) w := hs.drop 0
  refine WO.step rfl (OR.assign rfl (WO.step rfl (OR.assign rfl (WO.done (WX.seq (WC.seq (WC.region ?_)))))))
  refine WO.step rfl (OR.callX (Mx := []) (Mr := relMem true (newR 1 5 2) rb wb (List.replicate 16 none)) hs body7 rfl rfl (knew_ok 1 5 0 _ _ hs.toSub) rfl rfl ?_)
  clear hs; rintro v H M w hs hle1 hnew hres
  replace hle := hle.trans hle1
  obtain ⟨mb, rfl, rfl⟩ := knew_yes (g := 1) (s := 5) (dl := 0) (by decide) hres
  replace hs : HS [] H0 w0 H ([(mb, sinkObj ⟨1, 5, 0, 0, false, false⟩, true)] ++ relMem true (newR 1 5 2) rb wb (List.replicate 16 none)) w := hs
  refine WO.step rfl (OR.move rfl (WO.step rfl (OR.extract rfl rfl (WO.step rfl (OR.extract rfl rfl (WO.step rfl (OR.assign rfl ?_)))))))
  refine WO.step rfl (OR.assign rfl (WO.done (WX.seq (WC.seq (WC.region (WO.step rfl (OR.move rfl ?_)))))))
  refine WO.step rfl (OR.buildSlice (vs := [B 1]) hs T37.und T5 rfl rfl rfl rfl (by simp) ?_)
  clear hs; intro qac w hqac hs
  obtain ⟨H, hle1, hp_qac, hs9⟩ := hs.pub1 hqac; clear hs; have hs := hs9; clear hs9; replace hle := hle.trans hle1; (try replace hlb := hlb.trans hle1)
  have hrc1 : Bytes H (.slice (some ⟨qac, 0, none⟩) 1 1) [1] := Bytes.block (l := [1]) hp_qac rfl (by simp)
  refine WO.step rfl (OR.buildSlice (vs := [B 0, B 0, B 0, B 1, B 120]) hs T37.und T5 rfl rfl rfl rfl (by simp) ?_)
  clear hs; intro qap w hqap hs
  refine WO.step rfl (OR.buildAll T39 rfl rfl PL39 rfl rfl ?_)
  obtain ⟨H, hle1, hp_qap, hs9⟩ := hs.pub1 hqap; clear hs; have hs := hs9; clear hs9; replace hle := hle.trans hle1; (try replace hlb := hlb.trans hle1)
  replace hrc1 := hrc1.mono hle1
  have hrp1 : Bytes H (.slice (some ⟨qap, 0, none⟩) 5 5) [0, 0, 0, 1, 120] := Bytes.block (l := [0, 0, 0, 1, 120]) hp_qap rfl (by simp)
  refine WO.step rfl (OR.callX (Mx := relMem true (newR 1 5 2) rb wb (List.replicate 16 none)) (Mr := [(mb, sinkObj ⟨1, 5, 0, 0, false, false⟩, true)]) (HS.mtail (A := [(mb, sinkObj ⟨1, 5, 0, 0, false, false⟩, true)]) hs) body12 rfl rfl (rtake_ok' rb wb 0 _ _ (newR 1 5 2) (List.replicate 16 none) ([1], [0, 0, 0, 1, 120]) _ _ (HS.relRW (Mr := [(mb, sinkObj ⟨1, 5, 0, 0, false, false⟩, true)]) (HS.mtail (A := [(mb, sinkObj ⟨1, 5, 0, 0, false, false⟩, true)]) hs)) (slots_new _ 1 5 2) hokR (by omega) hrc1 hrp1) rfl (relMem_flags _ _ _ _) ?_)
  clear hs; rintro v H M w hs hle1 hnew ⟨rfl, l1, rfl, hx1⟩
  replace hs := HS.mtail (A := relMem true _ rb wb l1) (B := [(mb, sinkObj ⟨1, 5, 0, 0, false, false⟩, true)]) hs
  replace hle := hle.trans hle1
  have hlb := Hp.le.refl H
  refine WO.done (WX.seq (WC.seq (WC.region (WO.step rfl (OR.move rfl ?_)))))
  refine WO.step rfl (OR.buildSlice (vs := [B 1]) hs T37.und T5 rfl rfl rfl rfl (by simp) ?_)
  clear hs; intro qbc w hqbc hs
  obtain ⟨H, hle1, hp_qbc, hs9⟩ := hs.pub1 hqbc; clear hs; have hs := hs9; clear hs9; replace hle := hle.trans hle1; (try replace hlb := hlb.trans hle1)
  have hrc2 : Bytes H (.slice (some ⟨qbc, 0, none⟩) 1 1) [1] := Bytes.block (l := [1]) hp_qbc rfl (by simp)
  refine WO.step rfl (OR.buildSlice (vs := [B 0, B 0, B 0, B 2, B 120]) hs T37.und T5 rfl rfl rfl rfl (by simp) ?_)
  clear hs; intro qbp w hqbp hs
  refine WO.step rfl (OR.buildAll T39 rfl rfl PL39 rfl rfl ?_)
  obtain ⟨H, hle1, hp_qbp, hs9⟩ := hs.pub1 hqbp; clear hs; have hs := hs9; clear hs9; replace hle := hle.trans hle1; (try replace hlb := hlb.trans hle1)
  replace hrc2 := hrc2.mono hle1
  have hrp2 : Bytes H (.slice (some ⟨qbp, 0, none⟩) 5 5) [0, 0, 0, 2, 120] := Bytes.block (l := [0, 0, 0, 2, 120]) hp_qbp rfl (by simp)
  refine WO.step rfl (OR.callX (Mx := relMem true skA rb wb l1) (Mr := [(mb, sinkObj ⟨1, 5, 0, 0, false, false⟩, true)]) (HS.mtail (A := [(mb, sinkObj ⟨1, 5, 0, 0, false, false⟩, true)]) hs) body12 rfl rfl (rtake_ok' rb wb 1 _ _ skA l1 ([1], [0, 0, 0, 2, 120]) _ _ (HS.relRW (Mr := [(mb, sinkObj ⟨1, 5, 0, 0, false, false⟩, true)]) (HS.mtail (A := [(mb, sinkObj ⟨1, 5, 0, 0, false, false⟩, true)]) hs)) (hx1.mono hlb) hokA (by omega) hrc2 hrp2) rfl (relMem_flags _ _ _ _) ?_)
  clear hs; rintro v H M w hs hle1 hnew ⟨rfl, l2, rfl, hx2⟩
  replace hs := HS.mtail (A := relMem true _ rb wb l2) (B := [(mb, sinkObj ⟨1, 5, 0, 0, false, false⟩, true)]) hs
  replace hle := hle.trans hle1
  have hlb := Hp.le.refl H
  replace hs : HS [] H0 w0 H ((mb, sinkObj ⟨1, 5, 0, 0, false, false⟩, true) :: relMem true skB rb wb l2) w := hs
  rw [show (⟨1, 5, 0, 0, false, false⟩ : SinkD) = skD skB 0 false false 0 by rw [skD, hgB.1, hgB.2]] at hs
  refine WO.done (WX.seq (WC.seq (WC.region (WO.step rfl (OR.move rfl (WO.step rfl (OR.move rfl ?_)))))))
  refine WO.step rfl (OR.callX (Mx := [(mb, _, true)]) (Mr := relMem true skB rb wb l2) hs body9 rfl rfl (krel_ok mb rb wb 0 0 false skB l2 _ _ (HS.relKB (A := ([] : Mem)) hs) (hx2.mono hlb) hokB (by rw [hgB.1, hgB.2]; decide) (by decide)) rfl rfl ?_)
  clear hs; rintro v H M w hs hle1 hnew ⟨n, r, e, br, rfl, hr, hgood, hdn, rfl, hend⟩
  replace hle := hle.trans hle1
  obtain ⟨rfl, rfl, rfl⟩ := rel_bad (m := 1) hgood hend (good1 skB_f.1 skB_f.2.1) (by decide) skB_f.2.2.2.1 skB_f.2.2.2.2
  rw [show rdyL skB 0 1 = [[120]] by rw [← skB_f.2.2.1]; rfl] at hr
  rw [show skD skB 0 false true (0 + 1) = ⟨1, 5, 1, 0, false, true⟩ by rw [skD, hgB.1, hgB.2]] at hs
  have hlb := Hp.le.refl H
  have hlc := Hp.le.refl H
  obtain ⟨b8, c8, hr8⟩ := hr.form
  subst hr8
  replace hs : HS [] H0 w0 H ((mb, sinkObj ⟨1, 5, 1, 0, false, true⟩, true) :: relMem true skB rb wb l2) w := hs
  refine WO.step rfl (OR.move rfl (WO.step rfl (OR.extract rfl rfl (WO.step rfl (OR.extract rfl rfl (WO.step rfl (OR.assign rfl ?_)))))))
  refine WO.step rfl (OR.assign rfl (WO.done (WX.seq (WC.seq (WC.region (WO.step rfl (OR.move rfl ?_)))))))
  refine WO.step rfl (OR.call hs body13 rfl rfl (kbroken_ok mb _ _ _ hs.toSub (hs.blk (i := 0) rfl) (hs.nh (i := 0) rfl)) ?_)
  clear hs; rintro v9 H w hs hle1 hv
  replace hle := hle.trans hle1
  replace hlc := hlc.trans hle1
  replace hv : v9 = .bool true := hv
  subst hv
  refine WO.step rfl (OR.assign rfl (WO.done (WX.seq (WC.seq (WC.region (WO.step rfl (OR.move rfl ?_)))))))
  refine WO.step rfl (OR.move rfl ?_)
  refine WO.step rfl (OR.call hs body9 rfl rfl (krel_broken mb rb _ _ _ hs.toSub (hs.blk (i := 0) rfl) (hs.nh (i := 0) rfl) (by decide) rfl) ?_)
  clear hs; rintro _ H w hs hle1 rfl
  replace hle := hle.trans hle1
  replace hlc := hlc.trans hle1
  refine WO.step rfl (OR.move rfl (WO.step rfl (OR.extract rfl rfl (WO.step rfl (OR.extract rfl rfl (WO.step rfl (OR.assign rfl ?_)))))))
  refine WO.step rfl (OR.assign rfl (WO.done (WX.seq (WC.seq (WC.region (WO.step rfl (OR.move rfl ?_)))))))
  refine WO.step rfl (OR.callX (Mx := [(mb, _, true)]) (Mr := relMem true skB rb wb l2) hs body10 rfl rfl (ktotal_ok mb 2 ⟨1, 5, 1, 0, false, true⟩ _ _ hs.toSub (hs.blk (i := 0) rfl) (hs.nh (i := 0) rfl) (by decide +kernel)) rfl rfl ?_)
  clear hs; rintro v H M w hs hle1 hnew ⟨rfl, rfl⟩
  replace hle := hle.trans hle1
  replace hlc := hlc.trans hle1
  rw [show SinkD.total ⟨1, 5, 1, 0, false, true⟩ 2 = ⟨1, 5, 1, 2, true, true⟩ from (SinkD.total_eq (by decide +kernel)).trans rfl] at hs
  rw [show SinkD.totE ⟨1, 5, 1, 0, false, true⟩ 2 = 0 by decide +kernel]
  refine WO.step rfl (OR.move rfl ?_)
  refine WO.step rfl (OR.callX (Mx := [(mb, _, true)]) (Mr := relMem true skB rb wb l2) hs body10 rfl rfl (ktotal_ok mb 3 ⟨1, 5, 1, 2, true, true⟩ _ _ hs.toSub (hs.blk (i := 0) rfl) (hs.nh (i := 0) rfl) (by decide +kernel)) rfl rfl ?_)
  clear hs; rintro v H M w hs hle1 hnew ⟨rfl, rfl⟩
  replace hle := hle.trans hle1
  replace hlc := hlc.trans hle1
  rw [show SinkD.total ⟨1, 5, 1, 2, true, true⟩ 3 = ⟨1, 5, 1, 2, true, true⟩ from (SinkD.total_ne (by decide +kernel)).trans rfl] at hs
  rw [show SinkD.totE ⟨1, 5, 1, 2, true, true⟩ 3 = 9 by decide +kernel]
  refine WO.step rfl (OR.move rfl ?_)
  refine WO.step rfl (OR.callX (Mx := [(mb, _, true)]) (Mr := relMem true skB rb wb l2) hs body10 rfl rfl (ktotal_ok mb 0 ⟨1, 5, 1, 2, true, true⟩ _ _ hs.toSub (hs.blk (i := 0) rfl) (hs.nh (i := 0) rfl) (by decide +kernel)) rfl rfl ?_)
  clear hs; rintro v H M w hs hle1 hnew ⟨rfl, rfl⟩
  replace hle := hle.trans hle1
  replace hlc := hlc.trans hle1
  rw [show SinkD.total ⟨1, 5, 1, 2, true, true⟩ 0 = ⟨1, 5, 1, 2, true, true⟩ from (SinkD.total_ne (by decide +kernel)).trans rfl] at hs
  rw [show SinkD.totE ⟨1, 5, 1, 2, true, true⟩ 0 = 1 by decide +kernel]
  replace hs : HS [] H0 w0 H ((mb, sinkObj ⟨1, 5, 1, 2, true, true⟩, true) :: relMem true skB rb wb l2) w := hs
  refine WO.step rfl (OR.assign rfl (WO.step rfl (OR.assign rfl (WO.step rfl (OR.assign rfl (WO.done (WX.seq ?_)))))))
  refine WC.seq (WC.region (WO.step rfl (OR.move rfl ?_)))
  refine WO.step rfl (OR.call hs body14 rfl rfl (kknown_ok mb _ _ _ hs.toSub (hs.blk (i := 0) rfl) (hs.nh (i := 0) rfl)) ?_)
  clear hs; rintro _ H w hs hle1 rfl
  replace hle := hle.trans hle1
  replace hlc := hlc.trans hle1
  refine WO.step rfl (OR.move rfl (WO.step rfl (OR.extract rfl rfl (WO.step rfl (OR.extract rfl rfl (WO.step rfl (OR.assign rfl ?_)))))))
  refine WO.step rfl (OR.assign rfl (WO.done (WX.seq (WC.seq (WC.region (WO.step rfl (OR.move rfl ?_)))))))
  refine WO.step rfl (OR.call hs body9 rfl rfl (krel_nilr mb _ _ _ hs.toSub (hs.blk (i := 0) rfl) (hs.nh (i := 0) rfl) (by decide)) ?_)
  clear hs; rintro _ H w hs hle1 rfl
  replace hle := hle.trans hle1
  replace hlc := hlc.trans hle1
  refine WO.step rfl (OR.move rfl (WO.step rfl (OR.extract rfl rfl (WO.step rfl (OR.extract rfl rfl (WO.step rfl (OR.assign rfl ?_)))))))
  refine WO.step rfl (OR.assign rfl (WO.done (WX.seq (WC.seq (WC.region (WO.step rfl (OR.assign rfl ?_)))))))
  refine WO.done (WX.seq (WC.seq (WC.region (WO.step rfl (OR.move rfl (WO.step rfl (OR.move rfl ?_)))))))
  refine WO.step rfl (OR.call hs body9 rfl rfl (krel_nil (ptr rb) _ _ hs.toSub) ?_)
  clear hs; rintro _ H w hs hle1 rfl
  replace hle := hle.trans hle1
  replace hlc := hlc.trans hle1
  refine WO.step rfl (OR.move rfl (WO.step rfl (OR.extract rfl rfl (WO.step rfl (OR.extract rfl rfl (WO.step rfl (OR.assign rfl ?_)))))))
  refine WO.step rfl (OR.assign rfl (WO.done (WX.seq (WC.seq (WC.region (WO.step rfl (OR.move rfl ?_)))))))
  refine WO.step rfl (OR.call hs body14 rfl rfl (kknown_nil _ _ hs.toSub) ?_)
  clear hs; rintro _ H w hs hle1 rfl
  replace hle := hle.trans hle1
  replace hlc := hlc.trans hle1
  obtain ⟨ob1, oo1, rfl, hc1⟩ := hr.pos (by decide)
  obtain ⟨e1, he1, hbe1⟩ := hc1 0 (by decide)
  have hbe2 := hbe1.mono hlc
  obtain ⟨b7, c7, hr7⟩ := hbe2.form
  subst hr7
  refine WO.step rfl (OR.move rfl (WO.step rfl (OR.extract rfl rfl (WO.step rfl (OR.extract rfl rfl (WO.step rfl (OR.assign rfl ?_)))))))
  refine WO.step rfl (OR.assign rfl (WO.done (WX.seq (WC.seq (WC.region (WO.step rfl (OR.move rfl ?_)))))))
  refine WO.step rfl (OR.eql rfl rfl (WO.step rfl (OR.move rfl ?_)))
  refine WO.guardYes rfl rfl rfl rfl (OR.move rfl (WO.guardYes rfl rfl rfl rfl (OR.eql rfl rfl (WO.step rfl (OR.pickT rfl rfl rfl (WO.step rfl (OR.move rfl ?_)))))))
  refine WO.guardYes rfl rfl rfl rfl (OR.move rfl (WO.guardYes rfl rfl rfl rfl (OR.eql rfl rfl (WO.step rfl (OR.pickT rfl rfl rfl (WO.step rfl (OR.move rfl ?_)))))))
  refine WO.guardYes rfl rfl rfl rfl (OR.move rfl (WO.guardYes rfl rfl rfl rfl (OR.eql rfl rfl (WO.step rfl (OR.pickT rfl rfl rfl (WO.step rfl (OR.move rfl ?_)))))))
  refine WO.guardYes rfl rfl rfl rfl (OR.move rfl (WO.guardYes rfl rfl rfl rfl (OR.lenSlice T31.und rfl (WO.guardYes rfl rfl rfl rfl (OR.eql rfl rfl (WO.step rfl (OR.pickT rfl rfl rfl ?_)))))))
  refine WO.step rfl (OR.move rfl (WO.guardYes rfl rfl rfl rfl (OR.move rfl (WO.guardYes rfl rfl rfl rfl (OR.eql rfl rfl (WO.step rfl (OR.pickT rfl rfl rfl ?_)))))))
  refine WO.step rfl (OR.move rfl (WO.guardYes rfl rfl rfl rfl (OR.move rfl (WO.step rfl (OR.pickT rfl rfl rfl (WO.step rfl (OR.move rfl ?_)))))))
  refine WO.guardYes rfl rfl rfl rfl (OR.move rfl (WO.guardYes rfl rfl rfl rfl (OR.lenSlice T31.und rfl (WO.guardYes rfl rfl rfl rfl (OR.eql rfl rfl (WO.step rfl (OR.pickT rfl rfl rfl ?_)))))))
  refine WO.step rfl (OR.move rfl (WO.guardYes rfl rfl rfl rfl (OR.move rfl ?_)))
  refine WO.guardYes rfl rfl rfl rfl (OR.idxN 0 T31.und T37 rfl rfl rfl (by decide) ?_)
  refine WO.guardYes rfl rfl rfl rfl (OR.load T37 rfl rfl (hs.cell (hcell.mono hlc he1)) ?_)
  refine WO.guardYes rfl rfl rfl rfl (OR.toStr hs T37.und T9.und T5.und rfl hbe2 ?_)
  refine WO.guardYes rfl rfl rfl rfl (OR.eqlStr rfl rfl (WO.step rfl (OR.pickT rfl rfl rfl (WO.step rfl (OR.move rfl (WO.guardYes rfl rfl rfl rfl (OR.move rfl ?_)))))))
  refine WO.guardYes rfl rfl rfl rfl (OR.eql rfl rfl (WO.step rfl (OR.pickT rfl rfl rfl (WO.step rfl (OR.move rfl (WO.guardYes rfl rfl rfl rfl (OR.move rfl ?_)))))))
  refine WO.step rfl (OR.pickT rfl rfl rfl (WO.step rfl (OR.move rfl (WO.guardYes rfl rfl rfl rfl (OR.move rfl (WO.guardYes rfl rfl rfl rfl (OR.eql rfl rfl ?_)))))))
  refine WO.step rfl (OR.pickT rfl rfl rfl (WO.step rfl (OR.move rfl (WO.guardYes rfl rfl rfl rfl (OR.move rfl (WO.guardYes rfl rfl rfl rfl (OR.eql rfl rfl ?_)))))))
  refine WO.step rfl (OR.pickT rfl rfl rfl (WO.step rfl (OR.move rfl (WO.guardYes rfl rfl rfl rfl (OR.move rfl (WO.guardYes rfl rfl rfl rfl (OR.eql rfl rfl ?_)))))))
  refine WO.step rfl (OR.pickT rfl rfl rfl (WO.step rfl (OR.move rfl (WO.guardYes rfl rfl rfl rfl (OR.move rfl (WO.guardYes rfl rfl rfl rfl (OR.eql rfl rfl ?_)))))))
  refine WO.step rfl (OR.pickT rfl rfl rfl (WO.step rfl (OR.move rfl (WO.guardYes rfl rfl rfl rfl (OR.move rfl (WO.guardYes rfl rfl rfl rfl (OR.eql rfl rfl ?_)))))))
  refine WO.step rfl (OR.pickT rfl rfl rfl (WO.step rfl (OR.move rfl (WO.guardYes rfl rfl rfl rfl (OR.move rfl (WO.step rfl (OR.pickT rfl rfl rfl ?_)))))))
  refine WO.step rfl (OR.move rfl (WO.guardYes rfl rfl rfl rfl (OR.move rfl ?_)))
  refine WO.guardYes rfl rfl rfl rfl (OR.call hs body15 rfl rfl (kdel_ok mb _ _ _ hs.toSub (hs.blk (i := 0) rfl) (hs.nh (i := 0) rfl)) ?_)
  clear hs; rintro _ H w hs hle1 rfl; replace hle := hle.trans hle1; (try replace hlb := hlb.trans hle1)
  refine WO.guardYes rfl rfl rfl rfl (OR.eql rfl rfl (WO.step rfl (OR.pickT rfl rfl rfl (WO.step rfl (OR.move rfl (WO.guardYes rfl rfl rfl rfl (OR.move rfl ?_)))))))
  refine WO.guardYes rfl rfl rfl rfl (OR.eql rfl rfl (WO.step rfl (OR.pickT rfl rfl rfl (WO.step rfl (OR.move rfl (WO.guardYes rfl rfl rfl rfl (OR.move rfl ?_)))))))
  refine WO.guardYes rfl rfl rfl rfl (OR.eql rfl rfl (WO.step rfl (OR.pickT rfl rfl rfl (WO.step rfl (OR.move rfl (WO.guardYes rfl rfl rfl rfl (OR.move rfl ?_)))))))
  refine WO.guardYes rfl rfl rfl rfl (OR.not rfl (WO.step rfl (OR.pickT rfl rfl rfl (WO.step rfl (OR.move rfl (WO.guardYes rfl rfl rfl rfl (OR.move rfl ?_)))))))
  refine WO.guardYes rfl rfl rfl rfl (OR.call hs body10 rfl rfl (ktotal_nil 0 _ _ hs.toSub) ?_)
  clear hs; rintro _ H w hs hle1 rfl; replace hle := hle.trans hle1; (try replace hlb := hlb.trans hle1)
  refine WO.guardYes rfl rfl rfl rfl (OR.eql rfl rfl (WO.step rfl (OR.pickT rfl rfl rfl (WO.step rfl (OR.move rfl (WO.guardYes rfl rfl rfl rfl (OR.move rfl ?_)))))))
  refine WO.guardYes rfl rfl rfl rfl (OR.call hs body15 rfl rfl (kdel_nil _ _ hs.toSub) ?_)
  clear hs; rintro _ H w hs hle1 rfl; replace hle := hle.trans hle1; (try replace hlb := hlb.trans hle1)
  refine WO.guardYes rfl rfl rfl rfl (OR.eql rfl rfl (WO.step rfl (OR.pickT rfl rfl rfl (WO.step rfl (OR.move rfl (WO.guardYes rfl rfl rfl rfl (OR.move rfl ?_)))))))
  refine WO.guardYes rfl rfl rfl rfl (OR.call hs body11 rfl rfl (kdone_nil _ _ hs.toSub) ?_)
  clear hs; rintro _ H w hs hle1 rfl; replace hle := hle.trans hle1; (try replace hlb := hlb.trans hle1)
  refine WO.guardYes rfl rfl rfl rfl (OR.not rfl (WO.step rfl (OR.pickT rfl rfl rfl (WO.step rfl (OR.move rfl (WO.guardYes rfl rfl rfl rfl (OR.move rfl ?_)))))))
  refine WO.guardYes rfl rfl rfl rfl (OR.call hs body13 rfl rfl (kbroken_nil _ _ hs.toSub) ?_)
  clear hs; rintro _ H w hs hle1 rfl; replace hle := hle.trans hle1; (try replace hlb := hlb.trans hle1)
  refine WO.guardYes rfl rfl rfl rfl (OR.not rfl (WO.step rfl (OR.pickT rfl rfl rfl (WO.step rfl (OR.assign rfl (WO.done (WX.seq ?_)))))))
  refine WC.ret ?_
  refine WX.ret1 rfl rfl ?_
  exact .mk (hs.sublist (List.nil_sublist _)) rfl
end Go.Bw
