/- What law_FlowTrue needs: laid out of own texts. No condition. -/
import Derived.Test.YtdibepkfgemddaaGreatKFlowTrue7
namespace Go.Bw
set_option linter.unusedVariables false
set_option linter.unusedSimpArgs false
open Go.Proofs
def ftC (G S W : UInt8) (vf vs : Value) : CfgD := ⟨3, soG G, soS S, 1 + W.toNat % 8, 1, [2], vf, vs⟩
theorem ftC_ok (G S W : UInt8) (vf vs : Value) : CfgOk (ftC G S W vf vs) := by
  obtain ⟨n1, n2, n3, n4, n5⟩ := so_good G S
  have h8 := Nat.mod_lt W.toNat (by omega : 0 < 8)
  refine ⟨⟨by show 1 ≤ 3; omega, by show 3 ≤ 64; omega⟩, ⟨by show 1 ≤ soG G; omega, by show soG G ≤ 255; omega, by show 1 ≤ soS S; omega, by show soS S ≤ 65535; omega, by show 4 < soG G * soS S; exact_mod_cast n5⟩, ⟨by show 1 ≤ 1 + W.toNat % 8; omega, by show 1 + W.toNat % 8 ≤ 16; omega⟩, ⟨by show 1 ≤ 1; omega, by show 1 ≤ 64; omega⟩, ⟨by show 1 ≤ 1; omega, by show 1 ≤ 8; omega⟩, ?_, ?_⟩
  · intro i h
    have : i = 0 := by have h' : i < 1 := h; omega
    subst this
    exact ⟨by show (1 : Int) ≤ 2; omega, by show (2 : Int) ≤ 3 - 1; omega⟩
  · intro i h hi
    have h' : i < 1 := h
    omega
theorem Bytes.cutL {H : Hp} {base : Option Addr} {n cap k : Nat} {l : List UInt8} (h : Bytes H (.slice base n cap) l) (hk : k ≤ l.length) : Bytes H (.slice base k cap) (l.take k) := by
  obtain ⟨hl, b', c', he, hn, hb0, hc⟩ := h
  cases he
  have e : (l.take k).length = k := by rw [List.length_take]; omega
  refine ⟨by simp, base, cap, by rw [e], by omega, fun e2 => ?_, fun a ha => ⟨fun hp => ?_, fun i u hi => ?_⟩⟩
  · have := hb0 e2
    omega
  · exact (hc a ha).1 (by omega)
  · rw [List.map_take] at hi
    exact (hc a ha).2 i u (get_take hi)
abbrev ftripV (G S W : UInt8) (vl : Value) : Value := .agg #[B G, B S, B W, vl]
set_option maxHeartbeats 16000000 in
set_option maxRecDepth 20000 in
set_option maxHeartbeats 2000000 in
theorem fltrue_ok (G S W : UInt8) (vl : Value) (len : Nat) (A : Nat → MovD) (V : Nat → Value) (H0 : Hp) (w0 : World) (h0 : Sub H0 w0) (hl : Movs H0 vl len A V) (hlen : len ≤ 9223372036854775807) :
    Calls Tryz.prog 7 #[ftripV G S W vl] w0 (Pure H0 w0 fun v _ => v = .bool true) := by
  have hs := HS.init h0
  have hle := Hp.le.refl H0
  obtain ⟨bl, cl, rfl⟩ := hl.1.form
  refine Calls.enter (args := [ftripV G S W (.slice bl len cl)]) Tryz.func7 rfl Tryz.ntmps7 rfl ?_
  refine WC.seq (WC.region (WO.step rfl (OR.box hs rfl ?_)))
  clear hs; intro g1 w hg1 hs
  refine WO.step rfl (OR.assign rfl (WO.done (WX.seq (WC.seq ?_))))
  refine WC.draw 11 mixed hs (by kernel_rfl) ?_
  refine ⟨MF.eq _, by intro Mx H w hle hs; refine forVals_nil (ORg.plain (OR.fieldAddr FA104_0 rfl ?_)); exact ⟨_, [], Hp.le.refl _, hs, rfl, rfl⟩, ?_⟩
  refine ⟨MF.eq _, by intro Mx H w hle hs; refine forVals_eq rfl rfl rfl ?_; refine forVals_nil (ORg.plain (OR.load T5 rfl rfl (hs.right.cellM (i := 0) rfl rfl) ?_)); exact ⟨_, [], Hp.le.refl _, hs, rfl, rfl⟩, ?_⟩
  refine ⟨MF.eq _, by intro Mx H w hle hs; refine forVals_nil (ORg.plain (OR.fieldAddr FA104_1 rfl ?_)); exact ⟨_, [], Hp.le.refl _, hs, rfl, rfl⟩, ?_⟩
  refine ⟨MF.eq _, by intro Mx H w hle hs; refine forVals_eq rfl rfl rfl ?_; refine forVals_nil (ORg.plain (OR.load T5 rfl rfl (hs.right.cellM (i := 0) rfl rfl) ?_)); exact ⟨_, [], Hp.le.refl _, hs, rfl, rfl⟩, ?_⟩
  refine ⟨MF.eq _, by intro Mx H w hle hs; refine forVals_nil (ORg.plain (OR.fieldAddr FA104_2 rfl ?_)); exact ⟨_, [], Hp.le.refl _, hs, rfl, rfl⟩, ?_⟩
  refine ⟨MF.eq _, by intro Mx H w hle hs; refine forVals_eq rfl rfl rfl ?_; refine forVals_nil (ORg.plain (OR.load T5 rfl rfl (hs.right.cellM (i := 0) rfl rfl) ?_)); exact ⟨_, [], Hp.le.refl _, hs, rfl, rfl⟩, ?_⟩
  refine ⟨MF.eq _, by intro Mx H w hle hs; refine forVals_nil (ORg.plain (OR.fieldAddr FA104_3 rfl ?_)); exact ⟨_, [], Hp.le.refl _, hs, rfl, rfl⟩, ?_⟩
  refine ⟨MF.eq _, by intro Mx H w hle hs; refine forVals_eq rfl rfl rfl ?_; refine forVals_nil (ORg.plain (OR.load T75 rfl rfl (hs.right.cellM (i := 0) rfl rfl) ?_)); exact ⟨_, [], Hp.le.refl _, hs, rfl, rfl⟩, ?_⟩
  refine ⟨MF.eq _, by intro Mx H w hle hs; refine forVals_eq rfl rfl rfl ?_; refine forVals_nil (ORg.plain (OR.assign rfl ?_)); exact ⟨_, [], Hp.le.refl _, hs, rfl, rfl⟩, ?_⟩
  refine ⟨MF.eq _, by intro Mx H w hle hs; refine forVals_eq rfl rfl rfl ?_; refine forVals_nil (ORg.plain (OR.assign rfl ?_)); exact ⟨_, [], Hp.le.refl _, hs, rfl, rfl⟩, ?_⟩
  refine ⟨MF.eq _, by intro Mx H w hle hs; refine forVals_eq rfl rfl rfl ?_; refine forVals_nil (ORg.plain (OR.assign rfl ?_)); exact ⟨_, [], Hp.le.refl _, hs, rfl, rfl⟩, ?_⟩
  intro H w hle2; (try replace hle := hle.trans hle2); (try replace hlb := hlb.trans hle2)
  refine forAllVals_eq rfl ?_
  refine forAllVals_eq rfl ?_
  refine forAllVals_eq rfl ?_
  refine forAllVals_eq rfl ?_
  refine forAllVals_eq rfl ?_
  refine forAllVals_eq rfl ?_
  refine forAllVals_eq rfl ?_
  refine forAllVals_eq rfl ?_
  refine forAllVals_eq rfl ?_
  refine forAllVals_eq rfl ?_
  refine forAllVals_eq rfl ?_
  refine forAllVals_nil ?_; (try clear hs); intro hs
  refine WO.step rfl (OR.assign rfl (WO.done (WX.seq (WC.seq (WC.region (WO.step rfl (OR.move rfl ?_)))))))
  refine WO.step rfl (OR.convB T5.und T3.und rfl ?_)
  refine WO.step rfl (OR.rem rfl rfl (by omega) ?_)
  rw [show ((G.toNat : Int).tmod 6) = ((G.toNat % 6 : Nat) : Int) from rfl]
  refine WO.step rfl (OR.addI rfl rfl (by omega) (by omega) (WO.step rfl (OR.move rfl ?_)))
  refine WO.step rfl (OR.convB T5.und T3.und rfl ?_)
  refine WO.step rfl (OR.rem rfl rfl (by omega) ?_)
  rw [show ((S.toNat : Int).tmod 6) = ((S.toNat % 6 : Nat) : Int) from rfl, show (1 : Int) + ((G.toNat % 6 : Nat) : Int) = (soG G : Int) from rfl]
  refine WO.step rfl (OR.addI rfl rfl (by omega) (by omega) ?_)
  refine WO.step rfl (OR.buildSlice (vs := [.int .i64 2]) hs T76.und T3 rfl rfl rfl rfl (by simp) ?_)
  clear hs; intro q1 w hq1 hs
  rw [show (5 : Int) + ((S.toNat % 6 : Nat) : Int) = (soS S : Int) from rfl]
  refine WO.step rfl (OR.buildAll T78 rfl rfl PL78 rfl rfl ?_)
  obtain ⟨H, hle1, hp_q1, hs9⟩ := hs.pub1 hq1; clear hs; have hs := hs9; clear hs9; replace hle := hle.trans hle1; (try replace hlb := hlb.trans hle1)
  have hi1 : Ints H (.slice (some ⟨q1, 0, none⟩) 1 1) [2] := Sl.block hp_q1 rfl rfl (by simp)
  refine WO.step rfl (OR.buildSlice (vs := [_]) hs T79.und T78 rfl rfl rfl rfl (by simp) ?_)
  clear hs; intro q2 w hq2 hs
  refine WO.step rfl (OR.move rfl ?_)
  replace hs := hs.front (i := 0) rfl
  obtain ⟨H, hle1, hp_q2, hs9⟩ := hs.pub1 hq2; clear hs; have hs := hs9; clear hs9; replace hle := hle.trans hle1; (try replace hlb := hlb.trans hle1)
  replace hi1 := hi1.mono hle1
  have hcf : ∀ j u, (fcCells (ftC G S W (.slice (some ⟨q2, 0, none⟩) 1 1) (.slice (some ⟨q1, 0, none⟩) 1 1)))[j]? = some u → hcell H ((⟨q2, 0, none⟩ : Addr).add j) = some u := fun j u hj => by
    rw [add_off, Nat.zero_add]
    exact hcell_of hp_q2 (by rw [nth_eq]; exact hj)
  refine WO.step rfl (OR.convB T5.und T3.und rfl ?_)
  refine WO.step rfl (OR.rem rfl rfl (by omega) ?_)
  rw [show ((W.toNat : Int).tmod 8) = ((W.toNat % 8 : Nat) : Int) from rfl]
  refine WO.step rfl (OR.addI rfl rfl (by omega) (by omega) (WO.step rfl (OR.buildAll T81 rfl rfl PL81 rfl rfl (WO.step rfl (OR.alloc hs T81 ?_)))))
  clear hs; intro g2 w hg2 hs
  refine WO.stepN (OR.storeAll hs T81 rfl rfl rfl rfl rfl ?_)
  clear hs; intro w hs
  refine WO.done (WX.seq (WC.seq (WC.seq (WC.region ?_))))
  obtain ⟨H, hle1, hp_g2, hs9⟩ := hs.pub1 hg2; clear hs; have hs := hs9; clear hs9; replace hle := hle.trans hle1; (try replace hlb := hlb.trans hle1)
  obtain ⟨c, hc⟩ : ∃ c : CfgD, c = ftC G S W (.slice (some ⟨q2, 0, none⟩) 1 1) (.slice (some ⟨q1, 0, none⟩) 1 1) := ⟨_, rfl⟩
  have hok : CfgOk c := by rw [hc]; exact ftC_ok _ _ _ _ _
  replace hcf := fun j u hj => hcell.mono hle1 (hcf j u hj)
  rw [← hc] at hcf
  have hcin : CfgIn H c := by
    rw [hc]
    exact ⟨⟨q2, 0, 1, rfl, by omega, by rw [← hc]; exact hcf⟩, hi1.mono hle1⟩
  have hc7 : ∀ j u, (cfgCells c)[j]? = some u → hcell H ((⟨g2, 0, none⟩ : Addr).add j) = some u := fun j u hj => by
    rw [add_off, Nat.zero_add]
    refine hcell_of hp_g2 ?_
    rw [nth_eq]
    rw [hc] at hj
    exact hj
  have hgs : c.g = soG G ∧ c.s = soS S ∧ c.nodes = 3 ∧ c.sinks = [2] := by rw [hc]; exact ⟨rfl, rfl, rfl, rfl⟩
  have hcw : 1 ≤ c.win ∧ c.win ≤ 16 := hok.w
  have hfc : fcCells c = [.int .i64 (c.g : Int), .int .i64 (c.s : Int), .int .i64 0, .slice (some ⟨q1, 0, none⟩) 1 1] := by rw [hc]; rfl
  rw [hfc] at hcf
  have hcv : c.vf = .slice (some ⟨q2, 0, none⟩) 1 1 := by rw [hc]; rfl
  clear hc hi1
  refine WO.step rfl (OR.call hs body36 rfl rfl (fawake_ok _ _ hs.toSub) ?_)
  clear hs; rintro _ H w hs hle1 rfl; replace hle := hle.trans hle1; (try replace hlb := hlb.trans hle1)
  have hlc := hle1
  refine WO.step rfl (OR.not rfl (WO.step rfl (OR.move rfl ?_)))
  refine WO.guardYes rfl rfl rfl rfl (OR.loadN (cs := cfgCells c) T81 rfl rfl rfl (fun j u hj => hs.cell (hcell.mono hlc (hc7 j u hj))) ?_)
  refine WO.guardYes rfl rfl rfl rfl (OR.call hs body47 rfl rfl (tconfig_ok c hok _ _ hs.toSub (hcin.mono hlc)) ?_)
  clear hs; rintro _ H w hs hle1 rfl; replace hle := hle.trans hle1; (try replace hlb := hlb.trans hle1)
  replace hlc := hlc.trans hle1
  refine WO.guardYes rfl rfl rfl rfl (OR.not rfl (WO.step rfl (OR.pickF rfl rfl rfl (WO.done (WX.seq ?_)))))
  refine WC.no rfl rfl ?_
  refine WC.skip (WX.seq (WC.seq (WC.region (WO.step rfl (OR.fieldAddr FA81_1 rfl ?_)))))
  refine WO.step rfl (OR.load T79 rfl rfl (hs.cell (hcell.mono hlc (hc7 1 _ rfl))) ?_)
  rw [hcv]
  refine WO.step rfl (OR.idxN 0 T79.und T78 rfl rfl rfl (by omega) ?_)
  refine WO.step rfl (OR.loadN (cs := [.int .i64 (c.g : Int), .int .i64 (c.s : Int), .int .i64 0, .slice (some ⟨q1, 0, none⟩) 1 1]) T78 rfl rfl rfl (fun j u hj => hs.cell (hcell.mono hlc (hcf j u hj))) ?_)
  refine WO.step rfl (OR.alloc hs T78 ?_)
  clear hs; intro g3 w hg3 hs
  refine WO.stepN (OR.storeAll hs T78 rfl rfl rfl rfl rfl ?_)
  clear hs; intro w hs
  refine WO.done (WX.seq (WC.seq (WC.region ?_)))
  obtain ⟨H, hle1, hp_g3, hs9⟩ := hs.pub1 hg3; clear hs; have hs := hs9; clear hs9; replace hle := hle.trans hle1; (try replace hlb := hlb.trans hle1)
  replace hlc := hlc.trans hle1
  have hg8 : hcell H ⟨g3, 0 + 0, none⟩ = some (.int .i64 (c.g : Int)) ∧ hcell H ⟨g3, 0 + 1, none⟩ = some (.int .i64 (c.s : Int)) := ⟨hcell_of hp_g3 rfl, hcell_of hp_g3 rfl⟩
  replace hs := hs.drop (i := 0)
  refine WO.step rfl (OR.loadN (cs := cfgCells c) T81 rfl rfl rfl (fun j u hj => hs.cell (hcell.mono hlc (hc7 j u hj))) ?_)
  refine WO.step rfl (OR.callX (Mx := []) hs body35 rfl rfl (fnew_src c hok _ _ hs.toSub (hcin.mono hlc)) rfl rfl ?_)
  clear hs; rintro _ H M w hs hle1 hnew ⟨xb, txb, sb, o, rfl, rfl, hx⟩; replace hle := hle.trans hle1; (try replace hlb := hlb.trans hle1)
  replace hlc := hlc.trans hle1
  have hl8 := hle1
  rw [List.append_nil] at hs
  refine WO.step rfl (OR.move rfl (WO.step rfl (OR.extract rfl rfl (WO.step rfl (OR.extract rfl rfl (WO.step rfl (OR.alloc hs T82 ?_)))))))
  clear hs; intro g4 w hg4 hs
  refine WO.stepN (OR.storeAll hs T82 rfl rfl rfl rfl rfl ?_)
  clear hs; intro w hs
  refine WO.step rfl (OR.assign rfl (WO.done (WX.seq (WC.seq (WC.region ?_)))))
  obtain ⟨H, hle1, hp_g4, hs9⟩ := hs.pub1 hg4; clear hs; have hs := hs9; clear hs9; replace hle := hle.trans hle1; (try replace hlb := hlb.trans hle1)
  replace hlc := hlc.trans hle1
  replace hl8 := hl8.trans hle1
  have hg9 : hcell H ⟨g4, 0, none⟩ = some (ptr xb) := hcell_of hp_g4 rfl
  replace hx := hx.mono hle1
  have hl9 := Hp.le.refl H
  replace hs := HS.mtail hs
  refine WO.step rfl (OR.loadN (cs := cfgCells c) T81 rfl rfl rfl (fun j u hj => hs.cell (hcell.mono hlc (hc7 j u hj))) ?_)
  refine WO.step rfl (OR.callX (Mx := []) hs body35 rfl rfl (fnew_rel c hok 1 _ _ hs.toSub (hcin.mono hlc) (by rw [hgs.2.2.1]; decide) (by rw [hgs.2.2.2]; decide)) rfl rfl ?_)
  clear hs; rintro _ H M w hs hle1 hnew ⟨yb, tyb, ryb, wyb, ly, rfl, rfl, hry⟩; replace hle := hle.trans hle1; (try replace hlb := hlb.trans hle1)
  replace hlc := hlc.trans hle1
  replace hl8 := hl8.trans hle1
  replace hl9 := hl9.trans hle1
  replace hx := hx.mono hle1
  replace hs := HS.mtail hs
  refine WO.step rfl (OR.move rfl (WO.step rfl (OR.extract rfl rfl (WO.step rfl (OR.extract rfl rfl (WO.step rfl (OR.assign rfl ?_)))))))
  refine WO.step rfl (OR.assign rfl (WO.done (WX.seq (WC.seq (WC.region ?_)))))
  refine WO.step rfl (OR.loadN (cs := cfgCells c) T81 rfl rfl rfl (fun j u hj => hs.cell (hcell.mono hlc (hc7 j u hj))) ?_)
  refine WO.step rfl (OR.callX (Mx := []) hs body35 rfl rfl (fnew_sink c hok 2 0 _ _ hs.toSub (hcin.mono hlc) (by rw [hgs.2.2.1]; decide) (by rw [hgs.2.2.2]; decide) (by omega)) rfl rfl ?_)
  clear hs; rintro _ H M w hs hle1 hnew ⟨zb, tzb, rzb, wzb, lz, kzb, rfl, rfl, hrz⟩; replace hle := hle.trans hle1; (try replace hlb := hlb.trans hle1)
  replace hlc := hlc.trans hle1
  replace hl8 := hl8.trans hle1
  replace hl9 := hl9.trans hle1
  replace hx := hx.mono hle1
  replace hry := hry.mono hle1
  replace hs := HS.mtail hs
  refine WO.step rfl (OR.move rfl (WO.step rfl (OR.extract rfl rfl (WO.step rfl (OR.extract rfl rfl (WO.step rfl (OR.assign rfl ?_)))))))
  refine WO.step rfl (OR.assign rfl (WO.done (WX.seq (WC.seq (WC.seq (WC.region (WO.step rfl ?_)))))))
  refine OR.move rfl (WO.step rfl (OR.neq rfl rfl (WO.done (WX.seq ?_))))
  refine WC.no rfl rfl ?_
  refine WC.skip (WX.seq (WC.seq (WC.region ?_)))
  refine WO.step rfl (OR.load T82 rfl rfl (hs.cell (hcell.mono hl9 hg9)) ?_)
  refine WO.step rfl (OR.buildSlice (vs := [.int .i64 1]) hs T76.und T3 rfl rfl rfl rfl (by simp) ?_)
  clear hs; intro q3 w hq3 hs
  obtain ⟨H, hle1, hp_q3, hs9⟩ := hs.pub1 hq3; clear hs; have hs := hs9; clear hs9; replace hle := hle.trans hle1; (try replace hlb := hlb.trans hle1)
  have hi3 : Ints H (.slice (some ⟨q3, 0, none⟩) 1 1) [1] := Sl.block hp_q3 rfl rfl (by simp)
  replace hlc := hlc.trans hle1
  replace hl8 := hl8.trans hle1
  replace hl9 := hl9.trans hle1
  replace hx := hx.mono hle1
  replace hry := hry.mono hle1
  replace hrz := hrz.mono hle1
  replace hs : HS [] H0 w0 H ([(sb, o, true)] ++ (fMem c (fN 0 1099511627776) xb txb (ptr sb) none none ++ (fMem c (fN 1 1099511627776) yb tyb (.pointer none) (some ⟨(newR c.g c.s c.win).moveTo 1099511627776, ryb, wyb, ly⟩) none ++ fMem c (fN 2 0) zb tzb (.pointer none) (some ⟨(newR c.g c.s c.win).moveTo 0, rzb, wzb, lz⟩) (some (kzb, ⟨c.g, c.s, 0, 0, false, false⟩))))) w := hs
  replace hs := HS.mid hs
  refine WO.step rfl (OR.callX (Mx := fMem c (fN 0 1099511627776) xb txb (ptr sb) none none) (Mr := _ ++ (_ ++ _)) hs body38 rfl rfl (fepoch_ok c (fN 0 1099511627776) xb txb (ptr sb) none none _ [1] _ _ (HS.part hs) trivial (Nat.le_refl _) hi3 (by decide) (next1 (by rw [hgs.2.2.1]; exact ⟨by decide, by decide, by show (1 : Int) ≠ 0; decide⟩)) (up1 _)) rfl (fMem_flags _ _ _ _ _ _ _) ?_)
  clear hs; rintro v H M w hs hle1 hnew ⟨nvx, txb2, l9, rfl, rfl, hnx, -⟩
  replace hle := hle.trans hle1
  replace hlc := hlc.trans hle1
  replace hl8 := hl8.trans hle1
  replace hl9 := hl9.trans hle1
  replace hx := hx.mono hle1
  replace hry := hry.mono hle1
  replace hrz := hrz.mono hle1
  replace hs := HS.mid hs
  refine WO.done (WX.seq (WC.seq (WC.region (WO.step rfl (OR.move rfl ?_)))))
  refine WO.step rfl (OR.buildSlice (vs := [.int .i64 2]) hs T76.und T3 rfl rfl rfl rfl (by simp) ?_)
  clear hs; intro q4 w hq4 hs
  obtain ⟨H, hle1, hp_q4, hs9⟩ := hs.pub1 hq4; clear hs; have hs := hs9; clear hs9; replace hle := hle.trans hle1; (try replace hlb := hlb.trans hle1)
  have hi4 : Ints H (.slice (some ⟨q4, 0, none⟩) 1 1) [2] := Sl.block hp_q4 rfl rfl (by simp)
  replace hlc := hlc.trans hle1
  replace hl8 := hl8.trans hle1
  replace hl9 := hl9.trans hle1
  replace hx := hx.mono hle1
  replace hry := hry.mono hle1
  replace hrz := hrz.mono hle1
  replace hnx := hnx.mono hle1
  replace hs : HS [] H0 w0 H (((sb, o, true) :: fMem c ((fN 0 1099511627776).epoch [1] nvx) xb txb2 (ptr sb) none none) ++ (fMem c (fN 1 1099511627776) yb tyb (.pointer none) (some ⟨(newR c.g c.s c.win).moveTo 1099511627776, ryb, wyb, ly⟩) none ++ fMem c (fN 2 0) zb tzb (.pointer none) (some ⟨(newR c.g c.s c.win).moveTo 0, rzb, wzb, lz⟩) (some (kzb, ⟨c.g, c.s, 0, 0, false, false⟩)))) w := hs
  replace hs := HS.mid hs
  refine WO.step rfl (OR.callX (Mx := fMem c (fN 1 1099511627776) yb tyb (.pointer none) (some ⟨(newR c.g c.s c.win).moveTo 1099511627776, ryb, wyb, ly⟩) none) (Mr := _ ++ _) hs body38 rfl rfl (fepoch_ok c (fN 1 1099511627776) yb tyb (.pointer none) (some ⟨(newR c.g c.s c.win).moveTo 1099511627776, ryb, wyb, ly⟩) none _ [2] _ _ (HS.part hs) hry (Nat.le_refl _) hi4 (by decide) (next1 (by rw [hgs.2.2.1]; exact ⟨by decide, by decide, by show (2 : Int) ≠ 1; decide⟩)) (up1 _)) rfl (fMem_flags _ _ _ _ _ _ _) ?_)
  clear hs hry; rintro v H M w hs hle1 hnew ⟨nvy, tyb2, ly2, rfl, rfl, hny, hry⟩
  replace hle := hle.trans hle1
  replace hlc := hlc.trans hle1
  replace hl8 := hl8.trans hle1
  replace hl9 := hl9.trans hle1
  replace hx := hx.mono hle1
  replace hrz := hrz.mono hle1
  replace hnx := hnx.mono hle1
  replace hs := HS.mid hs
  have hgd : goodGS (c.g : Int) (c.s : Int) := by rw [hgs.1, hgs.2.1]; exact so_good G S
  have hG : FtG c xb g2 g4 g3 H := ⟨hcell.mono hlc (hc7 2 _ rfl), hcell.mono hl9 hg9, hcell.mono hl8 hg8.2⟩
  have hGg := hcell.mono hl8 hg8.1
  replace hcin := hcin.mono hlc
  replace hc7 := fun j u hj => hcell.mono hlc (hc7 j u hj)
  obtain ⟨q, hq⟩ : ∃ q : FtD, q = ⟨(fN 0 1099511627776).epoch [1] nvx, (fN 1 1099511627776).epoch [2] nvy, txb2, tyb2, tzb, o, newD c.g c.s [] [] false, ⟨(newR c.g c.s c.win).moveTo 1099511627776, ryb, wyb, ly2⟩, ⟨(newR c.g c.s c.win).moveTo 0, rzb, wzb, lz⟩, 0, kzb, [], []⟩ := ⟨_, rfl⟩
  have hs0 : HS [] H0 w0 H (FtM c sb xb yb zb q) w := by
    rw [hq]
    simp only [FtM, ftX, ftY, ftZ, List.append_nil]
    exact hs
  have hI : FtI c 0 w0.heap.size H0 H H q q.X.st (q.X.chunks.take q.dl).flatten (.slice none 0 0) (.slice none 0 0) := by
    have t1 := Tru.new (X := newD c.g c.s [] [] false) (W := c.win) (g := c.g) (s := c.s) rfl rfl 1099511627776 (Nat.le_refl _)
    have t2 := Tru.new (X := newD c.g c.s [] [] false) (W := c.win) (g := c.g) (s := c.s) rfl rfl 0 (Nat.zero_le _)
    rw [hq]
    exact ⟨hle, Hp.le.refl _, newD_ok hgd, ⟨rfl, rfl⟩, rfl, Nat.le_refl _, hx, hry, hrz, t1.1, t2.1, t1.2, t2.2, Nat.zero_le _, (Hop1.epoch nvx (Nat.le_refl _) (B := 0)).2.2, (Hop1.epoch nvy (Nat.le_refl _) (B := 0)).2.2, hnx, hny, Own.nil _ _ _, Own.nil _ _ _⟩
  clear hs hx hry hrz hnx hny hq hi3 hi4 hl8 hl9 hlc hg9 hg8
  have hs := hs0
  clear hs0
  obtain ⟨HB, hHB⟩ : ∃ X, X = H := ⟨_, rfl⟩
  subst hHB
  refine WO.done (WX.seq (WC.seq (WC.region (WO.step rfl (OR.assign rfl (WO.step rfl (OR.assign rfl ?_)))))))
  refine WO.done (WX.seq (WC.seq (WC.region (WO.step rfl (OR.makeFunc rfl rfl (WO.step rfl (OR.assign rfl ?_)))))))
  refine WO.done (WX.seq (WC.seq (WC.seq (WC.region (WO.step rfl (OR.move rfl (WO.step rfl ?_)))))))
  refine OR.lenSlice T75.und rfl (WO.step rfl (OR.move rfl (WO.done (WX.seq (WC.block ?_)))))
  obtain ⟨sv, hsv⟩ : ∃ sv : Value, sv = .func (.func 48) #[] #[ptr g2, ptr g4, ptr g3] := ⟨_, rfl⟩
  refine WC.loop (ι := Nat × Value × Value × Nat × Nat) (fun ix => [(7, ptr g2), (8, ptr g3), (9, ptr g4), (11, ptr ix.2.2.2.1), (13, ptr ix.2.2.2.2), (15, ix.2.1), (16, ix.2.2.1), (17, .func (.func 48) #[] #[ptr g2, ptr g4, ptr g3]), (92, .slice bl len cl), (93, .int .i64 (len : Int)), (94, .int .i64 (ix.1 : Int))]) (fun ix w => (ix.1 ≤ len ∧ ix.1 ≤ 150 ∧ ∃ H q, FtI c ix.1 w0.heap.size H0 HB H q q.X.st (q.X.chunks.take q.dl).flatten ix.2.1 ix.2.2.1 ∧ HS [] H0 w0 H (FtM c sb xb ix.2.2.2.1 ix.2.2.2.2 q) w)) (fun ix => len - ix.1) (0, .slice none 0 0, .slice none 0 0, yb, zb) ⟨rfl, rfl, rfl, rfl, rfl, rfl, rfl, rfl, rfl, rfl, rfl,  trivial⟩ ?_ (fun ix w hW => ?_)
  · exact ⟨by omega, by omega, HB, q, hI, hs⟩
  clear hs hI hle
  obtain ⟨i, va, vg, yb, zb⟩ := ix
  obtain ⟨hi, hi150, H, q, hI, hs⟩ := hW
  simp only at hi hi150 hI hs
  have hle := hI.le
  refine WC.seq (WC.region (WO.step rfl (OR.lss rfl rfl (WO.done (WX.seq (WC.seq ?_))))))
  refine WC.condD rfl (fun hlt => ?_) (fun hlt => ?_)
  · have hi' : i < len := by omega
    obtain ⟨vb9, vo9, rfl, hcy⟩ := hl.pos (by omega)
    obtain ⟨hbm, hbl⟩ := hl.2 i hi'
    have hc4 := hcy i hi'
    obtain ⟨bb, cb, hvm⟩ := hbm.form
    rw [hvm] at hc4 hbm
    refine WC.skip (WX.seq (WC.seq (WC.block (WC.seq (WC.region (WO.step rfl (OR.move rfl ?_)))))))
    refine WO.step rfl (OR.idxN i T75.und T87 rfl rfl rfl hi' ?_)
    refine WO.step rfl (OR.loadN (cs := movC (A i) _) T87 rfl rfl rfl (fun j u hj => hs.cell (hcell.mono hle (hc4 j u hj))) ?_)
    generalize A i = a at *
    refine WO.step rfl (OR.alloc hs T87 ?_)
    clear hs; intro g5 w hg5 hs
    refine WO.step rfl (OR.assign rfl (WO.stepN (OR.storeAll hs T87 rfl rfl rfl rfl rfl ?_)))
    clear hs; intro w hs
    refine WO.done (WX.seq (WC.seq (WC.seq (WC.region (WO.step rfl (OR.move rfl (WO.step rfl ?_)))))))
    refine OR.eql rfl rfl (WO.done (WX.seq ?_))
    refine WC.condD rfl (fun h80 => ?_) (fun h80 => ?_)
    · refine WC.exit (WX.seq_exit (WX.block_miss rfl (WX.seq_exit (WX.loop_exit (WX.block_hit (WX.seq (WC.seq ?_)))))))
      refine WC.region (WO.step rfl (OR.assign rfl (WO.done (WX.seq (WC.ret ?_)))))
      refine WX.ret1 rfl rfl ?_
      exact .mk (hs.sublist (List.nil_sublist _)) rfl
    · refine WC.skip (WX.seq (WC.seq (WC.region (WO.step rfl (OR.fieldAddr FA87_3 rfl (WO.step rfl (OR.load T43 rfl rfl (hs.cellM (i := 0) rfl rfl) ?_)))))))
      refine WO.step rfl (OR.fieldAddr FA87_3 rfl (WO.step rfl (OR.load T43 rfl rfl (hs.cellM (i := 0) rfl rfl) (WO.step rfl (OR.lenSlice T43.und rfl ?_)))))
      refine WO.step rfl (OR.minI rfl rfl ?_)
      have hcap := hbm.cap_le
      have hmb : Bytes H0 (.slice bb (a.b.take (min a.b.length 60)).length cb) (a.b.take (min a.b.length 60)) := by rw [List.length_take, show min (min a.b.length 60) a.b.length = min a.b.length 60 by omega]; exact hbm.cutL (by omega)
      have hl60 : (a.b.take (min a.b.length 60)).length = min a.b.length 60 := by rw [List.length_take]; omega
      refine WO.step rfl (OR.sliceHiG (min a.b.length 60) T43.und T5 rfl rfl (by split <;> omega) (by omega) ?_)
      rw [← hl60]
      generalize a.b.take (min a.b.length 60) = b6 at *
      refine WO.step rfl (OR.fieldAddr FA87_3 rfl (WO.stepN (OR.store hs T43 rfl rfl rfl (Nat.le_of_ble_eq_true rfl) rfl ?_)))
      clear hs; intro w hs
      refine WO.done (WX.seq (WC.seq (WC.seq (WC.region (WO.step rfl (OR.fieldAddr FA87_0 rfl (WO.step rfl ?_)))))))
      refine OR.load T3 rfl rfl (hs.cellM (i := 0) rfl rfl) (WO.done (WX.seq ?_))
      obtain ⟨H, hle1, hp_g5, hs9⟩ := hs.pub1 hg5; clear hs; have hs := hs9; clear hs9; replace hle := hle.trans hle1; (try replace hlb := hlb.trans hle1)
      obtain ⟨a6, ha6⟩ : ∃ a6 : MovD, a6 = ⟨a.what, a.n, a.sent, b6⟩ := ⟨_, rfl⟩
      have hc5 : ∀ j u, (movC a6 (.slice bb b6.length cb))[j]? = some u → hcell H ((⟨g5, 0, none⟩ : Addr).add j) = some u := fun j u hj => by
        rw [add_off, Nat.zero_add, ha6] at *
        exact hcell_of hp_g5 (by rw [nth_eq]; exact hj)
      have hmb6 : Bytes H0 (.slice bb b6.length cb) a6.b := by rw [ha6]; exact hmb
      have h53 : hcell H ⟨g5, 0 + 3, none⟩ = some (.slice bb b6.length cb) := hcell_of hp_g5 rfl
      replace hI := hI.mono hle1
      refine WC.joinK (ι := Value × Nat × Nat) (fun ix => [(7, ptr g2), (8, ptr g3), (9, ptr g4), (11, ptr ix.2.1), (13, ptr ix.2.2), (15, ix.1), (16, vg), (17, .func (.func 48) #[] #[ptr g2, ptr g4, ptr g3]), (92, .slice (some ⟨vb9, vo9, none⟩) len cl), (93, .int .i64 (len : Int)), (94, .int .i64 (i : Int))]) (fun ix w => (∃ H q, FtI c (i + 1) w0.heap.size H0 HB H q q.X.st (q.X.chunks.take q.dl).flatten ix.1 vg ∧ HS [] H0 w0 H (FtM c sb xb ix.2.1 ix.2.2 q) w)) ?_ (fun ix w hW => ?_)
      · have hI1 := hI.later (Nat.le_succ i)
        refine WC.block (WC.seq (WC.region (WO.step rfl (OR.eql rfl rfl (WO.step rfl (OR.assign rfl (WO.done ?_)))))))
        refine WX.seq ?_
        refine WC.condD rfl (fun hw0 => ?_) (fun hw0 => ?_)
        · refine WC.seq (WC.region ?_)
          refine WO.step rfl (OR.load T82 rfl rfl (hs.cell (hcell.mono hI.lb hG.h9)) ?_)
          refine WO.step rfl (OR.fieldAddr FA87_3 rfl ?_)
          refine WO.step rfl (OR.load T43 rfl rfl (hs.cell h53) ?_)
          refine WO.step rfl (OR.callW body41 rfl rfl (ft_submit hI hs (by omega) hcw.2 (hmb.mono hle) (by omega)) ?_)
          clear hs; rintro e w ⟨H2, o2, rfl, hle2, hI2, hs⟩; refine ⟨_, rfl, ?_⟩
          have hgl : (subD q.X b6 (q.dx.base + 2 * c.win)).chunks.take q.dl = q.X.chunks.take q.dl := take_pre (hI.ok.sub_prefix _ _) hI.dl
          rcases subD_st hI.cl b6 (q.dx.base + 2 * c.win) with ⟨e0, est⟩ | ⟨e0, est⟩
          · rw [e0]
            refine WO.step rfl (OR.eql rfl rfl (WO.done (WX.seq ?_)))
            refine WC.yes rfl rfl ?_
            refine WC.region (WO.step rfl (OR.move rfl (WO.step rfl (OR.fieldAddr FA87_3 rfl ?_))))
            refine WO.step rfl (OR.load T43 rfl rfl (hs.cell (hcell.mono hle2 h53)) ?_)
            have hstl := hI.ok.len
            have hmb2 := hmb.mono hI2.le
            have hsA := hs
            rw [FtM_ma] at hsA
            replace hsA := HS.mid hsA
            refine WO.step rfl (OR.append (news := b6.map B) (Mo := q.Ma) (M := ((sb, o2, true) :: _) ++ q.Mg) hsA hI.all T43.und T5 rfl (by omega) rfl rfl (by simp) (Sl.src hmb2 hsA) (Sl.src0 hmb2) (bytes_one _) (by omega) (by omega) ?_)
            clear hs hsA; intro v' w Mo' hs ho hge
            replace hs := HS.mid hs
            refine WO.step rfl (OR.assign rfl (WO.done (WX.block ?_)))
            refine WX.arrive ((v', yb, zb)) ⟨rfl, rfl, rfl, rfl, rfl, rfl, rfl, rfl, rfl, rfl, rfl,  trivial⟩ ?_
            refine ⟨H2, { q with o := o2, X := subD q.X b6 (q.dx.base + 2 * c.win), Ma := Mo' }, ?_, ?_⟩
            · have h9 := hI2.later (Nat.le_succ i)
              show FtI c (i + 1) w0.heap.size H0 HB H2 { q with o := o2, X := subD q.X b6 (q.dx.base + 2 * c.win), Ma := Mo' } (subD q.X b6 (q.dx.base + 2 * c.win)).st ((subD q.X b6 (q.dx.base + 2 * c.win)).chunks.take q.dl).flatten v' vg
              rw [est, hgl]
              exact { h9 with all := by rw [List.length_append, List.map_append]; exact ho }
            · rw [FtM_ma]
              exact hs
          · rw [e0]
            refine WO.step rfl (OR.eql rfl rfl (WO.done (WX.seq ?_)))
            refine WC.no rfl rfl ?_
            refine WC.skip (WX.block ?_)
            refine WX.arrive ((va, yb, zb)) ⟨rfl, rfl, rfl, rfl, rfl, rfl, rfl, rfl, rfl, rfl, rfl,  trivial⟩ ?_
            refine ⟨H2, _, (?_ : FtI c (i + 1) w0.heap.size H0 HB H2 { q with o := o2, X := subD q.X b6 (q.dx.base + 2 * c.win) } _ _ va vg), hs⟩
            have h9 := hI2.later (Nat.le_succ i)
            show FtI c (i + 1) w0.heap.size H0 HB H2 { q with o := o2, X := subD q.X b6 (q.dx.base + 2 * c.win) } (subD q.X b6 (q.dx.base + 2 * c.win)).st ((subD q.X b6 (q.dx.base + 2 * c.win)).chunks.take q.dl).flatten va vg
            rw [est, hgl]
            exact h9
        · refine WC.seq (WC.region (WO.step rfl (OR.eql rfl rfl (WO.step rfl (OR.assign rfl (WO.done (WX.seq ?_)))))))
          refine WC.condD rfl (fun hw1 => ?_) (fun hw1 => ?_)
          · refine WC.region ?_
            refine WO.step rfl (OR.load T82 rfl rfl (hs.cell (hcell.mono hI.lb hG.h9)) ?_)
            refine WO.step rfl (OR.callW body53 rfl rfl (ft_flush hI hs (by omega)) ?_)
            clear hs; rintro e w ⟨H2, o2, v2, rfl, hle2, hI2, hs⟩; refine ⟨_, rfl, ?_⟩
            have hgl : (flushD q.X).chunks.take q.dl = q.X.chunks.take q.dl := take_pre hI.ok.flush_prefix hI.dl
            refine WO.done (WX.block ?_)
            refine WX.arrive ((va, yb, zb)) ⟨rfl, rfl, rfl, rfl, rfl, rfl, rfl, rfl, rfl, rfl, rfl,  trivial⟩ ?_
            refine ⟨H2, { q with o := o2, X := flushD q.X }, ?_, hs⟩
            show FtI c (i + 1) w0.heap.size H0 HB H2 { q with o := o2, X := flushD q.X } (flushD q.X).st ((flushD q.X).chunks.take q.dl).flatten va vg
            rw [(flushD_same hI.cl).2.2.2.2, hgl]
            exact hI2
          · refine WC.seq (WC.region (WO.step rfl (OR.eql rfl rfl (WO.step rfl (OR.assign rfl (WO.done (WX.seq ?_)))))))
            refine WC.condD rfl (fun hw2 => ?_) (fun hw2 => ?_)
            · refine WC.seq (WC.region (WO.step rfl (OR.move rfl ?_)))
              refine WO.step rfl (OR.load T82 rfl rfl (hs.cell (hcell.mono hI.lb hG.h9)) ?_)
              refine WO.step rfl (OR.move rfl ?_)
              refine WO.step rfl (OR.loadN (cs := movC a6 (.slice bb b6.length cb)) T87 rfl rfl rfl (fun j u hj => hs.cell (hc5 j u hj)) ?_)
              refine WO.step rfl (OR.callW body48 rfl rfl (ft_sendxy hI hs hG hcw (hmb6.mono hI.le)) ?_)
              clear hs; rintro e w ⟨H2, R2, rfl, hle2, hI2, hs⟩; refine ⟨_, rfl, ?_⟩
              refine WO.step rfl (OR.not rfl (WO.done (WX.seq ?_)))
              refine WC.no rfl rfl ?_
              refine WC.skip (WX.block ?_)
              refine WX.arrive ((va, yb, zb)) ⟨rfl, rfl, rfl, rfl, rfl, rfl, rfl, rfl, rfl, rfl, rfl,  trivial⟩ ?_
              exact ⟨H2, { q with Ry := R2 }, hI2.later (Nat.le_succ i), hs⟩
            · refine WC.seq (WC.region (WO.step rfl (OR.eql rfl rfl (WO.step rfl (OR.assign rfl (WO.done (WX.seq ?_)))))))
              refine WC.condD rfl (fun hw3 => ?_) (fun hw3 => ?_)
              · refine WC.seq (WC.region (WO.step rfl (OR.move rfl (WO.step rfl (OR.move rfl (WO.step rfl (OR.move rfl ?_)))))))
                refine WO.step rfl (OR.loadN (cs := movC a6 (.slice bb b6.length cb)) T87 rfl rfl rfl (fun j u hj => hs.cell (hc5 j u hj)) ?_)
                refine WO.step rfl (OR.callW body48 rfl rfl (ft_sendyz hI hs hG hcw (hmb6.mono hI.le)) ?_)
                clear hs; rintro e w ⟨H2, R2, rfl, hle2, hI2, hs⟩; refine ⟨_, rfl, ?_⟩
                refine WO.step rfl (OR.not rfl (WO.done (WX.seq ?_)))
                refine WC.no rfl rfl ?_
                refine WC.skip (WX.block ?_)
                refine WX.arrive ((va, yb, zb)) ⟨rfl, rfl, rfl, rfl, rfl, rfl, rfl, rfl, rfl, rfl, rfl,  trivial⟩ ?_
                exact ⟨H2, { q with Rz := R2 }, hI2.later (Nat.le_succ i), hs⟩
              · refine WC.seq (WC.region (WO.step rfl (OR.eql rfl rfl (WO.step rfl (OR.assign rfl (WO.done (WX.seq ?_)))))))
                refine WC.condD rfl (fun hw4 => ?_) (fun hw4 => ?_)
                · refine WC.seq (WC.region (WO.step rfl (OR.move rfl ?_)))
                  refine WO.step rfl (OR.call hs body37 rfl rfl (fbase_ok c (fN 2 q.dl) zb q.tzb _ _ _ _ _ hs.toSub (ft_atz hs).1 (ft_atz hs).2) ?_)
                  clear hs; rintro _ H w hs hle1 rfl; replace hle := hle.trans hle1; (try replace hlb := hlb.trans hle1)
                  refine WO.step rfl (OR.move rfl (WO.step rfl (OR.extract rfl rfl (WO.step rfl (OR.extract rfl rfl (WO.step rfl (OR.assign rfl ?_)))))))
                  refine WO.step rfl (OR.assign rfl (WO.done (WX.seq (WC.seq (WC.region (WO.step rfl (OR.move rfl ?_)))))))
                  refine WO.done (WX.seq ?_)
                  refine WC.yes rfl rfl ?_
                  refine WC.region (WO.step rfl (OR.move rfl (WO.step rfl (OR.move rfl ?_))))
                  have hdl4 := hI.dl
                  have hch4 := hI.ok.chl
                  refine WO.step rfl (OR.callW body39 rfl rfl (ft_hopy (hI.mono hle1) hs (n := q.dl) (by omega)) ?_)
                  clear hs; rintro e w ⟨H2, d2, R2, v2, rfl, hle2, hI2, hs⟩; refine ⟨_, rfl, ?_⟩
                  refine WO.done (WX.block ?_)
                  refine WX.arrive ((va, yb, zb)) ⟨rfl, rfl, rfl, rfl, rfl, rfl, rfl, rfl, rfl, rfl, rfl,  trivial⟩ ?_
                  exact ⟨H2, { q with dy := d2, Ry := R2 }, hI2.later (Nat.le_succ i), hs⟩
                · refine WC.seq (WC.region (WO.step rfl (OR.eql rfl rfl (WO.step rfl (OR.assign rfl (WO.done (WX.seq ?_)))))))
                  refine WC.condD rfl (fun hw5 => ?_) (fun hw5 => ?_)
                  · refine WC.seq (WC.region (WO.step rfl (OR.move rfl ?_)))
                    refine WO.step rfl (OR.call hs body37 rfl rfl (fbase_ok c q.dy yb q.tyb _ _ _ _ _ hs.toSub (ft_aty hs).1 (ft_aty hs).2) ?_)
                    clear hs; rintro _ H w hs hle1 rfl; replace hle := hle.trans hle1; (try replace hlb := hlb.trans hle1)
                    refine WO.step rfl (OR.move rfl (WO.step rfl (OR.extract rfl rfl (WO.step rfl (OR.extract rfl rfl (WO.step rfl (OR.assign rfl ?_)))))))
                    refine WO.step rfl (OR.assign rfl (WO.done (WX.seq (WC.seq (WC.region (WO.step rfl (OR.move rfl ?_)))))))
                    refine WO.done (WX.seq ?_)
                    refine WC.cond rfl (fun hwk => ?_) (fun hwk => ?_)
                    · refine WC.region ?_
                      refine WO.step rfl (OR.load T82 rfl rfl (hs.cell (hcell.mono (hI.lb.trans hle1) hG.h9)) ?_)
                      refine WO.step rfl (OR.move rfl ?_)
                      refine WO.step rfl (OR.callW body39 rfl rfl (ft_hopx (hI.mono hle1) hs (n := q.dy.base) hI.hy.base) ?_)
                      clear hs; rintro e w ⟨H2, d2, v2, rfl, hle2, hI2, hs⟩; refine ⟨_, rfl, ?_⟩
                      refine WO.done (WX.block ?_)
                      refine WX.arrive ((va, yb, zb)) ⟨rfl, rfl, rfl, rfl, rfl, rfl, rfl, rfl, rfl, rfl, rfl,  trivial⟩ ?_
                      exact ⟨H2, { q with dx := d2 }, hI2.later (Nat.le_succ i), hs⟩
                    · refine WC.skip (WX.block ?_)
                      refine WX.arrive ((va, yb, zb)) ⟨rfl, rfl, rfl, rfl, rfl, rfl, rfl, rfl, rfl, rfl, rfl,  trivial⟩ ?_
                      exact ⟨H, q, (hI.mono hle1).later (Nat.le_succ i), hs⟩
                  · refine WC.seq (WC.region (WO.step rfl (OR.eql rfl rfl (WO.step rfl (OR.assign rfl (WO.done (WX.seq ?_)))))))
                    refine WC.condD rfl (fun hw6 => ?_) (fun hw6 => ?_)
                    · refine WC.seq (WC.region ?_)
                      refine WO.step rfl (OR.loadN (cs := cfgCells c) T81 rfl rfl rfl (fun j u hj => hs.cell (hcell.mono hI.lb (hc7 j u hj))) ?_)
                      refine WO.step rfl (OR.callX (Mx := []) hs body35 rfl rfl (fnew_rel c hok 1 _ _ hs.toSub (hcin.mono hI.lb) (by rw [hgs.2.2.1]; decide) (by rw [hgs.2.2.2]; decide)) rfl rfl ?_)
                      clear hs; rintro _ H M w hs hle1 hnew ⟨yb2, tyb2, ryb2, wyb2, ly2, rfl, rfl, hry⟩; replace hle := hle.trans hle1; (try replace hlb := hlb.trans hle1)
                      refine WO.step rfl (OR.move rfl (WO.step rfl (OR.extract rfl rfl (WO.step rfl (OR.extract rfl rfl (WO.step rfl (OR.assign rfl ?_)))))))
                      refine WO.done (WX.seq (WC.region (WO.step rfl (OR.move rfl ?_))))
                      refine WO.step rfl (OR.buildSlice (vs := [.int .i64 2]) hs T76.und T3 rfl rfl rfl rfl (by simp) ?_)
                      clear hs; intro q9 w hq9 hs
                      have hl9 := hle1
                      obtain ⟨H, hle1, hp_q9, hs9⟩ := hs.pub1 hq9; clear hs; have hs := hs9; clear hs9; replace hle := hle.trans hle1; (try replace hlb := hlb.trans hle1)
                      replace hl9 := hl9.trans hle1
                      have hi9 : Ints H (.slice (some ⟨q9, 0, none⟩) 1 1) [2] := Sl.block hp_q9 rfl rfl (by simp)
                      refine WO.step rfl (OR.callX (Mx := fMem c (fN 1 1099511627776) yb2 tyb2 (.pointer none) (some ⟨(newR c.g c.s c.win).moveTo 1099511627776, ryb2, wyb2, ly2⟩) none) (Mr := FtM c sb xb yb zb q) hs body38 rfl rfl (fepoch_ok c (fN 1 1099511627776) yb2 tyb2 (.pointer none) (some ⟨(newR c.g c.s c.win).moveTo 1099511627776, ryb2, wyb2, ly2⟩) none _ [2] _ _ (HS.part hs) (hry.mono hle1) (Nat.le_refl _) hi9 (by decide) (next1 (by rw [hgs.2.2.1]; exact ⟨by decide, by decide, by show (2 : Int) ≠ 1; decide⟩)) (up1 _)) rfl (fMem_flags _ _ _ _ _ _ _) ?_)
                      clear hs; rintro v H3 M w hs hle3 hnew3 ⟨nv3, tyb3, ly3, rfl, rfl, hny3, hry3⟩
                      have hI3 := hI.mono (hl9.trans hle3)
                      have t1 := Tru.new (X := q.X) (W := c.win) (g := c.g) (s := c.s) hI.gs.1.symm hI.gs.2.symm 1099511627776 (Nat.le_refl _)
                      have h9 := ft_newY hs
                      refine WO.done (WX.block ?_)
                      refine WX.arrive ((va, yb2, zb)) ⟨rfl, rfl, rfl, rfl, rfl, rfl, rfl, rfl, rfl, rfl, rfl,  trivial⟩ ?_
                      refine ⟨H3, { q with dy := (fN 1 1099511627776).epoch [2] nv3, tyb := tyb3, Ry := ⟨(newR c.g c.s c.win).moveTo 1099511627776, ryb2, wyb2, ly3⟩ }, ?_, h9⟩
                      exact { hI3.later (Nat.le_succ i) with oy := hry3, ty := t1.1, ey := t1.2, hy := (Hop1.epoch nv3 (Nat.le_refl _) (B := 0)).2.2, ny := hny3 }
                    · refine WC.seq (WC.region (WO.step rfl (OR.eql rfl rfl (WO.step rfl (OR.assign rfl (WO.done (WX.seq ?_)))))))
                      refine WC.condD rfl (fun hw7 => ?_) (fun hw7 => ?_)
                      · have hdl4 := hI.dl
                        have hch4 := hI.ok.chl
                        refine WC.sub [(7, ptr g2), (8, ptr g3), (9, ptr g4), (11, ptr yb), (13, ptr zb), (15, va), (16, vg), (17, .func (.func 48) #[] #[ptr g2, ptr g4, ptr g3]), (92, .slice (some ⟨vb9, vo9, none⟩) len cl), (93, .int .i64 (len : Int)), (94, .int .i64 (i : Int))] ⟨rfl, rfl, rfl, rfl, rfl, rfl, rfl, rfl, rfl, rfl, rfl,  trivial⟩ ?_
                        refine WA.enter mixed ?_
                        replace hs := hs.drew
                        refine WA.draw 3 hs (by kernel_rfl) ?_
                        refine ⟨MF.eq (cfgV c), ?_, ?_⟩
                        · intro Mx H w hle2 hs; (try replace hle := hle.trans hle2); (try replace hlb := hlb.trans hle2)
                          refine forVals_nil (ORg.plain (OR.loadN (cs := cfgCells c) T81 rfl rfl rfl (fun j u hj => hs.cell (hcell.mono (hI.lb.trans hle2) (hc7 j u hj))) ?_))
                          exact ⟨_, [], Hp.le.refl _, hs, rfl, rfl⟩
                        refine ⟨MF.eq _, by intro Mx H w hle hs; refine forVals_nil (ORg.plain (OR.move rfl ?_)); exact ⟨_, [], Hp.le.refl _, hs, rfl, rfl⟩, ?_⟩
                        refine ⟨MF.eq (.int .u64 (q.dl : Int)), ?_, ?_⟩
                        · intro Mx H w hle2 hs; (try replace hle := hle.trans hle2); (try replace hlb := hlb.trans hle2); refine forVals_eq rfl rfl rfl ?_
                          refine forVals_nil (ORg.plain (OR.call hs body40 rfl rfl (fdel_ok c (fN 2 q.dl) zb q.tzb q.kb _ _ _ _ _ (ft_zk hs.right)) ?_))
                          clear hs; rintro _ H w hs hle1 rfl
                          exact ⟨_, [], hle1, hs, rfl, rfl⟩
                        intro H w hle2; (try replace hle := hle.trans hle2); (try replace hlb := hlb.trans hle2)
                        refine forAllVals_eq rfl ?_
                        refine forAllVals_eq rfl ?_
                        refine forAllVals_eq rfl ?_
                        refine forAllVals_nil ?_; (try clear hs); intro hs
                        refine WA.step (by kernel_rfl) rfl rfl rfl (ORg.plain (OR.callX (Mx := []) hs body35 rfl rfl (fnew_sink c hok 2 q.dl _ _ hs.toSub (hcin.mono (hI.lb.trans hle2)) (by rw [hgs.2.2.1]; decide) (by rw [hgs.2.2.2]; decide) (by omega)) rfl rfl ?_))
                        clear hs; rintro _ H M w hs hle1 hnew ⟨zb2, tzb2, rzb2, wzb2, lz2, kzb2, rfl, rfl, hrz⟩; replace hle := hle.trans hle1; (try replace hlb := hlb.trans hle1)
                        have hI3 := (hI.mono hle2).mono hle1
                        refine WA.sub [(7, ptr g2), (8, ptr g3), (9, ptr g4), (11, ptr yb), (15, va), (16, vg), (17, .func (.func 48) #[] #[ptr g2, ptr g4, ptr g3]), (92, .slice (some ⟨vb9, vo9, none⟩) len cl), (93, .int .i64 (len : Int)), (94, .int .i64 (i : Int)), (180, .tuple #[ptr zb2, .int .i64 0])] ⟨rfl, rfl, rfl, rfl, rfl, rfl, rfl, rfl, rfl, rfl, rfl,  trivial⟩ ?_
                        refine WA.step (by kernel_rfl) rfl rfl rfl (ORg.plain (OR.move rfl ?_))
                        refine WA.draw 8 hs (by kernel_rfl) ?_
                        refine ⟨MF.eq _, by intro Mx H w hle hs; refine forVals_nil (ORg.plain (OR.extract rfl rfl ?_)); exact ⟨_, [], Hp.le.refl _, hs, rfl, rfl⟩, ?_⟩
                        refine ⟨MF.eq _, by intro Mx H w hle hs; refine forVals_nil (ORg.plain (OR.extract rfl rfl ?_)); exact ⟨_, [], Hp.le.refl _, hs, rfl, rfl⟩, ?_⟩
                        refine ⟨MF.eq _, by intro Mx H w hle hs; refine forVals_eq rfl rfl rfl ?_; refine forVals_nil (ORg.plain (OR.assign rfl ?_)); exact ⟨_, [], Hp.le.refl _, hs, rfl, rfl⟩, ?_⟩
                        intro H w hle2; (try replace hle := hle.trans hle2); (try replace hlb := hlb.trans hle2)
                        refine forAllVals_eq rfl ?_
                        refine forAllVals_eq rfl ?_
                        refine forAllVals_eq rfl ?_
                        refine forAllVals_nil ?_; (try clear hs); intro hs
                        refine WA.rest (by kernel_rfl) ?_
                        have t1 := Tru.new (X := q.X) (W := c.win) (g := c.g) (s := c.s) hI.gs.1.symm hI.gs.2.symm q.dl (by omega)
                        have hI4 := hI3.mono hle2
                        refine WO.done (WX.block ?_)
                        refine WX.arrive ((va, yb, zb2)) ⟨rfl, rfl, rfl, rfl, rfl, rfl, rfl, rfl, rfl, rfl, rfl,  trivial⟩ ?_
                        refine ⟨H, { q with tzb := tzb2, kb := kzb2, Rz := ⟨(newR c.g c.s c.win).moveTo q.dl, rzb2, wzb2, lz2⟩ }, ?_, ?_⟩
                        · exact { hI4.later (Nat.le_succ i) with oz := hrz.mono hle2, tz := t1.1, ez := t1.2 }
                        · have h9 := ft_newZ hs
                          have e9 : FtM c sb xb yb zb2 { q with tzb := tzb2, kb := kzb2, Rz := ⟨(newR c.g c.s c.win).moveTo q.dl, rzb2, wzb2, lz2⟩ } = ((sb, q.o, true) :: (ftX c sb xb q ++ ftY c yb q)) ++ (ftZ c zb2 { q with tzb := tzb2, kb := kzb2, Rz := ⟨(newR c.g c.s c.win).moveTo q.dl, rzb2, wzb2, lz2⟩ } ++ (q.Ma ++ q.Mg)) := by simp [FtM, ftX, ftY]
                          rw [e9]
                          exact h9
                      · refine WC.skip (WX.block ?_)
                        refine WX.arrive ((va, yb, zb)) ⟨rfl, rfl, rfl, rfl, rfl, rfl, rfl, rfl, rfl, rfl, rfl,  trivial⟩ ?_
                        exact ⟨H, q, hI1, hs⟩
      · clear hs hI hle h53 hc5 hmb6 hmb
        obtain ⟨va, yb, zb⟩ := ix
        obtain ⟨H, q, hI, hs⟩ := hW
        simp only at hI hs
        have hle := hI.le
        refine WC.seq (WC.region (WO.step rfl (OR.move rfl ?_)))
        refine WO.step rfl (OR.callW body54 rfl rfl (ft_release hI hs hcw.1) ?_)
        clear hs; rintro e w ⟨H2, n, R2, r, rfl, hle2, hbl, hn, hI2, hs⟩; refine ⟨_, rfl, ?_⟩
        obtain ⟨br, cr, rfl⟩ := hbl.form
        refine WO.step rfl (OR.move rfl (WO.step rfl (OR.extract rfl rfl (WO.step rfl (OR.extract rfl rfl (WO.step rfl (OR.assign rfl ?_)))))))
        refine WO.step rfl (OR.assign rfl (WO.done (WX.seq (WC.seq (WC.seq (WC.region (WO.step rfl ?_)))))))
        refine OR.move rfl (WO.step rfl (OR.neq rfl rfl (WO.done (WX.seq ?_))))
        refine WC.no rfl rfl ?_
        refine WC.skip (WX.seq (WC.seq (WC.seq (WC.region (WO.step rfl (OR.move rfl (WO.step rfl ?_)))))))
        refine OR.lenSlice T40.und rfl (WO.step rfl (OR.move rfl (WO.done (WX.seq (WC.block ?_)))))
        have hstl := hI.ok.len
        have hfl := hI.ok.flat
        have hpx : ∀ m, (q.X.chunks.take m).flatten <+: q.X.st := fun m => by
          rw [← hfl]
          have := List.take_append_drop m q.X.chunks
          refine ⟨(q.X.chunks.drop m).flatten ++ q.X.opn, ?_⟩
          rw [← List.append_assoc, ← List.flatten_append, this]
        have hpl : ∀ m, (q.X.chunks.take m).flatten.length ≤ 262144 := fun m => Nat.le_trans (hpx m).length_le hstl
        have hLk : ∀ k, (q.X.chunks.take q.dl).flatten ++ (((q.X.chunks.drop q.dl).take n).take k).flatten = (q.X.chunks.take (q.dl + min k n)).flatten := fun k => by
          rw [List.take_take, ← List.flatten_append, List.take_add]
        obtain ⟨L, hL⟩ : ∃ L, L = (q.X.chunks.drop q.dl).take n := ⟨_, rfl⟩
        have hLn : L.length = n := by rw [hL, List.length_take, List.length_drop]; omega
        have hLb : L.length ≤ 262144 := by have := hI.ok.chl; omega
        rw [← hL] at hbl ⊢
        have hLk' : ∀ k, (q.X.chunks.take q.dl).flatten ++ (L.take k).flatten = (q.X.chunks.take (q.dl + min k n)).flatten := fun k => by rw [hL]; exact hLk k
        clear hLk hfl
        obtain ⟨q2, hq2⟩ : ∃ q2 : FtD, q2 = { q with dl := q.dl + n, Rz := R2 } := ⟨_, rfl⟩
        rw [← hq2] at hI2 hs
        have hq2X : q2.X = q.X := by rw [hq2]
        have hq2d : q2.dl = q.dl + n := by rw [hq2]
        refine WC.loop (ι := Nat × Value) (fun ix => [(7, ptr g2), (8, ptr g3), (9, ptr g4), (11, ptr yb), (13, ptr zb), (15, va), (16, ix.2), (17, .func (.func 48) #[] #[ptr g2, ptr g4, ptr g3]), (92, .slice (some ⟨vb9, vo9, none⟩) len cl), (93, .int .i64 (len : Int)), (94, .int .i64 (i : Int)), (190, .slice br L.length cr), (191, .int .i64 (L.length : Int)), (192, .int .i64 (ix.1 : Int))]) (fun ix w => (ix.1 ≤ L.length ∧ ∃ H3 Mg', Hp.le H2 H3 ∧ FtI c (i + 1) w0.heap.size H0 HB H3 { q2 with Mg := Mg' } q.X.st ((q.X.chunks.take q.dl).flatten ++ (L.take ix.1).flatten) va ix.2 ∧ HS [] H0 w0 H3 (FtM c sb xb yb zb { q2 with Mg := Mg' }) w)) (fun ix => L.length - ix.1) (0, vg) ⟨rfl, rfl, rfl, rfl, rfl, rfl, rfl, rfl, rfl, rfl, rfl, rfl, rfl, rfl,  trivial⟩ ?_ (fun ix w hW => ?_)
        · refine ⟨by omega, H2, q2.Mg, Hp.le.refl _, ?_, hs⟩
          rw [List.take_zero, List.flatten_nil, List.append_nil]
          exact hI2
        clear hs hle
        obtain ⟨k, vg⟩ := ix
        obtain ⟨hk, H3, Mg3, hl3, hI3, hs⟩ := hW
        simp only at hk hI3 hs
        have hle := hI3.le
        refine WC.seq (WC.region (WO.step rfl (OR.lss rfl rfl (WO.done (WX.seq (WC.seq ?_))))))
        refine WC.condD rfl (fun hltk => ?_) (fun hltk => ?_)
        · have hk' : k < L.length := by omega
          obtain ⟨rb9, ro9, hrb9, hcr⟩ := hbl.pos (by omega)
          obtain ⟨e9, he9, hb9⟩ := hcr k hk'
          obtain ⟨b9, c9, hf9⟩ := hb9.form
          subst hf9
          subst hrb9
          refine WC.skip (WX.seq (WC.seq (WC.block (WC.seq (WC.region ?_)))))
          refine WO.step rfl (OR.idx k T40.und T43 rfl rfl rfl hk' ?_)
          refine WO.step rfl (OR.load T43 rfl rfl (hs.cell (hcell.mono hl3 he9)) ?_)
          refine WO.step rfl (OR.assign rfl (WO.done (WX.seq (WC.region (WO.step rfl (OR.move rfl (WO.step rfl ?_)))))))
          refine OR.move rfl ?_
          have hsA := hs
          rw [FtM_mg] at hsA
          replace hsA := HS.mtail hsA
          have hb93 := hb9.mono hl3
          have hgl1 := hpl (q.dl + min k n)
          have hgl2 := hpl (q.dl + min (k + 1) n)
          rw [← hLk'] at hgl1 hgl2
          have htk : (L.take (k + 1)).flatten = (L.take k).flatten ++ L[k] := by rw [List.take_succ_eq_append_getElem hk', List.flatten_append]; simp
          rw [htk, ← List.append_assoc, List.length_append] at hgl2
          refine WO.step rfl (OR.append (news := L[k].map B) (Mo := Mg3) (M := _ ++ _) hsA hI3.got T43.und T5 rfl (by omega) rfl rfl (by simp) (Sl.src hb93 hsA) (Sl.src0 hb93) (bytes_one _) (by omega) (by omega) ?_)
          clear hs hsA; intro v' w Mo' hs ho hge
          replace hs := HS.mtail hs
          refine WO.step rfl (OR.assign rfl (WO.done (WX.block (WX.seq (WC.region (WO.step rfl (OR.addI rfl rfl (by omega) (by omega) ?_)))))))
          refine WO.step rfl (OR.move rfl (WO.done ?_))
          refine WX.again ((k + 1, v')) ⟨rfl, rfl, rfl, rfl, rfl, rfl, rfl, rfl, rfl, rfl, rfl, rfl, rfl, rfl,  trivial⟩ ?_ ?_
          · refine ⟨by omega, H3, Mo', hl3, ?_, ?_⟩
            · simp only
              rw [htk, ← List.append_assoc]
              exact { hI3 with got := by rw [List.length_append, List.map_append]; exact ho }
            · rw [FtM_mg]
              exact hs
          · simp only; omega
        · have ek : k = L.length := by omega
          subst ek
          have hgl : (q.X.chunks.take q.dl).flatten ++ (L.take L.length).flatten = (q.X.chunks.take (q.dl + n)).flatten := by rw [hLk', hLn, Nat.min_self]
          rw [hgl] at hI3
          clear hLk' hgl hbl
          obtain ⟨q3, hq3⟩ : ∃ q3 : FtD, q3 = { q2 with Mg := Mg3 } := ⟨_, rfl⟩
          rw [← hq3] at hI3 hs
          have hX3 : q3.X = q.X := by rw [hq3]; exact hq2X
          have hd3 : q3.dl = q.dl + n := by rw [hq3]; exact hq2d
          rw [← hX3, ← hd3] at hI3
          rw [← hX3] at hpx
          have hpx3 := hpx q3.dl
          clear hq3 hq2 hpl hpx hstl
          refine WC.exit (WX.seq_exit (WX.loop_exit (WX.block_hit (WX.seq (WC.seq (WC.seq (WC.region ?_)))))))
          refine WO.step rfl (OR.move rfl (WO.step rfl (OR.move rfl ?_)))
          rw [FtM_mg] at hs
          obtain ⟨H5, hl5, hs5, hi5, hn5, hg5⟩ := HS.lend hs hI3.got
          obtain ⟨H6, hl6, hs6, hi6, hn6, hg6⟩ := HS.lend hs5 hI3.all
          clear hs
          have hs := hs6
          have hbg : Bytes H6 vg (q3.X.chunks.take q3.dl).flatten := Sl.mono hg5 hl6
          have hba : Bytes H6 va q3.X.st := hg6
          refine WO.step rfl (OR.call hs body33 rfl rfl (hasPrefix_ok va vg q3.X.st (q3.X.chunks.take q3.dl).flatten _ _ hs.toSub hba hbg) ?_)
          clear hs; rintro _ H7 w hs hle7 rfl
          rw [decide_eq_true hpx3]
          have hs8 := HS.regain hs (hI3.le.trans hl5) (hl6.trans hle7) hI3.all (fun p hp => hle7 _ _ (hi6 p hp)) hn6
          have hs9 := HS.regain hs8 hI3.le hl5 hI3.got hi5 hn5
          rw [← FtM_mg] at hs9
          clear hs hs5 hs6 hs8 hi5 hi6 hn5 hn6 hg5 hg6 hbg hba
          have hs := hs9
          clear hs9
          refine WO.step rfl (OR.not rfl (WO.done (WX.seq ?_)))
          refine WC.no rfl rfl ?_
          refine WC.skip (WX.seq (WC.seq (WC.region (WO.step rfl (OR.move rfl (WO.step rfl (OR.move rfl ?_)))))))
          refine WO.step rfl (OR.buildSlice (vs := [ptr yb, ptr zb]) hs T95.und T82 rfl rfl rfl rfl (by simp) ?_)
          clear hs; intro q9 w hq9 hs
          refine WO.step rfl (OR.lenSlice T95.und rfl (WO.step rfl (OR.move rfl (WO.done (WX.seq (WC.block ?_))))))
          obtain ⟨H, hle1, hp_q9, hs9⟩ := hs.pub1 hq9; clear hs; have hs := hs9; clear hs9; replace hle := hle.trans hle1; (try replace hlb := hlb.trans hle1)
          have hc9 : ∀ k, k < 2 → hcell H ⟨q9, 0 + k * 1, none⟩ = some (ptr (ftPb yb zb k)) := fun k hk => by
            match k, hk with
            | 0, _ => exact hcell_of hp_q9 rfl
            | 1, _ => exact hcell_of hp_q9 rfl
          replace hI3 := hI3.mono hle1
          obtain ⟨H9, hH9⟩ : ∃ X, X = H := ⟨_, rfl⟩
          subst hH9
          refine WC.loop (ι := Nat) (fun k => [(7, ptr g2), (8, ptr g3), (9, ptr g4), (11, ptr yb), (13, ptr zb), (15, va), (16, vg), (17, .func (.func 48) #[] #[ptr g2, ptr g4, ptr g3]), (92, .slice (some ⟨vb9, vo9, none⟩) len cl), (93, .int .i64 (len : Int)), (94, .int .i64 (i : Int)), (206, .slice (some ⟨q9, 0, none⟩) 2 2), (207, .int .i64 2), (208, .int .i64 (k : Int))]) (fun k w => (k ≤ 2 ∧ ∃ H, Hp.le H9 H ∧ FtI c (i + 1) w0.heap.size H0 HB H q3 q3.X.st (q3.X.chunks.take q3.dl).flatten va vg ∧ HS [] H0 w0 H (FtM c sb xb yb zb q3) w)) (fun k => 2 - k) 0 ⟨rfl, rfl, rfl, rfl, rfl, rfl, rfl, rfl, rfl, rfl, rfl, rfl, rfl, rfl,  trivial⟩ ?_ (fun k w hW => ?_)
          · exact ⟨by omega, H9, Hp.le.refl _, hI3, hs⟩
          clear hs hle hI3
          obtain ⟨k, hkk⟩ : ∃ k', k' = k := ⟨_, rfl⟩
          subst hkk
          obtain ⟨hk2, H, hl9, hI3, hs⟩ := hW
          have hle := hI3.le
          refine WC.seq (WC.region (WO.step rfl (OR.lss rfl rfl (WO.done (WX.seq (WC.seq ?_))))))
          refine WC.condD rfl (fun hltk => ?_) (fun hltk => ?_)
          · have hk' : k < 2 := by omega
            refine WC.skip (WX.seq (WC.seq (WC.block (WC.seq (WC.region ?_)))))
            refine WO.step rfl (OR.idx k T95.und T82 rfl rfl rfl hk' ?_)
            refine WO.step rfl (OR.load T82 rfl rfl (hs.cell (hcell.mono hl9 (by rw [← Nat.mul_one k]; exact hc9 k hk'))) ?_)
            refine WO.step rfl (OR.assign rfl (WO.done (WX.seq (WC.seq (WC.region (WO.step rfl (OR.move rfl ?_)))))))
            refine WO.step rfl (OR.callW body44 rfl rfl (ft_rows hI3 hs k) ?_)
            clear hs; rintro e w ⟨H5, mb, m, rfl, hle5, hs, hm⟩; refine ⟨_, rfl, ?_⟩
            have hI5 := hI3.mono hle5
            obtain ⟨hpo, hpt⟩ := hI5.part k
            have hww := hpt.w
            have hmn : m.length ≤ c.win := by
              have h1 := rks_len (ftR q3 k).y (by rw [hww]; exact hcw.2)
              rw [hm.1, List.length_map]
              omega
            have hob : mObj .u64 m = .map (mEnt .u64 0 m).toArray m.length := rfl
            have htl : (mEnt .u64 0 m).toArray.size = m.length := by simp [mEnt_len]
            have hkt := hs.blk (i := 0) rfl
            rw [hob] at hkt
            refine WO.step rfl (OR.assign rfl (WO.done (WX.seq (WC.seq (WC.seq (WC.region (WO.step rfl ?_)))))))
            refine OR.move rfl ?_
            refine WO.step rfl (OR.lenMap hkt T98.und rfl ?_)
            rw [htl]
            refine WO.step rfl (OR.fieldAddr FA81_2 rfl ?_)
            refine WO.step rfl (OR.load T3 rfl rfl (hs.cell (hcell.mono hI5.lb hG.h7)) ?_)
            refine WO.step rfl (OR.gtr rfl rfl (WO.done (WX.seq ?_)))
            refine WC.no rfl (decide_eq_false (by omega)) ?_
            refine WC.skip (WX.seq (WC.seq (WC.region (WO.step rfl (OR.move rfl ?_)))))
            refine WO.step rfl (OR.rangeM hs hkt T98.und rfl ?_)
            clear hs hkt; intro r w hr hs
            refine WO.done (WX.seq (WC.block ?_))
            refine WC.loop (ι := Array Nat) (fun ix => [(7, ptr g2), (8, ptr g3), (9, ptr g4), (11, ptr yb), (13, ptr zb), (15, va), (16, vg), (17, .func (.func 48) #[] #[ptr g2, ptr g4, ptr g3]), (29, ptr (ftPb yb zb k)), (92, .slice (some ⟨vb9, vo9, none⟩) len cl), (93, .int .i64 (len : Int)), (94, .int .i64 (i : Int)), (206, .slice (some ⟨q9, 0, none⟩) 2 2), (207, .int .i64 2), (208, .int .i64 (k : Int)), (220, .pointer (some ⟨r, 0, none⟩))]) (fun ix w => (∃ H last, Hp.le H5 H ∧ m.length ≤ last ∧ HS [] H0 w0 H ((r, .mapIter (some mb) m.length ix last, true) :: (mb, mObj .u64 m, true) :: FtM c sb xb yb zb q3) w)) (fun ix => unseen m.length ix) #[] ⟨rfl, rfl, rfl, rfl, rfl, rfl, rfl, rfl, rfl, rfl, rfl, rfl, rfl, rfl, rfl, rfl,  trivial⟩ ?_ (fun ix w hW => ?_)
            · exact ⟨H5, m.length, Hp.le.refl _, Nat.le_refl _, hs⟩
            clear hs hle
            obtain ⟨seen, hseen⟩ : ∃ s, s = ix := ⟨_, rfl⟩
            subst hseen
            obtain ⟨H, last, hl5, hlast, hs⟩ := hW
            have hle := hI5.le.trans hl5
            have hkt := hs.blk (i := 1) rfl
            rw [hob] at hkt
            refine WC.seq (WC.region ?_)
            refine WO.step rfl (OR.nextM' hs hkt rfl (fun e he => by obtain ⟨j, hj, rfl⟩ := mEnt_mem (by simpa using he); simpa using hj) hlast ?_)
            clear hs hkt; intro v w hv
            rcases hv with ⟨hall, rfl, hs⟩ | ⟨e, he, hns, rfl, hs⟩
            · have hall2 := hall
              refine WO.step rfl (OR.extract rfl rfl (WO.done (WX.seq (WC.seq ?_))))
              refine WC.no rfl rfl ?_
              refine WC.exit (WX.seq_exit (WX.loop_exit (WX.block_hit (WX.block (WX.seq (WC.region (WO.step rfl ?_)))))))
              refine OR.addI rfl rfl (by omega) (by omega) (WO.step rfl (OR.move rfl (WO.done ?_)))
              refine WX.again (k + 1) ⟨rfl, rfl, rfl, rfl, rfl, rfl, rfl, rfl, rfl, rfl, rfl, rfl, rfl, rfl,  trivial⟩ ?_ ?_
              · exact ⟨by omega, H, hl9.trans (hle5.trans hl5), hI5.mono hl5, (hs.drop 0).drop 0⟩
              · omega
            · have he2 := he
              refine WO.step rfl (OR.extract rfl rfl (WO.done (WX.seq (WC.seq ?_))))
              refine WC.yes rfl rfl ?_
              obtain ⟨j, hj, rfl⟩ := mEnt_mem (by simpa using he)
              rw [Nat.zero_add] at he2 hns hs
              rw [Nat.zero_add]
              have hjg : j < ((ftR q3 k).y.rks.map (·.1)).length := by rw [← hm.1]; exact hj
              obtain ⟨hm1, hm2⟩ := hm.2 j hjg hj
              obtain ⟨bj, cj, hfj⟩ : ∃ b c2, m[j].2 = .slice b ((ftR q3 k).y.rk ((ftR q3 k).y.rks.map (·.1))[j]).length c2 := by
                obtain ⟨cs, h1, _⟩ := hm2
                exact h1.form
              have hin := (rks_mem.1 (List.getElem_mem hjg)).1
              have hlg := hpt.rowsOk (by omega) (gen := ((ftR q3 k).y.rks.map (·.1))[j])
              rw [hI5.gs.1] at hlg
              have hkt := hs.blk (i := 1) rfl
              rw [hob] at hkt
              refine WC.skip (WX.seq (WC.block (WC.seq (WC.region ?_))))
              refine WO.step rfl (OR.entryM (hs.blk (i := 0) rfl) hkt rfl (by simpa using mEnt_nodup .u64 m 0) he2 ?_)
              simp only [hm1, hfj]
              generalize ((ftR q3 k).y.rks.map (·.1))[j] = gen at *
              refine WO.step rfl (OR.extract rfl rfl (WO.step rfl (OR.extract rfl rfl (WO.step rfl (OR.assign rfl (WO.step rfl (OR.assign rfl ?_)))))))
              refine WO.done (WX.seq (WC.seq (WC.region (WO.step rfl (OR.move rfl (WO.step rfl (OR.lenSlice T97.und rfl ?_)))))))
              refine WO.step rfl (OR.fieldAddr FA78_0 rfl ?_)
              refine WO.step rfl (OR.load T3 rfl rfl (hs.cell (hcell.mono (hI5.lb.trans hl5) hGg)) ?_)
              refine WO.step rfl (OR.gtr rfl rfl (WO.step rfl (OR.move rfl ?_)))
              obtain ⟨d9, tb9, vs9, vk9, hv9⟩ := ft_view (A := [_, _]) hs k
              refine WO.guardYes rfl (decide_eq_false (by omega)) rfl rfl (OR.move rfl (WO.guardYes rfl (decide_eq_false (by omega)) rfl rfl (OR.move rfl ?_)))
              refine WO.guardYes rfl (decide_eq_false (by omega)) rfl rfl (OR.call hs body55 rfl rfl (fin_ok c d9 _ tb9 _ _ gen vs9 vk9 _ _ _ _ hv9 hpo.2) ?_)
              clear hs; rintro _ H w hs hle1 rfl; replace hle := hle.trans hle1; (try replace hlb := hlb.trans hle1)
              rw [decide_eq_true hin]
              refine WO.guardYes rfl (decide_eq_false (by omega)) rfl rfl (OR.not rfl (WO.step rfl (OR.pickF rfl (decide_eq_false (by omega)) rfl (WO.done (WX.seq ?_)))))
              refine WC.no rfl rfl ?_
              refine WC.skip (WX.block ?_)
              refine WX.again (seen.push j) ⟨rfl, rfl, rfl, rfl, rfl, rfl, rfl, rfl, rfl, rfl, rfl, rfl, rfl, rfl, rfl, rfl,  trivial⟩ ?_ ?_
              · exact ⟨H, m.length, hl5.trans hle1, Nat.le_refl _, hs⟩
              · exact unseen_push hj hns
          · refine WC.exit (WX.seq_exit (WX.loop_exit (WX.block_hit (WX.block (WX.seq (WC.region (WO.step rfl ?_)))))))
            refine OR.addI rfl rfl (by omega) (by omega) (WO.step rfl (OR.move rfl (WO.done ?_)))
            refine WX.again ((i + 1, va, vg, yb, zb)) ⟨rfl, rfl, rfl, rfl, rfl, rfl, rfl, rfl, rfl, rfl, rfl,  trivial⟩ ?_ ?_
            · exact ⟨by omega, by omega, H, q3, hI3, hs⟩
            · simp only; omega
  · refine WC.exit (WX.seq_exit (WX.loop_exit (WX.block_hit (WX.seq (WC.seq (WC.region (WO.step rfl ?_)))))))
    refine OR.assign rfl (WO.done (WX.seq (WC.ret ?_)))
    refine WX.ret1 rfl rfl ?_
    exact .mk (hs.sublist (List.nil_sublist _)) rfl
end Go.Bw
namespace Go.Bw
set_option linter.unusedVariables false
set_option linter.unusedSimpArgs false
open Go.Proofs Go.RowKit Go.ChangeShapes Go.Deep
set_option maxRecDepth 20000 in
theorem law_FlowTrue {H : Type} {enc : TypeId × Value → H} {W : World} {base : Nat} {v : Value} {d : DataW H} {p : List MemPlace}
    (hv : Value.okWide Tryz.prog W .any base 104 v) (h : DataW.Trod enc Tryz.prog W 0 (fun _ => true) true 104 v d p) :
    Calls Tryz.prog 7 #[v] W fun e w' => e = .returned (.bool true) ∧ Below W.heap.size W w' := by
  obtain ⟨cs, rfl, hsz⟩ := read_struct T104.und hv
  obtain ⟨fuel, h⟩ := h
  obtain ⟨_, n, hf⟩ := read_fields T104.und h
  have c1 : Tryz.prog.cellsOf 5 = 1 := by kernel_rfl
  have c2 : Tryz.prog.cellsOf 75 = 1 := by kernel_rfl
  have c4 : Tryz.prog.cellsOf 104 = 4 := by kernel_rfl
  rw [c4] at hsz
  obtain ⟨l⟩ := cs
  match l, hsz with
  | [a0, a1, a2, a3], _ =>
    obtain ⟨y0, h0⟩ := read_field 5 [a0] (hf 0 _ rfl) rfl c1 rfl
    obtain ⟨y1, h1⟩ := read_field 5 [a1] (hf 1 _ rfl) rfl c1 rfl
    obtain ⟨y2, h2⟩ := read_field 5 [a2] (hf 2 _ rfl) rfl c1 rfl
    obtain ⟨y3, h3⟩ := read_field 75 [a3] (hf 3 _ rfl) rfl c2 rfl
    obtain ⟨G, e0⟩ := read_byte T5.und h0
    obtain ⟨S, e1⟩ := read_byte T5.und h1
    obtain ⟨Wd, e2⟩ := read_byte T5.und h2
    obtain ⟨vl, ln, A, V, e3, hm, hln⟩ := read_movs h3
    simp at e0 e1 e2 e3
    subst e0 e1 e2 e3
    exact (fltrue_ok G S Wd _ ln A V _ W (heapOf.sub W) hm hln).mono fun e w' h => h.law fun _ _ h => h
end Go.Bw
