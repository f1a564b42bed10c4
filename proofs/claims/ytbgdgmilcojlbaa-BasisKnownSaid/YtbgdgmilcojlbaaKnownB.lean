/- BasisKnown, walked. -/
import Derived.Test.YtbgdgmilcojlbaaForm
namespace Go.Bw
set_option linter.unusedVariables false
set_option linter.unusedSimpArgs false
open Go.Proofs

/-- The law's own rows: one place that is not nought. -/
def kRow (i : Nat) : RowD := ((List.replicate 255 (0 : UInt8)).set (254 - i) (UInt8.ofNat (1 + i)), [UInt8.ofNat i])
theorem kRow_gs (i : Nat) : RowGS 255 1 (kRow i) := ⟨by rw [kRow, List.length_set, List.length_replicate], rfl⟩
theorem kRow_at (i : Nat) (h : i < 255) : ent (kRow i) (.inl (254 - i)) ≠ 0 := by
  have e : ent (kRow i) (.inl (254 - i)) = UInt8.ofNat (1 + i) := by
    simp only [ent, kRow]
    rw [List.getD_eq_getElem?_getD, List.getElem?_set_self (by rw [List.length_replicate]; omega)]
    rfl
  rw [e]
  intro h2
  have := congrArg UInt8.toNat h2
  rw [UInt8.toNat_ofNat'] at this
  simp at this
  omega
theorem kRow_low (i j : Nat) (h : j ≠ 254 - i) : ent (kRow i) (.inl j) = 0 := by
  simp only [ent, kRow]
  rw [List.getD_eq_getElem?_getD, List.getElem?_set_ne (by omega), List.getElem?_replicate]
  split <;> rfl
theorem Bytes.zeros {H : Hp} {g n : Nat} {e : TypeId} (hp : H g = some (.cells (List.replicate n (B 0)).toArray e)) : Bytes H (.slice (some ⟨g, 0, none⟩) n n) (List.replicate n 0) := by
  have := Bytes.block (l := List.replicate n 0) (cap := n) hp (by simp) (by simp)
  rwa [List.length_replicate] at this
theorem insR_dim {g s : Nat} {A : List RowD} {r : RowD} (h : ¬ (r.1.length = g ∧ r.2.length = s)) : insR g s A r = (false, A) := by unfold insR; rw [if_neg h]
structure KInv (i : Nat) (A : List RowD) : Prop where
  red : Red 255 1 A
  len : A.length = i
  low : ∀ x ∈ A, ∀ j, j < 255 - i → ent x (.inl j) = 0
theorem KInv.nil : KInv 0 [] := ⟨Red.nil _ _, rfl, by simp⟩
theorem KInv.step {i : Nat} {A : List RowD} (h : KInv i A) (hi : i < 255) : KInv (i + 1) (insR 255 1 A (kRow i)).2 ∧ (insR 255 1 A (kRow i)).1 = true := by
  have hr := kRow_gs i
  have hq := redR_gs A (kRow i) hr h.red.gs
  have hqe : ∀ j, j < 255 - i → ent (redR A (kRow i)) (.inl j) = ent (kRow i) (.inl j) := by
    intro j hj
    rw [redR_ent h.red _ hr, S_zero, xor_zero8]
    exact fun x hx => .inr (h.low x hx j hj)
  have hld : lead (redR A (kRow i)).1 = ((254 - i : Nat) : Int) := by
    refine lead_of ?_ ?_
    · have := hqe (254 - i) (by omega)
      simp only [ent] at this
      rw [this]
      exact kRow_at i hi
    · intro j hj
      have := hqe j (by omega)
      simp only [ent] at this
      rw [this]
      exact kRow_low i j (by omega)
  have hin : ¬ lead (redR A (kRow i)).1 < 0 := by omega
  have hlen := insR_len (b := A) hr
  rw [insR_in hr hin] at hlen ⊢
  refine ⟨⟨h.red.ins hq (by omega) (fun x hx => redR_at h.red _ hr hx), ?_, fun y hy j hj => ?_⟩, rfl⟩
  · rw [hlen, h.len, if_pos rfl]
  · have hq0 : ent (redR A (kRow i)) (.inl j) = 0 := by rw [hqe j (by omega)]; exact kRow_low i j (by omega)
    rcases mem_ins.1 hy with rfl | hy
    · rw [norm_ent, hq0, zero_mul]
    · obtain ⟨x, hx, rfl⟩ := List.mem_map.1 hy
      rw [free_ent h.red hq hx, norm_ent, hq0, zero_mul, zero_mul, xor_zero8]
      exact h.low x hx j (by omega)

set_option maxRecDepth 20000 in
set_option maxHeartbeats 2000000 in
theorem R_any (b1 b2 : Option Addr) (n1 n2 c1 c2 : Nat) (H0 : Hp) (w0 : World) (h0 : Sub H0 w0) :
    Calls Try.prog 48 #[.slice b1 n1 c1, .slice b2 n2 c2] w0 (Pure H0 w0 fun v _ => v = .agg #[.slice b1 n1 c1, .slice b2 n2 c2]) := by
  have hs := HS.init h0
  have hle := Hp.le.refl H0
  refine Calls.enter (args := [.slice b1 n1 c1, .slice b2 n2 c2]) Try.func48 rfl Try.ntmps48 rfl ?_
  refine WC.seq (WC.region (WO.step rfl (OR.alloc hs T35 ?_)))
  clear hs; intro g1 w hg1 hs
  refine WO.done (WX.seq (WC.seq (WC.region (WO.step rfl (OR.move rfl (WO.step rfl (OR.move rfl ?_)))))))
  refine WO.step rfl (OR.buildAll T35 rfl rfl PL35 rfl rfl (WO.stepN (OR.storeAll hs T35 rfl rfl rfl rfl rfl ?_)))
  clear hs; intro w hs
  refine WO.done (WX.seq (WC.ret ?_))
  refine WX.retCell T35 rfl rfl rfl rfl (hs.blk (i := 0) rfl) ?_
  exact .mk (hs.drop 0) rfl

set_option maxRecDepth 20000 in
set_option maxHeartbeats 2000000 in
theorem rows_nil (H0 : Hp) (w0 : World) (h0 : Sub H0 w0) :
    Calls Try.prog 20 #[.pointer none] w0 (Pure H0 w0 fun v _ => v = .slice none 0 0) := by
  have hs := HS.init h0
  have hle := Hp.le.refl H0
  refine Calls.enter (args := [.pointer none]) Try.func20 rfl Try.ntmps20 rfl ?_
  refine WC.seq (WC.region (WO.step rfl (OR.assign rfl (WO.done (WX.seq (WC.seq (WC.region ?_)))))))
  refine WO.step rfl (OR.assign rfl (WO.done (WX.seq (WC.seq (WC.seq (WC.region (WO.step rfl ?_)))))))
  refine OR.move rfl ?_
  refine WO.step rfl (OR.call hs body19 rfl rfl (rank_nil _ _ hs.toSub) ?_)
  clear hs; rintro _ H w hs hle1 rfl; replace hle := hle.trans hle1; (try replace hlb := hlb.trans hle1)
  refine WO.step rfl (OR.move rfl (WO.done (WX.seq (WC.block ?_))))
  refine WC.loop (ι := Nat) (fun ix => [(3, .slice none 0 0), (6, .int .i64 0), (7, .int .i64 (ix : Int))]) (fun ix w => (∃ H, Hp.le H0 H ∧ HS [] H0 w0 H [] w)) (fun ix => 0) 0 ⟨rfl, rfl, rfl,  trivial⟩ ?_ (fun ix w hW => ?_)
  · exact ⟨H, hle, hs⟩
  obtain ⟨H, hle, hs⟩ := hW
  refine WC.seq (WC.region (WO.step rfl (OR.lss rfl rfl (WO.done (WX.seq (WC.seq ?_))))))
  refine WC.condD rfl (fun hlt => ?_) (fun hlt => ?_)
  · omega
  · refine WC.exit (WX.seq_exit (WX.loop_exit (WX.block_hit (WX.seq (WC.seq (WC.region (WO.step rfl ?_)))))))
    refine OR.move rfl (WO.step rfl (OR.assign rfl (WO.done (WX.seq (WC.ret ?_)))))
    refine WX.ret1 rfl rfl ?_
    exact .mk hs rfl

set_option maxRecDepth 20000 in
set_option maxHeartbeats 2000000 in
theorem bknown_ok (H0 : Hp) (w0 : World) (h0 : Sub H0 w0) : Calls Try.prog 8 #[] w0 (Pure H0 w0 fun v _ => v = .bool true) := by
  have hs := HS.init h0
  have hle := Hp.le.refl H0
  refine Calls.enter (args := []) Try.func8 rfl Try.ntmps8 rfl ?_
  refine WC.seq (WC.region (WO.step rfl (OR.assign rfl (WO.done (WX.seq (WC.seq (WC.seq ?_)))))))
  refine WC.region (WO.step rfl (OR.move rfl ?_))
  refine WO.guardYes rfl rfl rfl rfl (OR.call hs body16 rfl rfl (awake_ok _ _ hs.toSub) ?_)
  clear hs; rintro _ H w hs hle1 rfl; replace hle := hle.trans hle1; (try replace hlb := hlb.trans hle1)
  refine WO.guardYes rfl rfl rfl rfl (OR.not rfl (WO.step rfl (OR.pickF rfl rfl rfl (WO.done (WX.seq ?_)))))
  refine WC.no rfl rfl ?_
  refine WC.skip (WX.seq (WC.seq (WC.region ?_)))
  refine WO.step rfl (OR.callX (Mx := []) hs body15 rfl rfl (new_ok 0 1 _ _ hs.toSub) rfl rfl ?_)
  clear hs; rintro _ H M' w hs hle1 hnew ⟨_, hn⟩; replace hle := hle.trans hle1; (try replace hlb := hlb.trans hle1)
  rw [if_neg (by omega)] at hn
  obtain ⟨rfl, rfl⟩ := hn
  refine WO.step rfl (OR.move rfl (WO.step rfl (OR.extract rfl rfl (WO.step rfl (OR.extract rfl rfl (WO.step rfl (OR.assign rfl ?_)))))))
  refine WO.step rfl (OR.assign rfl (WO.done (WX.seq (WC.seq (WC.region ?_)))))
  refine WO.step rfl (OR.callX (Mx := []) hs body15 rfl rfl (new_ok 256 1 _ _ hs.toSub) rfl rfl ?_)
  clear hs; rintro _ H M' w hs hle1 hnew ⟨_, hn⟩; replace hle := hle.trans hle1; (try replace hlb := hlb.trans hle1)
  rw [if_neg (by omega)] at hn
  obtain ⟨rfl, rfl⟩ := hn
  refine WO.step rfl (OR.move rfl (WO.step rfl (OR.extract rfl rfl (WO.step rfl (OR.extract rfl rfl (WO.step rfl (OR.assign rfl ?_)))))))
  refine WO.step rfl (OR.assign rfl (WO.done (WX.seq (WC.seq (WC.region ?_)))))
  refine WO.step rfl (OR.callX (Mx := []) hs body15 rfl rfl (new_ok 1 0 _ _ hs.toSub) rfl rfl ?_)
  clear hs; rintro _ H M' w hs hle1 hnew ⟨_, hn⟩; replace hle := hle.trans hle1; (try replace hlb := hlb.trans hle1)
  rw [if_neg (by omega)] at hn
  obtain ⟨rfl, rfl⟩ := hn
  refine WO.step rfl (OR.move rfl (WO.step rfl (OR.extract rfl rfl (WO.step rfl (OR.extract rfl rfl (WO.step rfl (OR.assign rfl ?_)))))))
  refine WO.step rfl (OR.assign rfl (WO.done (WX.seq (WC.seq (WC.region ?_)))))
  refine WO.step rfl (OR.callX (Mx := []) hs body15 rfl rfl (new_ok 1 65536 _ _ hs.toSub) rfl rfl ?_)
  clear hs; rintro _ H M' w hs hle1 hnew ⟨_, hn⟩; replace hle := hle.trans hle1; (try replace hlb := hlb.trans hle1)
  rw [if_neg (by omega)] at hn
  obtain ⟨rfl, rfl⟩ := hn
  refine WO.step rfl (OR.move rfl (WO.step rfl (OR.extract rfl rfl (WO.step rfl (OR.extract rfl rfl (WO.step rfl (OR.assign rfl ?_)))))))
  refine WO.step rfl (OR.assign rfl (WO.done (WX.seq (WC.seq (WC.region ?_)))))
  refine WO.step rfl (OR.callX (Mx := []) hs body15 rfl rfl (new_ok 255 1 _ _ hs.toSub) rfl rfl ?_)
  clear hs; rintro _ H M' w hs hle1 hnew ⟨_, hn⟩; replace hle := hle.trans hle1; (try replace hlb := hlb.trans hle1)
  rw [if_pos (by omega)] at hn
  obtain ⟨b, hb0, rfl, rfl⟩ := hn
  replace hs : HS [] H0 w0 H [(b, basisObj 255 1 (.slice none 0 0), true)] w := hs
  refine WO.step rfl (OR.move rfl (WO.step rfl (OR.extract rfl rfl (WO.step rfl (OR.extract rfl rfl (WO.step rfl (OR.assign rfl ?_)))))))
  refine WO.step rfl (OR.assign rfl (WO.done (WX.seq (WC.seq (WC.seq (WC.region (WO.step rfl ?_)))))))
  refine OR.move rfl (WO.done (WX.seq (WC.block ?_)))
  refine WC.loop (ι := Nat) (fun i => [(2, .int .i64 1), (4, .int .i64 1), (6, .int .i64 1), (8, .int .i64 1), (9, ptr b), (10, .int .i64 0), (58, .int .i64 (i : Int))]) (fun i w => (i ≤ 255 ∧ ∃ A H2 rv, KInv i A ∧ Hp.le H0 H2 ∧ Rws H2 rv A ∧ HS [] H0 w0 H2 [(b, basisObj 255 1 rv, true)] w)) (fun i => 255 - i) 0 ⟨rfl, rfl, rfl, rfl, rfl, rfl, rfl,  trivial⟩ ?_ (fun i w hW => ?_)
  · exact ⟨by omega, [], H, _, KInv.nil, hle, ⟨[], Sl.nil _ _, rfl, fun i h => by simp at h⟩, hs⟩
  clear hs hle
  obtain ⟨hi, A, H2, rv, hA, hle, hv, hs⟩ := hW
  have hAl := hA.len
  have hAr : ∀ x ∈ A, RowGS 255 1 x ∧ 0 ≤ lead x.1 := fun x hx => ⟨hA.red.gs x hx, hA.red.ld x hx⟩
  refine WC.seq (WC.region (WO.step rfl (OR.lss rfl rfl (WO.done (WX.seq (WC.seq ?_))))))
  refine WC.condD rfl (fun hlt => ?_) (fun hlt => ?_)
  · have hi' : i < 255 := by omega
    refine WC.skip (WX.seq (WC.seq (WC.block (WC.seq (WC.region (WO.step rfl (OR.move rfl ?_)))))))
    refine WO.step rfl (OR.assign rfl (WO.done (WX.seq (WC.seq (WC.region ?_)))))
    refine WO.step rfl (OR.make1 (m := 255) hs T23.und T5 rfl rfl rfl (by omega) (by omega) ?_)
    clear hs; intro gc w hgc hs
    refine WO.step rfl (OR.move rfl ?_)
    refine WO.step rfl (OR.convN (m := i) T3.und T5.und rfl rfl ?_)
    refine WO.step rfl (OR.buildSlice (vs := [_]) hs T23.und T5 rfl rfl rfl rfl (by simp) ?_)
    clear hs; intro gp w hgp hs
    obtain ⟨H, hle1, hp_gp, hs9⟩ := hs.pub1 hgp; clear hs; have hs := hs9; clear hs9; replace hle := hle.trans hle1; (try replace hlb := hlb.trans hle1)
    have hp := Bytes.block (l := [UInt8.ofNat i]) (cap := 1) hp_gp rfl (by simp)
    replace hv := hv.mono hle1
    refine WO.step rfl (OR.call hs body48 rfl rfl (R_any _ _ _ _ _ _ _ _ hs.toSub) ?_)
    clear hs; rintro _ H w hs hle1 rfl; replace hle := hle.trans hle1; (try replace hlb := hlb.trans hle1)
    replace hv := hv.mono hle1
    replace hp := hp.mono hle1
    refine WO.step rfl (OR.alloc hs T35 ?_)
    clear hs; intro g1 w hg1 hs
    refine WO.stepN (OR.storeAll hs T35 rfl rfl rfl rfl rfl ?_)
    clear hs; intro w hs
    refine WO.done (WX.seq (WC.seq (WC.region (WO.step rfl (OR.fieldAddr FA35_0 rfl (WO.step rfl (OR.load T23 rfl rfl (hs.cellM (i := 0) rfl rfl) ?_)))))))
    refine WO.step rfl (OR.move rfl (WO.step rfl (OR.subI rfl rfl (by omega) (by omega) (WO.step rfl (OR.move rfl ?_)))))
    refine WO.step rfl (OR.rem rfl rfl (by omega) ?_)
    have htm : (i : Int).tmod 255 = (i : Int) := by rw [Int.tmod_eq_emod_of_nonneg (by omega)]; omega
    rw [htm]
    refine WO.step rfl (OR.addI rfl rfl (by omega) (by omega) ?_)
    refine WO.step rfl (OR.convN (m := 1 + i) T3.und T5.und rfl (by omega) ?_)
    refine WO.step rfl (OR.idx (254 - i) T23.und T5 rfl rfl (by omega) (by omega) ?_)
    replace hs := hs.front (i := 1) rfl
    refine WO.stepN (OR.store hs T5 rfl rfl rfl (by simp) rfl ?_)
    clear hs; intro w hs
    refine WO.done (WX.seq (WC.seq (WC.region (WO.step rfl (OR.move rfl (WO.step rfl (OR.loadAll T35 rfl rfl (hs.blk (i := 1) rfl) rfl ?_)))))))
    obtain ⟨H, hle1, hp_gc, hs9⟩ := hs.pub1 hgc; clear hs; have hs := hs9; clear hs9; replace hle := hle.trans hle1; (try replace hlb := hlb.trans hle1)
    have hc : Bytes H (.slice (some ⟨gc, 0, none⟩) 255 255) (kRow i).1 := by
      have h1 := Bytes.block (l := (kRow i).1) (cap := 255) hp_gc (by
        rw [(kRow_gs i).1, List.take_of_length_le (by simp [setL_length]), kRow, List.map_set, List.map_replicate]
        show setL (List.replicate 255 (B 0)) (0 + (254 - i)) [B (UInt8.ofNat (1 + i))] = _
        rw [Nat.zero_add, setL_step, setL_nil]) (by rw [(kRow_gs i).1]; exact Nat.le_refl _)
      rw [(kRow_gs i).1] at h1
      exact h1
    replace hv := hv.mono hle1
    replace hp := hp.mono hle1
    replace hs := hs.front (i := 1) rfl
    refine WO.step rfl (OR.callX (Mx := [(b, _, true)]) hs body18 rfl rfl (insert_ok A (kRow i) _ _ _ b 255 1 _ _ hs.toSub (hs.blk (i := 0) rfl) (hs.mem b _ true (List.mem_cons_self ..)).2.1 hv hc hp hAr (by omega) (by omega) (by omega) (by omega)) rfl rfl ?_)
    clear hs; rintro _ H3 M' w hs hle1 hnew ⟨rv2, rfl, hv2, rfl⟩; replace hle := hle.trans hle1; (try replace hlb := hlb.trans hle1)
    rw [if_pos (show (kRow i).1.length = 255 ∧ (kRow i).2.length = 1 from kRow_gs i), (hA.step hi').2]
    refine WO.step rfl (OR.move rfl (WO.step rfl (OR.extract rfl rfl (WO.step rfl (OR.extract rfl rfl (WO.step rfl (OR.assign rfl ?_)))))))
    refine WO.step rfl (OR.assign rfl (WO.done (WX.seq (WC.seq (WC.region (WO.step rfl (OR.move rfl ?_)))))))
    refine WO.step rfl (OR.not rfl (WO.step rfl (OR.move rfl ?_)))
    refine WO.guardYes rfl rfl rfl rfl (OR.move rfl (WO.guardYes rfl rfl rfl rfl (OR.neq rfl rfl (WO.step rfl (OR.pickF rfl rfl rfl (WO.done (WX.seq ?_)))))))
    refine WC.no rfl (decide_eq_false (by omega)) ?_
    refine WC.skip (WX.block (WX.seq (WC.region (WO.step rfl (OR.addI rfl rfl (by omega) (by omega) (WO.step rfl (OR.move rfl ?_)))))))
    refine WO.done ?_
    replace hs := hs.drop (i := 1)
    refine WX.again (i + 1) ⟨rfl, rfl, rfl, rfl, rfl, rfl, rfl,  trivial⟩ ?_ ?_
    · exact ⟨hi', _, _, rv2, (hA.step hi').1, hle, hv2, hs⟩
    · omega
  · have e : i = 255 := by omega
    subst e
    refine WC.exit (WX.seq_exit (WX.loop_exit (WX.block_hit (WX.seq (WC.seq (WC.region (WO.step rfl ?_)))))))
    refine OR.move rfl ?_
    refine WO.step rfl (OR.call hs body23 rfl rfl (solve_ok A _ b 255 1 _ _ hs.toSub (hs.blk (i := 0) rfl) (hs.mem b _ true (List.mem_cons_self ..)).2.1 hv hA.red.gs (by omega) (by omega) (by omega) (by omega)) ?_)
    clear hs; rintro _ H w hs hle1 ⟨got, rfl, hgot⟩; replace hle := hle.trans hle1; (try replace hlb := hlb.trans hle1)
    rw [if_neg (by omega)] at hgot ⊢
    replace hv := hv.mono hle1
    obtain ⟨b5, c5, rfl⟩ := hgot.form
    rw [List.length_map, hAl]
    refine WO.step rfl (OR.move rfl (WO.step rfl (OR.extract rfl rfl (WO.step rfl (OR.extract rfl rfl (WO.step rfl (OR.assign rfl ?_)))))))
    refine WO.step rfl (OR.assign rfl (WO.done (WX.seq (WC.seq (WC.region (WO.step rfl (OR.move rfl ?_)))))))
    refine WO.step rfl (OR.make1 (m := 254) hs T23.und T5 rfl rfl rfl (by omega) (by omega) ?_)
    clear hs; intro ga w hga hs
    obtain ⟨H, hle1, hp_ga, hs9⟩ := hs.pub1 hga; clear hs; have hs := hs9; clear hs9; replace hle := hle.trans hle1; (try replace hlb := hlb.trans hle1)
    have hc1 : Bytes H (.slice (some ⟨ga, 0, none⟩) 254 254) (List.replicate 254 0) := Bytes.zeros hp_ga
    replace hv := hv.mono hle1
    refine WO.step rfl (OR.buildSlice (vs := [_]) hs T23.und T5 rfl rfl rfl rfl (by simp) ?_)
    clear hs; intro gb w hgb hs
    obtain ⟨H, hle1, hp_gb, hs9⟩ := hs.pub1 hgb; clear hs; have hs := hs9; clear hs9; replace hle := hle.trans hle1; (try replace hlb := hlb.trans hle1)
    have hp1 := Bytes.block (l := [1]) (cap := 1) hp_gb rfl (by simp)
    replace hv := hv.mono hle1
    replace hc1 := hc1.mono hle1
    refine WO.step rfl (OR.call hs body48 rfl rfl (R_any _ _ _ _ _ _ _ _ hs.toSub) ?_)
    clear hs; rintro _ H w hs hle1 rfl; replace hle := hle.trans hle1; (try replace hlb := hlb.trans hle1)
    replace hv := hv.mono hle1
    refine WO.step rfl (OR.callX (Mx := [(b, _, true)]) hs body18 rfl rfl (insert_ok A (List.replicate 254 0, [1]) _ _ _ b 255 1 _ _ hs.toSub (hs.blk (i := 0) rfl) (hs.mem b _ true (List.mem_cons_self ..)).2.1 hv (hc1.mono hle1) (hp1.mono hle1) hAr (by omega) (by omega) (by omega) (by omega)) rfl rfl ?_)
    clear hs; rintro _ H3 M' w hs hle1 hnew ⟨rv2, rfl, hv2, rfl⟩; replace hle := hle.trans hle1; (try replace hlb := hlb.trans hle1)
    have hd1 : ¬ ((List.replicate 254 (0 : UInt8)).length = 255 ∧ ([1] : List UInt8).length = 1) := by rw [List.length_replicate]; omega
    have hx1 : insR 255 1 A (List.replicate 254 0, [1]) = (false, A) := insR_dim hd1
    rw [hx1, if_neg hd1]
    rw [hx1] at hv2
    simp only at hv2
    refine WO.step rfl (OR.move rfl (WO.step rfl (OR.extract rfl rfl (WO.step rfl (OR.extract rfl rfl (WO.step rfl (OR.assign rfl ?_)))))))
    refine WO.step rfl (OR.assign rfl (WO.done (WX.seq (WC.seq (WC.region (WO.step rfl (OR.move rfl ?_)))))))
    refine WO.step rfl (OR.make1 (m := 255) hs T23.und T5 rfl rfl rfl (by omega) (by omega) ?_)
    clear hs; intro gd w hgd hs
    obtain ⟨H, hle1, hp_gd, hs9⟩ := hs.pub1 hgd; clear hs; have hs := hs9; clear hs9; replace hle := hle.trans hle1; (try replace hlb := hlb.trans hle1)
    have hc2 : Bytes H (.slice (some ⟨gd, 0, none⟩) 255 255) (List.replicate 255 0) := Bytes.zeros hp_gd
    replace hv2 := hv2.mono hle1
    refine WO.step rfl (OR.call hs body48 rfl rfl (R_any _ _ _ _ _ _ _ _ hs.toSub) ?_)
    clear hs; rintro _ H w hs hle1 rfl; replace hle := hle.trans hle1; (try replace hlb := hlb.trans hle1)
    replace hv2 := hv2.mono hle1
    refine WO.step rfl (OR.callX (Mx := [(b, _, true)]) hs body18 rfl rfl (insert_ok A (List.replicate 255 0, []) _ _ _ b 255 1 _ _ hs.toSub (hs.blk (i := 0) rfl) (hs.mem b _ true (List.mem_cons_self ..)).2.1 hv2 (hc2.mono hle1) (Bytes.nil _) hAr (by omega) (by omega) (by omega) (by omega)) rfl rfl ?_)
    clear hs; rintro _ H3 M' w hs hle1 hnew ⟨rv3, rfl, hv3, rfl⟩; replace hle := hle.trans hle1; (try replace hlb := hlb.trans hle1)
    have hd2 : ¬ ((List.replicate 255 (0 : UInt8)).length = 255 ∧ ([] : List UInt8).length = 1) := fun h => by cases h.2
    have hx2 : insR 255 1 A (List.replicate 255 0, []) = (false, A) := insR_dim hd2
    rw [hx2, if_neg hd2]
    rw [hx2] at hv3
    simp only at hv3
    refine WO.step rfl (OR.move rfl (WO.step rfl (OR.extract rfl rfl (WO.step rfl (OR.extract rfl rfl (WO.step rfl (OR.assign rfl ?_)))))))
    refine WO.step rfl (OR.assign rfl (WO.done (WX.seq (WC.seq (WC.region (WO.step rfl (OR.move rfl ?_)))))))
    refine WO.step rfl (OR.call hs body17 rfl rfl (contains_ok A _ _ [] b 255 1 _ _ hs.toSub (hs.blk (i := 0) rfl) (hs.mem b _ true (List.mem_cons_self ..)).2.1 hv3 (Bytes.nil _) hAr (by omega) (by omega) (by omega) (by omega)) ?_)
    clear hs; rintro _ H w hs hle1 rfl; replace hle := hle.trans hle1; (try replace hlb := hlb.trans hle1)
    rw [if_neg (by rw [List.length_nil]; omega)]
    replace hv3 := hv3.mono hle1
    refine WO.step rfl (OR.move rfl (WO.step rfl (OR.extract rfl rfl (WO.step rfl (OR.extract rfl rfl (WO.step rfl (OR.assign rfl ?_)))))))
    refine WO.step rfl (OR.assign rfl (WO.done (WX.seq (WC.seq (WC.region (WO.step rfl (OR.move rfl ?_)))))))
    refine WO.step rfl (OR.call hs body24 rfl rfl (combineB_ok A _ _ [] b 255 1 _ _ hs.toSub (hs.blk (i := 0) rfl) (hs.mem b _ true (List.mem_cons_self ..)).2.1 hv3 (Bytes.nil _) hA.red.gs (by omega) (by omega) (by omega) (by omega)) ?_)
    clear hs; rintro _ H w hs hle1 ⟨r3, rfl, hr3⟩; replace hle := hle.trans hle1; (try replace hlb := hlb.trans hle1)
    have hne : ¬ ([] : List UInt8).length = A.length := by rw [hAl]; simp
    rw [if_neg hne] at hr3 ⊢
    obtain ⟨xc, xp, rfl, hxc, hxp⟩ := hr3
    obtain ⟨b7, c7, rfl⟩ := hxc.form
    obtain ⟨b8, c8, rfl⟩ := hxp.form
    replace hv3 := hv3.mono hle1
    refine WO.step rfl (OR.move rfl (WO.step rfl (OR.extract rfl rfl (WO.step rfl (OR.extract rfl rfl (WO.step rfl (OR.alloc hs T35 ?_)))))))
    clear hs; intro g2 w hg2 hs
    refine WO.stepN (OR.storeAll hs T35 rfl rfl rfl rfl rfl ?_)
    clear hs; intro w hs
    refine WO.step rfl (OR.assign rfl (WO.done (WX.seq (WC.seq (WC.region (WO.step rfl (OR.assign rfl ?_)))))))
    refine WO.done (WX.seq (WC.seq (WC.region (WO.step rfl (OR.move rfl (WO.step rfl (OR.buildZero T35 PL35 ?_)))))))
    refine WO.step rfl (OR.call hs body18 rfl rfl (insert_nil .nilIface _ _ _ hs.toSub) ?_)
    clear hs; rintro _ H w hs hle1 rfl; replace hle := hle.trans hle1; (try replace hlb := hlb.trans hle1)
    replace hv3 := hv3.mono hle1
    refine WO.step rfl (OR.move rfl (WO.step rfl (OR.extract rfl rfl (WO.step rfl (OR.extract rfl rfl (WO.step rfl (OR.assign rfl ?_)))))))
    refine WO.step rfl (OR.assign rfl (WO.done (WX.seq (WC.seq (WC.region (WO.step rfl (OR.move rfl ?_)))))))
    refine WO.step rfl (OR.call hs body17 rfl rfl (contains_nil _ _ _ hs.toSub) ?_)
    clear hs; rintro _ H w hs hle1 rfl; replace hle := hle.trans hle1; (try replace hlb := hlb.trans hle1)
    replace hv3 := hv3.mono hle1
    refine WO.step rfl (OR.move rfl (WO.step rfl (OR.extract rfl rfl (WO.step rfl (OR.extract rfl rfl (WO.step rfl (OR.assign rfl ?_)))))))
    refine WO.step rfl (OR.assign rfl (WO.done (WX.seq (WC.seq (WC.region (WO.step rfl (OR.move rfl ?_)))))))
    refine WO.step rfl (OR.call hs body24 rfl rfl (combineB_nil _ _ _ hs.toSub) ?_)
    clear hs; rintro _ H w hs hle1 rfl; replace hle := hle.trans hle1; (try replace hlb := hlb.trans hle1)
    replace hv3 := hv3.mono hle1
    refine WO.step rfl (OR.move rfl (WO.step rfl (OR.extract rfl rfl (WO.step rfl (OR.extract rfl rfl (WO.step rfl (OR.alloc hs T35 ?_)))))))
    clear hs; intro g3 w hg3 hs
    refine WO.stepN (OR.storeAll hs T35 rfl rfl rfl rfl rfl ?_)
    clear hs; intro w hs
    refine WO.step rfl (OR.assign rfl (WO.done (WX.seq (WC.seq (WC.region (WO.step rfl (OR.move rfl ?_)))))))
    refine WO.step rfl (OR.call hs body23 rfl rfl (solve_nil _ _ hs.toSub) ?_)
    clear hs; rintro _ H w hs hle1 rfl; replace hle := hle.trans hle1; (try replace hlb := hlb.trans hle1)
    replace hv3 := hv3.mono hle1
    refine WO.step rfl (OR.move rfl (WO.step rfl (OR.extract rfl rfl (WO.step rfl (OR.extract rfl rfl (WO.step rfl (OR.assign rfl ?_)))))))
    refine WO.step rfl (OR.assign rfl (WO.done (WX.seq (WC.seq (WC.region (WO.step rfl (OR.move rfl ?_)))))))
    refine WO.step rfl (OR.eql rfl rfl (WO.step rfl (OR.move rfl ?_)))
    refine WO.guardYes rfl rfl rfl rfl (OR.move rfl (WO.guardYes rfl rfl rfl rfl (OR.eql rfl rfl (WO.step rfl (OR.pickT rfl rfl rfl (WO.step rfl (OR.move rfl ?_)))))))
    refine WO.guardYes rfl rfl rfl rfl (OR.move rfl (WO.guardYes rfl rfl rfl rfl (OR.eql rfl rfl (WO.step rfl (OR.pickT rfl rfl rfl (WO.step rfl (OR.move rfl ?_)))))))
    refine WO.guardYes rfl rfl rfl rfl (OR.move rfl (WO.guardYes rfl rfl rfl rfl (OR.eql rfl rfl (WO.step rfl (OR.pickT rfl rfl rfl (WO.step rfl (OR.move rfl ?_)))))))
    refine WO.guardYes rfl rfl rfl rfl (OR.move rfl (WO.guardYes rfl rfl rfl rfl (OR.eql rfl rfl (WO.step rfl (OR.pickT rfl rfl rfl (WO.step rfl (OR.move rfl ?_)))))))
    refine WO.guardYes rfl rfl rfl rfl (OR.move rfl (WO.guardYes rfl rfl rfl rfl (OR.eql rfl rfl (WO.step rfl (OR.pickT rfl rfl rfl (WO.step rfl (OR.move rfl ?_)))))))
    refine WO.guardYes rfl rfl rfl rfl (OR.move rfl (WO.guardYes rfl rfl rfl rfl (OR.lenSlice T22.und rfl (WO.guardYes rfl rfl rfl rfl (OR.eql rfl rfl (WO.step rfl (OR.pickT rfl rfl rfl ?_)))))))
    refine WO.step rfl (OR.move rfl (WO.guardYes rfl rfl rfl rfl (OR.move rfl ?_)))
    replace hs := hs.front (i := 2) rfl
    refine WO.guardYes rfl rfl rfl rfl (OR.call hs body19 rfl rfl (rank_ok b 255 1 _ A _ _ hs.toSub (hs.blk (i := 0) rfl) (hs.mem b _ true (List.mem_cons_self ..)).2.1 (by omega) hv3) ?_)
    clear hs; rintro _ H w hs hle1 rfl; replace hle := hle.trans hle1; (try replace hlb := hlb.trans hle1)
    rw [hAl]
    refine WO.guardYes rfl rfl rfl rfl (OR.eql rfl rfl (WO.step rfl (OR.pickT rfl rfl rfl (WO.step rfl (OR.move rfl (WO.guardYes rfl rfl rfl rfl (OR.move rfl ?_)))))))
    refine WO.guardYes rfl rfl rfl rfl (OR.eql rfl rfl (WO.step rfl (OR.pickT rfl rfl rfl (WO.step rfl (OR.move rfl (WO.guardYes rfl rfl rfl rfl (OR.move rfl ?_)))))))
    refine WO.guardYes rfl rfl rfl rfl (OR.eql rfl rfl (WO.step rfl (OR.pickT rfl rfl rfl (WO.step rfl (OR.move rfl (WO.guardYes rfl rfl rfl rfl (OR.move rfl ?_)))))))
    refine WO.guardYes rfl rfl rfl rfl (OR.eql rfl rfl (WO.step rfl (OR.pickT rfl rfl rfl (WO.step rfl (OR.move rfl (WO.guardYes rfl rfl rfl rfl (OR.move rfl ?_)))))))
    refine WO.guardYes rfl rfl rfl rfl (OR.eql rfl rfl (WO.step rfl (OR.pickT rfl rfl rfl (WO.step rfl (OR.move rfl (WO.guardYes rfl rfl rfl rfl (OR.move rfl ?_)))))))
    refine WO.guardYes rfl rfl rfl rfl (OR.eql rfl rfl (WO.step rfl (OR.pickT rfl rfl rfl (WO.step rfl (OR.move rfl (WO.guardYes rfl rfl rfl rfl (OR.move rfl ?_)))))))
    refine WO.guardYes rfl rfl rfl rfl (OR.eql rfl rfl (WO.step rfl (OR.pickT rfl rfl rfl (WO.step rfl (OR.move rfl (WO.guardYes rfl rfl rfl rfl (OR.move rfl ?_)))))))
    refine WO.guardYes rfl rfl rfl rfl (OR.eql rfl rfl (WO.step rfl (OR.pickT rfl rfl rfl (WO.step rfl (OR.move rfl (WO.guardYes rfl rfl rfl rfl (OR.move rfl ?_)))))))
    refine WO.guardYes rfl rfl rfl rfl (OR.eql rfl rfl (WO.step rfl (OR.pickT rfl rfl rfl (WO.step rfl (OR.move rfl (WO.guardYes rfl rfl rfl rfl (OR.move rfl ?_)))))))
    refine WO.guardYes rfl rfl rfl rfl (OR.call hs body19 rfl rfl (rank_nil _ _ hs.toSub) ?_)
    clear hs; rintro _ H w hs hle1 rfl; replace hle := hle.trans hle1; (try replace hlb := hlb.trans hle1)
    refine WO.guardYes rfl rfl rfl rfl (OR.eql rfl rfl (WO.step rfl (OR.pickT rfl rfl rfl (WO.step rfl (OR.move rfl (WO.guardYes rfl rfl rfl rfl (OR.move rfl ?_)))))))
    refine WO.guardYes rfl rfl rfl rfl (OR.call hs body20 rfl rfl (rows_nil _ _ hs.toSub) ?_)
    clear hs; rintro _ H w hs hle1 rfl; replace hle := hle.trans hle1; (try replace hlb := hlb.trans hle1)
    refine WO.guardYes rfl rfl rfl rfl (OR.lenSlice T26.und rfl (WO.guardYes rfl rfl rfl rfl (OR.eql rfl rfl (WO.step rfl (OR.pickT rfl rfl rfl (WO.step rfl (OR.move rfl ?_)))))))
    refine WO.guardYes rfl rfl rfl rfl (OR.move rfl ?_)
    refine WO.guardYes rfl rfl rfl rfl (OR.call hs body44 rfl rfl (copy_nil _ _ hs.toSub) ?_)
    clear hs; rintro _ H w hs hle1 rfl; replace hle := hle.trans hle1; (try replace hlb := hlb.trans hle1)
    refine WO.guardYes rfl rfl rfl rfl (OR.eqlNilP T29.und rfl rfl (WO.step rfl (OR.pickT rfl rfl rfl (WO.step rfl (OR.assign rfl (WO.done (WX.seq ?_)))))))
    refine WC.ret ?_
    refine WX.ret1 rfl rfl ?_
    exact .mk hs rfl

end Go.Bw
