/- What law_FlowTrue needs: laid out of own texts. No condition. -/
import Derived.Test.YtdibepkfgemddaaGreatKFlowTrue5
namespace Go.Bw
set_option linter.unusedVariables false
set_option linter.unusedSimpArgs false
open Go.Proofs
def be8 (v : Nat) : List UInt8 := (List.range 8).map fun j => UInt8.ofNat (v / 256 ^ (7 - j))
def beN (size v : Nat) : List UInt8 := (be8 v).drop (8 - size)
theorem beN_len (size v : Nat) (h : size ≤ 8) : (beN size v).length = size := by simp [beN, be8]; omega
theorem toB (n : Nat) : Value.int .u8 (IntKind.u8.wrap (n : Int)) = B (UInt8.ofNat n) := by
  rw [u8_wrap]
  show Value.int .u8 _ = Value.int .u8 ((UInt8.ofNat n).toNat : Int)
  rw [UInt8.toNat_ofNat']

set_option maxRecDepth 20000 in
set_option maxHeartbeats 2000000 in
theorem sclone_ok (v : Value) (l : List UInt8) (H0 : Hp) (w0 : World) (h0 : Sub H0 w0) (hv : Bytes H0 v l) (hl : l.length ≤ 140737488355328) :
    Calls Tryz.prog 175 #[v] w0 (Ret [] H0 w0 fun v H' M' => H' = H0 ∧ Own w0.heap.size 5 1 v l.length (l.map B) M') := by
  have hs := HS.init h0
  obtain ⟨base, cp, rfl⟩ := hv.form
  refine Calls.enter (args := [.slice base l.length cp]) Tryz.func175 rfl Tryz.ntmps175 rfl ?_
  refine WC.seq (WC.region (WO.step rfl (OR.assign rfl (WO.done (WX.seq (WC.seq (WC.seq ?_)))))))
  refine WC.region (WO.step rfl (OR.move rfl (WO.step rfl (OR.eqlNil T43.und rfl rfl (WO.done (WX.seq ?_))))))
  refine WC.cond rfl (fun hb => ?_) (fun hb => ?_)
  · refine WC.seq (WC.region (WO.step rfl (OR.assign rfl (WO.done (WX.seq (WC.ret (WX.seq_ret ?_)))))))
    refine WX.ret1 rfl rfl ?_
    have hb' : base = none := by cases base with | none => rfl | some a => cases hb
    subst hb'
    have h2 := Sl.src0 hv rfl
    refine ⟨_, H0, [], rfl, hs, by simp, rfl, ?_⟩
    have : l = [] := List.eq_nil_of_length_eq_zero h2
    subst this
    exact Own.nil _ _ _
  · refine WC.skip (WX.seq (WC.seq (WC.region ?_)))
    refine WO.step rfl (OR.buildSlice (vs := []) hs T43.und T5 rfl rfl rfl rfl (by simp) ?_)
    clear hs; intro g1 w hg1 hs
    refine WO.step rfl (OR.move rfl ?_)
    refine WO.step rfl (OR.append (n := 0) (cs := []) (news := l.map B) (Mo := [_]) (M := []) hs (Own.block (cap := 0) (by omega) rfl rfl hg1) T43.und T5 rfl (by omega) rfl rfl (by simp) (Sl.src hv hs) (Sl.src0 hv) (bytes_one l) (by omega) (by omega) ?_)
    clear hs; intro v' w Mo hs ho hge
    refine WO.step rfl (OR.assign rfl (WO.done (WX.seq (WC.ret ?_))))
    refine WX.ret1 rfl rfl ?_
    rw [Nat.zero_add, List.nil_append] at ho
    exact ⟨_, H0, Mo, rfl, by simpa using hs, ho.tt, rfl, ho⟩

set_option maxRecDepth 20000 in
set_option maxHeartbeats 2000000 in
theorem num_ok (vd : Value) (l : List UInt8) (v size : Nat) (H0 : Hp) (w0 : World) (h0 : Sub H0 w0) (hl : Bytes H0 vd l) (hll : l.length ≤ 100000000000000) (hv : v < 256 ^ size) (hv64 : v < 18446744073709551616) (hsz : 1 ≤ size ∧ size ≤ 8) :
    Calls Tryz.prog 146 #[vd, .int .u64 (v : Int), .int .i64 (size : Int)] w0 (Ret [] H0 w0 fun r H' M' => ∃ v1, r = .tuple #[v1, .int .i64 0] ∧ Own w0.heap.size 5 1 v1 (l.length + size) ((l ++ beN size v).map B) M') := by
  have hs := HS.init h0
  have hle := Hp.le.refl H0
  obtain ⟨b1, c1, rfl⟩ := hl.form
  refine Calls.enter (args := [.slice b1 l.length c1, .int .u64 (v : Int), .int .i64 (size : Int)]) Tryz.func146 rfl Tryz.ntmps146 rfl ?_
  refine WC.seq (WC.region (WO.step rfl (OR.assign rfl (WO.step rfl (OR.assign rfl (WO.done (WX.seq ?_)))))))
  refine WC.seq (WC.seq (WC.region (WO.step rfl (OR.move rfl (WO.step rfl (OR.lss rfl rfl (WO.step rfl ?_)))))))
  refine OR.move rfl ?_
  refine WO.guardYes rfl (decide_eq_false (by omega : ¬ (size : Int) < 1)) rfl rfl (OR.move rfl (WO.guardYes rfl (decide_eq_false (by omega : ¬ (size : Int) < 1)) rfl rfl (OR.gtr rfl rfl (WO.step rfl (OR.pickF rfl (decide_eq_false (by omega : ¬ (size : Int) < 1)) rfl (WO.done (WX.seq ?_)))))))
  refine WC.no rfl (decide_eq_false (by omega)) ?_
  refine WC.skip (WX.seq (WC.seq (WC.region (WO.step rfl (OR.alloc hs T242 ?_)))))
  clear hs; intro g1 w hg1 hs
  refine WO.done (WX.seq (WC.seq (WC.seq (WC.region (WO.step rfl (OR.move rfl (WO.done ?_)))))))
  refine WX.seq (WC.block ?_)
  refine WC.loop (ι := Nat × Nat) (fun ix => [(0, .slice b1 l.length c1), (1, .int .u64 (ix.2 : Int)), (2, .int .i64 (size : Int)), (8, ptr g1), (18, .int .i64 (ix.1 : Int))]) (fun ix w => (ix.1 ≤ 8 ∧ ix.2 = v / 256 ^ ix.1 ∧ ∃ c : List Value, c.length = 8 ∧ (∀ j, 8 - ix.1 ≤ j → j < 8 → c[j]? = some (B (UInt8.ofNat (v / 256 ^ (7 - j))))) ∧ ∃ H, Hp.le H0 H ∧ HS [] H0 w0 H [(g1, .cells c.toArray 242, true)] w)) (fun ix => 8 - ix.1) (0, v) ⟨rfl, rfl, rfl, rfl, rfl,  trivial⟩ ?_ (fun ix w hW => ?_)
  · refine ⟨by omega, by simp, List.replicate 8 (.int .u8 0), by simp, fun j h1 h2 => by omega, H0, hle, hs⟩
  clear hs hle
  obtain ⟨i, cur⟩ := ix
  obtain ⟨hi, hcur, c, hcl, hc, H, hle, hs⟩ := hW
  simp only at hi hcur hc
  subst hcur
  refine WC.seq (WC.region (WO.step rfl (OR.lss rfl rfl (WO.done (WX.seq (WC.seq ?_))))))
  refine WC.condD rfl (fun hlt => ?_) (fun hlt => ?_)
  · have hi' : i < 8 := by omega
    refine WC.skip (WX.seq (WC.seq (WC.block (WC.seq (WC.region (WO.step rfl (OR.move rfl ?_)))))))
    refine WO.step rfl (OR.assign rfl (WO.done (WX.seq (WC.seq (WC.region (WO.step rfl (OR.move rfl ?_)))))))
    refine WO.step rfl (OR.subI rfl rfl (by omega) (by omega) (WO.step rfl (OR.move rfl ?_)))
    refine WO.step rfl (OR.convI T22.und T5.und rfl ?_)
    rw [toB]
    refine WO.step rfl (OR.idxArr (7 - i) T242.und T5 rfl rfl (by omega) (by omega) ?_)
    refine WO.stepN (OR.store hs T5 rfl rfl rfl (by simp [hcl]) rfl ?_)
    clear hs; intro w hs
    refine WO.done (WX.seq (WC.region (WO.step rfl (OR.move rfl ?_))))
    refine WO.step rfl (OR.shr rfl rfl (by omega) ?_)
    have hsh : ((v / 256 ^ i : Nat) : Int).fdiv (2 ^ (min (8 : Int).toNat IntKind.u64.bits)) = ((v / 256 ^ (i + 1) : Nat) : Int) := by
      have e1 : (2 ^ (min (8 : Int).toNat IntKind.u64.bits) : Int) = ((256 : Nat) : Int) := rfl
      rw [e1, Int.fdiv_eq_ediv_of_nonneg _ (by omega), Nat.pow_succ, ← Nat.div_div_eq_div_mul]
      rfl
    rw [hsh]
    refine WO.step rfl (OR.assign rfl (WO.done (WX.block (WX.seq (WC.region (WO.step rfl (OR.addI rfl rfl (by omega) (by omega) ?_)))))))
    refine WO.step rfl (OR.move rfl (WO.done ?_))
    refine WX.again ((i + 1, v / 256 ^ (i + 1))) ⟨rfl, rfl, rfl, rfl, rfl,  trivial⟩ ?_ ?_
    · refine ⟨hi', rfl, _, by rw [setL_length]; exact hcl, fun j h1 h2 => ?_, H, hle, hs⟩
      rw [Nat.zero_add]
      show (setL c (7 - i) [B _])[j]? = _
      rw [setL_step, setL_nil]
      by_cases e : j = 7 - i
      · subst e
        rw [List.getElem?_set_self (by omega)]
        have : 7 - (7 - i) = i := by omega
        rw [this]
      · rw [List.getElem?_set_ne (Ne.symm e)]
        exact hc j (by simp only at h1; omega) h2
    · simp only; omega
  · have e : i = 8 := by omega
    subst e
    have hcb : c = (be8 v).map B := by
      apply List.ext_getElem?
      intro j
      by_cases hj : j < 8
      · rw [hc j (by omega) hj]
        simp [be8, hj]
      · rw [List.getElem?_eq_none (by omega), List.getElem?_eq_none (by simp [be8]; omega)]
    subst hcb
    refine WC.exit (WX.seq_exit (WX.loop_exit (WX.block_hit (WX.seq (WC.seq (WC.seq (WC.region ?_)))))))
    refine WO.step rfl (OR.move rfl (WO.step rfl (OR.subI rfl rfl (by omega) (by omega) ?_)))
    refine WO.step rfl (OR.sliceArrHi (8 - size) T242.und T5 rfl rfl (by omega) (by omega) ?_)
    refine WO.step rfl (OR.lenSlice T43.und rfl (WO.step rfl (OR.move rfl (WO.done (WX.seq (WC.block ?_))))))
    refine WC.loop (ι := Nat) (fun j => [(0, .slice b1 l.length c1), (2, .int .i64 (size : Int)), (8, ptr g1), (31, .slice (some ⟨g1, 0, none⟩) (8 - size) 8), (32, .int .i64 ((8 - size : Nat) : Int)), (33, .int .i64 (j : Int))]) (fun j w => (j ≤ 8 - size ∧ ∃ H, Hp.le H0 H ∧ HS [] H0 w0 H [(g1, .cells ((be8 v).map B).toArray 242, true)] w)) (fun j => 8 - size - j) 0 ⟨rfl, rfl, rfl, rfl, rfl, rfl,  trivial⟩ ?_ (fun j w hW => ?_)
    · exact ⟨by omega, H, hle, hs⟩
    clear hs hle
    obtain ⟨hj, H, hle, hs⟩ := hW
    refine WC.seq (WC.region (WO.step rfl (OR.lss rfl rfl (WO.done (WX.seq (WC.seq ?_))))))
    refine WC.condD rfl (fun hlt2 => ?_) (fun hlt2 => ?_)
    · have hj' : j < 8 - size := by omega
      have hz : (be8 v)[j]? = some 0 := by
        have h1 : v / 256 ^ (7 - j) = 0 := Nat.div_eq_of_lt (Nat.lt_of_lt_of_le hv (Nat.pow_le_pow_right (by omega) (by omega)))
        simp [be8, show j < 8 by omega, h1]
      refine WC.skip (WX.seq (WC.seq (WC.block (WC.seq (WC.region ?_)))))
      refine WO.step rfl (OR.idx j T43.und T5 rfl rfl rfl hj' ?_)
      refine WO.step rfl (OR.load T5 rfl rfl (hs.cellM (i := 0) (v := B 0) rfl (by rw [nth_eq, Nat.zero_add]; simp [hz])) ?_)
      refine WO.step rfl (OR.assign rfl (WO.done (WX.seq (WC.seq (WC.region (WO.step rfl (OR.move rfl ?_)))))))
      refine WO.step rfl (OR.neq rfl rfl (WO.done (WX.seq ?_)))
      refine WC.no rfl (decide_eq_false (by decide)) ?_
      refine WC.skip (WX.block (WX.seq (WC.region (WO.step rfl (OR.addI rfl rfl (by omega) (by omega) (WO.step rfl (OR.move rfl ?_)))))))
      refine WO.done ?_
      refine WX.again (j + 1) ⟨rfl, rfl, rfl, rfl, rfl, rfl,  trivial⟩ ?_ ?_
      · exact ⟨hj', H, hle, hs⟩
      · omega
    · refine WC.exit (WX.seq_exit (WX.loop_exit (WX.block_hit (WX.seq (WC.seq ?_)))))
      refine WC.draw 5 mixed hs (by kernel_rfl) ?_
      refine ⟨MF.eq _, by intro Mx H w hle hs; refine forVals_nil (ORg.plain (OR.move rfl ?_)); exact ⟨_, [], Hp.le.refl _, hs, rfl, rfl⟩, ?_⟩
      refine ⟨MF.own w0.heap.size 5 1 l.length (l.map B), ?_, ?_⟩
      · intro Mx H w hle2 hs; (try replace hle := hle.trans hle2); (try replace hlb := hlb.trans hle2); refine forVals_eq rfl rfl rfl ?_
        refine forVals_nil (ORg.plain (OR.callX (Mx := []) hs body175 rfl rfl (sclone_ok _ l _ _ hs.toSub (hl.mono hle) (by omega)) rfl rfl ?_))
        have hsz2 := hs.size
        clear hs; rintro v H1 M1 w hs hle1 hnew ⟨rfl, ho⟩
        exact ⟨_, M1, hle1, hs, ho.mono hsz2⟩
      refine ⟨MF.eq _, by intro Mx H w hle hs; refine forVals_nil (ORg.plain (OR.move rfl ?_)); exact ⟨_, [], Hp.le.refl _, hs, rfl, rfl⟩, ?_⟩
      refine ⟨MF.eq _, by intro Mx H w hle hs; refine forVals_eq rfl rfl rfl ?_; refine forVals_nil (ORg.plain (OR.subI rfl rfl (by omega) (by omega) ?_)); exact ⟨_, [], Hp.le.refl _, hs, rfl, rfl⟩, ?_⟩
      refine ⟨MF.eq (.slice (some ⟨g1, (8 - size) * 1, none⟩) (8 - (8 - size)) (8 - (8 - size))), ?_, ?_⟩
      · intro Mx H w hle2 hs; (try replace hle := hle.trans hle2); (try replace hlb := hlb.trans hle2); refine forVals_eq rfl rfl rfl ?_
        refine forVals_nil (ORg.plain (OR.sliceArrLo (8 - size) T242.und T5 rfl rfl (by omega) (by omega) ?_))
        exact ⟨_, [], Hp.le.refl _, hs, rfl, rfl⟩
      intro H w hle2; (try replace hle := hle.trans hle2); (try replace hlb := hlb.trans hle2)
      refine forAllVals_eq rfl ?_
      refine forAllVals_cons rfl ?_; intro v1 M1 h1
      refine forAllVals_eq rfl ?_
      refine forAllVals_eq rfl ?_
      refine forAllVals_eq rfl ?_
      refine forAllVals_nil ?_; (try clear hs); intro hs
      have hgb := (hs.mem g1 _ true (List.mem_append_right _ (List.mem_cons_self ..))).1
      have hbl := beN_len size v hsz.2
      refine WO.step rfl (OR.append (m := 8 - (8 - size)) (news := (beN size v).map B) hs h1 T43.und T5 rfl (by omega) rfl rfl (by rw [List.length_map, hbl]; omega) (fun a ha j u hj => by cases ha; exact cells_at hgb (by rw [beN, List.map_drop] at hj; have := get_drop hj; simpa using this)) (fun h => by cases h) (bytes_one _) (by omega) (by omega) ?_)
      clear hs; intro v' w Mo hs ho hge
      refine WO.step rfl (OR.assign rfl (WO.step rfl (OR.assign rfl (WO.done (WX.seq (WC.ret ?_))))))
      refine WX.ret2 rfl rfl rfl ?_
      have e9 : l.length + (8 - (8 - size)) = l.length + size := by omega
      rw [e9, ← List.map_append] at ho
      have hs2 : HS [] H0 w0 H (Mo ++ []) w := hs.dropMid
      rw [List.append_nil] at hs2
      exact ⟨_, H, Mo, rfl, hs2, ho.tt, _, rfl, ho⟩


def layAll (g s : Nat) (chunk : List UInt8) : List UInt8 := beN 4 chunk.length ++ chunk ++ List.replicate (g * s - 4 - chunk.length) 0
def layF (g s : Nat) (chunk : List UInt8) : List (List UInt8) := (List.range g).map fun i => ((layAll g s chunk).drop (s * i)).take s
theorem layAll_len {g s : Nat} {chunk : List UInt8} (h1 : 4 < g * s) (h : chunk.length ≤ g * s - 4) : (layAll g s chunk).length = g * s := by
  simp [layAll, beN_len 4 _ (by omega)]; omega
theorem Bytes.part3 {H : Hp} {c : Nat} {b : Option Addr} {l : List UInt8} (h : Bytes H (.slice b l.length c) l) (m k : Nat) (h1 : m < k) (h2 : k ≤ l.length) :
    Bytes H (.slice (if k = m then b else b.map (·.add (m * 1))) (k - m) (k - m)) ((l.drop m).take (k - m)) := by
  have h3 := h.part m k (by omega) h2
  have h4 := h.cap_le
  rw [if_neg (by omega)] at h3 ⊢
  have e : ((l.drop m).take (k - m)).length = k - m := by simp; omega
  unfold Bytes at h3 ⊢
  rw [e] at h3 ⊢
  exact Sl.cap h3 (k - m) (Nat.le_refl _) (by omega)

set_option maxRecDepth 20000 in
set_option maxHeartbeats 2000000 in
theorem lay_ok (g s : Nat) (vc : Value) (chunk : List UInt8) (H0 : Hp) (w0 : World) (h0 : Sub H0 w0) (hgs : 1 ≤ g ∧ g ≤ 255 ∧ 1 ≤ s ∧ s ≤ 65535 ∧ 4 < g * s) (hc : Bytes H0 vc chunk) (hl1 : 1 ≤ chunk.length) (hl2 : chunk.length ≤ g * s - 4) :
    Calls Tryz.prog 109 #[vc, .int .i64 (g : Int), .int .i64 (s : Int)] w0 (Pure H0 w0 fun v H' => ∃ r, v = .tuple #[r, .int .i64 0] ∧ BytesL H' r (layF g s chunk)) := by
  have hs := HS.init h0
  have hle := Hp.le.refl H0
  obtain ⟨hg1, hg2, hs1, hs2, hgs4⟩ := hgs
  have hmul : g * s ≤ 255 * 65535 := Nat.mul_le_mul hg2 hs2
  obtain ⟨bc, cc, rfl⟩ := hc.form
  have hal := layAll_len hgs4 hl2
  have hmc : (g : Int) * (s : Int) = ((g * s : Nat) : Int) := by rw [Int.natCast_mul]
  have hb1 : (0 : Int) ≤ (g : Int) * (s : Int) := by rw [hmc]; omega
  have hb2 : (g : Int) * (s : Int) ≤ 16711425 := by rw [hmc]; omega
  refine Calls.enter (args := [.slice bc chunk.length cc, .int .i64 (g : Int), .int .i64 (s : Int)]) Tryz.func109 rfl Tryz.ntmps109 rfl ?_
  refine WC.seq (WC.region (WO.step rfl (OR.assign rfl (WO.step rfl (OR.assign rfl (WO.done (WX.seq ?_)))))))
  refine WC.seq (WC.region (WO.step rfl (OR.move rfl (WO.step rfl (OR.move rfl ?_)))))
  refine WO.step rfl (OR.call hs body62 rfl rfl (room_ok (g : Int) (s : Int) _ _ hs.toSub) ?_)
  clear hs; rintro _ H w hs hle1 rfl; replace hle := hle.trans hle1; (try replace hlb := hlb.trans hle1)
  have hrc : (g : Int) * (s : Int) - 4 = ((g * s - 4 : Nat) : Int) := by rw [hmc]; omega
  rw [if_pos (show 1 ≤ (g : Int) ∧ (g : Int) ≤ 255 ∧ 1 ≤ (s : Int) ∧ (s : Int) ≤ 65535 ∧ 4 < (g : Int) * (s : Int) from ⟨by omega, by omega, by omega, by omega, by rw [hmc]; omega⟩), hrc]
  refine WO.step rfl (OR.move rfl (WO.step rfl (OR.extract rfl rfl (WO.step rfl (OR.extract rfl rfl (WO.step rfl (OR.assign rfl ?_)))))))
  refine WO.step rfl (OR.assign rfl (WO.done (WX.seq (WC.seq (WC.block (WC.seq (WC.region ?_)))))))
  refine WO.step rfl (OR.move rfl (WO.step rfl (OR.neq rfl rfl (WO.step rfl (OR.assign rfl (WO.done (WX.seq ?_)))))))
  refine WC.no rfl (decide_eq_false (by omega)) ?_
  refine WC.seq (WC.region (WO.step rfl (OR.move rfl (WO.step rfl (OR.lenSlice T43.und rfl (WO.step rfl (OR.eql rfl rfl ?_)))))))
  refine WO.step rfl (OR.assign rfl (WO.done (WX.seq ?_)))
  refine WC.no rfl (decide_eq_false (by omega)) ?_
  refine WC.seq (WC.region (WO.step rfl (OR.move rfl (WO.step rfl (OR.lenSlice T43.und rfl (WO.step rfl (OR.move rfl ?_)))))))
  refine WO.step rfl (OR.gtr rfl rfl (WO.step rfl (OR.assign rfl (WO.done (WX.seq ?_)))))
  refine WC.no rfl (decide_eq_false (by omega)) ?_
  refine WC.skip (WX.block (WX.seq (WC.seq (WC.region (WO.step rfl (OR.move rfl (WO.step rfl ?_)))))))
  refine OR.lenSlice T43.und rfl ?_
  refine WO.step rfl (OR.convI T3.und T22.und rfl ?_)
  rw [IntWalk.u64_in (chunk.length : Int) (by omega)]
  have h256 : chunk.length < 256 ^ 4 := Nat.lt_of_le_of_lt (by omega : chunk.length ≤ 16711425) (by decide)
  have hszc := hs.size
  refine WO.step rfl (OR.callX (Mx := []) hs body146 rfl rfl (num_ok (.slice none 0 0) [] chunk.length 4 _ _ hs.toSub (Bytes.nil _) (by simp) h256 (by omega) (by omega)) rfl rfl ?_)
  clear hs; rintro _ H Mo w hs hle1 hnew ⟨v1, rfl, ho⟩; replace hle := hle.trans hle1; (try replace hlb := hlb.trans hle1)
  rw [List.nil_append] at ho
  replace ho := ho.mono hszc
  refine WO.step rfl (OR.move rfl (WO.step rfl (OR.extract rfl rfl (WO.step rfl (OR.extract rfl rfl (WO.step rfl (OR.assign rfl ?_)))))))
  refine WO.step rfl (OR.assign rfl (WO.done (WX.seq (WC.seq (WC.region (WO.step rfl (OR.move rfl ?_)))))))
  refine WO.step rfl (OR.move rfl ?_)
  refine WO.step rfl (OR.append (m := chunk.length) (news := chunk.map B) hs ho T43.und T5 rfl (by omega) rfl rfl (by simp) (Sl.src (hc.mono hle) hs) (Sl.src0 hc) (bytes_one _) (by simp; omega) (by simp; omega) ?_)
  clear hs ho; intro v2 w Mo2 hs ho hge
  refine WO.step rfl (OR.move rfl (WO.step rfl (OR.move rfl (WO.step rfl (OR.lenSlice T43.und rfl (WO.step rfl (OR.subI rfl rfl (by omega) (by omega) ?_)))))))
  have hsubI : ((g * s - 4 : Nat) : Int) - (chunk.length : Int) = ((g * s - 4 - chunk.length : Nat) : Int) := by omega
  rw [hsubI]
  refine WO.step rfl (OR.appendZ (m := g * s - 4 - chunk.length) (Nat.le_refl _) hs ho T43.und T5 rfl T3.und rfl rfl rfl (by simp; omega) (by simp; omega) ?_)
  clear hs ho; intro v3 w Mo3 hs ho
  obtain ⟨H3, hle3, hs, hsl3, _⟩ := HS.pub hs ho
  replace hle := hle.trans hle3
  have hall : Bytes H3 v3 (layAll g s chunk) := by
    unfold Bytes
    rw [hal]
    have e1 : ([] : List UInt8).length + 4 + chunk.length + (g * s - 4 - chunk.length) = g * s := by simp; omega
    have e2 : (layAll g s chunk).map B = (beN 4 chunk.length).map B ++ chunk.map B ++ List.replicate (g * s - 4 - chunk.length) (B 0) := by simp [layAll]
    rw [e1] at hsl3
    rw [e2]
    exact hsl3
  obtain ⟨HB, hHB⟩ : ∃ X, X = H3 := ⟨_, rfl⟩
  subst hHB
  generalize hAL : layAll g s chunk = AL at hall hal
  obtain ⟨b3, c3, rfl⟩ := hall.form
  refine WO.step rfl (OR.assign rfl (WO.done (WX.seq (WC.seq (WC.region (WO.step rfl (OR.assign rfl ?_)))))))
  refine WO.done (WX.seq (WC.seq (WC.seq (WC.region (WO.step rfl (OR.assign rfl (WO.done ?_)))))))
  refine WX.seq (WC.block ?_)
  refine WC.loop (ι := Nat × Value) (fun ix => [(1, .int .i64 (g : Int)), (2, .int .i64 (s : Int)), (10, .slice b3 AL.length c3), (12, ix.2), (13, .int .i64 ((s * ix.1 : Nat) : Int))]) (fun ix w => (ix.1 ≤ g ∧ ∃ H cl Mo, Hp.le H0 H ∧ Hp.le HB H ∧ BLOk H cl ((List.range ix.1).map fun i => (AL.drop (s * i)).take s) ∧ Own w0.heap.size 43 1 ix.2 ix.1 cl Mo ∧ HS [] H0 w0 H (Mo ++ []) w)) (fun ix => g - ix.1) (0, .slice none 0 0) ⟨rfl, rfl, rfl, rfl, rfl,  trivial⟩ ?_ (fun ix w hW => ?_)
  · exact ⟨by omega, HB, [], [], hle, Hp.le.refl _, BLOk.nil _, Own.nil _ _ _, hs⟩
  clear hs hle ho hsl3
  obtain ⟨k, vo⟩ := ix
  obtain ⟨hk, H, cl, Mo, hle, hlb, hok, ho, hs⟩ := hW
  simp only at hk hok ho
  have hskg : s * k ≤ g * s := by rw [Nat.mul_comm g s]; exact Nat.mul_le_mul_left s hk
  refine WC.seq (WC.seq (WC.region (WO.step rfl (OR.move rfl (WO.step rfl (OR.move rfl (WO.step rfl ?_)))))))
  refine OR.move rfl (WO.step rfl (OR.mulI rfl rfl (by omega) (by omega) (WO.step rfl (OR.lss rfl rfl (WO.done (WX.seq ?_))))))
  refine WC.condD rfl (fun hlt => ?_) (fun hlt => ?_)
  · have hlt2 : s * k < s * g := by rw [Nat.mul_comm s g]; rw [hmc] at hlt; exact Int.ofNat_lt.1 hlt
    have hk' : k < g := Nat.lt_of_mul_lt_mul_left hlt2
    have hks : s * k + s ≤ g * s := by
      have := Nat.mul_le_mul_left s (show k + 1 ≤ g from hk')
      rw [Nat.mul_succ] at this
      rw [Nat.mul_comm g s]; exact this
    have hpc := hall.part3 (s * k) (s * k + s) (by omega) (by rw [hal]; exact hks)
    have hksI : ((s * k : Nat) : Int) + (s : Int) = ((s * k + s : Nat) : Int) := rfl
    have hksJ : ((s * k + s : Nat) : Int) ≤ 16711425 := Int.ofNat_le.2 (Nat.le_trans hks hmul)
    have hcap3 : s * k + s ≤ c3 := Nat.le_trans hks (by rw [← hal]; exact hall.cap_le)
    refine WC.skip (WX.seq (WC.seq (WC.block (WC.region (WO.step rfl (OR.move rfl (WO.step rfl ?_)))))))
    refine OR.move rfl (WO.step rfl (OR.move rfl (WO.step rfl (OR.move rfl (WO.step rfl (OR.move rfl (WO.step rfl ?_)))))))
    refine OR.addI rfl rfl (by omega) (by omega) (WO.step rfl (OR.move rfl (WO.step rfl (OR.move rfl (WO.step rfl (OR.addI rfl rfl (by omega) (by omega) ?_))))))
    refine WO.step rfl (OR.slice3G (s * k) (s * k + s) (s * k + s) T43.und T5 rfl rfl rfl rfl hksI rfl hksI (Nat.le_add_right _ _) (Nat.le_refl _) hcap3 ?_)
    refine WO.step rfl (OR.buildSlice (vs := [_]) hs T40.und T43 rfl rfl rfl rfl (by simp) ?_)
    clear hs; intro g3 w hg3 hs
    have hb9 := hs.blk (i := 0) rfl
    replace hs := hs.sink
    refine WO.step rfl (OR.append (m := 1) (news := [_]) hs ho T40.und T43 rfl (by omega) rfl rfl rfl (cells_of hb9) (fun h => by cases h) rfl (by omega) (by omega) ?_)
    clear hs ho; intro vo' w Mo' hs ho hge
    replace hs := hs.dropMid
    refine WO.step rfl (OR.assign rfl (WO.done (WX.block (WX.seq (WC.region (WO.step rfl (OR.move rfl ?_)))))))
    refine WO.step rfl (OR.move rfl (WO.step rfl (OR.addI rfl rfl (by omega) (by omega) (WO.step rfl (OR.assign rfl (WO.done ?_))))))
    refine WX.again ((k + 1, vo')) ⟨rfl, rfl, rfl, rfl, rfl,  trivial⟩ ?_ ?_
    · refine ⟨hk', H, cl ++ [_], Mo', hle, hlb, ?_, ho, hs⟩
      have e9 : s * k + s - s * k = s := by omega
      rw [e9] at hpc ⊢
      rw [List.range_succ, List.map_append, List.map_singleton]
      exact hok.snoc (hpc.mono hlb)
    · simp only; omega
  · have hkg : k = g := by
      rcases Nat.lt_or_ge k g with h | h
      · exfalso
        have := Nat.mul_lt_mul_of_pos_left h (show 0 < s by omega)
        rw [Nat.mul_comm s g] at this
        rw [hmc] at hlt
        exact hlt (Int.ofNat_lt.2 this)
      · omega
    subst hkg
    refine WC.exit (WX.seq_exit (WX.loop_exit (WX.block_hit (WX.seq (WC.seq (WC.region (WO.step rfl ?_)))))))
    refine OR.move rfl (WO.step rfl (OR.assign rfl (WO.step rfl (OR.assign rfl (WO.done (WX.seq (WC.ret ?_)))))))
    refine WX.ret2 rfl rfl rfl ?_
    obtain ⟨H4, hle4, hs4, hsl4, _⟩ := HS.pub hs ho
    refine .mk hs4 ⟨_, rfl, ?_⟩
    rw [layF, hAL]
    exact (hok.mono hle4).bytesL (by simpa using hsl4)

end Go.Bw
namespace Go.Bw
set_option linter.unusedVariables false
set_option linter.unusedSimpArgs false
open Go.Proofs
/-- A source of a stream and cuts. -/
def newD (g s : Nat) (st : List UInt8) (cuts : List Int) (cl : Bool) : SrcD := ⟨g, s, st, cuts, cl, chunksF (g * s - 4) st cuts, openF (g * s - 4) st cuts⟩

set_option maxRecDepth 20000 in
set_option maxHeartbeats 2000000 in
theorem restore_ok (g s : Nat) (vs vc : Value) (st : List UInt8) (cuts : List Int) (cl : Bool) (H0 : Hp) (w0 : World) (h0 : Sub H0 w0) (hgs : goodGS g s) (h1 : Bytes H0 vs st) (h2 : Ints H0 vc cuts) (hl : st.length ≤ 262144) (hl2 : cuts.length ≤ 1000000000) :
    Calls Tryz.prog 82 #[.int .i64 (g : Int), .int .i64 (s : Int), vs, vc, .bool cl] w0 (Ret [] H0 w0 fun v H' M' => if cutsOk st.length 0 cuts = true ∧ (cl = true → openF (g * s - 4) st cuts = []) then
        ∃ b o, v = .tuple #[ptr b, .int .i64 0] ∧ M' = [(b, o, true)] ∧ w0.heap.size ≤ b ∧ SrcIn H' (newD g s st cuts cl) o
      else v = .tuple #[.pointer none, .int .i64 1]) := by
  have hs := HS.init h0
  have hle := Hp.le.refl H0
  obtain ⟨b1, c1, rfl⟩ := h1.form
  obtain ⟨b2, c2, rfl⟩ := h2.form
  refine Calls.enter (args := [.int .i64 (g : Int), .int .i64 (s : Int), .slice b1 st.length c1, .slice b2 cuts.length c2, .bool cl]) Tryz.func82 rfl Tryz.ntmps82 rfl ?_
  refine WC.seq (WC.region (WO.step rfl (OR.assign rfl (WO.step rfl (OR.assign rfl (WO.done (WX.seq ?_)))))))
  refine WC.seq (WC.region (WO.step rfl (OR.move rfl (WO.step rfl (OR.move rfl (WO.step rfl (OR.move rfl ?_)))))))
  refine WO.step rfl (OR.build (cs := #[.int .i64 (g : Int), .int .i64 (s : Int), .slice none 0 0, .slice none 0 0, .bool cl, .slice none 0 0, .slice none 0 0]) rfl (by intro w; kernel_rfl) ?_)
  refine WO.step rfl (OR.box hs rfl ?_)
  clear hs; intro g1 w hg1 hs
  refine WO.step rfl (OR.assign rfl (WO.done (WX.seq (WC.seq (WC.seq (WC.region (WO.step rfl ?_)))))))
  refine OR.move rfl (WO.step rfl (OR.lenSlice T43.und rfl (WO.step rfl (OR.gtr rfl rfl (WO.step rfl (OR.move rfl ?_))))))
  refine WO.guardYes rfl (decide_eq_false (by omega : ¬ ((st.length : Int) > 262144))) rfl rfl (OR.move rfl (WO.guardYes rfl (decide_eq_false (by omega : ¬ ((st.length : Int) > 262144))) rfl rfl (OR.move rfl (WO.guardYes rfl (decide_eq_false (by omega : ¬ ((st.length : Int) > 262144))) rfl rfl (OR.move rfl ?_)))))
  refine WO.guardYes rfl (decide_eq_false (by omega : ¬ ((st.length : Int) > 262144))) rfl rfl (OR.callX (Mx := [(g1, _, true)]) hs body89 rfl rfl (set_ok g1 g s (.slice none 0 0) (.slice none 0 0) (.slice none 0 0) (.slice none 0 0) _ _ cl st cuts _ _ hs.toSub (hs.blk (i := 0) rfl) (hs.mem g1 _ true (List.mem_cons_self ..)).2.1 hgs h1 h2 (by omega) (by omega)) rfl rfl ?_)
  clear hs; rintro _ H M' w hs hle1 hnew hres; replace hle := hle.trans hle1; (try replace hlb := hlb.trans hle1)
  by_cases hT : cutsOk st.length 0 cuts = true
  · rw [if_pos hT] at hres
    obtain ⟨rfl, o, rfl, hsrc⟩ := hres
    refine WO.guardYes rfl (decide_eq_false (by omega : ¬ ((st.length : Int) > 262144))) rfl rfl (OR.neq rfl rfl (WO.step rfl (OR.pickF rfl (decide_eq_false (by omega : ¬ ((st.length : Int) > 262144))) rfl (WO.step rfl (OR.move rfl ?_)))))
    obtain ⟨vs', vc', vch', vop', ho, q1, q2, q3, q4⟩ := hsrc
    have hop := q4
    obtain ⟨b9, c9, e9⟩ := hop.form
    cases cl with
    | false =>
      refine WO.guardYes rfl rfl rfl rfl (OR.move rfl (WO.guardYes rfl rfl rfl rfl (OR.move rfl ?_)))
      refine WO.guardNo rfl rfl rfl rfl (WO.guardNo rfl rfl rfl rfl (WO.guardNo rfl rfl rfl rfl (WO.guardNo rfl rfl rfl rfl (WO.guardNo rfl rfl rfl rfl (WO.guardNo rfl rfl rfl rfl (WO.guardYes rfl rfl rfl rfl (OR.pickF rfl rfl rfl ?_)))))))
      refine WO.step rfl (OR.pickF rfl rfl rfl (WO.done (WX.seq (WC.no rfl rfl (WC.skip (WX.seq (WC.seq ?_)))))))
      refine WC.region (WO.step rfl (OR.move rfl (WO.step rfl (OR.assign rfl (WO.step rfl (OR.assign rfl (WO.done ?_)))))))
      refine WX.seq (WC.ret ?_)
      refine WX.ret2 rfl rfl rfl ?_
      refine ⟨_, H, _, rfl, hs, by simp, ?_⟩
      show ite _ _ _
      rw [if_pos ⟨hT, fun h => by cases h⟩]
      exact ⟨g1, o, rfl, rfl, hg1, _, _, _, _, ho, q1, q2, q3, q4⟩
    | true =>
      subst e9 ho
      refine WO.guardYes rfl rfl rfl rfl (OR.move rfl (WO.guardYes rfl rfl rfl rfl (OR.move rfl ?_)))
      refine WO.guardYes rfl rfl rfl rfl (OR.move rfl (WO.guardYes rfl rfl rfl rfl (OR.nilCheck rfl (WO.guardYes rfl rfl rfl rfl (OR.fieldAddr FA163_6 rfl (WO.guardYes rfl rfl rfl rfl (OR.load T43 rfl rfl (hs.cellM (i := 0) rfl rfl) ?_)))))))
      refine WO.guardYes rfl rfl rfl rfl (OR.lenSlice T43.und rfl (WO.guardYes rfl rfl rfl rfl (OR.gtr rfl rfl (WO.guardYes rfl rfl rfl rfl (OR.pickT rfl rfl rfl (WO.step rfl (OR.pickF rfl rfl rfl ?_)))))))
      refine WO.done (WX.seq ?_)
      refine WC.cond rfl (fun hopn => ?_) (fun hopn => ?_)
      · have hne : ¬ openF (g * s - 4) st cuts = [] := fun e => by simp only at hopn; rw [e] at hopn; cases hopn
        refine WC.seq (WC.region (WO.step rfl (OR.assign rfl (WO.step rfl (OR.assign rfl (WO.done (WX.seq ?_)))))))
        refine WC.ret (WX.seq_ret ?_)
        refine WX.ret2 rfl rfl rfl ?_
        refine ⟨_, H, _, rfl, hs.drop 0, by simp [dropAt], ?_⟩
        show ite _ _ _
        rw [if_neg (fun h => hne (h.2 rfl))]
      · have he : openF (g * s - 4) st cuts = [] := by
          simp only at hopn
          refine List.eq_nil_of_length_eq_zero ?_
          have := of_decide_eq_false hopn
          omega
        refine WC.skip (WX.seq (WC.seq (WC.region (WO.step rfl (OR.move rfl (WO.step rfl (OR.assign rfl ?_)))))))
        refine WO.step rfl (OR.assign rfl (WO.done (WX.seq (WC.ret ?_))))
        refine WX.ret2 rfl rfl rfl ?_
        refine ⟨_, H, _, rfl, hs, by simp, ?_⟩
        show ite _ _ _
        rw [if_pos ⟨hT, fun _ => he⟩]
        exact ⟨g1, _, rfl, rfl, hg1, _, _, _, _, rfl, q1, q2, q3, q4⟩
  · rw [if_neg hT] at hres
    obtain ⟨rfl, rfl⟩ := hres
    refine WO.guardYes rfl (decide_eq_false (by omega : ¬ ((st.length : Int) > 262144))) rfl rfl (OR.neq rfl rfl (WO.step rfl (OR.pickF rfl (decide_eq_false (by omega : ¬ ((st.length : Int) > 262144))) rfl (WO.step rfl (OR.move rfl ?_)))))
    refine WO.guardNo rfl rfl rfl rfl (WO.guardNo rfl rfl rfl rfl (WO.guardGone rfl rfl rfl (WO.guardGone rfl rfl rfl (WO.guardGone rfl rfl rfl (WO.guardGone rfl rfl rfl (WO.guardGone rfl rfl rfl (WO.guardGone rfl rfl rfl ?_)))))))
    refine WO.guardNo rfl rfl rfl rfl (WO.step rfl (OR.pickT rfl rfl rfl (WO.done (WX.seq (WC.yes rfl rfl (WC.seq (WC.region ?_)))))))
    refine WO.step rfl (OR.assign rfl (WO.step rfl (OR.assign rfl (WO.done (WX.seq (WC.ret (WX.seq_ret ?_)))))))
    refine WX.ret2 rfl rfl rfl ?_
    refine ⟨_, H, _, rfl, hs.drop 0, by simp [dropAt], ?_⟩
    show ite _ _ _
    rw [if_neg (fun h => hT h.1)]

end Go.Bw
namespace Go.Bw
set_option linter.unusedVariables false
set_option linter.unusedSimpArgs false
open Go.Proofs
set_option maxRecDepth 20000 in
set_option maxHeartbeats 2000000 in
theorem snew_ok (g s : Nat) (H0 : Hp) (w0 : World) (h0 : Sub H0 w0) (hgs : goodGS g s) :
    Calls Tryz.prog 28 #[.int .i64 (g : Int), .int .i64 (s : Int)] w0 (Ret [] H0 w0 fun v H' M' => ∃ b o, v = .tuple #[ptr b, .int .i64 0] ∧ M' = [(b, o, true)] ∧ w0.heap.size ≤ b ∧ SrcIn H' (newD g s [] [] false) o) := by
  have hs := HS.init h0
  have hle := Hp.le.refl H0
  refine Calls.enter (args := [.int .i64 (g : Int), .int .i64 (s : Int)]) Tryz.func28 rfl Tryz.ntmps28 rfl ?_
  refine WC.seq (WC.region (WO.step rfl (OR.assign rfl (WO.step rfl (OR.assign rfl (WO.done (WX.seq ?_)))))))
  refine WC.seq (WC.region (WO.step rfl (OR.move rfl (WO.step rfl (OR.move rfl ?_)))))
  refine WO.step rfl (OR.callX (Mx := []) hs body82 rfl rfl (restore_ok g s (.slice none 0 0) (.slice none 0 0) [] [] false _ _ hs.toSub hgs (Sl.empty _ _ _) (Sl.empty _ _ _) (by simp) (by simp)) rfl rfl ?_)
  clear hs; rintro _ H M' w hs hle1 hnew hres; replace hle := hle.trans hle1; (try replace hlb := hlb.trans hle1)
  rw [if_pos ⟨rfl, fun h => by cases h⟩] at hres
  obtain ⟨b, o, rfl, rfl, hb, hsrc⟩ := hres
  refine WO.step rfl (OR.extract rfl rfl (WO.step rfl (OR.extract rfl rfl (WO.step rfl (OR.assign rfl (WO.step rfl (OR.assign rfl ?_)))))))
  refine WO.done (WX.seq (WC.ret ?_))
  refine WX.ret2 rfl rfl rfl ?_
  exact ⟨_, H, _, rfl, hs, by simp, b, o, rfl, rfl, hb, hsrc⟩
theorem whole_mem {room a n : Nat} {st : List UInt8} {c : List UInt8} (h : c ∈ wholeL room st a n) (hle : a + n * room ≤ st.length) : c.length = room := by
  simp only [wholeL, List.mem_map, List.mem_range] at h
  obtain ⟨k, hk, rfl⟩ := h
  have : (k + 1) * room ≤ n * room := Nat.mul_le_mul_right _ hk
  rw [Nat.add_mul, Nat.one_mul] at this
  simp
  omega
theorem step_mem {room : Nat} {st : List UInt8} (hr : 1 ≤ room) {p : List (List UInt8) × Nat} {cut : Nat} (hp : ∀ c ∈ p.1, 1 ≤ c.length ∧ c.length ≤ room) (h1 : p.2 ≤ cut) (h2 : cut ≤ st.length) :
    ∀ c ∈ (chunkStep room st p ((cut : Nat) : Int)).1, 1 ≤ c.length ∧ c.length ≤ room := by
  intro c hc
  have hd : (cut - p.2) / room * room ≤ cut - p.2 := Nat.div_mul_le_self _ _
  have hm : (cut - p.2) % room < room := Nat.mod_lt _ (by omega)
  have hdm := Nat.div_add_mod (cut - p.2) room
  rw [Nat.mul_comm] at hdm
  rw [chunkStep, List.mem_append, List.mem_append] at hc
  rcases hc with (hc | hc) | hc
  · exact hp c hc
  · have := whole_mem hc (by rw [Int.toNat_natCast]; omega)
    omega
  · simp only [Int.toNat_natCast, cutPiece] at hc
    split at hc
    · simp only [List.mem_singleton] at hc
      subst hc
      simp
      omega
    · cases hc
theorem chunkP_mem {room : Nat} {st : List UInt8} (hr : 1 ≤ room) : ∀ (cuts : List Int) (p : List (List UInt8) × Nat), (∀ c ∈ p.1, 1 ≤ c.length ∧ c.length ≤ room) → p.2 ≤ st.length → cutsOk st.length (p.2 : Int) cuts = true →
    (∀ c ∈ (cuts.foldl (chunkStep room st) p).1, 1 ≤ c.length ∧ c.length ≤ room) ∧ (cuts.foldl (chunkStep room st) p).2 ≤ st.length
  | [], p, h1, h2, _ => ⟨h1, h2⟩
  | c :: cs, p, h1, h2, h => by
    simp only [cutsOk, Bool.and_eq_true, decide_eq_true_eq] at h
    obtain ⟨⟨h3, h4⟩, h5⟩ := h
    obtain ⟨k, rfl⟩ := Int.eq_ofNat_of_zero_le (show 0 ≤ c by omega)
    have hk : (chunkStep room st p ((k : Nat) : Int)).2 = k := rfl
    exact chunkP_mem hr cs _ (step_mem hr h1 (by omega) (by omega)) (by rw [hk]; omega) (by rw [hk]; exact h5)
theorem chunksF_mem {room : Nat} {st : List UInt8} {cuts : List Int} (hr : 1 ≤ room) (h : cutsOk st.length 0 cuts = true) : ∀ c ∈ chunksF room st cuts, 1 ≤ c.length ∧ c.length ≤ room := by
  have h1 := chunkP_mem (st := st) hr cuts ([], 0) (by simp) (Nat.zero_le _) h
  intro c hc
  rw [chunksF, List.mem_append] at hc
  rcases hc with hc | hc
  · exact h1.1 c hc
  · have h2 : (st.length - (chunkP room st cuts).2) / room * room ≤ st.length - (chunkP room st cuts).2 := Nat.div_mul_le_self _ _
    have h3 : (chunkP room st cuts).2 ≤ st.length := h1.2
    have := whole_mem hc (by omega)
    omega
theorem SrcOk.mem {x : SrcD} (h : SrcOk x) : ∀ c ∈ x.chunks, 1 ≤ c.length ∧ c.length ≤ x.g * x.s - 4 := by
  rw [h.ch]
  exact chunksF_mem h.room h.cuts
theorem SrcOk.nat {x : SrcD} (h : SrcOk x) : 1 ≤ x.g ∧ x.g ≤ 255 ∧ 1 ≤ x.s ∧ x.s ≤ 65535 ∧ 4 < x.g * x.s := by
  have h1 := h.gs
  have h2 : (4 : Int) < (x.g : Int) * (x.s : Int) := h1.2.2.2.2
  rw [← Int.natCast_mul] at h2
  have := h1.1
  have := h1.2.1
  have := h1.2.2.1
  have := h1.2.2.2.1
  omega

/-- Two questions that change nothing. -/
theorem first2 (v1 v2 : Value) (e1 e2 : Int) (gb cap : Nat) (xs : List Nat) (H0 H : Hp) (w0 w : World) (M : Mem) (hs : HS xs H0 w0 H ((gb, .cells #[v1, v2] 70, true) :: M) w)
    (h1 : ∃ f vf vc, v1 = .func (.func f) (List.toArray vf) (List.toArray vc) ∧ Body Tryz.prog f ∧ ∀ H' w', Hp.le H H' → HS xs H0 w0 H' ((gb, .cells #[v1, v2] 70, true) :: M) w' → Calls Tryz.prog f (vf ++ [] ++ vc).toArray w' (Pure H' w' fun v _ => v = .int .i64 e1))
    (h2 : ∃ f vf vc, v2 = .func (.func f) (List.toArray vf) (List.toArray vc) ∧ Body Tryz.prog f ∧ ∀ H' w', Hp.le H H' → HS xs H0 w0 H' ((gb, .cells #[v1, v2] 70, true) :: M) w' → Calls Tryz.prog f (vf ++ [] ++ vc).toArray w' (Pure H' w' fun v _ => v = .int .i64 e2)) :
    Calls Tryz.prog 83 #[.slice (some ⟨gb, 0, none⟩) 2 cap] w (fun e w' => e = .returned (.int .i64 (if e1 = 0 then e2 else e1)) ∧ ∃ H', Hp.le H H' ∧ HS xs H0 w0 H' ((gb, .cells #[v1, v2] 70, true) :: M) w') := by
  obtain ⟨f1, vf1, vc1, rfl, hb1, h1⟩ := h1
  obtain ⟨f2, vf2, vc2, rfl, hb2, h2⟩ := h2
  refine (first_ok [.func (.func f1) vf1.toArray vc1.toArray, .func (.func f2) vf2.toArray vc2.toArray] gb cap
    (fun i w' => (i = 1 → e1 = 0) ∧ (i = 2 → e1 = 0 ∧ e2 = 0) ∧ ∃ H', Hp.le H H' ∧ HS xs H0 w0 H' ((gb, .cells #[.func (.func f1) vf1.toArray vc1.toArray, .func (.func f2) vf2.toArray vc2.toArray] 70, true) :: M) w')
    (fun er w' => er = (if e1 = 0 then e2 else e1) ∧ ∃ H', Hp.le H H' ∧ HS xs H0 w0 H' ((gb, .cells #[.func (.func f1) vf1.toArray vc1.toArray, .func (.func f2) vf2.toArray vc2.toArray] 70, true) :: M) w')
    w ⟨(fun h => by cases h), (fun h => by cases h), H, Hp.le.refl H, hs⟩ (by simp) ?_ ?_ ?_).mono ?_
  · rintro i w' ⟨_, _, H', _, hs'⟩ h
    match i, h with
    | 0, _ => exact hs'.cellM (i := 0) rfl rfl
    | 1, _ => exact hs'.cellM (i := 0) rfl rfl
  · rintro i h w' ⟨q1, _, H', hle', hs'⟩
    match i, h with
    | 0, _ =>
      refine ⟨_, vf1, vc1, rfl, hb1, (h1 H' w' hle' hs').mono fun e w2 hp => ?_⟩
      obtain ⟨v, H2, rfl, hs2, hle2, rfl⟩ := hp.step hs'
      by_cases hz : e1 = 0
      · exact ⟨e1, rfl, .inl ⟨hz, (fun _ => hz), (fun h => by cases h), H2, hle'.trans hle2, hs2⟩⟩
      · exact ⟨e1, rfl, .inr ⟨hz, by rw [if_neg hz], H2, hle'.trans hle2, hs2⟩⟩
    | 1, _ =>
      refine ⟨_, vf2, vc2, rfl, hb2, (h2 H' w' hle' hs').mono fun e w2 hp => ?_⟩
      obtain ⟨v, H2, rfl, hs2, hle2, rfl⟩ := hp.step hs'
      have h10 := q1 rfl
      by_cases hz : e2 = 0
      · exact ⟨e2, rfl, .inl ⟨hz, (fun h => by cases h), (fun _ => ⟨h10, hz⟩), H2, hle'.trans hle2, hs2⟩⟩
      · exact ⟨e2, rfl, .inr ⟨hz, by rw [if_pos h10], H2, hle'.trans hle2, hs2⟩⟩
  · rintro w' ⟨_, q2, H', hle', hs'⟩
    obtain ⟨a, b⟩ := q2 rfl
    exact ⟨by rw [if_pos a, b], H', hle', hs'⟩
  · rintro e w' ⟨er, rfl, rfl, H', hle', hs'⟩
    exact ⟨rfl, H', hle', hs'⟩

set_option maxRecDepth 20000 in
set_option maxHeartbeats 2000000 in
theorem there_ok (b : Nat) (gen : Nat) (H0 : Hp) (w0 : World) (h0 : Sub H0 w0) :
    Calls Tryz.prog 108 #[ptr b, .int .u64 (gen : Int)] w0 (Pure H0 w0 fun v H' => ∃ gg gx, v = .func (.func 145) #[] #[ptr gg, ptr gx] ∧ hcell H' ⟨gg, 0, none⟩ = some (.int .u64 (gen : Int)) ∧ hcell H' ⟨gx, 0, none⟩ = some (ptr b)) := by
  have hs := HS.init h0
  have hle := Hp.le.refl H0
  refine Calls.enter (args := [ptr b, .int .u64 (gen : Int)]) Tryz.func108 rfl Tryz.ntmps108 rfl ?_
  refine WC.seq (WC.region (WO.step rfl (OR.box hs rfl ?_)))
  clear hs; intro g1 w hg1 hs
  refine WO.step rfl (OR.box hs rfl ?_)
  clear hs; intro g2 w hg2 hs
  refine WO.step rfl (OR.assign rfl (WO.done (WX.seq (WC.seq (WC.region (WO.step rfl (OR.makeFunc rfl rfl ?_)))))))
  refine WO.step rfl (OR.assign rfl (WO.done (WX.seq (WC.ret ?_))))
  obtain ⟨H, hle1, hp_g2, hs9⟩ := hs.pub1 hg2; clear hs; have hs := hs9; clear hs9; replace hle := hle.trans hle1; (try replace hlb := hlb.trans hle1)
  obtain ⟨H, hle1, hp_g1, hs9⟩ := hs.pub1 hg1; clear hs; have hs := hs9; clear hs9; replace hle := hle.trans hle1; (try replace hlb := hlb.trans hle1)
  refine WX.ret1 rfl rfl ?_
  exact .mk hs ⟨g2, g1, rfl, hcell_of (hle1 _ _ hp_g2) rfl, hcell_of hp_g1 rfl⟩

set_option maxRecDepth 20000 in
set_option maxHeartbeats 2000000 in
theorem there1_ok (b gg gx : Nat) (gen : Nat) (x : SrcD) (o : Obj) (H0 : Hp) (w0 : World) (h0 : Sub H0 w0) (hb : w0.heap[b]? = some o) (hn : H0 b = none) (hx : SrcIn H0 x o) (hl : x.chunks.length < 9223372036854775807)
    (h1 : hcell H0 ⟨gg, 0, none⟩ = some (.int .u64 (gen : Int))) (h2 : hcell H0 ⟨gx, 0, none⟩ = some (ptr b)) :
    Calls Tryz.prog 145 #[ptr gg, ptr gx] w0 (Pure H0 w0 fun v _ => v = .int .i64 (if gen < x.chunks.length then 0 else 23)) := by
  have hs := HS.startR h0 hb hn
  have hle := Hp.le.refl H0
  refine Calls.enter (args := [ptr gg, ptr gx]) Tryz.func145 rfl Tryz.ntmps145 rfl ?_
  refine WC.seq (WC.region (WO.step rfl (OR.assign rfl (WO.done (WX.seq (WC.seq (WC.seq ?_)))))))
  refine WC.draw 3 mixed hs (by kernel_rfl) ?_
  refine ⟨MF.eq (.int .u64 (gen : Int)), ?_, ?_⟩
  · intro Mx H w hle2 hs; (try replace hle := hle.trans hle2); (try replace hlb := hlb.trans hle2)
    refine forVals_nil (ORg.plain (OR.load T22 rfl rfl (hs.cell (hcell.mono hle h1)) ?_))
    exact ⟨_, [], Hp.le.refl _, hs, rfl, rfl⟩
  refine ⟨MF.eq (ptr b), ?_, ?_⟩
  · intro Mx H w hle2 hs; (try replace hle := hle.trans hle2); (try replace hlb := hlb.trans hle2)
    refine forVals_nil (ORg.plain (OR.load T66 rfl rfl (hs.cell (hcell.mono hle h2)) ?_))
    exact ⟨_, [], Hp.le.refl _, hs, rfl, rfl⟩
  refine ⟨MF.eq (.int .u64 (x.chunks.length : Int)), ?_, ?_⟩
  · intro Mx H w hle2 hs; (try replace hle := hle.trans hle2); (try replace hlb := hlb.trans hle2); refine forVals_eq rfl rfl rfl ?_
    refine forVals_nil (ORg.plain (OR.call hs body31 rfl rfl (gens_ok b x o _ _ hs.toSub (hs.right.blk (i := 0) rfl) (hs.right.mem b _ false (List.mem_cons_self ..)).2.1 (hx.mono hle) hl) ?_))
    clear hs; rintro _ H w hs hle1 rfl
    exact ⟨_, [], hle1, hs, rfl, rfl⟩
  intro H w hle2; (try replace hle := hle.trans hle2); (try replace hlb := hlb.trans hle2)
  refine forAllVals_eq rfl ?_
  refine forAllVals_eq rfl ?_
  refine forAllVals_eq rfl ?_
  refine forAllVals_nil ?_; (try clear hs); intro hs
  refine WO.step rfl (OR.geq rfl rfl (WO.done (WX.seq ?_)))
  refine WC.condD rfl (fun hge => ?_) (fun hge => ?_)
  · refine WC.seq (WC.region (WO.step rfl (OR.assign rfl (WO.done (WX.seq (WC.ret (WX.seq_ret ?_)))))))
    refine WX.ret1 rfl rfl ?_
    exact .mk hs (by rw [if_neg (by omega)])
  · refine WC.skip (WX.seq (WC.seq (WC.region (WO.step rfl (OR.assign rfl (WO.done (WX.seq ?_)))))))
    refine WC.ret ?_
    refine WX.ret1 rfl rfl ?_
    exact .mk hs (by rw [if_pos (by omega)])

/-- A slice of slices of bytes, or a row, with an error. -/
def TupL (H : Hp) (v : Value) (ll : List (List UInt8)) (e : Int) : Prop := ∃ r, v = .tuple #[r, .int .i64 e] ∧ BytesL H r ll
def MF.tupL (ll : List (List UInt8)) (e : Int) : MF := MF.of (fun v H => TupL H v ll e) fun _ _ _ hle ⟨r, h1, h2⟩ => ⟨r, h1, h2.mono hle⟩
def TupR (H : Hp) (v : Value) (x : RowD) (e : Int) : Prop := ∃ r, v = .tuple #[r, .int .i64 e] ∧ RowV H r x
/-- The symbols of a generation. -/
def symF (x : SrcD) (gen : Nat) : List (List UInt8) := match x.chunks[gen]? with
  | some c => layF x.g x.s c
  | none => []
def thereE (x : SrcD) (gen : Nat) : Int := if gen < x.chunks.length then 0 else 23
set_option maxRecDepth 20000 in
set_option maxHeartbeats 2000000 in
theorem symbols_ok (b : Nat) (gen : Nat) (x : SrcD) (o : Obj) (H0 : Hp) (w0 : World) (h0 : Sub H0 w0) (hb : w0.heap[b]? = some o) (hn : H0 b = none) (hx : SrcIn H0 x o) (hok : SrcOk x) :
    Calls Tryz.prog 49 #[ptr b, .int .u64 (gen : Int)] w0 (Pure H0 w0 fun v H' => TupL H' v (symF x gen) (thereE x gen)) := by
  have hs := HS.startR h0 hb hn
  have hle := Hp.le.refl H0
  have hchl := hok.chl
  have hgp : 0 < x.g := by have := hok.gs.1; omega
  have hx0 := hx
  obtain ⟨vs, vc, vch, vop, rfl, hx1, hx2, hx3, hx4⟩ := hx0
  refine Calls.enter (args := [ptr b, .int .u64 (gen : Int)]) Tryz.func49 rfl Tryz.ntmps49 rfl ?_
  refine WC.seq (WC.region (WO.step rfl (OR.assign rfl (WO.step rfl (OR.assign rfl (WO.done (WX.seq ?_)))))))
  refine WC.seq (WC.seq (WC.region (WO.step rfl (OR.move rfl (WO.step rfl (OR.makeFunc rfl rfl (WO.step rfl ?_)))))))
  refine OR.move rfl (WO.step rfl (OR.move rfl ?_))
  refine WO.step rfl (OR.call hs body108 rfl rfl (there_ok b gen _ _ hs.toSub) ?_)
  clear hs; rintro _ H w hs hle1 ⟨gg, gx, rfl, hc1, hc2⟩; replace hle := hle.trans hle1; (try replace hlb := hlb.trans hle1)
  refine WO.step rfl (OR.buildSlice (vs := [_, _]) hs T215.und T70 rfl rfl rfl rfl (by simp) ?_)
  clear hs; intro g4 w hg4 hs
  refine WO.step rfl (OR.callW body83 rfl rfl (first2 _ _ 0 (thereE x gen) g4 2 _ _ _ _ _ _ hs ⟨_, [ptr b], [], rfl, body84, fun H' w' hl' hs' => smade_ok b x.g x.s vs vc vch vop x.cl _ _ hs'.toSub (hs'.blk (i := 1) rfl) (hs'.mem b (srcObj x.g x.s vs vc x.cl vch vop) false (by simp)).2.1 hgp⟩ ⟨_, [], [ptr gg, ptr gx], rfl, body145, fun H' w' hl' hs' => there1_ok b gg gx gen x (srcObj x.g x.s vs vc x.cl vch vop) _ _ hs'.toSub (hs'.blk (i := 1) rfl) (hs'.mem b (srcObj x.g x.s vs vc x.cl vch vop) false (by simp)).2.1 (hx.mono (hle.trans hl')) (by omega) (hcell.mono hl' hc1) (hcell.mono hl' hc2)⟩) ?_)
  clear hs
  rintro e w ⟨rfl, H, hle1, hs⟩
  replace hle := hle.trans hle1
  refine ⟨_, rfl, ?_⟩
  rw [if_pos rfl]
  by_cases hlt : gen < x.chunks.length
  · have hE : thereE x gen = 0 := by rw [thereE, if_pos hlt]
    rw [hE]
    obtain ⟨b3, c3, e3⟩ := hx3.form
    subst e3
    refine WO.step rfl (OR.assign rfl (WO.done (WX.seq (WC.seq (WC.region (WO.step rfl (OR.move rfl ?_)))))))
    refine WO.step rfl (OR.neq rfl rfl (WO.done (WX.seq ?_)))
    refine WC.no rfl (decide_eq_false (by decide)) ?_
    obtain ⟨cs, hsl, hcl, hcs⟩ := hx3
    obtain ⟨ob, oo, rfl, hco⟩ := hsl.pos (by omega)
    have hgc : gen < cs.length := by omega
    have hcell' := hco gen cs[gen] (List.getElem?_eq_getElem hgc)
    have hcb := hcs gen hlt hgc
    have hmem := hok.mem x.chunks[gen] (List.getElem_mem hlt)
    have hsym : symF x gen = layF x.g x.s x.chunks[gen] := by rw [symF, List.getElem?_eq_getElem hlt]
    refine WC.skip (WX.seq (WC.seq ?_))
    refine WC.sub [(0, ptr b), (1, .int .u64 (gen : Int))] ⟨rfl, rfl,  trivial⟩ ?_
    refine WC.draw 19 mixed hs (by kernel_rfl) ?_
    refine ⟨MF.eq _, by intro Mx H w hle hs; refine forVals_nil (ORg.plain (OR.move rfl ?_)); exact ⟨_, [], Hp.le.refl _, hs, rfl, rfl⟩, ?_⟩
    refine ⟨MF.eq _, by intro Mx H w hle hs; refine forVals_eq rfl rfl rfl ?_; refine forVals_nil (ORg.plain (OR.nilCheck rfl ?_)); exact ⟨_, [], Hp.le.refl _, hs, rfl, rfl⟩, ?_⟩
    refine ⟨MF.eq _, by intro Mx H w hle hs; refine forVals_eq rfl rfl rfl ?_; refine forVals_nil (ORg.plain (OR.fieldAddr FA163_5 rfl ?_)); exact ⟨_, [], Hp.le.refl _, hs, rfl, rfl⟩, ?_⟩
    refine ⟨MF.eq _, by intro Mx H w hle hs; refine forVals_eq rfl rfl rfl ?_; refine forVals_nil (ORg.plain (OR.load T40 rfl rfl (hs.right.cellM (i := 1) rfl rfl) ?_)); exact ⟨_, [], Hp.le.refl _, hs, rfl, rfl⟩, ?_⟩
    refine ⟨MF.eq _, by intro Mx H w hle hs; refine forVals_nil (ORg.plain (OR.move rfl ?_)); exact ⟨_, [], Hp.le.refl _, hs, rfl, rfl⟩, ?_⟩
    refine ⟨MF.eq (.pointer (some ⟨ob, oo + gen, none⟩)), ?_, ?_⟩
    · intro Mx H w hle2 hs; (try replace hle := hle.trans hle2); (try replace hlb := hlb.trans hle2); refine forVals_eq rfl rfl rfl ?_; refine forVals_eq rfl rfl rfl ?_
      refine forVals_nil (ORg.plain (OR.idx gen T40.und T43 rfl rfl rfl hlt ?_))
      exact ⟨_, [], Hp.le.refl _, hs, rfl, rfl⟩
    refine ⟨MF.eq cs[gen], ?_, ?_⟩
    · intro Mx H w hle2 hs; (try replace hle := hle.trans hle2); (try replace hlb := hlb.trans hle2); refine forVals_eq rfl rfl rfl ?_
      refine forVals_nil (ORg.plain (OR.load T43 rfl rfl (hs.cell (hcell.mono hle hcell')) ?_))
      exact ⟨_, [], Hp.le.refl _, hs, rfl, rfl⟩
    refine ⟨MF.eq _, by intro Mx H w hle hs; refine forVals_nil (ORg.plain (OR.move rfl ?_)); exact ⟨_, [], Hp.le.refl _, hs, rfl, rfl⟩, ?_⟩
    refine ⟨MF.eq _, by intro Mx H w hle hs; refine forVals_eq rfl rfl rfl ?_; refine forVals_nil (ORg.plain (OR.nilCheck rfl ?_)); exact ⟨_, [], Hp.le.refl _, hs, rfl, rfl⟩, ?_⟩
    refine ⟨MF.eq _, by intro Mx H w hle hs; refine forVals_eq rfl rfl rfl ?_; refine forVals_nil (ORg.plain (OR.fieldAddr FA163_0 rfl ?_)); exact ⟨_, [], Hp.le.refl _, hs, rfl, rfl⟩, ?_⟩
    refine ⟨MF.eq _, by intro Mx H w hle hs; refine forVals_eq rfl rfl rfl ?_; refine forVals_nil (ORg.plain (OR.load T3 rfl rfl (hs.right.cellM (i := 1) rfl rfl) ?_)); exact ⟨_, [], Hp.le.refl _, hs, rfl, rfl⟩, ?_⟩
    refine ⟨MF.eq _, by intro Mx H w hle hs; refine forVals_nil (ORg.plain (OR.move rfl ?_)); exact ⟨_, [], Hp.le.refl _, hs, rfl, rfl⟩, ?_⟩
    refine ⟨MF.eq _, by intro Mx H w hle hs; refine forVals_eq rfl rfl rfl ?_; refine forVals_nil (ORg.plain (OR.nilCheck rfl ?_)); exact ⟨_, [], Hp.le.refl _, hs, rfl, rfl⟩, ?_⟩
    refine ⟨MF.eq _, by intro Mx H w hle hs; refine forVals_eq rfl rfl rfl ?_; refine forVals_nil (ORg.plain (OR.fieldAddr FA163_1 rfl ?_)); exact ⟨_, [], Hp.le.refl _, hs, rfl, rfl⟩, ?_⟩
    refine ⟨MF.eq _, by intro Mx H w hle hs; refine forVals_eq rfl rfl rfl ?_; refine forVals_nil (ORg.plain (OR.load T3 rfl rfl (hs.right.cellM (i := 1) rfl rfl) ?_)); exact ⟨_, [], Hp.le.refl _, hs, rfl, rfl⟩, ?_⟩
    refine ⟨MF.tupL (layF x.g x.s x.chunks[gen]) 0, ?_, ?_⟩
    · intro Mx H w hle2 hs; (try replace hle := hle.trans hle2); (try replace hlb := hlb.trans hle2); refine forVals_eq rfl rfl rfl ?_; refine forVals_eq rfl rfl rfl ?_; refine forVals_eq rfl rfl rfl ?_
      refine forVals_nil (ORg.plain (OR.call hs body109 rfl rfl (lay_ok x.g x.s cs[gen] x.chunks[gen] _ _ hs.toSub hok.nat (hcb.mono hle) hmem.1 hmem.2) ?_))
      clear hs; rintro _ H w hs hle1 ⟨r, rfl, hr⟩
      exact ⟨_, [], hle1, hs, ⟨r, rfl, hr⟩, rfl⟩
    refine ⟨MF.bytesL (layF x.g x.s x.chunks[gen]), ?_, ?_⟩
    · intro Mx H w hle2 hs; (try replace hle := hle.trans hle2); (try replace hlb := hlb.trans hle2); refine forVals_of rfl rfl rfl ?_; intro v15 h15
      obtain ⟨r, rfl, hr⟩ := h15
      refine forVals_nil (ORg.plain (OR.extract rfl rfl ?_))
      exact ⟨_, [], Hp.le.refl _, hs, hr, rfl⟩
    refine ⟨MF.eq (.int .i64 0), ?_, ?_⟩
    · intro Mx H w hle2 hs; (try replace hle := hle.trans hle2); (try replace hlb := hlb.trans hle2); refine forVals_of rfl rfl rfl ?_; intro v15 h15
      obtain ⟨r, rfl, hr⟩ := h15
      refine forVals_nil (ORg.plain (OR.extract rfl rfl ?_))
      exact ⟨_, [], Hp.le.refl _, hs, rfl, rfl⟩
    refine ⟨MF.bytesL (layF x.g x.s x.chunks[gen]), ?_, ?_⟩
    · intro Mx H w hle2 hs; (try replace hle := hle.trans hle2); (try replace hlb := hlb.trans hle2); refine forVals_of rfl rfl rfl ?_; intro v16 h16
      refine forVals_nil (ORg.plain (OR.assign rfl ?_))
      exact ⟨_, [], Hp.le.refl _, hs, h16, rfl⟩
    intro H w hle2; (try replace hle := hle.trans hle2); (try replace hlb := hlb.trans hle2)
    refine forAllVals_eq rfl ?_
    refine forAllVals_eq rfl ?_
    refine forAllVals_eq rfl ?_
    refine forAllVals_eq rfl ?_
    refine forAllVals_eq rfl ?_
    refine forAllVals_eq rfl ?_
    refine forAllVals_eq rfl ?_
    refine forAllVals_eq rfl ?_
    refine forAllVals_eq rfl ?_
    refine forAllVals_eq rfl ?_
    refine forAllVals_eq rfl ?_
    refine forAllVals_eq rfl ?_
    refine forAllVals_eq rfl ?_
    refine forAllVals_eq rfl ?_
    refine forAllVals_eq rfl ?_
    refine forAllVals_of rfl ?_; intro v15 h15
    refine forAllVals_of rfl ?_; intro v16 h16
    refine forAllVals_eq rfl ?_
    refine forAllVals_of rfl ?_; intro v18 h18
    refine forAllVals_nil ?_; (try clear hs); intro hs
    refine WO.step rfl (OR.assign rfl (WO.done (WX.seq (WC.ret ?_))))
    refine WX.ret2 rfl rfl rfl ?_
    rw [hsym]
    exact .mk (hs.drop 0) ⟨_, rfl, h18⟩
  · have hE : thereE x gen = 23 := by rw [thereE, if_neg hlt]
    rw [hE]
    refine WO.step rfl (OR.assign rfl (WO.done (WX.seq (WC.seq (WC.region (WO.step rfl (OR.move rfl ?_)))))))
    refine WO.step rfl (OR.neq rfl rfl (WO.done (WX.seq ?_)))
    refine WC.yes rfl (decide_eq_true (by decide)) ?_
    refine WC.seq (WC.region (WO.step rfl (OR.move rfl (WO.step rfl (OR.assign rfl (WO.step rfl (OR.assign rfl ?_)))))))
    refine WO.done (WX.seq (WC.ret (WX.seq_ret ?_)))
    refine WX.ret2 rfl rfl rfl ?_
    exact .mk (hs.drop 0) ⟨_, rfl, by rw [symF, List.getElem?_eq_none (by omega)]; exact ⟨[], Sl.empty _ _ _, rfl, fun i h => by simp at h⟩⟩

theorem symF_len {x : SrcD} (hok : SrcOk x) {gen : Nat} (h : gen < x.chunks.length) : (symF x gen).length = x.g := by
  rw [symF, List.getElem?_eq_getElem h]
  simp [layF]
theorem symF_row {x : SrcD} (hok : SrcOk x) {gen : Nat} (h : gen < x.chunks.length) : ∀ r ∈ symF x gen, r.length = x.s := by
  rw [symF, List.getElem?_eq_getElem h]
  intro r hr
  simp only [layF, List.mem_map, List.mem_range] at hr
  obtain ⟨i, hi, rfl⟩ := hr
  have hmem := hok.mem x.chunks[gen] (List.getElem_mem h)
  have hal := layAll_len (g := x.g) (s := x.s) (chunk := x.chunks[gen]) hok.nat.2.2.2.2 hmem.2
  have : x.s * (i + 1) ≤ x.g * x.s := by rw [Nat.mul_comm x.g]; exact Nat.mul_le_mul_left _ hi
  rw [Nat.mul_add, Nat.mul_one] at this
  simp [hal]
  omega

def rowE (x : SrcD) (gen : Nat) (c : List UInt8) : Int := if gen < x.chunks.length then (if c.length = x.g then 0 else 21) else 23
def rowF (x : SrcD) (gen : Nat) (c : List UInt8) : RowD := if gen < x.chunks.length ∧ c.length = x.g then (c, comb x.s (symF x gen) c) else ([], [])
set_option maxRecDepth 20000 in
set_option maxHeartbeats 2000000 in
theorem srow_ok (b : Nat) (gen : Nat) (vd : Value) (c : List UInt8) (x : SrcD) (o : Obj) (H0 : Hp) (w0 : World) (h0 : Sub H0 w0) (hb : w0.heap[b]? = some o) (hn : H0 b = none) (hx : SrcIn H0 x o) (hok : SrcOk x) (hc : Bytes H0 vd c) (hl : c.length ≤ 140737488355328) :
    Calls Tryz.prog 32 #[ptr b, .int .u64 (gen : Int), vd] w0 (Pure H0 w0 fun v H' => TupR H' v (rowF x gen c) (rowE x gen c)) := by
  have hs := HS.startR h0 hb hn
  have hle := Hp.le.refl H0
  have hx0 := hx
  obtain ⟨hn1, hn2, hn3, hn4, hn5⟩ := hok.nat
  obtain ⟨b1, c1, rfl⟩ := hc.form
  obtain ⟨vs, vc, vch, vop, rfl, hx1, hx2, hx3, hx4⟩ := hx0
  have hz : RowV H0 (.agg #[.slice none 0 0, .slice none 0 0]) ([], []) := ⟨_, _, rfl, Sl.empty _ _ _, Sl.empty _ _ _⟩
  refine Calls.enter (args := [ptr b, .int .u64 (gen : Int), .slice b1 c.length c1]) Tryz.func32 rfl Tryz.ntmps32 rfl ?_
  refine WC.seq (WC.region (WO.step rfl (OR.alloc hs T45 ?_)))
  clear hs; intro g1 w hg1 hs
  refine WO.step rfl (OR.assign rfl (WO.done (WX.seq (WC.seq (WC.region (WO.step rfl (OR.move rfl ?_)))))))
  refine WO.step rfl (OR.move rfl ?_)
  refine WO.step rfl (OR.call hs body49 rfl rfl (symbols_ok b gen x _ _ _ hs.toSub (hs.blk (i := 1) rfl) (hs.mem b (srcObj x.g x.s vs vc x.cl vch vop) false (by simp)).2.1 (hx.mono hle) hok) ?_)
  clear hs; rintro _ H w hs hle1 ⟨r, rfl, hr⟩; replace hle := hle.trans hle1; (try replace hlb := hlb.trans hle1)
  obtain ⟨b2, c2, rfl⟩ := hr.form
  by_cases hlt : gen < x.chunks.length
  · have hE : thereE x gen = 0 := by rw [thereE, if_pos hlt]
    rw [hE]
    refine WO.step rfl (OR.move rfl (WO.step rfl (OR.extract rfl rfl (WO.step rfl (OR.extract rfl rfl (WO.step rfl (OR.assign rfl ?_)))))))
    refine WO.step rfl (OR.assign rfl (WO.done (WX.seq (WC.seq (WC.block (WC.seq (WC.region ?_)))))))
    refine WO.step rfl (OR.move rfl (WO.step rfl (OR.neq rfl rfl (WO.step rfl (OR.assign rfl (WO.done (WX.seq ?_)))))))
    refine WC.no rfl (decide_eq_false (by decide)) ?_
    refine WC.seq (WC.region (WO.step rfl (OR.move rfl (WO.step rfl (OR.lenSlice T43.und rfl (WO.step rfl (OR.move rfl ?_)))))))
    refine WO.step rfl (OR.nilCheck rfl (WO.step rfl (OR.fieldAddr FA163_0 rfl (WO.step rfl (OR.load T3 rfl rfl (hs.cellM (i := 1) rfl rfl) (WO.step rfl (OR.neq rfl rfl ?_)))))))
    refine WO.step rfl (OR.assign rfl (WO.done (WX.seq ?_)))
    refine WC.condD rfl (fun hne => ?_) (fun hne => ?_)
    · refine WC.seq (WC.region (WO.step rfl (OR.buildZero T45 PL45 (WO.stepN (OR.storeAll hs T45 rfl rfl rfl rfl rfl ?_)))))
      clear hs; intro w hs
      refine WO.step rfl (OR.assign rfl (WO.done (WX.seq (WC.ret (WX.block_ret (WX.seq_ret ?_))))))
      refine WX.retCT T45 rfl rfl rfl rfl rfl (hs.blk (i := 0) rfl) ?_
      have e1 : rowE x gen c = 21 := by rw [rowE, if_pos hlt, if_neg (by omega)]
      have e2 : rowF x gen c = ([], []) := by rw [rowF, if_neg (by omega)]
      rw [e1, e2]
      exact .mk (hs.drop 0) ⟨_, rfl, hz.mono hle⟩
    · have hcl : c.length = x.g := by omega
      have hsl := symF_len hok hlt
      refine WC.skip (WX.block (WX.seq (WC.seq (WC.region (WO.step rfl (OR.move rfl (WO.step rfl ?_)))))))
      refine OR.move rfl ?_
      refine WO.step rfl (OR.call hs body91 rfl rfl (combine_ok _ _ (symF x gen) c x.s _ _ hs.toSub hr (hc.mono hle) (by omega) (symF_row hok hlt) (by omega) (by omega)) ?_)
      clear hs; rintro _ H w hs hle1 ⟨r2, rfl, hr2⟩; replace hle := hle.trans hle1; (try replace hlb := hlb.trans hle1)
      rw [if_pos (by omega)] at hr2
      rw [if_pos (by omega)]
      refine WO.step rfl (OR.move rfl (WO.step rfl (OR.extract rfl rfl (WO.step rfl (OR.extract rfl rfl (WO.step rfl (OR.assign rfl ?_)))))))
      refine WO.step rfl (OR.assign rfl (WO.done (WX.seq (WC.seq (WC.region (WO.step rfl (OR.move rfl ?_)))))))
      refine WO.step rfl (OR.call hs body87 rfl rfl (clone_pure _ _ _ _ hs.toSub (hc.mono hle) hl) ?_)
      clear hs; rintro _ H w hs hle1 hr3; replace hle := hle.trans hle1; (try replace hlb := hlb.trans hle1)
      obtain ⟨b4, c4, rfl⟩ := hr2.form
      obtain ⟨b5, c5, rfl⟩ := hr3.form
      refine WO.step rfl (OR.move rfl (WO.step rfl (OR.buildAll T45 rfl rfl PL45 rfl rfl (WO.stepN (OR.storeAll hs T45 rfl rfl rfl rfl rfl ?_)))))
      clear hs; intro w hs
      refine WO.step rfl (OR.assign rfl (WO.done (WX.seq (WC.ret ?_))))
      refine WX.retCT T45 rfl rfl rfl rfl rfl (hs.blk (i := 0) rfl) ?_
      have e1 : rowE x gen c = 0 := by rw [rowE, if_pos hlt, if_pos hcl]
      have e2 : rowF x gen c = (c, comb x.s (symF x gen) c) := by rw [rowF, if_pos ⟨hlt, hcl⟩]
      rw [e1, e2]
      exact .mk (hs.drop 0) ⟨_, rfl, _, _, rfl, hr3, hr2.mono hle1⟩
  · have hE : thereE x gen = 23 := by rw [thereE, if_neg hlt]
    rw [hE]
    refine WO.step rfl (OR.move rfl (WO.step rfl (OR.extract rfl rfl (WO.step rfl (OR.extract rfl rfl (WO.step rfl (OR.assign rfl ?_)))))))
    refine WO.step rfl (OR.assign rfl (WO.done (WX.seq (WC.seq (WC.block (WC.seq (WC.region ?_)))))))
    refine WO.step rfl (OR.move rfl (WO.step rfl (OR.neq rfl rfl (WO.step rfl (OR.assign rfl (WO.done (WX.seq ?_)))))))
    refine WC.yes rfl (decide_eq_true (by decide)) ?_
    refine WC.seq (WC.region (WO.step rfl (OR.buildZero T45 PL45 (WO.step rfl (OR.move rfl (WO.stepN (OR.storeAll hs T45 rfl rfl rfl rfl rfl ?_)))))))
    clear hs; intro w hs
    refine WO.step rfl (OR.assign rfl (WO.done (WX.seq (WC.ret (WX.block_ret (WX.seq_ret ?_))))))
    refine WX.retCT T45 rfl rfl rfl rfl rfl (hs.blk (i := 0) rfl) ?_
    have e1 : rowE x gen c = 23 := by rw [rowE, if_neg hlt]
    have e2 : rowF x gen c = ([], []) := by rw [rowF, if_neg (by omega)]
    rw [e1, e2]
    exact .mk (hs.drop 0) ⟨_, rfl, hz.mono hle⟩

def sendC (x : SrcD) (sent : Nat) (l : List UInt8) : List UInt8 := coefF x.g (sent % x.g) (if sent < x.g then [] else l)
set_option maxRecDepth 20000 in
set_option maxHeartbeats 2000000 in
theorem ssend_ok (b : Nat) (gen sent : Nat) (vd : Value) (l : List UInt8) (x : SrcD) (o : Obj) (H0 : Hp) (w0 : World) (h0 : Sub H0 w0) (hb : w0.heap[b]? = some o) (hn : H0 b = none) (hx : SrcIn H0 x o) (hok : SrcOk x) (hl : Bytes H0 vd l) (hst : sent < 18446744073709551616) :
    Calls Tryz.prog 212 #[ptr b, .int .u64 (gen : Int), .int .u64 (sent : Int), vd] w0 (Pure H0 w0 fun v H' => TupR H' v (rowF x gen (sendC x sent l)) (thereE x gen)) := by
  have hs := HS.startR h0 hb hn
  have hle := Hp.le.refl H0
  have hx0 := hx
  have hchl := hok.chl
  obtain ⟨hn1, hn2, hn3, hn4, hn5⟩ := hok.nat
  have hz : RowV H0 (.agg #[.slice none 0 0, .slice none 0 0]) ([], []) := ⟨_, _, rfl, Sl.empty _ _ _, Sl.empty _ _ _⟩
  obtain ⟨b1, c1, rfl⟩ := hl.form
  obtain ⟨vs, vc, vch, vop, rfl, hx1, hx2, hx3, hx4⟩ := hx0
  have hsc : (sendC x sent l).length = x.g := coefF_len _ _ _
  refine Calls.enter (args := [ptr b, .int .u64 (gen : Int), .int .u64 (sent : Int), .slice b1 l.length c1]) Tryz.func212 rfl Tryz.ntmps212 rfl ?_
  refine WC.seq (WC.region (WO.step rfl (OR.alloc hs T45 ?_)))
  clear hs; intro g1 w hg1 hs
  refine WO.step rfl (OR.assign rfl (WO.done (WX.seq (WC.seq (WC.seq (WC.region (WO.step rfl ?_)))))))
  refine OR.move rfl (WO.step rfl (OR.makeFunc rfl rfl (WO.step rfl (OR.move rfl (WO.step rfl (OR.move rfl ?_))))))
  refine WO.step rfl (OR.call hs body108 rfl rfl (there_ok b gen _ _ hs.toSub) ?_)
  clear hs; rintro _ H w hs hle1 ⟨gg, gx, rfl, hc1, hc2⟩; replace hle := hle.trans hle1; (try replace hlb := hlb.trans hle1)
  refine WO.step rfl (OR.buildSlice (vs := [_, _]) hs T215.und T70 rfl rfl rfl rfl (by simp) ?_)
  clear hs; intro g4 w hg4 hs
  refine WO.step rfl (OR.callW body83 rfl rfl (first2 _ _ 0 (thereE x gen) g4 2 _ _ _ _ _ _ hs ⟨_, [ptr b], [], rfl, body84, fun H' w' hl' hs' => smade_ok b x.g x.s vs vc vch vop x.cl _ _ hs'.toSub (hs'.blk (i := 2) rfl) (hs'.mem b (srcObj x.g x.s vs vc x.cl vch vop) false (by simp)).2.1 hn1⟩ ⟨_, [], [ptr gg, ptr gx], rfl, body145, fun H' w' hl' hs' => there1_ok b gg gx gen x (srcObj x.g x.s vs vc x.cl vch vop) _ _ hs'.toSub (hs'.blk (i := 2) rfl) (hs'.mem b (srcObj x.g x.s vs vc x.cl vch vop) false (by simp)).2.1 (hx.mono (hle.trans hl')) (by omega) (hcell.mono hl' hc1) (hcell.mono hl' hc2)⟩) ?_)
  clear hs
  rintro e w ⟨rfl, H, hle1, hs⟩
  replace hle := hle.trans hle1
  refine ⟨_, rfl, ?_⟩
  rw [if_pos rfl]
  by_cases hlt : gen < x.chunks.length
  · have hE : thereE x gen = 0 := by rw [thereE, if_pos hlt]
    rw [hE]
    refine WO.step rfl (OR.assign rfl (WO.done (WX.seq (WC.seq (WC.region (WO.step rfl (OR.move rfl ?_)))))))
    refine WO.step rfl (OR.neq rfl rfl (WO.done (WX.seq ?_)))
    refine WC.no rfl (decide_eq_false (by decide)) ?_
    refine WC.skip (WX.seq (WC.seq (WC.seq (WC.region (WO.step rfl (OR.move rfl (WO.step rfl ?_)))))))
    refine OR.move rfl (WO.step rfl (OR.nilCheck rfl (WO.step rfl (OR.fieldAddr FA163_0 rfl (WO.step rfl (OR.load T3 rfl rfl (hs.cellM (i := 2) rfl rfl) ?_))))))
    refine WO.step rfl (OR.convI T3.und T22.und rfl ?_)
    rw [u64_wrap _ (by omega)]
    refine WO.step rfl (OR.lss rfl rfl (WO.step rfl (OR.move rfl ?_)))
    replace hs := hs.drop (i := 0)
    by_cases hsg : sent < x.g
    · have hsc' : sendC x sent l = coefF x.g (sent % x.g) [] := by rw [sendC, if_pos hsg]
      refine WO.guardYes rfl (decide_eq_true (by omega : (sent : Int) < (x.g : Int))) rfl rfl (OR.move rfl ?_)
      refine WO.guardYes rfl (decide_eq_true (by omega : (sent : Int) < (x.g : Int))) rfl rfl (OR.convI T22.und T3.und rfl ?_)
      rw [IntWalk.i64_in (sent : Int) (by omega)]
      refine WO.guardYes rfl (decide_eq_true (by omega : (sent : Int) < (x.g : Int))) rfl rfl (OR.move rfl (WO.guardYes rfl (decide_eq_true (by omega : (sent : Int) < (x.g : Int))) rfl rfl (OR.nilCheck rfl (WO.guardYes rfl (decide_eq_true (by omega : (sent : Int) < (x.g : Int))) rfl rfl (OR.fieldAddr FA163_0 rfl (WO.guardYes rfl (decide_eq_true (by omega : (sent : Int) < (x.g : Int))) rfl rfl (OR.load T3 rfl rfl (hs.cellM (i := 1) rfl rfl) ?_)))))))
      refine WO.guardYes rfl (decide_eq_true (by omega : (sent : Int) < (x.g : Int))) rfl rfl (OR.call hs body213 rfl rfl (syst_ok (sent : Int) (x.g : Int) _ _ hs.toSub) ?_)
      clear hs; rintro _ H w hs hle1 rfl; replace hle := hle.trans hle1; (try replace hlb := hlb.trans hle1)
      rw [decide_eq_true (by omega : (0 : Int) ≤ (sent : Int) ∧ (sent : Int) < (x.g : Int))]
      refine WO.step rfl (OR.pickT rfl (decide_eq_true (by omega : (sent : Int) < (x.g : Int))) rfl (WO.done (WX.seq ?_)))
      refine WC.yes rfl rfl ?_
      refine WC.region (WO.step rfl (OR.assign rfl (WO.done (WX.seq (WC.seq (WC.region (WO.step rfl ?_)))))))
      refine OR.move rfl (WO.step rfl (OR.move rfl (WO.step rfl (OR.nilCheck rfl (WO.step rfl (OR.fieldAddr FA163_0 rfl (WO.step rfl ?_)))))))
      refine OR.load T3 rfl rfl (hs.cellM (i := 1) rfl rfl) ?_
      refine WO.step rfl (OR.call hs body202 rfl rfl (turn_ok sent x.g _ _ hs.toSub ⟨hn1, hn2⟩ hst) ?_)
      clear hs; rintro _ H w hs hle1 rfl; replace hle := hle.trans hle1; (try replace hlb := hlb.trans hle1)
      refine WO.step rfl (OR.move rfl (WO.step rfl (OR.extract rfl rfl (WO.step rfl (OR.extract rfl rfl (WO.step rfl (OR.assign rfl ?_)))))))
      refine WO.step rfl (OR.assign rfl (WO.done (WX.seq (WC.seq (WC.region (WO.step rfl (OR.move rfl ?_)))))))
      refine WO.step rfl (OR.move rfl (WO.step rfl (OR.nilCheck rfl (WO.step rfl (OR.fieldAddr FA163_0 rfl (WO.step rfl (OR.load T3 rfl rfl (hs.cellM (i := 1) rfl rfl) ?_)))))))
      refine WO.step rfl (OR.move rfl ?_)
      refine WO.step rfl (OR.call hs body203 rfl rfl (coefs_ok _ [] x.g (sent % x.g) _ _ hs.toSub (Sl.empty _ _ _) ⟨hn1, hn2⟩ (Nat.mod_lt _ hn1)) ?_)
      clear hs; rintro _ H w hs hle1 ⟨r, rfl, hr⟩; replace hle := hle.trans hle1; (try replace hlb := hlb.trans hle1)
      rw [← hsc'] at hr
      refine WO.step rfl (OR.move rfl (WO.step rfl (OR.extract rfl rfl (WO.step rfl (OR.extract rfl rfl (WO.step rfl (OR.assign rfl ?_)))))))
      refine WO.step rfl (OR.assign rfl (WO.done (WX.seq (WC.seq (WC.region (WO.step rfl (OR.move rfl ?_)))))))
      refine WO.step rfl (OR.move rfl (WO.step rfl (OR.move rfl ?_)))
      refine WO.step rfl (OR.call hs body32 rfl rfl (srow_ok b gen _ (sendC x sent l) x (srcObj x.g x.s vs vc x.cl vch vop) _ _ hs.toSub (hs.blk (i := 1) rfl) (hs.mem b (srcObj x.g x.s vs vc x.cl vch vop) false (by simp)).2.1 (hx.mono hle) hok hr (by omega)) ?_)
      clear hs; rintro _ H w hs hle1 ⟨r2, rfl, hr2⟩; replace hle := hle.trans hle1; (try replace hlb := hlb.trans hle1)
      have e1 : rowE x gen (sendC x sent l) = 0 := by rw [rowE, if_pos hlt, if_pos hsc]
      rw [e1]
      obtain ⟨y1, y2, rfl, hy1, hy2⟩ := hr2
      obtain ⟨b4, c4, rfl⟩ := hy1.form
      obtain ⟨b5, c5, rfl⟩ := hy2.form
      refine WO.step rfl (OR.extract rfl rfl (WO.step rfl (OR.extract rfl rfl (WO.stepN (OR.storeAll hs T45 rfl rfl rfl rfl rfl ?_)))))
      clear hs; intro w hs
      refine WO.step rfl (OR.assign rfl (WO.done (WX.seq (WC.ret ?_))))
      refine WX.retCT T45 rfl rfl rfl rfl rfl (hs.blk (i := 0) rfl) ?_
      exact .mk (hs.drop 0) ⟨_, rfl, _, _, rfl, hy1, hy2⟩
    · have hsc' : sendC x sent l = coefF x.g (sent % x.g) l := by rw [sendC, if_neg hsg]
      refine WO.guardNo rfl (decide_eq_false (by omega : ¬ (sent : Int) < (x.g : Int))) rfl rfl (WO.guardNo rfl (decide_eq_false (by omega : ¬ (sent : Int) < (x.g : Int))) rfl rfl (WO.guardNo rfl (decide_eq_false (by omega : ¬ (sent : Int) < (x.g : Int))) rfl rfl (WO.guardNo rfl (decide_eq_false (by omega : ¬ (sent : Int) < (x.g : Int))) rfl rfl (WO.guardNo rfl (decide_eq_false (by omega : ¬ (sent : Int) < (x.g : Int))) rfl rfl (WO.guardNo rfl (decide_eq_false (by omega : ¬ (sent : Int) < (x.g : Int))) rfl rfl (WO.guardNo rfl (decide_eq_false (by omega : ¬ (sent : Int) < (x.g : Int))) rfl rfl (WO.step rfl ?_)))))))
      refine OR.pickF rfl (decide_eq_false (by omega : ¬ (sent : Int) < (x.g : Int))) rfl (WO.done (WX.seq (WC.no rfl rfl (WC.skip (WX.seq (WC.seq (WC.region ?_)))))))
      refine WO.step rfl (OR.move rfl (WO.step rfl (OR.move rfl (WO.step rfl (OR.nilCheck rfl (WO.step rfl (OR.fieldAddr FA163_0 rfl ?_)))))))
      refine WO.step rfl (OR.load T3 rfl rfl (hs.cellM (i := 1) rfl rfl) ?_)
      refine WO.step rfl (OR.call hs body202 rfl rfl (turn_ok sent x.g _ _ hs.toSub ⟨hn1, hn2⟩ hst) ?_)
      clear hs; rintro _ H w hs hle1 rfl; replace hle := hle.trans hle1; (try replace hlb := hlb.trans hle1)
      refine WO.step rfl (OR.move rfl (WO.step rfl (OR.extract rfl rfl (WO.step rfl (OR.extract rfl rfl (WO.step rfl (OR.assign rfl ?_)))))))
      refine WO.step rfl (OR.assign rfl (WO.done (WX.seq (WC.seq (WC.region (WO.step rfl (OR.move rfl ?_)))))))
      refine WO.step rfl (OR.move rfl (WO.step rfl (OR.nilCheck rfl (WO.step rfl (OR.fieldAddr FA163_0 rfl (WO.step rfl (OR.load T3 rfl rfl (hs.cellM (i := 1) rfl rfl) ?_)))))))
      refine WO.step rfl (OR.move rfl ?_)
      refine WO.step rfl (OR.call hs body203 rfl rfl (coefs_ok _ l x.g (sent % x.g) _ _ hs.toSub (hl.mono hle) ⟨hn1, hn2⟩ (Nat.mod_lt _ hn1)) ?_)
      clear hs; rintro _ H w hs hle1 ⟨r, rfl, hr⟩; replace hle := hle.trans hle1; (try replace hlb := hlb.trans hle1)
      rw [← hsc'] at hr
      refine WO.step rfl (OR.move rfl (WO.step rfl (OR.extract rfl rfl (WO.step rfl (OR.extract rfl rfl (WO.step rfl (OR.assign rfl ?_)))))))
      refine WO.step rfl (OR.assign rfl (WO.done (WX.seq (WC.seq (WC.region (WO.step rfl (OR.move rfl ?_)))))))
      refine WO.step rfl (OR.move rfl (WO.step rfl (OR.move rfl ?_)))
      refine WO.step rfl (OR.call hs body32 rfl rfl (srow_ok b gen _ (sendC x sent l) x (srcObj x.g x.s vs vc x.cl vch vop) _ _ hs.toSub (hs.blk (i := 1) rfl) (hs.mem b (srcObj x.g x.s vs vc x.cl vch vop) false (by simp)).2.1 (hx.mono hle) hok hr (by omega)) ?_)
      clear hs; rintro _ H w hs hle1 ⟨r2, rfl, hr2⟩; replace hle := hle.trans hle1; (try replace hlb := hlb.trans hle1)
      have e1 : rowE x gen (sendC x sent l) = 0 := by rw [rowE, if_pos hlt, if_pos hsc]
      rw [e1]
      obtain ⟨y1, y2, rfl, hy1, hy2⟩ := hr2
      obtain ⟨b4, c4, rfl⟩ := hy1.form
      obtain ⟨b5, c5, rfl⟩ := hy2.form
      refine WO.step rfl (OR.extract rfl rfl (WO.step rfl (OR.extract rfl rfl (WO.stepN (OR.storeAll hs T45 rfl rfl rfl rfl rfl ?_)))))
      clear hs; intro w hs
      refine WO.step rfl (OR.assign rfl (WO.done (WX.seq (WC.ret ?_))))
      refine WX.retCT T45 rfl rfl rfl rfl rfl (hs.blk (i := 0) rfl) ?_
      exact .mk (hs.drop 0) ⟨_, rfl, _, _, rfl, hy1, hy2⟩
  · have hE : thereE x gen = 23 := by rw [thereE, if_neg hlt]
    rw [hE]
    refine WO.step rfl (OR.assign rfl (WO.done (WX.seq (WC.seq (WC.region (WO.step rfl (OR.move rfl ?_)))))))
    refine WO.step rfl (OR.neq rfl rfl (WO.done (WX.seq ?_)))
    refine WC.yes rfl (decide_eq_true (by decide)) ?_
    refine WC.seq (WC.region (WO.step rfl (OR.buildZero T45 PL45 (WO.step rfl (OR.move rfl ?_)))))
    replace hs := hs.front (i := 1) rfl
    refine WO.stepN (OR.storeAll hs T45 rfl rfl rfl rfl rfl ?_)
    clear hs; intro w hs
    refine WO.step rfl (OR.assign rfl (WO.done (WX.seq (WC.ret (WX.seq_ret ?_)))))
    refine WX.retCT T45 rfl rfl rfl rfl rfl (hs.blk (i := 0) rfl) ?_
    have e2 : rowF x gen (sendC x sent l) = ([], []) := by rw [rowF, if_neg (by omega)]
    rw [e2]
    exact .mk ((hs.drop 0).drop 0) ⟨_, rfl, hz.mono hle⟩

end Go.Bw
namespace Go.Bw
set_option linter.unusedVariables false
set_option linter.unusedSimpArgs false
open Go.Proofs
-- left out, for this seat has no braidworklaw07.awake: theorem awake_ok (H0
end Go.Bw
namespace Go.Bw
set_option linter.unusedVariables false
set_option linter.unusedSimpArgs false
open Go.Proofs
theorem newD_ok {g s : Nat} (h : goodGS g s) : SrcOk (newD g s [] [] false) := ⟨h, rfl, rfl, rfl, Nat.zero_le _⟩
theorem SrcOk.sub {x : SrcD} (h : SrcOk x) (l : List UInt8) (most : Nat) : SrcOk (subD x l most) := by
  unfold subD
  split
  · exact h
  · split
    · rename_i hf
      exact h.long hf.1
    · exact h
theorem SrcOk.flush {x : SrcD} (h : SrcOk x) : SrcOk (flushD x) := by
  unfold flushD
  split
  · exact h
  · exact h.cut
-- left out, for this seat has no braidworklaw13.awake: theorem awake13_ok (H0
end Go.Bw
namespace Go.Bw
set_option linter.unusedVariables false
set_option linter.unusedSimpArgs false
theorem whole_flat (room : Nat) (st : List UInt8) (a : Nat) : ∀ n, a + n * room ≤ st.length → (wholeL room st a n).flatten = (st.drop a).take (n * room)
  | 0, _ => by simp [wholeL]
  | n + 1, h => by
    rw [Nat.add_mul, Nat.one_mul] at h
    rw [wholeL_succ, List.flatten_append, whole_flat room st a n (by omega), List.flatten_cons, List.flatten_nil, List.append_nil, Nat.add_mul, Nat.one_mul, List.take_add, List.drop_drop]
theorem step_flat {room : Nat} {st : List UInt8} {p : List (List UInt8) × Nat} {cut : Nat} (hp : p.1.flatten = st.take p.2) (h1 : p.2 ≤ cut) (h2 : cut ≤ st.length) :
    (chunkStep room st p ((cut : Nat) : Int)).1.flatten = st.take cut := by
  have hd : (cut - p.2) / room * room ≤ cut - p.2 := Nat.div_mul_le_self _ _
  rw [chunkStep, List.flatten_append, List.flatten_append, hp, Int.toNat_natCast, whole_flat _ _ _ _ (by omega)]
  generalize (cut - p.2) / room * room = k at *
  rw [← List.take_add]
  have hc : (cutPiece st (p.2 + k) cut).flatten = (st.drop (p.2 + k)).take (cut - (p.2 + k)) := by
    unfold cutPiece
    split
    · simp
    · rw [show cut - (p.2 + k) = 0 by omega]; simp
  rw [hc, ← List.take_add]
  congr 1
  omega
theorem chunkP_flat {room : Nat} {st : List UInt8} : ∀ (cuts : List Int) (p : List (List UInt8) × Nat), p.1.flatten = st.take p.2 → p.2 ≤ st.length → cutsOk st.length (p.2 : Int) cuts = true →
    (cuts.foldl (chunkStep room st) p).1.flatten = st.take (cuts.foldl (chunkStep room st) p).2 ∧ (cuts.foldl (chunkStep room st) p).2 ≤ st.length
  | [], p, h1, h2, _ => ⟨h1, h2⟩
  | c :: cs, p, h1, h2, h => by
    simp only [cutsOk, Bool.and_eq_true, decide_eq_true_eq] at h
    obtain ⟨⟨h3, h4⟩, h5⟩ := h
    obtain ⟨k, rfl⟩ := Int.eq_ofNat_of_zero_le (show 0 ≤ c by omega)
    have hk : (chunkStep room st p ((k : Nat) : Int)).2 = k := rfl
    exact chunkP_flat cs _ (by rw [hk]; exact step_flat h1 (by omega) (by omega)) (by rw [hk]; omega) (by rw [hk]; exact h5)
theorem chunks_flat {room : Nat} {st : List UInt8} {cuts : List Int} (h : cutsOk st.length 0 cuts = true) : (chunksF room st cuts).flatten ++ openF room st cuts = st := by
  have h1 := chunkP_flat (room := room) (st := st) cuts ([], 0) (by simp) (Nat.zero_le _) h
  have h2 : (chunkP room st cuts).1.flatten = st.take (chunkP room st cuts).2 := h1.1
  have h3 : (chunkP room st cuts).2 ≤ st.length := h1.2
  have hd : (st.length - (chunkP room st cuts).2) / room * room ≤ st.length - (chunkP room st cuts).2 := Nat.div_mul_le_self _ _
  rw [chunksF, openF, List.flatten_append, h2, whole_flat _ _ _ _ (by omega), ← List.take_add, List.take_append_drop]
theorem SrcOk.flat {x : SrcD} (h : SrcOk x) : x.chunks.flatten ++ x.opn = x.st := by
  rw [h.ch, h.op]
  exact chunks_flat h.cuts
theorem zeros_lead (n : Nat) : lead (List.replicate n (0 : UInt8)) < 0 := lead_none.2 fun j => by rw [List.getD_eq_getElem?_getD, List.getElem?_replicate]; split <;> rfl
theorem coefF_lead (n t : Nat) (l : List UInt8) (h : t < n) : ¬ lead (coefF n t l) < 0 := by
  unfold coefF
  split
  · intro h2
    have := lead_none.1 h2 t
    rw [List.getD_eq_getElem?_getD, List.getElem?_set, if_pos rfl, if_pos (by rw [padTo_length]; exact h)] at this
    exact absurd this (by decide)
  · assumption
end Go.Bw
namespace Go.Bw
set_option linter.unusedVariables false
set_option linter.unusedSimpArgs false
open Go.Proofs
theorem layF_flat {g s : Nat} {chunk : List UInt8} (h1 : 4 < g * s) (h : chunk.length ≤ g * s - 4) : (layF g s chunk).flatten = layAll g s chunk := by
  have hl := layAll_len h1 h
  have e : layF g s chunk = wholeL s (layAll g s chunk) 0 g := by
    unfold layF wholeL
    congr 1
    funext i
    rw [Nat.zero_add, Nat.mul_comm]
  rw [e, whole_flat _ _ _ _ (by omega), List.drop_zero]
  exact List.take_of_length_le (by omega)
theorem beVal_beN (n : Nat) (h : n < 4294967296) : beVal (beN 4 n) = n := by
  have e : beN 4 n = [UInt8.ofNat (n / 256 ^ 3), UInt8.ofNat (n / 256 ^ 2), UInt8.ofNat (n / 256 ^ 1), UInt8.ofNat (n / 256 ^ 0)] := rfl
  rw [e]
  simp only [beVal, List.foldl_cons, List.foldl_nil, UInt8.toNat_ofNat']
  omega

end Go.Bw
namespace Go.Bw
set_option linter.unusedVariables false
set_option linter.unusedSimpArgs false
open Go.Proofs
theorem whole_prefix {room : Nat} {st l : List UInt8} {a n m : Nat} (h1 : a + n * room ≤ st.length) (h2 : n ≤ m) : wholeL room st a n <+: wholeL room (st ++ l) a m := by
  refine ⟨(List.range' n (m - n)).map fun k => ((st ++ l).drop (a + k * room)).take room, ?_⟩
  unfold wholeL
  have e : (List.range n).map (fun k => (st.drop (a + k * room)).take room) = (List.range n).map (fun k => ((st ++ l).drop (a + k * room)).take room) := by
    refine List.map_congr_left fun k hk => ?_
    have hk' := List.mem_range.1 hk
    have : (k + 1) * room ≤ n * room := Nat.mul_le_mul_right _ hk'
    rw [Nat.add_mul, Nat.one_mul] at this
    rw [List.drop_append_of_le_length (by omega), List.take_append_of_le_length (by rw [List.length_drop]; omega)]
  rw [e, ← List.map_append, List.range_eq_range', List.range_eq_range']
  congr 1
  have := List.range'_append (s := 0) (m := n) (n := m - n) (step := 1)
  rw [Nat.zero_add, Nat.one_mul, Nat.add_sub_cancel' h2] at this
  exact this
theorem step_app {room : Nat} {st l : List UInt8} {p : List (List UInt8) × Nat} {cut : Nat} (h1 : p.2 ≤ cut) (h2 : cut ≤ st.length) : chunkStep room (st ++ l) p ((cut : Nat) : Int) = chunkStep room st p ((cut : Nat) : Int) := by
  have hd : (cut - p.2) / room * room ≤ cut - p.2 := Nat.div_mul_le_self _ _
  have e1 : wholeL room (st ++ l) p.2 ((cut - p.2) / room) = wholeL room st p.2 ((cut - p.2) / room) := by
    have h := whole_prefix (room := room) (st := st) (l := l) (a := p.2) (n := (cut - p.2) / room) (m := (cut - p.2) / room) (by omega) (Nat.le_refl _)
    exact (h.eq_of_length (by simp [wholeL])).symm
  simp only [chunkStep, Int.toNat_natCast]
  rw [e1]
  congr 2
  unfold cutPiece
  split
  · rw [List.drop_append_of_le_length (by omega), List.take_append_of_le_length (by rw [List.length_drop]; omega)]
  · rfl
theorem chunkP_app {room : Nat} {st l : List UInt8} : ∀ (cuts : List Int) (p : List (List UInt8) × Nat), p.2 ≤ st.length → cutsOk st.length (p.2 : Int) cuts = true →
    cuts.foldl (chunkStep room (st ++ l)) p = cuts.foldl (chunkStep room st) p
  | [], p, _, _ => rfl
  | c :: cs, p, h2, h => by
    simp only [cutsOk, Bool.and_eq_true, decide_eq_true_eq] at h
    obtain ⟨⟨h3, h4⟩, h5⟩ := h
    obtain ⟨k, rfl⟩ := Int.eq_ofNat_of_zero_le (show 0 ≤ c by omega)
    have hk : (chunkStep room st p ((k : Nat) : Int)).2 = k := rfl
    rw [List.foldl_cons, List.foldl_cons, step_app (by omega) (by omega)]
    exact chunkP_app cs _ (by rw [hk]; omega) (by rw [hk]; exact h5)
theorem chunks_app {room : Nat} {st l : List UInt8} {cuts : List Int} (hr : 1 ≤ room) (h : cutsOk st.length 0 cuts = true) : chunksF room st cuts <+: chunksF room (st ++ l) cuts := by
  have e : chunkP room (st ++ l) cuts = chunkP room st cuts := chunkP_app cuts ([], 0) (Nat.zero_le _) h
  have h3 : (chunkP room st cuts).2 ≤ st.length := (chunkP_mem (st := st) hr cuts ([], 0) (by simp) (Nat.zero_le _) h).2
  have hd : (st.length - (chunkP room st cuts).2) / room * room ≤ st.length - (chunkP room st cuts).2 := Nat.div_mul_le_self _ _
  rw [chunksF, chunksF, e]
  refine (List.prefix_append_right_inj _).2 (whole_prefix (by omega) (Nat.div_le_div_right (by rw [List.length_append]; omega)))
theorem chunks_cut {room : Nat} {st : List UInt8} {cuts : List Int} (hr : 1 ≤ room) : chunksF room st cuts <+: chunksF room st (cuts ++ [(st.length : Int)]) := by
  have e : (chunkP room st (cuts ++ [(st.length : Int)])).1 = (chunkP room st cuts).1 ++ wholeL room st (chunkP room st cuts).2 ((st.length - (chunkP room st cuts).2) / room) ++ cutPiece st ((chunkP room st cuts).2 + (st.length - (chunkP room st cuts).2) / room * room) st.length := by
    unfold chunkP
    rw [List.foldl_append]
    rfl
  rw [chunksF, chunksF, e, List.append_assoc]
  exact List.prefix_append _ _
theorem SrcOk.sub_prefix {x : SrcD} (h : SrcOk x) (l : List UInt8) (most : Nat) : x.chunks <+: (subD x l most).chunks := by
  unfold subD
  split
  · exact List.prefix_refl _
  · split
    · rw [h.ch]; exact chunks_app h.room h.cuts
    · exact List.prefix_refl _
theorem SrcOk.cut_prefix {x : SrcD} (h : SrcOk x) : x.chunks <+: (cutD x).chunks := by
  unfold cutD
  split
  · exact List.prefix_refl _
  · rw [h.ch]; exact chunks_cut h.room
theorem SrcOk.flush_prefix {x : SrcD} (h : SrcOk x) : x.chunks <+: (flushD x).chunks := by
  unfold flushD
  split
  · exact List.prefix_refl _
  · exact h.cut_prefix
set_option maxRecDepth 20000 in
set_option maxHeartbeats 2000000 in
theorem hasPrefix_ok (va vb : Value) (a b : List UInt8) (H0 : Hp) (w0 : World) (h0 : Sub H0 w0) (ha : Bytes H0 va a) (hb : Bytes H0 vb b) :
    Calls Tryz.prog 33 #[va, vb] w0 (Pure H0 w0 fun v _ => v = .bool (decide (b <+: a))) := by
  have hs := HS.init h0
  have hle := Hp.le.refl H0
  obtain ⟨b1, c1, rfl⟩ := ha.form
  obtain ⟨b2, c2, rfl⟩ := hb.form
  refine Calls.enter (args := [.slice b1 a.length c1, .slice b2 b.length c2]) Tryz.func33 rfl Tryz.ntmps33 rfl ?_
  have hcap := ha.cap_le
  refine WC.seq (WC.region (WO.step rfl (OR.assign rfl (WO.done (WX.seq (WC.seq (WC.region ?_)))))))
  refine WO.step rfl (OR.move rfl (WO.step rfl (OR.lenSlice T43.und rfl (WO.step rfl (OR.move rfl (WO.step rfl (OR.lenSlice T43.und rfl ?_)))))))
  refine WO.step rfl (OR.geq rfl rfl (WO.step rfl (OR.move rfl ?_)))
  refine WO.guardSplit (j := 5) rfl (fun q => ?_) (fun q => ?_)
  · refine WO.guardYes rfl (decide_eq_true q) rfl rfl (OR.move rfl (WO.guardYes rfl (decide_eq_true q) rfl rfl (OR.move rfl (WO.guardYes rfl (decide_eq_true q) rfl rfl (OR.lenSlice T43.und rfl ?_)))))
    refine WO.guardYes rfl (decide_eq_true q) rfl rfl (OR.sliceHiG b.length T43.und T5 rfl rfl rfl (by omega) ?_)
    have htk : Bytes H0 (.slice b1 b.length c1) (a.take b.length) := by
      have := Sl.takeS ha b.length (by omega)
      unfold Bytes
      rw [Nat.mul_one] at this
      rw [List.length_take, Nat.min_eq_left (by omega), List.map_take]
      exact this
    refine WO.guardYes rfl (decide_eq_true q) rfl rfl (OR.move rfl ?_)
    refine WO.guardYes rfl (decide_eq_true q) rfl rfl (OR.call hs body51 rfl rfl (equal_ok _ _ _ _ _ _ hs.toSub htk hb) ?_)
    clear hs; rintro _ H w hs hle1 rfl; replace hle := hle.trans hle1; (try replace hlb := hlb.trans hle1)
    refine WO.step rfl (OR.pickT rfl (decide_eq_true q) rfl (WO.step rfl (OR.assign rfl (WO.done (WX.seq (WC.ret ?_))))))
    refine WX.ret1 rfl rfl ?_
    refine .mk hs ?_
    congr 1
    rw [decide_eq_decide, List.prefix_iff_eq_take]
    exact ⟨fun h => h.symm, fun h => h.symm⟩
  · refine WO.guardNo rfl (decide_eq_false q) rfl rfl (WO.guardNo rfl (decide_eq_false q) rfl rfl (WO.guardNo rfl (decide_eq_false q) rfl rfl (WO.guardNo rfl (decide_eq_false q) rfl rfl (WO.guardNo rfl (decide_eq_false q) rfl rfl (WO.guardNo rfl (decide_eq_false q) rfl rfl (WO.step rfl (OR.pickF rfl (decide_eq_false q) rfl ?_)))))))
    refine WO.step rfl (OR.assign rfl (WO.done (WX.seq (WC.ret ?_))))
    refine WX.ret1 rfl rfl ?_
    refine .mk hs ?_
    congr 1
    rw [eq_comm, decide_eq_false_iff_not]
    intro h
    have := h.length_le
    omega

end Go.Bw
namespace Go.Bw
set_option linter.unusedVariables false
set_option linter.unusedSimpArgs false
open Go.Proofs
theorem pad_lay {g s : Nat} {chunk : List UInt8} (h1 : 1 ≤ chunk.length) (h2 : chunk.length ≤ g * s - 4) (hgs : g * s ≤ 1000000000) : padOk (g * s - 4) (layAll g s chunk) ∧ padF (g * s - 4) (layAll g s chunk) = chunk := by
  have hb := beN_len 4 chunk.length (by omega)
  have e1 : (layAll g s chunk).take 4 = beN 4 chunk.length := by
    unfold layAll
    rw [List.append_assoc, List.take_append_of_le_length (by omega), List.take_of_length_le (by omega)]
  have e2 : (layAll g s chunk).drop 4 = chunk ++ List.replicate (g * s - 4 - chunk.length) 0 := by
    unfold layAll
    rw [List.append_assoc, List.drop_append_of_le_length (by omega), List.drop_of_length_le (by omega), List.nil_append]
  have hn : padN (layAll g s chunk) = chunk.length := by rw [padN, e1, beVal_beN _ (by omega)]
  have hok : padOk (g * s - 4) (layAll g s chunk) := by
    refine ⟨by omega, by omega, ?_⟩
    rw [hn, e2, List.drop_left']
    · exact zeros_lead _
    · rfl
  refine ⟨hok, ?_⟩
  rw [padF, if_pos hok, hn, e2, List.take_left']
  rfl
theorem drops_rows : ∀ (gs : List Nat) (x : RelD) (i : Nat), (x.drops gs).rows i = if ∃ k ∈ gs, k % x.width = i then [] else x.rows i
  | [], x, i => by simp [RelD.drops]
  | gen :: gs, x, i => by
    have h := drops_rows gs (x.put gen []) i
    have e : (x.drops (gen :: gs)) = (x.put gen []).drops gs := rfl
    rw [e, h]
    have ew : (x.put gen []).width = x.width := rfl
    rw [ew]
    by_cases h1 : ∃ k ∈ gs, k % x.width = i
    · obtain ⟨k, hk, hki⟩ := h1
      rw [if_pos ⟨k, hk, hki⟩, if_pos ⟨k, List.mem_cons_of_mem _ hk, hki⟩]
    · rw [if_neg h1]
      show (if i = gen % x.width then [] else x.rows i) = _
      by_cases h2 : i = gen % x.width
      · rw [if_pos h2, if_pos ⟨gen, List.mem_cons_self .., h2.symm⟩]
      · rw [if_neg h2, if_neg]
        rintro ⟨k, hk, hki⟩
        rcases List.mem_cons.1 hk with rfl | hk
        · exact h2 hki.symm
        · exact h1 ⟨k, hk, hki⟩
section
variable {X : SrcD} {x : RelD} {d : Nat}
end
end Go.Bw
namespace Go.Bw
set_option linter.unusedVariables false
set_option linter.unusedSimpArgs false
open Go.Proofs
def soG (G : UInt8) : Nat := 1 + G.toNat % 6
def soS (S : UInt8) : Nat := 5 + S.toNat % 6
theorem so_good (G S : UInt8) : goodGS (soG G) (soS S) := by
  have h1 := Nat.mod_lt G.toNat (by omega : 0 < 6)
  have h2 := Nat.mod_lt S.toNat (by omega : 0 < 6)
  have h3 : 1 * 5 ≤ soG G * soS S := Nat.mul_le_mul (by unfold soG; omega) (by unfold soS; omega)
  refine ⟨by unfold soG; omega, by unfold soG; omega, by unfold soS; omega, by unfold soS; omega, ?_⟩
  rw [← Int.natCast_mul]
  omega
end Go.Bw
namespace Go.Bw
set_option linter.unusedVariables false
set_option linter.unusedSimpArgs false
open Go.Proofs Go.RowKit Go.ChangeShapes Go.Deep
end Go.Bw
namespace Go.Bw
set_option linter.unusedVariables false
set_option linter.unusedSimpArgs false
/-- The entries of a map, in the order in which they came. -/
def mEnt (K : IntKind) : Nat → List (Int × Value) → List MapEntry
  | _, [] => []
  | i, p :: l => { key := .int K p.1, val := p.2, born := i } :: mEnt K (i + 1) l
def mObj (K : IntKind) (l : List (Int × Value)) : Obj := .map (mEnt K 0 l).toArray l.length
theorem mEnt_len (K : IntKind) : ∀ (l : List (Int × Value)) (i : Nat), (mEnt K i l).length = l.length
  | [], _ => rfl
  | _ :: l, i => by simp [mEnt, mEnt_len K l (i + 1)]
theorem mEnt_mem {K : IntKind} {e : MapEntry} : ∀ {l : List (Int × Value)} {i : Nat}, e ∈ mEnt K i l → ∃ j, ∃ h : j < l.length, e = { key := .int K l[j].1, val := l[j].2, born := i + j }
  | [], i, h => by cases h
  | p :: l, i, h => by
    rcases List.mem_cons.1 h with rfl | h
    · exact ⟨0, by simp, rfl⟩
    · obtain ⟨j, hj, e⟩ := mEnt_mem h
      exact ⟨j + 1, by simpa using hj, by rw [e]; simp; omega⟩
theorem mEnt_at {K : IntKind} : ∀ (l : List (Int × Value)) (i j : Nat) (h : j < l.length), (mEnt K i l)[j]? = some { key := .int K l[j].1, val := l[j].2, born := i + j }
  | [], _, _, h => by simp at h
  | p :: l, i, 0, _ => rfl
  | p :: l, i, j + 1, h => by
    rw [mEnt, List.getElem?_cons_succ, mEnt_at l (i + 1) j (by simpa using h)]
    simp
    omega
theorem mEnt_born (K : IntKind) : ∀ (l : List (Int × Value)) (i : Nat), (mEnt K i l).map (·.born) = List.range' i l.length
  | [], _ => rfl
  | p :: l, i => by simp [mEnt, mEnt_born K l (i + 1), List.range'_succ]
theorem mEnt_nodup (K : IntKind) (l : List (Int × Value)) (i : Nat) : ((mEnt K i l).map (·.born)).Nodup := by
  rw [mEnt_born]
  exact List.nodup_range'
theorem mEnt_push (K : IntKind) (a : Int) (u : Value) : ∀ (l : List (Int × Value)) (i : Nat), mEnt K i (l ++ [(a, u)]) = mEnt K i l ++ [{ key := .int K a, val := u, born := i + l.length }]
  | [], i => by simp [mEnt]
  | p :: l, i => by
    simp only [List.cons_append, mEnt, mEnt_push K a u l (i + 1), List.length_cons]
    rw [show i + 1 + l.length = i + (l.length + 1) by omega]
theorem mEnt_set (K : IntKind) (a : Int) (u : Value) : ∀ (l : List (Int × Value)) (i j : Nat), mEnt K i (l.set j (a, u)) = (mEnt K i l).modify j fun e => { e with key := .int K a, val := u }
  | [], i, j => by simp [mEnt]
  | p :: l, i, 0 => by simp [mEnt]
  | p :: l, i, j + 1 => by simp [mEnt, mEnt_set K a u l (i + 1) j]
/-- An entry put. -/
def assocPut (l : List (Int × Value)) (a : Int) (u : Value) : List (Int × Value) := match l.findIdx? (fun p => p.1 == a) with
  | some i => l.set i (a, u)
  | none => l ++ [(a, u)]
theorem findNow_none (K : IntKind) (a : Int) : ∀ (l : List (Int × Value)) (i k : Nat), l.findIdx? (fun p => p.1 == a) = none → Instr.findNow (.int K) (.int K a) (mEnt K i l) k = some none
  | [], i, k, _ => by simp [mEnt, Instr.findNow]
  | p :: l, i, k, h => by
    rw [List.findIdx?_cons] at h
    cases hp : (p.1 == a) with
    | true => rw [hp] at h; simp at h
    | false =>
      rw [hp] at h
      simp at h
      have h2 : Instr.sameNow (.int K) (.int K a) (.int K p.1) = some false := by
        have : ¬ a = p.1 := fun e => by rw [e] at hp; simp at hp
        simp [Instr.sameNow, this]
      rw [mEnt, Instr.findNow]
      simp only [h2]
      exact findNow_none K a l (i + 1) (k + 1) (by simpa using h)
theorem findNow_some (K : IntKind) (a : Int) : ∀ (l : List (Int × Value)) (i k j : Nat), l.findIdx? (fun p => p.1 == a) = some j → ∃ h : j < l.length, Instr.findNow (.int K) (.int K a) (mEnt K i l) k = some (some (k + j, l[j].2))
  | [], i, k, j, h => by simp at h
  | p :: l, i, k, j, h => by
    rw [List.findIdx?_cons] at h
    cases hp : (p.1 == a) with
    | true =>
      rw [hp] at h
      simp at h
      subst h
      have h2 : Instr.sameNow (.int K) (.int K a) (.int K p.1) = some true := by
        have : a = p.1 := (by simpa using hp : p.1 = a).symm
        simp [Instr.sameNow, this]
      refine ⟨by simp, ?_⟩
      rw [mEnt, Instr.findNow]
      simp only [h2]
      rfl
    | false =>
      rw [hp] at h
      simp at h
      obtain ⟨j', hj', rfl⟩ := h
      have h2 : Instr.sameNow (.int K) (.int K a) (.int K p.1) = some false := by
        have : ¬ a = p.1 := fun e => by rw [e] at hp; simp at hp
        simp [Instr.sameNow, this]
      obtain ⟨q, hq⟩ := findNow_some K a l (i + 1) (k + 1) j' hj'
      refine ⟨by simpa using q, ?_⟩
      rw [mEnt, Instr.findNow]
      simp only [h2]
      rw [hq]
      simp
      omega
section
variable {P : Program} {n : Nat} {ds : List Deferred} {env : Env} {w w0 : World} {dst : Option Nat} {ty : TypeId} {pos : String} {aft : Array Edge} {gd : Option (Nat × Bool)} {R : Value → World → Prop}
variable {xs : List Nat} {H0 H : Hp} {M : Mem} {x y z : Operand} {t : TypeId} {v : Value}
theorem run_ckey {kt : TypeId} {K : IntKind} {a : Int} (hk : P.underlying kt = some (.int K)) (b : Bool) (w : World) : (Instr.checkKey b 10000 kt (.int K a)).run P w = .ok () w := by
  have h : ∀ k, (Instr.checkKey b (k + 1) kt (.int K a)).run P w = .ok () w := fun k => by rw [Instr.checkKey.eq_def]; simp [run_underlying hk]
  exact h 9999
/-- An entry is put. -/
theorem OR.mapPut {g : Nat} {kt et : TypeId} {K : IntKind} {l : List (Int × Value)} {a : Int} {u : Value} (hs : HS xs H0 w0 H ((g, mObj K l, true) :: M) w) (ht : P.underlying t = some (.map kt et)) (hk : P.underlying kt = some (.int K)) (hx : look env x = some (.map (some g))) (hy : look env y = some (.int K a)) (hz : look env z = some u)
    (hR : ∀ w', HS xs H0 w0 H ((g, mObj K (assocPut l a u), true) :: M) w' → R undef w') :
    OR P n ds ⟨dst, .mapUpdate t x y z, ty, pos, aft, gd⟩ env w R := by
  cases hf : l.findIdx? (fun p => p.1 == a) with
  | none =>
    refine OR.mapNew hs ht hx hy hz (run_ckey hk false) (fun w => ?_) (fun w' h => hR w' ?_)
    · simp [Instr.findKey, run_underlying hk, findNow_none K a l 0 0 hf]
    · have e : assocPut l a u = l ++ [(a, u)] := by simp [assocPut, hf]
      rw [e, mObj, mEnt_push]
      simpa using h
  | some j =>
    obtain ⟨hj, hq⟩ := findNow_some K a l 0 0 j hf
    rw [Nat.zero_add] at hq
    refine OR.mapSet (i := j) (u0 := l[j].2) hs ht hx hy hz (run_ckey hk false) (fun w => ?_) (fun w => ?_) (fun w' h => hR w' ?_)
    · simp [Instr.findKey, run_underlying hk, hq]
    · have h9 := mEnt_at (K := K) l 0 j hj
      have ha : l[j].1 = a := by
        have := List.findIdx?_eq_some_iff_getElem.1 hf
        obtain ⟨_, h, _⟩ := this
        simpa using h
      simp [h9, ha, Instr.keyThatStays, Instr.sameBits]
    · have e : assocPut l a u = l.set j (a, u) := by simp [assocPut, hf]
      rw [e, mObj, mEnt_set, List.length_set]
      simpa using h
end
end Go.Bw
namespace Go.Bw
set_option linter.unusedVariables false
set_option linter.unusedSimpArgs false
open Go.Proofs
structure CfgD where
  nodes : Nat
  g : Nat
  s : Nat
  win : Nat
  que : Nat
  sinks : List Int
  vf : Value
  vs : Value
def cfgCells (c : CfgD) : List Value := [.int .i64 (c.nodes : Int), c.vf, .int .i64 (c.win : Int), .int .i64 (c.que : Int)]
def cfgV (c : CfgD) : Value := .agg #[.int .i64 (c.nodes : Int), c.vf, .int .i64 (c.win : Int), .int .i64 (c.que : Int)]
def fcCells (c : CfgD) : List Value := [.int .i64 (c.g : Int), .int .i64 (c.s : Int), .int .i64 0, c.vs]
structure CfgOk (c : CfgD) : Prop where
  n : 1 ≤ c.nodes ∧ c.nodes ≤ 64
  gs : 1 ≤ c.g ∧ c.g ≤ 255 ∧ 1 ≤ c.s ∧ c.s ≤ 65535 ∧ 4 < c.g * c.s
  w : 1 ≤ c.win ∧ c.win ≤ 16
  q : 1 ≤ c.que ∧ c.que ≤ 64
  k : 1 ≤ c.sinks.length ∧ c.sinks.length ≤ 8
  lo : ∀ i (h : i < c.sinks.length), 1 ≤ c.sinks[i] ∧ c.sinks[i] ≤ (c.nodes : Int) - 1
  up : ∀ i (h : i < c.sinks.length), 0 < i → c.sinks[i - 1]'(by omega) < c.sinks[i]
/-- The configuration's flow in memory. -/
structure CfgIn (H : Hp) (c : CfgD) : Prop where
  f : ∃ fb fo cf, c.vf = .slice (some ⟨fb, fo, none⟩) 1 cf ∧ 1 ≤ cf ∧ ∀ j u, (fcCells c)[j]? = some u → hcell H ((⟨fb, fo, none⟩ : Addr).add j) = some u
  s : Ints H c.vs c.sinks
theorem CfgIn.mono {H H' : Hp} {c : CfgD} (h : CfgIn H c) (hle : Hp.le H H') : CfgIn H' c := by
  obtain ⟨⟨fb, fo, cf, h1, h4, h3⟩, h2⟩ := h
  exact ⟨⟨fb, fo, cf, h1, h4, fun j u hj => hcell.mono hle (h3 j u hj)⟩, h2.mono hle⟩
set_option maxRecDepth 20000 in
set_option maxHeartbeats 2000000 in
theorem within_ok (a lo hi : Int) (H0 : Hp) (w0 : World) (h0 : Sub H0 w0) : Calls Tryz.prog 106 #[.int .i64 a, .int .i64 lo, .int .i64 hi] w0 (Pure H0 w0 fun v _ => v = .bool (decide (lo ≤ a ∧ a ≤ hi))) := by
  have hs := HS.init h0
  refine Calls.enter (args := [.int .i64 a, .int .i64 lo, .int .i64 hi]) Tryz.func106 rfl Tryz.ntmps106 rfl ?_
  refine WC.seq (WC.region (WO.step rfl (OR.assign rfl (WO.done (WX.seq (WC.seq (WC.region ?_)))))))
  refine WO.step rfl (OR.move rfl (WO.step rfl (OR.move rfl (WO.step rfl (OR.geq rfl rfl (WO.step rfl (OR.move rfl ?_)))))))
  refine WO.guardSplit (j := 3) rfl (fun q => ?_) (fun q => ?_)
  · refine WO.guardYes rfl (decide_eq_true q) rfl rfl (OR.move rfl (WO.guardYes rfl (decide_eq_true q) rfl rfl (OR.move rfl (WO.guardYes rfl (decide_eq_true q) rfl rfl (OR.leq rfl rfl (WO.step rfl (OR.pickT rfl (decide_eq_true q) rfl ?_)))))))
    refine WO.step rfl (OR.assign rfl (WO.done (WX.seq (WC.ret ?_))))
    refine WX.ret1 rfl rfl ?_
    refine .mk hs ?_
    congr 1
    rw [decide_eq_decide]
    exact ⟨fun h => ⟨q, h⟩, fun h => h.2⟩
  · refine WO.guardNo rfl (decide_eq_false q) rfl rfl (WO.guardNo rfl (decide_eq_false q) rfl rfl (WO.guardNo rfl (decide_eq_false q) rfl rfl (WO.step rfl (OR.pickF rfl (decide_eq_false q) rfl (WO.step rfl (OR.assign rfl (WO.done ?_)))))))
    refine WX.seq (WC.ret ?_)
    refine WX.ret1 rfl rfl ?_
    refine .mk hs ?_
    rw [decide_eq_false (fun h => q h.1)]
set_option maxRecDepth 20000 in
set_option maxHeartbeats 2000000 in
/-- A node's number. -/
theorem cnode_ok (gc : Nat) (a nodes win que : Int) (vf : Value) (H0 : Hp) (w0 : World) (h0 : Sub H0 w0) (hc : H0 gc = some (.cells #[.int .i64 nodes, vf, .int .i64 win, .int .i64 que] 81)) (hn : 0 ≤ nodes ∧ nodes ≤ 1000) :
    Calls Tryz.prog 105 #[.int .i64 a, ptr gc] w0 (Pure H0 w0 fun v _ => v = .bool (decide (0 ≤ a ∧ a ≤ nodes - 1))) := by
  have hs := HS.init h0
  have hle := Hp.le.refl H0
  refine Calls.enter (args := [.int .i64 a, ptr gc]) Tryz.func105 rfl Tryz.ntmps105 rfl ?_
  refine WC.seq (WC.region (WO.step rfl (OR.assign rfl (WO.done (WX.seq (WC.seq (WC.region ?_)))))))
  refine WO.step rfl (OR.move rfl (WO.step rfl (OR.fieldAddr FA81_0 rfl ?_)))
  refine WO.step rfl (OR.load T3 rfl rfl (hs.cell (hcell_of hc rfl)) ?_)
  refine WO.step rfl (OR.subI rfl rfl (by omega) (by omega) ?_)
  refine WO.step rfl (OR.call hs body106 rfl rfl (within_ok a 0 (nodes - 1) _ _ hs.toSub) ?_)
  clear hs; rintro _ H w hs hle1 rfl; replace hle := hle.trans hle1; (try replace hlb := hlb.trans hle1)
  refine WO.step rfl (OR.assign rfl (WO.done (WX.seq (WC.ret ?_))))
  refine WX.ret1 rfl rfl ?_
  exact .mk hs rfl
def cnodeV (gc : Nat) : Value := .func (.func 105) #[] #[ptr gc]
set_option maxRecDepth 20000 in
set_option maxHeartbeats 2000000 in
/-- The flow may be. -/
theorem cflow_ok (gc : Nat) (c : CfgD) (hok : CfgOk c) (vf : Value) (win que : Int) (H0 : Hp) (w0 : World) (h0 : Sub H0 w0) (hsk : Ints H0 c.vs c.sinks) (hc : H0 gc = some (.cells #[.int .i64 (c.nodes : Int), vf, .int .i64 win, .int .i64 que] 81)) :
    Calls Tryz.prog 104 #[.agg #[.int .i64 (c.g : Int), .int .i64 (c.s : Int), .int .i64 0, c.vs], ptr gc] w0 (Pure H0 w0 fun v _ => v = .bool false) := by
  have hs := HS.init h0
  have hle := Hp.le.refl H0
  obtain ⟨nodes, g, s, win', que', sinks, vf', vs⟩ := c
  obtain ⟨⟨n1, n2⟩, ⟨q1, q2, q3, q4, q5⟩, _, _, ⟨k1, k2⟩, hlo, hup⟩ := hok
  simp only at n1 n2 q1 q2 q3 q4 q5 k1 k2 hlo hup hsk hc
  have hsk0 := hsk
  obtain ⟨b1, c1, rfl⟩ := hsk0.form
  obtain ⟨xb, xo, rfl, hcx⟩ := hsk.pos (by omega)
  have hmul1 : g * s ≤ 255 * 65535 := Nat.mul_le_mul q2 q4
  have hmul2 : (g : Int) * (s : Int) ≤ 16711425 := by rw [← Int.natCast_mul]; omega
  have hmul3 : 4 < (g : Int) * (s : Int) := by rw [← Int.natCast_mul]; omega
  refine Calls.enter (args := [.agg #[.int .i64 (g : Int), .int .i64 (s : Int), .int .i64 0, .slice (some ⟨xb, xo, none⟩) sinks.length c1], ptr gc]) Tryz.func104 rfl Tryz.ntmps104 rfl ?_
  refine WC.seq (WC.region (WO.step rfl (OR.box hs rfl ?_)))
  clear hs; intro g1 w hg1 hs
  refine WO.step rfl (OR.assign rfl (WO.done (WX.seq (WC.seq (WC.region (WO.step rfl (OR.makeFunc rfl rfl ?_)))))))
  refine WO.step rfl (OR.assign rfl (WO.done (WX.seq (WC.seq (WC.seq (WC.region (WO.step rfl ?_)))))))
  refine OR.fieldAddr FA78_3 rfl (WO.step rfl (OR.load T76 rfl rfl (hs.cellM (i := 0) rfl rfl) (WO.step rfl (OR.lenSlice T76.und rfl (WO.step rfl (OR.move rfl (WO.done ?_)))))))
  refine WX.seq (WC.block ?_)
  refine WC.loop (ι := Nat) (fun k => [(1, ptr gc), (2, ptr g1), (4, cnodeV gc), (9, .slice (some ⟨xb, xo, none⟩) sinks.length c1), (10, .int .i64 (sinks.length : Int)), (11, .int .i64 (k : Int))]) (fun k w => (k ≤ sinks.length ∧ ∃ H, Hp.le H0 H ∧ HS [] H0 w0 H [(g1, .cells #[.int .i64 (g : Int), .int .i64 (s : Int), .int .i64 0, .slice (some ⟨xb, xo, none⟩) sinks.length c1] 78, true)] w)) (fun k => sinks.length - k) 0 ⟨rfl, rfl, rfl, rfl, rfl, rfl,  trivial⟩ ?_ (fun k w hW => ?_)
  · exact ⟨by omega, H0, hle, hs⟩
  clear hs hle
  obtain ⟨hk, H, hle, hs⟩ := hW
  refine WC.seq (WC.region (WO.step rfl (OR.lss rfl rfl (WO.done (WX.seq (WC.seq ?_))))))
  refine WC.condD rfl (fun hlt => ?_) (fun hlt => ?_)
  · have hk' : k < sinks.length := by omega
    obtain ⟨l1, l2⟩ := hlo k hk'
    have hck := hcx k hk'
    refine WC.skip (WX.seq (WC.seq (WC.block (WC.seq (WC.region (WO.step rfl (OR.move rfl ?_)))))))
    refine WO.step rfl (OR.idx k T76.und T3 rfl rfl rfl hk' ?_)
    refine WO.step rfl (OR.load T3 rfl rfl (hs.cell (hcell.mono hle hck)) ?_)
    refine WO.step rfl (OR.assign rfl (WO.step rfl (OR.assign rfl (WO.done (WX.seq (WC.seq (WC.region ?_)))))))
    refine WO.step rfl (OR.move rfl (WO.step rfl (OR.move rfl ?_)))
    refine WO.step rfl (OR.call hs body105 rfl rfl (cnode_ok gc sinks[k] (nodes : Int) win que vf _ _ hs.toSub (hle _ _ hc) (by omega)) ?_)
    clear hs; rintro _ H w hs hle1 rfl; replace hle := hle.trans hle1; (try replace hlb := hlb.trans hle1)
    rw [decide_eq_true (show 0 ≤ sinks[k] ∧ sinks[k] ≤ (nodes : Int) - 1 from ⟨by omega, l2⟩)]
    refine WO.step rfl (OR.not rfl (WO.step rfl (OR.move rfl ?_)))
    refine WO.guardYes rfl rfl rfl rfl (OR.move rfl (WO.guardYes rfl rfl rfl rfl (OR.fieldAddr FA78_2 rfl (WO.guardYes rfl rfl rfl rfl (OR.load T3 rfl rfl (hs.cellM (i := 0) rfl rfl) (WO.guardYes rfl rfl rfl rfl (OR.eql rfl rfl ?_)))))))
    refine WO.step rfl (OR.pickF rfl rfl rfl (WO.step rfl (OR.move rfl ?_)))
    refine WO.guardYes rfl (decide_eq_false (by omega : ¬ sinks[k] = 0)) rfl rfl (OR.move rfl (WO.guardYes rfl (decide_eq_false (by omega : ¬ sinks[k] = 0)) rfl rfl (OR.gtr rfl rfl (WO.guardYes rfl (decide_eq_false (by omega : ¬ sinks[k] = 0)) rfl rfl (OR.move rfl ?_)))))
    refine WO.guardSplit (j := 13) rfl (fun hpos => ?_) (fun hpos => ?_)
    · have hp : 0 < k := by omega
      have hu := hup k hk' hp
      have hck1 := hcx (k - 1) (by omega)
      refine WO.guardYes rfl (decide_eq_true hpos) rfl rfl (OR.fieldAddr FA78_3 rfl (WO.guardYes rfl (decide_eq_true hpos) rfl rfl (OR.load T76 rfl rfl (hs.cellM (i := 0) rfl rfl) (WO.guardYes rfl (decide_eq_true hpos) rfl rfl (OR.move rfl (WO.guardYes rfl (decide_eq_true hpos) rfl rfl (OR.subI rfl rfl (by omega) (by omega) ?_)))))))
      rw [show (k : Int) - 1 = ((k - 1 : Nat) : Int) by omega]
      refine WO.guardYes rfl (decide_eq_true hpos) rfl rfl (OR.idx (k - 1) T76.und T3 rfl rfl rfl (by omega) ?_)
      refine WO.guardYes rfl (decide_eq_true hpos) rfl rfl (OR.load T3 rfl rfl (hs.cell (hcell.mono hle hck1)) ?_)
      refine WO.guardYes rfl (decide_eq_true hpos) rfl rfl (OR.move rfl (WO.guardYes rfl (decide_eq_true hpos) rfl rfl (OR.geq rfl rfl (WO.guardYes rfl (decide_eq_false (by omega : ¬ sinks[k] = 0)) rfl rfl (OR.pickT rfl (decide_eq_true hpos) rfl (WO.step rfl (OR.pickF rfl (decide_eq_false (by omega : ¬ sinks[k] = 0)) rfl ?_)))))))
      refine WO.done (WX.seq ?_)
      refine WC.no rfl (decide_eq_false (by omega : ¬ sinks[k - 1] ≥ sinks[k])) ?_
      refine WC.skip (WX.block (WX.seq (WC.region (WO.step rfl (OR.addI rfl rfl (by omega) (by omega) (WO.step rfl (OR.move rfl ?_)))))))
      refine WO.done ?_
      refine WX.again (k + 1) ⟨rfl, rfl, rfl, rfl, rfl, rfl,  trivial⟩ ?_ ?_
      · exact ⟨by omega, H, hle, hs⟩
      · omega
    · refine WO.guardNo rfl (decide_eq_false hpos) rfl rfl (WO.guardNo rfl (decide_eq_false hpos) rfl rfl (WO.guardNo rfl (decide_eq_false hpos) rfl rfl (WO.guardNo rfl (decide_eq_false hpos) rfl rfl (WO.guardNo rfl (decide_eq_false hpos) rfl rfl (WO.guardNo rfl (decide_eq_false hpos) rfl rfl (WO.guardNo rfl (decide_eq_false hpos) rfl rfl (WO.guardNo rfl (decide_eq_false hpos) rfl rfl ?_)))))))
      refine WO.guardYes rfl (decide_eq_false (by omega : ¬ sinks[k] = 0)) rfl rfl (OR.pickF rfl (decide_eq_false hpos) rfl (WO.step rfl (OR.pickF rfl (decide_eq_false (by omega : ¬ sinks[k] = 0)) rfl (WO.done (WX.seq (WC.no rfl rfl (WC.skip ?_)))))))
      refine WX.block (WX.seq (WC.region (WO.step rfl (OR.addI rfl rfl (by omega) (by omega) (WO.step rfl (OR.move rfl (WO.done ?_)))))))
      refine WX.again (k + 1) ⟨rfl, rfl, rfl, rfl, rfl, rfl,  trivial⟩ ?_ ?_
      · exact ⟨by omega, H, hle, hs⟩
      · omega
  · refine WC.exit (WX.seq_exit (WX.loop_exit (WX.block_hit (WX.seq (WC.seq (WC.region (WO.step rfl ?_)))))))
    refine OR.fieldAddr FA78_0 rfl (WO.step rfl (OR.load T3 rfl rfl (hs.cellM (i := 0) rfl rfl) ?_))
    refine WO.step rfl (OR.call hs body106 rfl rfl (within_ok (g : Int) 1 255 _ _ hs.toSub) ?_)
    clear hs; rintro _ H w hs hle1 rfl; replace hle := hle.trans hle1; (try replace hlb := hlb.trans hle1)
    rw [decide_eq_true (show 1 ≤ (g : Int) ∧ (g : Int) ≤ 255 by omega)]
    refine WO.step rfl (OR.not rfl (WO.step rfl (OR.move rfl ?_)))
    refine WO.guardYes rfl rfl rfl rfl (OR.fieldAddr FA78_1 rfl (WO.guardYes rfl rfl rfl rfl (OR.load T3 rfl rfl (hs.cellM (i := 0) rfl rfl) ?_)))
    refine WO.guardYes rfl rfl rfl rfl (OR.call hs body106 rfl rfl (within_ok (s : Int) 1 65535 _ _ hs.toSub) ?_)
    clear hs; rintro _ H w hs hle1 rfl; replace hle := hle.trans hle1; (try replace hlb := hlb.trans hle1)
    rw [decide_eq_true (show 1 ≤ (s : Int) ∧ (s : Int) ≤ 65535 by omega)]
    refine WO.guardYes rfl rfl rfl rfl (OR.not rfl (WO.step rfl (OR.pickF rfl rfl rfl (WO.step rfl (OR.move rfl ?_)))))
    refine WO.guardYes rfl rfl rfl rfl (OR.fieldAddr FA78_0 rfl (WO.guardYes rfl rfl rfl rfl (OR.load T3 rfl rfl (hs.cellM (i := 0) rfl rfl) (WO.guardYes rfl rfl rfl rfl (OR.fieldAddr FA78_1 rfl (WO.guardYes rfl rfl rfl rfl (OR.load T3 rfl rfl (hs.cellM (i := 0) rfl rfl) ?_)))))))
    refine WO.guardYes rfl rfl rfl rfl (OR.mulI rfl rfl (by omega) (by omega) (WO.guardYes rfl rfl rfl rfl (OR.leq rfl rfl (WO.step rfl (OR.pickF rfl rfl rfl (WO.step rfl (OR.move rfl ?_)))))))
    refine WO.guardYes rfl (decide_eq_false (by omega : ¬ (g : Int) * (s : Int) ≤ 4)) rfl rfl (OR.move rfl (WO.guardYes rfl (decide_eq_false (by omega : ¬ (g : Int) * (s : Int) ≤ 4)) rfl rfl (OR.fieldAddr FA78_2 rfl (WO.guardYes rfl (decide_eq_false (by omega : ¬ (g : Int) * (s : Int) ≤ 4)) rfl rfl (OR.load T3 rfl rfl (hs.cellM (i := 0) rfl rfl) ?_)))))
    refine WO.guardYes rfl (decide_eq_false (by omega : ¬ (g : Int) * (s : Int) ≤ 4)) rfl rfl (OR.call hs body105 rfl rfl (cnode_ok gc 0 (nodes : Int) win que vf _ _ hs.toSub (hle _ _ hc) (by omega)) ?_)
    clear hs; rintro _ H w hs hle1 rfl; replace hle := hle.trans hle1; (try replace hlb := hlb.trans hle1)
    rw [decide_eq_true (show (0 : Int) ≤ 0 ∧ 0 ≤ (nodes : Int) - 1 by omega)]
    refine WO.guardYes rfl (decide_eq_false (by omega : ¬ (g : Int) * (s : Int) ≤ 4)) rfl rfl (OR.not rfl (WO.step rfl (OR.pickF rfl (decide_eq_false (by omega : ¬ (g : Int) * (s : Int) ≤ 4)) rfl (WO.step rfl (OR.move rfl ?_)))))
    refine WO.guardYes rfl rfl rfl rfl (OR.fieldAddr FA78_3 rfl (WO.guardYes rfl rfl rfl rfl (OR.load T76 rfl rfl (hs.cellM (i := 0) rfl rfl) (WO.guardYes rfl rfl rfl rfl (OR.lenSlice T76.und rfl ?_)))))
    refine WO.guardYes rfl rfl rfl rfl (OR.call hs body106 rfl rfl (within_ok (sinks.length : Int) 1 8 _ _ hs.toSub) ?_)
    clear hs; rintro _ H w hs hle1 rfl; replace hle := hle.trans hle1; (try replace hlb := hlb.trans hle1)
    rw [decide_eq_true (show 1 ≤ (sinks.length : Int) ∧ (sinks.length : Int) ≤ 8 by omega)]
    refine WO.guardYes rfl rfl rfl rfl (OR.not rfl (WO.step rfl (OR.pickF rfl rfl rfl (WO.step rfl (OR.assign rfl (WO.done (WX.seq ?_)))))))
    refine WC.ret ?_
    refine WX.ret1 rfl rfl ?_
    exact .mk (hs.drop 0) rfl
def cflowV (gc : Nat) : Value := .func (.func 104) #[] #[ptr gc]
set_option maxRecDepth 20000 in
set_option maxHeartbeats 2000000 in
theorem iflow_ok (gc : Nat) (c : CfgD) (hok : CfgOk c) (v9 : Value) (win que : Int) (H0 : Hp) (w0 : World) (h0 : Sub H0 w0) (hf : CfgIn H0 c) (hc : H0 gc = some (.cells #[.int .i64 (c.nodes : Int), v9, .int .i64 win, .int .i64 que] 81)) :
    Calls Tryz.prog 144 #[c.vf, cflowV gc] w0 (Pure H0 w0 fun v _ => v = .int .i64 (-1)) := by
  have hs := HS.init h0
  have hle := Hp.le.refl H0
  obtain ⟨⟨fb, fo, cf, ef, hcf, hcc⟩, hvs⟩ := hf
  rw [ef]
  refine Calls.enter (args := [.slice (some ⟨fb, fo, none⟩) 1 cf, cflowV gc]) Tryz.func144 rfl Tryz.ntmps144 rfl ?_
  refine WC.seq (WC.region (WO.step rfl (OR.assign rfl (WO.done (WX.seq (WC.seq (WC.seq ?_)))))))
  refine WC.region (WO.step rfl (OR.move rfl (WO.step rfl (OR.lenSlice T79.und rfl (WO.step rfl (OR.move rfl (WO.done ?_)))))))
  refine WX.seq (WC.block ?_)
  refine WC.loop (ι := Nat) (fun k => [(0, .slice (some ⟨fb, fo, none⟩) 1 cf), (1, cflowV gc), (7, .int .i64 1), (8, .int .i64 (k : Int))]) (fun k w => (k ≤ 1 ∧ ∃ H, Hp.le H0 H ∧ HS [] H0 w0 H [] w)) (fun k => 1 - k) 0 ⟨rfl, rfl, rfl, rfl,  trivial⟩ ?_ (fun k w hW => ?_)
  · exact ⟨by omega, H0, hle, hs⟩
  clear hs hle
  obtain ⟨hk, H, hle, hs⟩ := hW
  refine WC.seq (WC.region (WO.step rfl (OR.lss rfl rfl (WO.done (WX.seq (WC.seq ?_))))))
  refine WC.condD rfl (fun hlt => ?_) (fun hlt => ?_)
  · have e : k = 0 := by omega
    subst e
    refine WC.skip (WX.seq (WC.seq (WC.block (WC.seq (WC.region (WO.step rfl (OR.move rfl ?_)))))))
    refine WO.step rfl (OR.assign rfl (WO.done (WX.seq (WC.seq (WC.region (WO.step rfl (OR.move rfl ?_)))))))
    refine WO.step rfl (OR.move rfl (WO.step rfl (OR.move rfl ?_)))
    refine WO.step rfl (OR.idxN 0 T79.und T78 rfl rfl rfl (by omega) ?_)
    refine WO.step rfl (OR.loadN (cs := [.int .i64 (c.g : Int), .int .i64 (c.s : Int), .int .i64 0, c.vs]) T78 rfl rfl rfl (fun j u hj => hs.cell (hcell.mono hle (by rw [Nat.zero_mul, Nat.add_zero]; exact hcc j u hj))) ?_)
    refine WO.step rfl (OR.call hs body104 rfl rfl (cflow_ok gc c hok v9 win que _ _ hs.toSub (hvs.mono hle) (hle _ _ hc)) ?_)
    clear hs; rintro _ H w hs hle1 rfl; replace hle := hle.trans hle1; (try replace hlb := hlb.trans hle1)
    refine WO.done (WX.seq ?_)
    refine WC.no rfl rfl ?_
    refine WC.skip (WX.block (WX.seq (WC.region (WO.step rfl (OR.addI rfl rfl (by omega) (by omega) (WO.step rfl (OR.move rfl ?_)))))))
    refine WO.done ?_
    refine WX.again (0 + 1) ⟨rfl, rfl, rfl, rfl,  trivial⟩ ?_ ?_
    · exact ⟨by omega, H, hle, hs⟩
    · omega
  · refine WC.exit (WX.seq_exit (WX.loop_exit (WX.block_hit (WX.seq (WC.seq (WC.region (WO.step rfl ?_)))))))
    refine OR.assign rfl (WO.done (WX.seq (WC.ret ?_)))
    refine WX.ret1 rfl rfl ?_
    exact .mk hs rfl
set_option maxRecDepth 20000 in
set_option maxHeartbeats 2000000 in
theorem chasflow_ok (gc : Nat) (c : CfgD) (hok : CfgOk c) (v9 : Value) (win que : Int) (H0 : Hp) (w0 : World) (h0 : Sub H0 w0) (hf : CfgIn H0 c) (hc : H0 gc = some (.cells #[.int .i64 (c.nodes : Int), v9, .int .i64 win, .int .i64 que] 81)) :
    Calls Tryz.prog 107 #[c.vf, cflowV gc] w0 (Pure H0 w0 fun v _ => v = .bool false) := by
  have hs := HS.init h0
  have hle := Hp.le.refl H0
  refine Calls.enter (args := [c.vf, cflowV gc]) Tryz.func107 rfl Tryz.ntmps107 rfl ?_
  refine WC.seq (WC.region (WO.step rfl (OR.assign rfl (WO.done (WX.seq (WC.seq (WC.region ?_)))))))
  refine WO.step rfl (OR.move rfl (WO.step rfl (OR.move rfl ?_)))
  refine WO.step rfl (OR.call hs body144 rfl rfl (iflow_ok gc c hok v9 win que _ _ hs.toSub hf hc) ?_)
  clear hs; rintro _ H w hs hle1 rfl; replace hle := hle.trans hle1; (try replace hlb := hlb.trans hle1)
  refine WO.step rfl (OR.geq rfl rfl (WO.step rfl (OR.assign rfl (WO.done (WX.seq (WC.ret ?_))))))
  refine WX.ret1 rfl rfl ?_
  exact .mk hs rfl
set_option maxRecDepth 20000 in
set_option maxHeartbeats 2000000 in
/-- The configuration may be. -/
theorem tconfig_ok (c : CfgD) (hok : CfgOk c) (H0 : Hp) (w0 : World) (h0 : Sub H0 w0) (hf : CfgIn H0 c) :
    Calls Tryz.prog 47 #[cfgV c] w0 (Pure H0 w0 fun v _ => v = .bool true) := by
  have hs := HS.init h0
  have hle := Hp.le.refl H0
  obtain ⟨fb, fo, cf, ef, hcf, hcc⟩ := hf.f
  have hok2 := hok
  obtain ⟨hn, _, hw, hq, _, _, _⟩ := hok2
  refine Calls.enter (args := [.agg #[.int .i64 (c.nodes : Int), c.vf, .int .i64 (c.win : Int), .int .i64 (c.que : Int)]]) Tryz.func47 rfl Tryz.ntmps47 rfl ?_
  refine WC.seq (WC.region (WO.step rfl (OR.box hs rfl ?_)))
  clear hs; intro g1 w hg1 hs
  refine WO.step rfl (OR.assign rfl (WO.done (WX.seq (WC.seq (WC.region (WO.step rfl (OR.makeFunc rfl rfl ?_)))))))
  refine WO.step rfl (OR.assign rfl (WO.done (WX.seq (WC.seq (WC.region (WO.step rfl (OR.fieldAddr FA81_0 rfl ?_)))))))
  refine WO.step rfl (OR.load T3 rfl rfl (hs.cellM (i := 0) rfl rfl) ?_)
  obtain ⟨H, hle1, hp_g1, hs9⟩ := hs.pub1 hg1; clear hs; have hs := hs9; clear hs9; replace hle := hle.trans hle1; (try replace hlb := hlb.trans hle1)
  have hc9 := hp_g1
  refine WO.step rfl (OR.call hs body106 rfl rfl (within_ok (c.nodes : Int) 1 64 _ _ hs.toSub) ?_)
  clear hs; rintro _ H w hs hle1 rfl; replace hle := hle.trans hle1; (try replace hlb := hlb.trans hle1)
  rw [decide_eq_true (show 1 ≤ (c.nodes : Int) ∧ (c.nodes : Int) ≤ 64 by omega)]
  replace hc9 := hle1 _ _ hc9
  refine WO.step rfl (OR.move rfl ?_)
  refine WO.guardYes rfl rfl rfl rfl (OR.fieldAddr FA81_1 rfl ?_)
  refine WO.guardYes rfl rfl rfl rfl (OR.load T79 rfl rfl (hs.cell (hcell_of hc9 (show _ = some (Value.slice (some ⟨fb, fo, none⟩) 1 cf) from by rw [← ef]; rfl))) ?_)
  refine WO.guardYes rfl rfl rfl rfl (OR.lenSlice T79.und rfl ?_)
  refine WO.guardYes rfl rfl rfl rfl (OR.call hs body106 rfl rfl (within_ok 1 1 4 _ _ hs.toSub) ?_)
  clear hs; rintro _ H w hs hle1 rfl; replace hle := hle.trans hle1; (try replace hlb := hlb.trans hle1)
  replace hc9 := hle1 _ _ hc9
  refine WO.step rfl (OR.pickT rfl rfl rfl (WO.step rfl (OR.move rfl ?_)))
  refine WO.guardYes rfl rfl rfl rfl (OR.fieldAddr FA81_2 rfl ?_)
  refine WO.guardYes rfl rfl rfl rfl (OR.load T3 rfl rfl (hs.cell (hcell_of hc9 rfl)) ?_)
  refine WO.guardYes rfl rfl rfl rfl (OR.call hs body106 rfl rfl (within_ok (c.win : Int) 1 16 _ _ hs.toSub) ?_)
  clear hs; rintro _ H w hs hle1 rfl; replace hle := hle.trans hle1; (try replace hlb := hlb.trans hle1)
  rw [decide_eq_true (show 1 ≤ (c.win : Int) ∧ (c.win : Int) ≤ 16 by omega)]
  replace hc9 := hle1 _ _ hc9
  refine WO.step rfl (OR.pickT rfl rfl rfl (WO.step rfl (OR.move rfl ?_)))
  refine WO.guardYes rfl rfl rfl rfl (OR.fieldAddr FA81_3 rfl ?_)
  refine WO.guardYes rfl rfl rfl rfl (OR.load T3 rfl rfl (hs.cell (hcell_of hc9 rfl)) ?_)
  refine WO.guardYes rfl rfl rfl rfl (OR.call hs body106 rfl rfl (within_ok (c.que : Int) 1 64 _ _ hs.toSub) ?_)
  clear hs; rintro _ H w hs hle1 rfl; replace hle := hle.trans hle1; (try replace hlb := hlb.trans hle1)
  rw [decide_eq_true (show 1 ≤ (c.que : Int) ∧ (c.que : Int) ≤ 64 by omega)]
  replace hc9 := hle1 _ _ hc9
  refine WO.step rfl (OR.pickT rfl rfl rfl (WO.step rfl (OR.move rfl ?_)))
  refine WO.guardYes rfl rfl rfl rfl (OR.fieldAddr FA81_1 rfl ?_)
  refine WO.guardYes rfl rfl rfl rfl (OR.load T79 rfl rfl (hs.cell (hcell_of hc9 rfl)) ?_)
  refine WO.guardYes rfl rfl rfl rfl (OR.move rfl ?_)
  refine WO.guardYes rfl rfl rfl rfl (OR.call hs body107 rfl rfl (chasflow_ok g1 c hok _ _ _ _ _ hs.toSub (hf.mono hle) hc9) ?_)
  clear hs; rintro _ H w hs hle1 rfl; replace hle := hle.trans hle1; (try replace hlb := hlb.trans hle1)
  refine WO.guardYes rfl rfl rfl rfl (OR.not rfl (WO.step rfl (OR.pickT rfl rfl rfl (WO.step rfl (OR.assign rfl (WO.done (WX.seq ?_)))))))
  refine WC.ret ?_
  refine WX.ret1 rfl rfl ?_
  exact .mk hs rfl
set_option maxRecDepth 20000 in
set_option maxHeartbeats 2000000 in
theorem index_ok (v : Value) (l : List Int) (a : Int) (H0 : Hp) (w0 : World) (h0 : Sub H0 w0) (hl : Ints H0 v l) (hn : l.length ≤ 1000000) :
    Calls Tryz.prog 140 #[v, .int .i64 a] w0 (Pure H0 w0 fun v _ => ∃ i : Int, v = .int .i64 i ∧ decide (i ≥ 0) = decide (a ∈ l)) := by
  have hs := HS.init h0
  have hle := Hp.le.refl H0
  have hl0 := hl
  obtain ⟨bl, cl, rfl⟩ := hl0.form
  refine Calls.enter (args := [.slice bl l.length cl, .int .i64 a]) Tryz.func140 rfl Tryz.ntmps140 rfl ?_
  refine WC.seq (WC.region (WO.step rfl (OR.assign rfl (WO.done (WX.seq (WC.seq (WC.seq ?_)))))))
  refine WC.region (WO.step rfl (OR.move rfl (WO.step rfl (OR.lenSlice T76.und rfl (WO.step rfl (OR.move rfl (WO.done ?_)))))))
  refine WX.seq (WC.block ?_)
  refine WC.loop (ι := Nat) (fun k => [(0, .slice bl l.length cl), (1, .int .i64 a), (7, .int .i64 (l.length : Int)), (8, .int .i64 (k : Int))]) (fun k w => (k ≤ l.length ∧ (∀ j (h : j < l.length), j < k → l[j] ≠ a) ∧ ∃ H, Hp.le H0 H ∧ HS [] H0 w0 H [] w)) (fun k => l.length - k) 0 ⟨rfl, rfl, rfl, rfl,  trivial⟩ ?_ (fun k w hW => ?_)
  · exact ⟨by omega, fun j _ h => absurd h (Nat.not_lt_zero _), H0, hle, hs⟩
  clear hs hle
  obtain ⟨hk, hno, H, hle, hs⟩ := hW
  refine WC.seq (WC.region (WO.step rfl (OR.lss rfl rfl (WO.done (WX.seq (WC.seq ?_))))))
  refine WC.condD rfl (fun hlt => ?_) (fun hlt => ?_)
  · have hk' : k < l.length := by omega
    obtain ⟨xb, xo, rfl, hcx⟩ := hl.pos (by omega)
    have hck := hcx k hk'
    refine WC.skip (WX.seq (WC.seq (WC.block (WC.seq (WC.region (WO.step rfl (OR.move rfl ?_)))))))
    refine WO.step rfl (OR.assign rfl (WO.done (WX.seq (WC.seq (WC.region (WO.step rfl (OR.move rfl ?_)))))))
    refine WO.step rfl (OR.move rfl (WO.step rfl (OR.move rfl ?_)))
    refine WO.step rfl (OR.idx k T76.und T3 rfl rfl rfl hk' ?_)
    refine WO.step rfl (OR.load T3 rfl rfl (hs.cell (hcell.mono hle hck)) ?_)
    refine WO.step rfl (OR.eql rfl rfl (WO.done (WX.seq ?_)))
    refine WC.condD rfl (fun heq => ?_) (fun heq => ?_)
    · refine WC.seq (WC.region (WO.step rfl (OR.move rfl (WO.step rfl (OR.assign rfl (WO.done (WX.seq ?_)))))))
      refine WC.ret (WX.block_ret (WX.seq_ret (WX.loop_ret (WX.block_ret (WX.seq_ret ?_)))))
      refine WX.ret1 rfl rfl ?_
      refine .mk hs ⟨_, rfl, ?_⟩
      rw [decide_eq_true (by omega), decide_eq_true (by rw [heq]; exact List.getElem_mem hk')]
    · refine WC.skip (WX.block (WX.seq (WC.region (WO.step rfl (OR.addI rfl rfl (by omega) (by omega) (WO.step rfl (OR.move rfl ?_)))))))
      refine WO.done ?_
      refine WX.again (k + 1) ⟨rfl, rfl, rfl, rfl,  trivial⟩ ?_ ?_
      · refine ⟨by omega, fun j h hj => ?_, H, hle, hs⟩
        by_cases e : j = k
        · subst e
          exact fun h => heq h.symm
        · exact hno j h (by omega)
      · omega
  · refine WC.exit (WX.seq_exit (WX.loop_exit (WX.block_hit (WX.seq (WC.seq (WC.region (WO.step rfl ?_)))))))
    refine OR.assign rfl (WO.done (WX.seq (WC.ret ?_)))
    refine WX.ret1 rfl rfl ?_
    refine .mk hs ⟨_, rfl, ?_⟩
    rw [decide_eq_false (by omega), decide_eq_false]
    intro hm
    obtain ⟨j, hj, he⟩ := List.getElem_of_mem hm
    exact hno j hj (by omega) he
set_option maxRecDepth 20000 in
set_option maxHeartbeats 2000000 in
theorem contains_ok' (v : Value) (l : List Int) (a : Int) (H0 : Hp) (w0 : World) (h0 : Sub H0 w0) (hl : Ints H0 v l) (hn : l.length ≤ 1000000) :
    Calls Tryz.prog 94 #[v, .int .i64 a] w0 (Pure H0 w0 fun v _ => v = .bool (decide (a ∈ l))) := by
  have hs := HS.init h0
  have hle := Hp.le.refl H0
  refine Calls.enter (args := [v, .int .i64 a]) Tryz.func94 rfl Tryz.ntmps94 rfl ?_
  refine WC.seq (WC.region (WO.step rfl (OR.assign rfl (WO.done (WX.seq (WC.seq (WC.region ?_)))))))
  refine WO.step rfl (OR.move rfl (WO.step rfl (OR.move rfl ?_)))
  refine WO.step rfl (OR.call hs body140 rfl rfl (index_ok v l a _ _ hs.toSub hl hn) ?_)
  clear hs; rintro _ H w hs hle1 ⟨i, rfl, hi⟩; replace hle := hle.trans hle1; (try replace hlb := hlb.trans hle1)
  refine WO.step rfl (OR.geq rfl rfl (WO.step rfl (OR.assign rfl (WO.done (WX.seq (WC.ret ?_))))))
  rw [hi]
  refine WX.ret1 rfl rfl ?_
  exact .mk hs rfl
end Go.Bw
namespace Go.Bw
set_option linter.unusedVariables false
set_option linter.unusedSimpArgs false
open Go.Proofs
structure FD where
  node : Int
  next : List Int
  nv : Value
  told : List (Int × Nat)
  base : Nat
  worked : Bool
  total : Nat
  known : Bool
def toldC (l : List (Int × Nat)) : List (Int × Value) := l.map fun p => (p.1, .int .u64 (p.2 : Int))
def toldObj (l : List (Int × Nat)) : Obj := mObj .i64 (toldC l)
def fObj (c : CfgD) (d : FD) (tb : Nat) (vs vr vk : Value) : Obj := .cells #[.int .i64 (c.nodes : Int), c.vf, .int .i64 (c.win : Int), .int .i64 (c.que : Int), .int .i64 (c.g : Int), .int .i64 (c.s : Int), .int .i64 0, c.vs, .int .i64 d.node, vs, vr, vk, d.nv, .map (some tb), .int .u64 (d.base : Int), .bool d.worked, .int .u64 (d.total : Int), .bool d.known] 172
/-- A sink, a relay, if there is one. -/
abbrev SinkS := Option (Nat × SinkD)
structure RelS where
  y : RelD
  rb : Nat
  wb : Nat
  l : Slots
def skMem : SinkS → Mem
  | none => []
  | some p => [(p.1, sinkObj p.2, true)]
def skV : SinkS → Value
  | none => .pointer none
  | some p => ptr p.1
def rlMem : Option RelS → Mem
  | none => []
  | some x => relMem true x.y x.rb x.wb x.l
def rlV : Option RelS → Value
  | none => .pointer none
  | some x => ptr x.rb
def RlOk (H : Hp) : Option RelS → Prop
  | none => True
  | some x => SlotsOk H x.y x.l ∧ RelOk x.y
theorem RlOk.mono {H H' : Hp} {r : Option RelS} (h : RlOk H r) (hle : Hp.le H H') : RlOk H' r := by
  cases r with
  | none => trivial
  | some x => exact ⟨h.1.mono hle, h.2⟩
def fMem (c : CfgD) (d : FD) (xb tb : Nat) (vs : Value) (rl : Option RelS) (sk : SinkS) : Mem := (xb, fObj c d tb vs (rlV rl) (skV sk), true) :: (tb, toldObj d.told, true) :: (skMem sk ++ rlMem rl)
theorem fMem_flags (c : CfgD) (d : FD) (xb tb : Nat) (vs : Value) (rl : Option RelS) (sk : SinkS) : (fMem c d xb tb vs rl sk).all (·.2.2) = true := by
  rw [fMem, List.all_cons, List.all_cons, List.all_append]
  cases sk <;> cases rl <;> simp [skMem, rlMem, relMem_flags]
/-- The least of what was told, and of a number. -/
def leastN (b : Nat) : List (Int × Nat) → Nat
  | [] => b
  | p :: l => min p.2 (leastN b l)
theorem leastN_le (b : Nat) : ∀ (l : List (Int × Nat)), leastN b l ≤ b ∧ ∀ p ∈ l, leastN b l ≤ p.2
  | [] => ⟨Nat.le_refl _, fun p h => by cases h⟩
  | p :: l => by
    obtain ⟨h1, h2⟩ := leastN_le b l
    refine ⟨by simp only [leastN]; omega, fun q hq => ?_⟩
    rcases List.mem_cons.1 hq with rfl | hq
    · simp only [leastN]; omega
    · have := h2 q hq
      simp only [leastN]; omega
theorem leastN_is (b : Nat) : ∀ (l : List (Int × Nat)), leastN b l = b ∨ ∃ p ∈ l, leastN b l = p.2
  | [] => .inl rfl
  | p :: l => by
    simp only [leastN]
    rcases leastN_is b l with h | ⟨q, hq, h⟩
    · rw [h]
      by_cases e : p.2 ≤ b
      · exact .inr ⟨p, by simp, by omega⟩
      · exact .inl (by omega)
    · by_cases e : p.2 ≤ q.2
      · exact .inr ⟨p, by simp, by omega⟩
      · exact .inr ⟨q, by simp [hq], by omega⟩
theorem leastN_eq {b m : Nat} {l : List (Int × Nat)} (h1 : m ≤ b) (h2 : ∀ p ∈ l, m ≤ p.2) (h3 : m = b ∨ ∃ p ∈ l, m = p.2) : m = leastN b l := by
  obtain ⟨k1, k2⟩ := leastN_le b l
  rcases leastN_is b l with k | ⟨q, hq, k⟩
  · rcases h3 with h | ⟨p, hp, h⟩
    · omega
    · have := k2 p hp; omega
  · have := h2 q hq
    rcases h3 with h | ⟨p, hp, h⟩
    · omega
    · have := k2 p hp; omega
def skBase : SinkS → Nat
  | none => 1099511627776
  | some p => p.2.dl
def FD.idle (d : FD) : Bool := decide (d.told.length < d.next.length)
def FD.work (d : FD) (b : Nat) : FD := if d.idle then d else { d with base := leastN b d.told, worked := true }
def RelS.work (x : RelS) (d : FD) (b : Nat) (l : Slots) : RelS := if d.idle then { x with l := l } else { x with y := x.y.moveTo (leastN b d.told), l := l }
set_option maxRecDepth 20000 in
set_option maxHeartbeats 2000000 in
theorem fmade_ok (c : CfgD) (d : FD) (xb tb : Nat) (vs vr vk : Value) (H0 : Hp) (w0 : World) (h0 : Sub H0 w0) (hb : w0.heap[xb]? = some (fObj c d tb vs vr vk)) (hn : H0 xb = none) :
    Calls Tryz.prog 96 #[ptr xb] w0 (Pure H0 w0 fun v _ => v = .bool true) := by
  have hs := HS.startR h0 hb hn
  have hle := Hp.le.refl H0
  refine Calls.enter (args := [ptr xb]) Tryz.func96 rfl Tryz.ntmps96 rfl ?_
  refine WC.seq (WC.region (WO.step rfl (OR.assign rfl (WO.done (WX.seq (WC.seq (WC.region ?_)))))))
  refine WO.step rfl (OR.move rfl (WO.step rfl (OR.neqNilP T82.und rfl rfl (WO.step rfl (OR.move rfl (WO.guardYes rfl rfl rfl rfl (OR.move rfl ?_)))))))
  refine WO.guardYes rfl rfl rfl rfl (OR.nilCheck rfl (WO.guardYes rfl rfl rfl rfl (OR.fieldAddr FA172_7 rfl (WO.guardYes rfl rfl rfl rfl (OR.load T85 rfl rfl (hs.cellM (i := 0) rfl rfl) ?_)))))
  refine WO.guardYes rfl rfl rfl rfl (OR.neqNilM T85.und rfl rfl ?_)
  refine WO.step rfl (OR.pickT rfl rfl rfl (WO.step rfl (OR.assign rfl (WO.done (WX.seq (WC.ret ?_))))))
  refine WX.ret1 rfl rfl ?_
  exact .mk (hs.drop 0) rfl
set_option maxRecDepth 20000 in
set_option maxHeartbeats 2000000 in
theorem fbase_ok (c : CfgD) (d : FD) (xb tb : Nat) (vs vr vk : Value) (H0 : Hp) (w0 : World) (h0 : Sub H0 w0) (hb : w0.heap[xb]? = some (fObj c d tb vs vr vk)) (hn : H0 xb = none) :
    Calls Tryz.prog 37 #[ptr xb] w0 (Pure H0 w0 fun v _ => v = .tuple #[.int .u64 (d.base : Int), .bool d.worked]) := by
  have hs := HS.startR h0 hb hn
  have hle := Hp.le.refl H0
  refine Calls.enter (args := [ptr xb]) Tryz.func37 rfl Tryz.ntmps37 rfl ?_
  refine WC.seq (WC.region (WO.step rfl (OR.assign rfl (WO.step rfl (OR.assign rfl (WO.done (WX.seq ?_)))))))
  refine WC.seq (WC.seq (WC.region (WO.step rfl (OR.move rfl ?_))))
  refine WO.step rfl (OR.call hs body96 rfl rfl (fmade_ok c d xb tb vs vr vk _ _ hs.toSub (hs.blk (i := 0) rfl) (hs.nh (i := 0) rfl)) ?_)
  clear hs; rintro _ H w hs hle1 rfl; replace hle := hle.trans hle1; (try replace hlb := hlb.trans hle1)
  refine WO.step rfl (OR.not rfl (WO.done (WX.seq ?_)))
  refine WC.no rfl rfl ?_
  refine WC.skip (WX.seq (WC.seq ?_))
  refine WC.sub [(0, ptr xb)] ⟨rfl,  trivial⟩ ?_
  refine WC.draw 9 mixed hs (by kernel_rfl) ?_
  refine ⟨MF.eq _, by intro Mx H w hle hs; refine forVals_nil (ORg.plain (OR.move rfl ?_)); exact ⟨_, [], Hp.le.refl _, hs, rfl, rfl⟩, ?_⟩
  refine ⟨MF.eq _, by intro Mx H w hle hs; refine forVals_eq rfl rfl rfl ?_; refine forVals_nil (ORg.plain (OR.nilCheck rfl ?_)); exact ⟨_, [], Hp.le.refl _, hs, rfl, rfl⟩, ?_⟩
  refine ⟨MF.eq _, by intro Mx H w hle hs; refine forVals_eq rfl rfl rfl ?_; refine forVals_nil (ORg.plain (OR.fieldAddr FA172_8 rfl ?_)); exact ⟨_, [], Hp.le.refl _, hs, rfl, rfl⟩, ?_⟩
  refine ⟨MF.eq _, by intro Mx H w hle hs; refine forVals_eq rfl rfl rfl ?_; refine forVals_nil (ORg.plain (OR.load T22 rfl rfl (hs.right.cellM (i := 0) rfl rfl) ?_)); exact ⟨_, [], Hp.le.refl _, hs, rfl, rfl⟩, ?_⟩
  refine ⟨MF.eq _, by intro Mx H w hle hs; refine forVals_nil (ORg.plain (OR.move rfl ?_)); exact ⟨_, [], Hp.le.refl _, hs, rfl, rfl⟩, ?_⟩
  refine ⟨MF.eq _, by intro Mx H w hle hs; refine forVals_eq rfl rfl rfl ?_; refine forVals_nil (ORg.plain (OR.nilCheck rfl ?_)); exact ⟨_, [], Hp.le.refl _, hs, rfl, rfl⟩, ?_⟩
  refine ⟨MF.eq _, by intro Mx H w hle hs; refine forVals_eq rfl rfl rfl ?_; refine forVals_nil (ORg.plain (OR.fieldAddr FA172_9 rfl ?_)); exact ⟨_, [], Hp.le.refl _, hs, rfl, rfl⟩, ?_⟩
  refine ⟨MF.eq _, by intro Mx H w hle hs; refine forVals_eq rfl rfl rfl ?_; refine forVals_nil (ORg.plain (OR.load T4 rfl rfl (hs.right.cellM (i := 0) rfl rfl) ?_)); exact ⟨_, [], Hp.le.refl _, hs, rfl, rfl⟩, ?_⟩
  refine ⟨MF.eq (.int .u64 (d.base : Int)), ?_, ?_⟩
  · intro Mx H w hle2 hs; (try replace hle := hle.trans hle2); (try replace hlb := hlb.trans hle2); refine forVals_eq rfl rfl rfl ?_
    refine forVals_nil (ORg.plain (OR.assign rfl ?_))
    exact ⟨_, [], Hp.le.refl _, hs, rfl, rfl⟩
  intro H w hle2; (try replace hle := hle.trans hle2); (try replace hlb := hlb.trans hle2)
  refine forAllVals_eq rfl ?_
  refine forAllVals_eq rfl ?_
  refine forAllVals_eq rfl ?_
  refine forAllVals_eq rfl ?_
  refine forAllVals_eq rfl ?_
  refine forAllVals_eq rfl ?_
  refine forAllVals_eq rfl ?_
  refine forAllVals_eq rfl ?_
  refine forAllVals_eq rfl ?_
  refine forAllVals_nil ?_; (try clear hs); intro hs
  refine WO.step rfl (OR.assign rfl (WO.done (WX.seq (WC.ret ?_))))
  refine WX.ret2 rfl rfl rfl ?_
  exact .mk (hs.drop 0) rfl
theorem permSR (A R S : Mem) : (A ++ (R ++ S)).Perm (S ++ (A ++ R)) := by
  rw [← List.append_assoc]
  exact List.perm_append_comm
theorem min_u64 (a b : Nat) : (if (b : Int) < (a : Int) then (b : Int) else (a : Int)) = ((min a b : Nat) : Int) := by split <;> omega
theorem toldC_at {l : List (Int × Nat)} {e : MapEntry} (h : e ∈ (mEnt .i64 0 (toldC l)).toArray.toList) : ∃ j, ∃ h : j < l.length, e = { key := .int .i64 l[j].1, val := .int .u64 (l[j].2 : Int), born := j } := by
  obtain ⟨j, hj, e⟩ := mEnt_mem (by simpa using h)
  simp only [toldC, List.length_map] at hj
  exact ⟨j, hj, by rw [e]; simp [toldC]⟩
/-- What is known while the least of what was told is sought. -/
structure Seen (b : Nat) (l : List (Int × Nat)) (seen : Array Nat) (m : Nat) : Prop where
  le : m ≤ b
  all : ∀ j (h : j < l.length), j ∈ seen.toList → m ≤ l[j].2
  is : m = b ∨ ∃ p ∈ l, m = p.2
theorem Seen.step {b : Nat} {l : List (Int × Nat)} {seen : Array Nat} {m j : Nat} (h : Seen b l seen m) (hj : j < l.length) : Seen b l (seen.push j) (min m l[j].2) := by
  obtain ⟨h1, h2, h3⟩ := h
  refine ⟨by omega, fun i hi hm => ?_, ?_⟩
  · rw [Array.toList_push, List.mem_append, List.mem_singleton] at hm
    rcases hm with hm | rfl
    · have := h2 i hi hm; omega
    · omega
  · by_cases e : m ≤ l[j].2
    · rw [Nat.min_eq_left e]; exact h3
    · rw [Nat.min_eq_right (by omega)]; exact .inr ⟨_, List.getElem_mem hj, rfl⟩
theorem Seen.done {b : Nat} {l : List (Int × Nat)} {seen : Array Nat} {m : Nat} (h : Seen b l seen m) (hall : ∀ e ∈ (mEnt .i64 0 (toldC l)).toArray.toList, e.born ∈ seen.toList) : m = leastN b l := by
  obtain ⟨h1, h2, h3⟩ := h
  refine leastN_eq h1 (fun p hp => ?_) h3
  obtain ⟨j, hj, rfl⟩ := List.getElem_of_mem hp
  refine h2 j hj ?_
  have h9 := mEnt_at (K := .i64) (toldC l) 0 j (by simpa [toldC] using hj)
  have := hall _ (by simpa using List.mem_of_getElem? h9)
  simpa using this
def workR (d : FD) (b : Nat) (l' : Slots) : Option RelS → Option RelS
  | none => none
  | some x => some (x.work d b l')
set_option maxRecDepth 20000 in
set_option maxHeartbeats 2000000 in
theorem fwork_ok (c : CfgD) (d : FD) (xb tb : Nat) (vs : Value) (rl : Option RelS) (sk : SinkS) (H0 : Hp) (w0 : World) (hs : HS (Mem.keys (fMem c d xb tb vs rl sk)) H0 w0 H0 (fMem c d xb tb vs rl sk) w0) (hok : RlOk H0 rl) (hnx : Ints H0 d.nv d.next) (hd : d.told.length ≤ 1000) (hb : skBase sk ≤ 1099511627776) (ht : ∀ p ∈ d.told, p.2 ≤ 1099511627776) :
    Calls Tryz.prog 95 #[ptr xb] w0 (Ret (Mem.keys (fMem c d xb tb vs rl sk)) H0 w0 fun v H' M' => ∃ l', M' = fMem c (d.work (skBase sk)) xb tb vs (workR d (skBase sk) l' rl) sk ∧ RlOk H' (workR d (skBase sk) l' rl)) := by
  have hle := Hp.le.refl H0
  have h00 := hs.toSub
  obtain ⟨node, next, nv, told, base, worked, total, known⟩ := d
  simp only at hnx hd ht
  obtain ⟨bn, cn, hfn⟩ := hnx.form
  subst hfn
  obtain ⟨d, hdd⟩ : ∃ d : FD, d = ⟨node, next, .slice bn next.length cn, told, base, worked, total, known⟩ := ⟨_, rfl⟩
  obtain ⟨xs, hxs⟩ : ∃ xs, xs = Mem.keys (fMem c d xb tb vs rl sk) := ⟨_, rfl⟩
  rw [← hdd]
  rw [← hdd, ← hxs] at hs
  rw [← hxs]
  clear hxs
  have hdn : d.next.length = next.length := by rw [hdd]
  have hdt : d.told = told := by rw [hdd]
  replace hs : HS xs H0 w0 H0 ((xb, .cells #[.int .i64 (c.nodes : Int), c.vf, .int .i64 (c.win : Int), .int .i64 (c.que : Int), .int .i64 (c.g : Int), .int .i64 (c.s : Int), .int .i64 0, c.vs, .int .i64 node, vs, rlV rl, skV sk, .slice bn next.length cn, .map (some tb), .int .u64 (base : Int), .bool worked, .int .u64 (total : Int), .bool known] 172, true) :: (tb, toldObj told, true) :: (skMem sk ++ rlMem rl)) w0 := by
    rw [hdd] at hs
    exact hs
  have htl : (mEnt .i64 0 (toldC told)).toArray.size = told.length := by simp [mEnt_len, toldC]
  have hob : toldObj told = .map (mEnt .i64 0 (toldC told)).toArray told.length := by simp [toldObj, mObj, toldC]
  refine Calls.enter (args := [ptr xb]) Tryz.func95 rfl Tryz.ntmps95 rfl ?_
  refine WC.seq (WC.seq ?_)
  refine WC.draw 11 mixed hs (by kernel_rfl) ?_
  refine ⟨MF.eq _, by intro Mx H w hle hs; refine forVals_nil (ORg.plain (OR.move rfl ?_)); exact ⟨_, [], Hp.le.refl _, hs, rfl, rfl⟩, ?_⟩
  refine ⟨MF.eq _, by intro Mx H w hle hs; refine forVals_eq rfl rfl rfl ?_; refine forVals_nil (ORg.plain (OR.nilCheck rfl ?_)); exact ⟨_, [], Hp.le.refl _, hs, rfl, rfl⟩, ?_⟩
  refine ⟨MF.eq _, by intro Mx H w hle hs; refine forVals_eq rfl rfl rfl ?_; refine forVals_nil (ORg.plain (OR.fieldAddr FA172_7 rfl ?_)); exact ⟨_, [], Hp.le.refl _, hs, rfl, rfl⟩, ?_⟩
  refine ⟨MF.eq _, by intro Mx H w hle hs; refine forVals_eq rfl rfl rfl ?_; refine forVals_nil (ORg.plain (OR.load T85 rfl rfl (hs.right.cellM (i := 0) rfl rfl) ?_)); exact ⟨_, [], Hp.le.refl _, hs, rfl, rfl⟩, ?_⟩
  refine ⟨MF.eq (.int .i64 (told.length : Int)), ?_, ?_⟩
  · intro Mx H w hle2 hs; (try replace hle := hle.trans hle2); (try replace hlb := hlb.trans hle2); refine forVals_eq rfl rfl rfl ?_
    have hkm := (hs.mem tb _ true (List.mem_append_right _ (List.mem_cons_of_mem _ (List.mem_cons_self ..)))).1
    rw [hob] at hkm
    refine forVals_nil (ORg.plain (OR.lenMap hkm T85.und rfl ?_))
    exact ⟨_, [], Hp.le.refl _, hs, (by rw [htl]), rfl⟩
  refine ⟨MF.eq _, by intro Mx H w hle hs; refine forVals_nil (ORg.plain (OR.move rfl ?_)); exact ⟨_, [], Hp.le.refl _, hs, rfl, rfl⟩, ?_⟩
  refine ⟨MF.eq _, by intro Mx H w hle hs; refine forVals_eq rfl rfl rfl ?_; refine forVals_nil (ORg.plain (OR.nilCheck rfl ?_)); exact ⟨_, [], Hp.le.refl _, hs, rfl, rfl⟩, ?_⟩
  refine ⟨MF.eq _, by intro Mx H w hle hs; refine forVals_eq rfl rfl rfl ?_; refine forVals_nil (ORg.plain (OR.fieldAddr FA172_6 rfl ?_)); exact ⟨_, [], Hp.le.refl _, hs, rfl, rfl⟩, ?_⟩
  refine ⟨MF.eq _, by intro Mx H w hle hs; refine forVals_eq rfl rfl rfl ?_; refine forVals_nil (ORg.plain (OR.load T76 rfl rfl (hs.right.cellM (i := 0) rfl rfl) ?_)); exact ⟨_, [], Hp.le.refl _, hs, rfl, rfl⟩, ?_⟩
  refine ⟨MF.eq _, by intro Mx H w hle hs; refine forVals_eq rfl rfl rfl ?_; refine forVals_nil (ORg.plain (OR.lenSlice T76.und rfl ?_)); exact ⟨_, [], Hp.le.refl _, hs, rfl, rfl⟩, ?_⟩
  refine ⟨MF.eq _, by intro Mx H w hle hs; refine forVals_eq rfl rfl rfl ?_; refine forVals_eq rfl rfl rfl ?_; refine forVals_nil (ORg.plain (OR.lss rfl rfl ?_)); exact ⟨_, [], Hp.le.refl _, hs, rfl, rfl⟩, ?_⟩
  intro H w hle2; (try replace hle := hle.trans hle2); (try replace hlb := hlb.trans hle2)
  refine forAllVals_eq rfl ?_
  refine forAllVals_eq rfl ?_
  refine forAllVals_eq rfl ?_
  refine forAllVals_eq rfl ?_
  refine forAllVals_eq rfl ?_
  refine forAllVals_eq rfl ?_
  refine forAllVals_eq rfl ?_
  refine forAllVals_eq rfl ?_
  refine forAllVals_eq rfl ?_
  refine forAllVals_eq rfl ?_
  refine forAllVals_eq rfl ?_
  refine forAllVals_nil ?_; (try clear hs); intro hs
  refine WO.done (WX.seq ?_)
  refine WC.condD rfl (fun hlt => ?_) (fun hlt => ?_)
  · refine WC.ret (WX.seq_ret ?_)
    refine WX.ret0 rfl ?_
    refine ⟨_, H, _, rfl, hs, ?_, ?_⟩
    · exact fun p hp => List.all_eq_true.1 (fMem_flags c d xb tb vs rl sk) p (by rw [hdd]; exact hp)
    · have hid : d.idle = true := decide_eq_true (by rw [hdn, hdt]; omega)
      have hwk : d.work (skBase sk) = d := by rw [FD.work, if_pos hid]
      rw [hwk]
      cases rl with
      | none => exact ⟨[], by rw [hdd]; rfl, trivial⟩
      | some x =>
        have hrw : workR d (skBase sk) x.l (some x) = some x := by rw [workR, RelS.work, if_pos hid]
        exact ⟨x.l, by rw [hrw, hdd]; rfl, by rw [hrw]; exact hok.mono hle⟩
  · have hid : d.idle = false := decide_eq_false (by rw [hdn, hdt]; omega)
    have hid' : ¬ (d.idle = true) := by rw [hid]; decide
    refine WC.skip (WX.seq (WC.seq (WC.region (WO.step rfl (OR.assign rfl (WO.done (WX.seq ?_)))))))
    refine WC.seq ?_
    refine WC.joinK (ι := Unit) (fun iu => [(0, ptr xb), (2, .int .u64 (skBase sk : Int))]) (fun iu w => (∃ H, Hp.le H0 H ∧ HS xs H0 w0 H ((xb, .cells #[.int .i64 (c.nodes : Int), c.vf, .int .i64 (c.win : Int), .int .i64 (c.que : Int), .int .i64 (c.g : Int), .int .i64 (c.s : Int), .int .i64 0, c.vs, .int .i64 node, vs, rlV rl, skV sk, .slice bn next.length cn, .map (some tb), .int .u64 (base : Int), .bool worked, .int .u64 (total : Int), .bool known] 172, true) :: (tb, toldObj told, true) :: (skMem sk ++ rlMem rl)) w)) ?_ (fun iu w hW => ?_)
    · refine WC.seq (WC.region (WO.step rfl (OR.move rfl (WO.step rfl (OR.nilCheck rfl ?_)))))
      cases sk with
      | none =>
        refine WO.step rfl (OR.fieldAddr FA172_5 rfl (WO.step rfl (OR.load T27 rfl rfl (hs.cellM (i := 0) rfl rfl) (WO.step rfl (OR.neqNilP T27.und rfl rfl (WO.done (WX.seq ?_)))))))
        refine WC.no rfl rfl ?_
        refine WC.skip ?_
        refine WX.arrive (()) ⟨rfl, rfl,  trivial⟩ ?_
        exact ⟨H, hle, hs⟩
      | some x =>
        refine WO.step rfl (OR.fieldAddr FA172_5 rfl (WO.step rfl (OR.load T27 rfl rfl (hs.cellM (i := 0) rfl rfl) (WO.step rfl (OR.neqNilP T27.und rfl rfl (WO.done (WX.seq ?_)))))))
        refine WC.yes rfl rfl ?_
        have hkm := hs.mem x.1 _ true (List.mem_cons_of_mem _ (List.mem_cons_of_mem _ (List.mem_append_left _ (List.mem_cons_self ..))))
        refine WC.region (WO.step rfl (OR.move rfl (WO.step rfl (OR.nilCheck rfl (WO.step rfl (OR.fieldAddr FA172_5 rfl (WO.step rfl ?_)))))))
        refine OR.load T27 rfl rfl (hs.cellM (i := 0) rfl rfl) ?_
        refine WO.step rfl (OR.call hs body24 rfl rfl (kdel_ok x.1 x.2 _ _ hs.toSub hkm.1 hkm.2.1) ?_)
        clear hs; rintro _ H w hs hle1 rfl; replace hle := hle.trans hle1; (try replace hlb := hlb.trans hle1)
        refine WO.step rfl (OR.assign rfl (WO.done ?_))
        refine WX.arrive (()) ⟨rfl, rfl,  trivial⟩ ?_
        exact ⟨H, hle, hs⟩
    · clear hs hle hlt
      obtain ⟨H, hle, hs⟩ := hW
      refine WC.seq (WC.seq (WC.region (WO.step rfl (OR.move rfl (WO.step rfl (OR.nilCheck rfl (WO.step rfl ?_)))))))
      refine OR.fieldAddr FA172_7 rfl (WO.step rfl (OR.load T85 rfl rfl (hs.cellM (i := 0) rfl rfl) ?_))
      have hkt := hs.blk (i := 1) rfl
      rw [hob] at hkt
      refine WO.step rfl (OR.rangeM hs hkt T85.und rfl ?_)
      clear hs hkt; intro r w hr hs
      refine WO.done (WX.seq (WC.block ?_))
      refine WC.loop (ι := Array Nat × Nat) (fun ix => [(0, ptr xb), (2, .int .u64 (ix.2 : Int)), (30, .pointer (some ⟨r, 0, none⟩))]) (fun ix w => (Seen (skBase sk) told ix.1 ix.2 ∧ ∃ last, told.length ≤ last ∧ HS xs H0 w0 H ((r, .mapIter (some tb) told.length ix.1 last, true) :: (xb, .cells #[.int .i64 (c.nodes : Int), c.vf, .int .i64 (c.win : Int), .int .i64 (c.que : Int), .int .i64 (c.g : Int), .int .i64 (c.s : Int), .int .i64 0, c.vs, .int .i64 node, vs, rlV rl, skV sk, .slice bn next.length cn, .map (some tb), .int .u64 (base : Int), .bool worked, .int .u64 (total : Int), .bool known] 172, true) :: (tb, toldObj told, true) :: (skMem sk ++ rlMem rl)) w)) (fun ix => unseen told.length ix.1) (#[], skBase sk) ⟨rfl, rfl, rfl,  trivial⟩ ?_ (fun ix w hW => ?_)
      · exact ⟨⟨Nat.le_refl _, fun j _ h => absurd h (by simp), .inl rfl⟩, told.length, Nat.le_refl _, hs⟩
      clear hs
      obtain ⟨seen, m⟩ := ix
      obtain ⟨hsn, last, hlast, hs⟩ := hW
      simp only at hsn hs
      have hkt := hs.blk (i := 2) rfl
      rw [hob] at hkt
      refine WC.seq (WC.region ?_)
      refine WO.step rfl (OR.nextM' hs hkt rfl (fun e he => by obtain ⟨j, hj, rfl⟩ := toldC_at he; exact hj) hlast ?_)
      clear hs hkt; intro v w hv
      rcases hv with ⟨hall, rfl, hs⟩ | ⟨e, he, hns, rfl, hs⟩
      · have hm := hsn.done hall
        refine WO.step rfl (OR.extract rfl rfl (WO.done (WX.seq (WC.seq ?_))))
        refine WC.no rfl rfl ?_
        subst hm
        replace hs := hs.drop 0
        have hwk : d.work (skBase sk) = ⟨node, next, .slice bn next.length cn, told, leastN (skBase sk) told, true, total, known⟩ := by rw [FD.work, if_neg hid', hdd]
        have hmb := (leastN_le (skBase sk) told).1
        cases rl with
        | none =>
          refine WC.exit (WX.seq_exit (WX.loop_exit (WX.block_hit (WX.seq (WC.seq (WC.region (WO.step rfl ?_)))))))
          refine OR.move rfl (WO.step rfl (OR.move rfl (WO.step rfl (OR.move rfl (WO.step rfl (OR.nilCheck rfl (WO.step rfl ?_)))))))
          refine OR.fieldAddr FA172_8 rfl (WO.stepN (OR.store hs T22 rfl rfl rfl (Nat.le_of_ble_eq_true rfl) rfl ?_))
          clear hs; intro w hs
          refine WO.step rfl (OR.nilCheck rfl (WO.step rfl (OR.fieldAddr FA172_9 rfl (WO.stepN (OR.store hs T4 rfl rfl rfl (Nat.le_of_ble_eq_true rfl) rfl ?_)))))
          clear hs; intro w hs
          refine WO.done (WX.seq (WC.seq (WC.region (WO.step rfl (OR.move rfl (WO.step rfl (OR.nilCheck rfl ?_)))))))
          refine WO.step rfl (OR.fieldAddr FA172_4 rfl (WO.step rfl (OR.load T34 rfl rfl (hs.cellM (i := 0) rfl rfl) (WO.step rfl (OR.neqNilP T34.und rfl rfl (WO.done (WX.seq ?_)))))))
          refine WC.no rfl rfl ?_
          refine WC.skip ?_
          refine WX.end0 rfl ?_
          replace hs : HS xs H0 w0 H (fMem c (d.work (skBase sk)) xb tb vs none sk) w := by rw [hwk]; exact hs
          exact ⟨_, H, _, rfl, hs, fun p hp => List.all_eq_true.1 (fMem_flags _ _ _ _ _ _ _) p hp, [], rfl, trivial⟩
        | some x =>
          refine WC.exit (WX.seq_exit (WX.loop_exit (WX.block_hit (WX.seq (WC.seq (WC.region (WO.step rfl ?_)))))))
          refine OR.move rfl (WO.step rfl (OR.move rfl (WO.step rfl (OR.move rfl (WO.step rfl (OR.nilCheck rfl (WO.step rfl ?_)))))))
          refine OR.fieldAddr FA172_8 rfl (WO.stepN (OR.store hs T22 rfl rfl rfl (Nat.le_of_ble_eq_true rfl) rfl ?_))
          clear hs; intro w hs
          refine WO.step rfl (OR.nilCheck rfl (WO.step rfl (OR.fieldAddr FA172_9 rfl (WO.stepN (OR.store hs T4 rfl rfl rfl (Nat.le_of_ble_eq_true rfl) rfl ?_)))))
          clear hs; intro w hs
          refine WO.done (WX.seq (WC.seq (WC.region (WO.step rfl (OR.move rfl (WO.step rfl (OR.nilCheck rfl ?_)))))))
          refine WO.step rfl (OR.fieldAddr FA172_4 rfl (WO.step rfl (OR.load T34 rfl rfl (hs.cellM (i := 0) rfl rfl) (WO.step rfl (OR.neqNilP T34.und rfl rfl (WO.done (WX.seq ?_)))))))
          refine WC.yes rfl rfl ?_
          refine WC.region (WO.step rfl (OR.move rfl (WO.step rfl (OR.nilCheck rfl (WO.step rfl (OR.fieldAddr FA172_4 rfl (WO.step rfl ?_)))))))
          refine OR.load T34 rfl rfl (hs.cellM (i := 0) rfl rfl) (WO.step rfl (OR.move rfl ?_))
          have hsR : HS xs H0 w0 H (relMem true x.y x.rb x.wb x.l ++ ([(xb, .cells #[.int .i64 (c.nodes : Int), c.vf, .int .i64 (c.win : Int), .int .i64 (c.que : Int), .int .i64 (c.g : Int), .int .i64 (c.s : Int), .int .i64 0, c.vs, .int .i64 node, vs, ptr x.rb, skV sk, .slice bn next.length cn, .map (some tb), .int .u64 (leastN (skBase sk) told : Int), .bool true, .int .u64 (total : Int), .bool known] 172, true), (tb, toldObj told, true)] ++ skMem sk)) w := hs.perm (permSR [(xb, .cells #[.int .i64 (c.nodes : Int), c.vf, .int .i64 (c.win : Int), .int .i64 (c.que : Int), .int .i64 (c.g : Int), .int .i64 (c.s : Int), .int .i64 0, c.vs, .int .i64 node, vs, ptr x.rb, skV sk, .slice bn next.length cn, .map (some tb), .int .u64 (leastN (skBase sk) told : Int), .bool true, .int .u64 (total : Int), .bool known] 172, true), (tb, toldObj told, true)] (skMem sk) (relMem true x.y x.rb x.wb x.l)).symm
          clear hs
          refine WO.step rfl (OR.callX (Mx := relMem true x.y x.rb x.wb x.l) (Mr := [(xb, .cells #[.int .i64 (c.nodes : Int), c.vf, .int .i64 (c.win : Int), .int .i64 (c.que : Int), .int .i64 (c.g : Int), .int .i64 (c.s : Int), .int .i64 0, c.vs, .int .i64 node, vs, ptr x.rb, skV sk, .slice bn next.length cn, .map (some tb), .int .u64 (leastN (skBase sk) told : Int), .bool true, .int .u64 (total : Int), .bool known] 172, true), (tb, toldObj told, true)] ++ skMem sk) hsR body21 rfl rfl (rmove_ok x.rb x.wb (leastN (skBase sk) told) x.y x.l _ _ (HS.relRW hsR) (hok.1.mono hle) hok.2 (by omega)) rfl (relMem_flags _ _ _ _) ?_)
          clear hsR; rintro v H2 M w hs hle1 hnew ⟨rfl, l2, rfl, hsl2⟩
          have hs2 : HS xs H0 w0 H2 ((xb, .cells #[.int .i64 (c.nodes : Int), c.vf, .int .i64 (c.win : Int), .int .i64 (c.que : Int), .int .i64 (c.g : Int), .int .i64 (c.s : Int), .int .i64 0, c.vs, .int .i64 node, vs, ptr x.rb, skV sk, .slice bn next.length cn, .map (some tb), .int .u64 (leastN (skBase sk) told : Int), .bool true, .int .u64 (total : Int), .bool known] 172, true) :: (tb, toldObj told, true) :: (skMem sk ++ relMem true (x.y.moveTo (leastN (skBase sk) told)) x.rb x.wb l2)) w := hs.perm (permSR [(xb, .cells #[.int .i64 (c.nodes : Int), c.vf, .int .i64 (c.win : Int), .int .i64 (c.que : Int), .int .i64 (c.g : Int), .int .i64 (c.s : Int), .int .i64 0, c.vs, .int .i64 node, vs, ptr x.rb, skV sk, .slice bn next.length cn, .map (some tb), .int .u64 (leastN (skBase sk) told : Int), .bool true, .int .u64 (total : Int), .bool known] 172, true), (tb, toldObj told, true)] (skMem sk) (relMem true (x.y.moveTo (leastN (skBase sk) told)) x.rb x.wb l2))
          refine WO.done ?_
          refine WX.end0 rfl ?_
          have hrw : workR d (skBase sk) l2 (some x) = some ⟨x.y.moveTo (leastN (skBase sk) told), x.rb, x.wb, l2⟩ := by rw [workR, RelS.work, if_neg hid', hdt]
          replace hs2 : HS xs H0 w0 H2 (fMem c (d.work (skBase sk)) xb tb vs (workR d (skBase sk) l2 (some x)) sk) w := by rw [hwk, hrw]; exact hs2
          refine ⟨_, H2, _, rfl, hs2, fun p hp => List.all_eq_true.1 (fMem_flags _ _ _ _ _ _ _) p hp, l2, rfl, ?_⟩
          rw [hrw]
          exact ⟨hsl2, hok.2.moveTo _⟩
      · have he2 := he
        refine WO.step rfl (OR.extract rfl rfl (WO.done (WX.seq (WC.seq ?_))))
        refine WC.yes rfl rfl ?_
        obtain ⟨j, hj, rfl⟩ := toldC_at he
        have hkt := hs.blk (i := 2) rfl
        rw [hob] at hkt
        refine WC.skip (WX.seq (WC.block (WC.seq (WC.region ?_))))
        refine WO.step rfl (OR.entryM (hs.blk (i := 0) rfl) hkt rfl (by simpa using mEnt_nodup .i64 (toldC told) 0) he2 ?_)
        refine WO.step rfl (OR.extract rfl rfl (WO.step rfl (OR.assign rfl (WO.done (WX.seq (WC.region (WO.step rfl ?_)))))))
        refine OR.move rfl (WO.step rfl (OR.move rfl ?_))
        refine WO.step rfl (OR.minI rfl rfl ?_)
        rw [min_u64]
        refine WO.step rfl (OR.assign rfl (WO.done (WX.block ?_)))
        refine WX.again ((seen.push j, min m told[j].2)) ⟨rfl, rfl, rfl,  trivial⟩ ?_ ?_
        · exact ⟨hsn.step hj, told.length, Nat.le_refl _, hs⟩
        · exact unseen_push hj hns
end Go.Bw
namespace Go.Bw
set_option linter.unusedVariables false
set_option linter.unusedSimpArgs false
open Go.Proofs
theorem HS.part {xs : List Nat} {H0 H : Hp} {w0 w : World} {M Mr : Mem} (hs : HS xs H0 w0 H (M ++ Mr) w) : HS (Mem.keys M) H w H M w := by
  refine HS.start _ hs.sub (fun b o t h => ?_) ?_
  · have h1 := hs.mem b o t (List.mem_append_left _ h)
    exact ⟨h1.1, h1.2.1, fun _ => List.mem_map.2 ⟨_, h, rfl⟩⟩
  · have h1 := hs.nd
    rw [Mem.keys, List.map_append] at h1
    exact (List.nodup_append.1 h1).1
/-- A part as it is made. -/
def fN (node : Int) (b : Nat) : FD := ⟨node, [], .slice none 0 0, [], b, true, 0, false⟩
def fN0 (node : Int) : FD := ⟨node, [], .slice none 0 0, [], 0, false, 0, false⟩
set_option maxRecDepth 20000 in
set_option maxHeartbeats 2000000 in
theorem fnew_src (c : CfgD) (hok : CfgOk c) (H0 : Hp) (w0 : World) (h0 : Sub H0 w0) (hf : CfgIn H0 c) :
    Calls Tryz.prog 35 #[cfgV c, .int .i64 0, .int .i64 0, .int .u64 0] w0 (Ret [] H0 w0 fun v H' M' => ∃ xb tb sb o, v = .tuple #[ptr xb, .int .i64 0] ∧ M' = fMem c (fN 0 1099511627776) xb tb (ptr sb) none none ++ [(sb, o, true)] ∧ SrcIn H' (newD c.g c.s [] [] false) o) := by
  have hs := HS.init h0
  have hle := Hp.le.refl H0
  have hlb := Hp.le.refl H0
  obtain ⟨nodes, g, s, win, que, sinks, vf, vs⟩ := c
  obtain ⟨fb, fo, cf, ef, hcf, hcc⟩ := hf.f
  replace ef : vf = .slice (some ⟨fb, fo, none⟩) 1 cf := ef
  subst ef
  have hk1 : 1 ≤ sinks.length ∧ sinks.length ≤ 8 := hok.k
  have hnn : 1 ≤ nodes ∧ nodes ≤ 64 := hok.n
  have hgs : 1 ≤ g ∧ g ≤ 255 ∧ 1 ≤ s ∧ s ≤ 65535 ∧ 4 < g * s := hok.gs
  have hww : 1 ≤ win ∧ win ≤ 16 := hok.w
  obtain ⟨bs, cz, hvs⟩ := hf.s.form
  replace hvs : vs = .slice bs sinks.length cz := hvs
  subst hvs
  obtain ⟨c, hcd⟩ : ∃ c : CfgD, c = ⟨nodes, g, s, win, que, sinks, .slice (some ⟨fb, fo, none⟩) 1 cf, (.slice bs sinks.length cz)⟩ := ⟨_, rfl⟩
  have hfs : Ints H0 (.slice bs sinks.length cz) sinks := hf.s
  have hlo : ∀ i (h : i < sinks.length), 1 ≤ sinks[i] ∧ sinks[i] ≤ (nodes : Int) - 1 := hok.lo
  rw [← hcd] at hok hf ⊢
  rw [show cfgV c = .agg #[.int .i64 (nodes : Int), .slice (some ⟨fb, fo, none⟩) 1 cf, .int .i64 (win : Int), .int .i64 (que : Int)] from by rw [hcd]; rfl]
  refine Calls.enter (args := [.agg #[.int .i64 (nodes : Int), .slice (some ⟨fb, fo, none⟩) 1 cf, .int .i64 (win : Int), .int .i64 (que : Int)], .int .i64 0, .int .i64 0, .int .u64 0]) Tryz.func35 rfl Tryz.ntmps35 rfl ?_
  refine WC.seq (WC.region (WO.step rfl (OR.box hs rfl ?_)))
  clear hs; intro g1 w hg1 hs
  refine WO.step rfl (OR.assign rfl (WO.step rfl (OR.assign rfl (WO.done (WX.seq (WC.seq (WC.seq ?_)))))))
  refine WC.region (WO.step rfl (OR.loadAll T81 rfl rfl (hs.blk (i := 0) rfl) rfl ?_))
  refine WO.step rfl (OR.call hs body47 rfl rfl (tconfig_ok ⟨nodes, g, s, win, que, sinks, .slice (some ⟨fb, fo, none⟩) 1 cf, (.slice bs sinks.length cz)⟩ (hcd ▸ hok) _ _ hs.toSub (hcd ▸ hf)) ?_)
  clear hs; rintro _ H w hs hle1 rfl; replace hle := hle.trans hle1; (try replace hlb := hlb.trans hle1)
  refine WO.step rfl (OR.not rfl (WO.step rfl (OR.move rfl ?_)))
  refine WO.guardYes rfl rfl rfl rfl (OR.move rfl (WO.guardYes rfl rfl rfl rfl (OR.lss rfl rfl (WO.step rfl (OR.pickF rfl rfl rfl (WO.step rfl (OR.move rfl ?_)))))))
  refine WO.guardYes rfl rfl rfl rfl (OR.move rfl (WO.guardYes rfl rfl rfl rfl (OR.fieldAddr FA81_1 rfl (WO.guardYes rfl rfl rfl rfl (OR.load T79 rfl rfl (hs.cellM (i := 0) rfl rfl) (WO.guardYes rfl rfl rfl rfl (OR.lenSlice T79.und rfl ?_)))))))
  refine WO.guardYes rfl rfl rfl rfl (OR.geq rfl rfl (WO.step rfl (OR.pickF rfl rfl rfl (WO.step rfl (OR.move rfl ?_)))))
  refine WO.guardYes rfl rfl rfl rfl (OR.move rfl (WO.guardYes rfl rfl rfl rfl (OR.lss rfl rfl (WO.step rfl (OR.pickF rfl rfl rfl (WO.step rfl (OR.move rfl ?_)))))))
  refine WO.guardYes rfl rfl rfl rfl (OR.move rfl (WO.guardYes rfl rfl rfl rfl (OR.fieldAddr FA81_0 rfl (WO.guardYes rfl rfl rfl rfl (OR.load T3 rfl rfl (hs.cellM (i := 0) rfl rfl) (WO.guardYes rfl rfl rfl rfl (OR.geq rfl rfl ?_)))))))
  refine WO.step rfl (OR.pickF rfl rfl rfl (WO.step rfl (OR.move rfl ?_)))
  refine WO.guardYes rfl (decide_eq_false (by omega : ¬ 0 ≥ (nodes : Int))) rfl rfl (OR.move rfl (WO.guardYes rfl (decide_eq_false (by omega : ¬ 0 ≥ (nodes : Int))) rfl rfl (OR.gtr rfl rfl (WO.step rfl (OR.pickF rfl (decide_eq_false (by omega : ¬ 0 ≥ (nodes : Int))) rfl (WO.done (WX.seq ?_)))))))
  refine WC.no rfl rfl ?_
  refine WC.skip (WX.seq (WC.seq (WC.region (WO.step rfl (OR.fieldAddr FA81_1 rfl (WO.step rfl (OR.load T79 rfl rfl (hs.cellM (i := 0) rfl rfl) ?_)))))))
  refine WO.step rfl (OR.move rfl ?_)
  refine WO.step rfl (OR.idxN 0 T79.und T78 rfl rfl rfl (by omega) ?_)
  refine WO.step rfl (OR.loadN (cs := [.int .i64 (g : Int), .int .i64 (s : Int), .int .i64 0, (.slice bs sinks.length cz)]) T78 rfl rfl rfl (fun j u hj => hs.cell (hcell.mono hle (by rw [Nat.zero_mul, Nat.add_zero]; exact hcc j u hj))) ?_)
  refine WO.step rfl (OR.alloc hs T78 ?_)
  clear hs; intro g2 w hg2 hs
  refine WO.stepN (OR.storeAll hs T78 rfl rfl rfl rfl rfl ?_)
  clear hs; intro w hs
  refine WO.done (WX.seq (WC.seq (WC.region (WO.step rfl (OR.fieldAddr FA78_3 rfl (WO.step rfl (OR.load T76 rfl rfl (hs.cellM (i := 0) rfl rfl) ?_)))))))
  refine WO.step rfl (OR.move rfl ?_)
  refine WO.step rfl (OR.call hs body94 rfl rfl (contains_ok' (.slice bs sinks.length cz) sinks 0 _ _ hs.toSub (hfs.mono hle) (by omega)) ?_)
  clear hs; rintro _ H w hs hle1 rfl; replace hle := hle.trans hle1; (try replace hlb := hlb.trans hle1)
  have hno : decide ((0 : Int) ∈ sinks) = false := decide_eq_false (fun h => by
    obtain ⟨j, hj, he⟩ := List.getElem_of_mem h
    have := (hlo j hj).1
    omega)
  rw [hno]
  refine WO.step rfl (OR.assign rfl (WO.done (WX.seq (WC.seq (WC.seq (WC.region (WO.step rfl ?_)))))))
  refine OR.move rfl (WO.step rfl (OR.gtr rfl rfl (WO.step rfl (OR.move rfl ?_))))
  refine WO.guardNo rfl rfl rfl rfl (WO.guardNo rfl rfl rfl rfl (WO.step rfl (OR.pickF rfl rfl rfl (WO.done (WX.seq (WC.no rfl rfl (WC.skip ?_)))))))
  refine WX.seq (WC.seq (WC.region (WO.step rfl (OR.loadAll T81 rfl rfl (hs.blk (i := 1) rfl) rfl (WO.step rfl (OR.loadAll T78 rfl rfl (hs.blk (i := 0) rfl) rfl (WO.step rfl ?_)))))))
  refine OR.move rfl ?_
  refine WO.step rfl (OR.makeMap hs ?_)
  clear hs; intro tb w htb hs
  refine WO.step rfl (OR.build (cs := #[.int .i64 (nodes : Int), .slice (some ⟨fb, fo, none⟩) 1 cf, .int .i64 (win : Int), .int .i64 (que : Int), .int .i64 (g : Int), .int .i64 (s : Int), .int .i64 0, (.slice bs sinks.length cz), .int .i64 0, .pointer none, .pointer none, .pointer none, .slice none 0 0, .map (some tb), .int .u64 0, .bool false, .int .u64 0, .bool false]) rfl (by intro w; kernel_rfl) ?_)
  refine WO.step rfl (OR.box hs rfl ?_)
  clear hs; intro g3 w hg3 hs
  refine WO.step rfl (OR.assign rfl (WO.done (WX.seq (WC.seq (WC.seq (WC.region (WO.step rfl ?_)))))))
  refine OR.move rfl (WO.step rfl (OR.fieldAddr FA78_2 rfl (WO.step rfl (OR.load T3 rfl rfl (hs.cellM (i := 2) rfl rfl) (WO.step rfl (OR.eql rfl rfl (WO.done ?_)))))))
  refine WX.seq ?_
  refine WC.yes rfl (decide_eq_true rfl) ?_
  refine WC.region (WO.step rfl (OR.move rfl (WO.step rfl (OR.fieldAddr FA78_0 rfl (WO.step rfl (OR.load T3 rfl rfl (hs.cellM (i := 2) rfl rfl) (WO.step rfl ?_)))))))
  refine OR.fieldAddr FA78_1 rfl (WO.step rfl (OR.load T3 rfl rfl (hs.cellM (i := 2) rfl rfl) ?_))
  refine WO.step rfl (OR.callX (Mx := []) hs body28 rfl rfl (snew_ok g s _ _ hs.toSub ⟨by omega, by omega, by omega, by omega, by have := hgs.2.2.2.2; exact_mod_cast this⟩) rfl rfl ?_)
  clear hs; rintro _ H M w hs hle1 hnew ⟨sb, o, rfl, rfl, _, hx⟩; replace hle := hle.trans hle1; (try replace hlb := hlb.trans hle1)
  refine WO.step rfl (OR.move rfl (WO.step rfl (OR.extract rfl rfl (WO.step rfl (OR.extract rfl rfl (WO.step rfl (OR.nilCheck rfl ?_)))))))
  refine WO.step rfl (OR.fieldAddr FA172_3 rfl ?_)
  replace hs := hs.front (i := 1) rfl
  refine WO.stepN (OR.store hs T66 rfl rfl rfl (Nat.le_of_ble_eq_true rfl) rfl ?_)
  clear hs; intro w hs
  refine WO.done (WX.seq (WC.seq (WC.seq (WC.region (WO.step rfl (OR.move rfl (WO.done ?_)))))))
  refine WX.seq ?_
  refine WC.no rfl rfl ?_
  refine WC.skip (WX.seq (WC.seq (WC.region (WO.step rfl (OR.move rfl ?_)))))
  have hs3 := (hs.drop 4).drop 3
  have hsF : HS [] H0 w0 H (fMem c (fN0 0) g3 tb (ptr sb) none none ++ [(sb, o, true)]) w := by
    rw [hcd]
    exact hs3.perm (List.Perm.cons _ (List.Perm.swap _ _ _))
  clear hs hs3
  refine WO.step rfl (OR.callX (Mx := fMem c (fN0 0) g3 tb (ptr sb) none none) (Mr := [(sb, o, true)]) hsF body95 rfl rfl (fwork_ok c (fN0 0) g3 tb (ptr sb) none none _ _ (HS.part hsF) trivial (Ints.nil _) (by show 0 ≤ 1000; omega) (by show 1099511627776 ≤ 1099511627776; omega) (fun p hp => by cases hp)) rfl (fMem_flags _ _ _ _ _ _ _) ?_)
  clear hsF; rintro v H2 M w hs hle2 hnew2 ⟨l', rfl, _⟩
  refine WO.done (WX.seq (WC.seq (WC.region (WO.step rfl (OR.move rfl (WO.step rfl (OR.assign rfl ?_)))))))
  refine WO.step rfl (OR.assign rfl (WO.done (WX.seq (WC.ret ?_))))
  refine WX.ret2 rfl rfl rfl ?_
  refine ⟨_, H2, _, rfl, hs, ?_, g3, tb, sb, o, rfl, rfl, by rw [hcd]; exact hx.mono hle2⟩
  intro p hp
  rcases List.mem_append.1 hp with hp | hp
  · exact List.all_eq_true.1 (fMem_flags _ _ _ _ _ _ _) p hp
  · rw [List.mem_singleton.1 hp]
set_option maxRecDepth 20000 in
set_option maxHeartbeats 2000000 in
theorem fnew_rel (c : CfgD) (hok : CfgOk c) (node : Int) (H0 : Hp) (w0 : World) (h0 : Sub H0 w0) (hf : CfgIn H0 c) (hnd : 1 ≤ node ∧ node < (c.nodes : Int)) (hns : node ∉ c.sinks) :
    Calls Tryz.prog 35 #[cfgV c, .int .i64 0, .int .i64 node, .int .u64 0] w0 (Ret [] H0 w0 fun v H' M' => ∃ xb tb rb wb l, v = .tuple #[ptr xb, .int .i64 0] ∧ M' = fMem c (fN node 1099511627776) xb tb (.pointer none) (some ⟨(newR c.g c.s c.win).moveTo 1099511627776, rb, wb, l⟩) none ∧ RlOk H' (some ⟨(newR c.g c.s c.win).moveTo 1099511627776, rb, wb, l⟩)) := by
  have hs := HS.init h0
  have hle := Hp.le.refl H0
  have hlb := Hp.le.refl H0
  obtain ⟨nodes, g, s, win, que, sinks, vf, vs⟩ := c
  obtain ⟨fb, fo, cf, ef, hcf, hcc⟩ := hf.f
  replace ef : vf = .slice (some ⟨fb, fo, none⟩) 1 cf := ef
  subst ef
  have hk1 : 1 ≤ sinks.length ∧ sinks.length ≤ 8 := hok.k
  have hnn : 1 ≤ nodes ∧ nodes ≤ 64 := hok.n
  have hgs : 1 ≤ g ∧ g ≤ 255 ∧ 1 ≤ s ∧ s ≤ 65535 ∧ 4 < g * s := hok.gs
  have hww : 1 ≤ win ∧ win ≤ 16 := hok.w
  obtain ⟨bs, cz, hvs⟩ := hf.s.form
  replace hvs : vs = .slice bs sinks.length cz := hvs
  subst hvs
  replace hnd : 1 ≤ node ∧ node < (nodes : Int) := hnd
  replace hns : node ∉ sinks := hns
  obtain ⟨c, hcd⟩ : ∃ c : CfgD, c = ⟨nodes, g, s, win, que, sinks, .slice (some ⟨fb, fo, none⟩) 1 cf, (.slice bs sinks.length cz)⟩ := ⟨_, rfl⟩
  have hfs : Ints H0 (.slice bs sinks.length cz) sinks := hf.s
  have hlo : ∀ i (h : i < sinks.length), 1 ≤ sinks[i] ∧ sinks[i] ≤ (nodes : Int) - 1 := hok.lo
  rw [← hcd] at hok hf ⊢
  rw [show cfgV c = .agg #[.int .i64 (nodes : Int), .slice (some ⟨fb, fo, none⟩) 1 cf, .int .i64 (win : Int), .int .i64 (que : Int)] from by rw [hcd]; rfl]
  refine Calls.enter (args := [.agg #[.int .i64 (nodes : Int), .slice (some ⟨fb, fo, none⟩) 1 cf, .int .i64 (win : Int), .int .i64 (que : Int)], .int .i64 0, .int .i64 node, .int .u64 0]) Tryz.func35 rfl Tryz.ntmps35 rfl ?_
  refine WC.seq (WC.region (WO.step rfl (OR.box hs rfl ?_)))
  clear hs; intro g1 w hg1 hs
  refine WO.step rfl (OR.assign rfl (WO.step rfl (OR.assign rfl (WO.done (WX.seq (WC.seq (WC.seq ?_)))))))
  refine WC.region (WO.step rfl (OR.loadAll T81 rfl rfl (hs.blk (i := 0) rfl) rfl ?_))
  refine WO.step rfl (OR.call hs body47 rfl rfl (tconfig_ok ⟨nodes, g, s, win, que, sinks, .slice (some ⟨fb, fo, none⟩) 1 cf, (.slice bs sinks.length cz)⟩ (hcd ▸ hok) _ _ hs.toSub (hcd ▸ hf)) ?_)
  clear hs; rintro _ H w hs hle1 rfl; replace hle := hle.trans hle1; (try replace hlb := hlb.trans hle1)
  refine WO.step rfl (OR.not rfl (WO.step rfl (OR.move rfl ?_)))
  refine WO.guardYes rfl rfl rfl rfl (OR.move rfl (WO.guardYes rfl rfl rfl rfl (OR.lss rfl rfl (WO.step rfl (OR.pickF rfl rfl rfl (WO.step rfl (OR.move rfl ?_)))))))
  refine WO.guardYes rfl rfl rfl rfl (OR.move rfl (WO.guardYes rfl rfl rfl rfl (OR.fieldAddr FA81_1 rfl (WO.guardYes rfl rfl rfl rfl (OR.load T79 rfl rfl (hs.cellM (i := 0) rfl rfl) (WO.guardYes rfl rfl rfl rfl (OR.lenSlice T79.und rfl ?_)))))))
  refine WO.guardYes rfl rfl rfl rfl (OR.geq rfl rfl (WO.step rfl (OR.pickF rfl rfl rfl (WO.step rfl (OR.move rfl ?_)))))
  refine WO.guardYes rfl rfl rfl rfl (OR.move rfl (WO.guardYes rfl rfl rfl rfl (OR.lss rfl rfl (WO.step rfl (OR.pickF rfl rfl rfl (WO.step rfl (OR.move rfl ?_)))))))
  refine WO.guardYes rfl (decide_eq_false (by omega : ¬ node < 0)) rfl rfl (OR.move rfl (WO.guardYes rfl (decide_eq_false (by omega : ¬ node < 0)) rfl rfl (OR.fieldAddr FA81_0 rfl (WO.guardYes rfl (decide_eq_false (by omega : ¬ node < 0)) rfl rfl (OR.load T3 rfl rfl (hs.cellM (i := 0) rfl rfl) (WO.guardYes rfl (decide_eq_false (by omega : ¬ node < 0)) rfl rfl (OR.geq rfl rfl ?_)))))))
  refine WO.step rfl (OR.pickF rfl (decide_eq_false (by omega : ¬ node < 0)) rfl (WO.step rfl (OR.move rfl ?_)))
  refine WO.guardYes rfl (decide_eq_false (by omega : ¬ node ≥ (nodes : Int))) rfl rfl (OR.move rfl (WO.guardYes rfl (decide_eq_false (by omega : ¬ node ≥ (nodes : Int))) rfl rfl (OR.gtr rfl rfl (WO.step rfl (OR.pickF rfl (decide_eq_false (by omega : ¬ node ≥ (nodes : Int))) rfl (WO.done (WX.seq ?_)))))))
  refine WC.no rfl rfl ?_
  refine WC.skip (WX.seq (WC.seq (WC.region (WO.step rfl (OR.fieldAddr FA81_1 rfl (WO.step rfl (OR.load T79 rfl rfl (hs.cellM (i := 0) rfl rfl) ?_)))))))
  refine WO.step rfl (OR.move rfl ?_)
  refine WO.step rfl (OR.idxN 0 T79.und T78 rfl rfl rfl (by omega) ?_)
  refine WO.step rfl (OR.loadN (cs := [.int .i64 (g : Int), .int .i64 (s : Int), .int .i64 0, (.slice bs sinks.length cz)]) T78 rfl rfl rfl (fun j u hj => hs.cell (hcell.mono hle (by rw [Nat.zero_mul, Nat.add_zero]; exact hcc j u hj))) ?_)
  refine WO.step rfl (OR.alloc hs T78 ?_)
  clear hs; intro g2 w hg2 hs
  refine WO.stepN (OR.storeAll hs T78 rfl rfl rfl rfl rfl ?_)
  clear hs; intro w hs
  refine WO.done (WX.seq (WC.seq (WC.region (WO.step rfl (OR.fieldAddr FA78_3 rfl (WO.step rfl (OR.load T76 rfl rfl (hs.cellM (i := 0) rfl rfl) ?_)))))))
  refine WO.step rfl (OR.move rfl ?_)
  refine WO.step rfl (OR.call hs body94 rfl rfl (contains_ok' (.slice bs sinks.length cz) sinks node _ _ hs.toSub (hfs.mono hle) (by omega)) ?_)
  clear hs; rintro _ H w hs hle1 rfl; replace hle := hle.trans hle1; (try replace hlb := hlb.trans hle1)
  rw [decide_eq_false hns]
  refine WO.step rfl (OR.assign rfl (WO.done (WX.seq (WC.seq (WC.seq (WC.region (WO.step rfl ?_)))))))
  refine OR.move rfl (WO.step rfl (OR.gtr rfl rfl (WO.step rfl (OR.move rfl ?_))))
  refine WO.guardNo rfl rfl rfl rfl (WO.guardNo rfl rfl rfl rfl (WO.step rfl (OR.pickF rfl rfl rfl (WO.done (WX.seq (WC.no rfl rfl (WC.skip ?_)))))))
  refine WX.seq (WC.seq (WC.region (WO.step rfl (OR.loadAll T81 rfl rfl (hs.blk (i := 1) rfl) rfl (WO.step rfl (OR.loadAll T78 rfl rfl (hs.blk (i := 0) rfl) rfl (WO.step rfl ?_)))))))
  refine OR.move rfl ?_
  refine WO.step rfl (OR.makeMap hs ?_)
  clear hs; intro tb w htb hs
  refine WO.step rfl (OR.build (cs := #[.int .i64 (nodes : Int), .slice (some ⟨fb, fo, none⟩) 1 cf, .int .i64 (win : Int), .int .i64 (que : Int), .int .i64 (g : Int), .int .i64 (s : Int), .int .i64 0, (.slice bs sinks.length cz), .int .i64 node, .pointer none, .pointer none, .pointer none, .slice none 0 0, .map (some tb), .int .u64 0, .bool false, .int .u64 0, .bool false]) rfl (by intro w; kernel_rfl) ?_)
  refine WO.step rfl (OR.box hs rfl ?_)
  clear hs; intro g3 w hg3 hs
  refine WO.step rfl (OR.assign rfl (WO.done (WX.seq (WC.seq (WC.seq (WC.region (WO.step rfl ?_)))))))
  refine OR.move rfl (WO.step rfl (OR.fieldAddr FA78_2 rfl (WO.step rfl (OR.load T3 rfl rfl (hs.cellM (i := 2) rfl rfl) (WO.step rfl (OR.eql rfl rfl (WO.done ?_)))))))
  refine WX.seq ?_
  refine WC.no rfl (decide_eq_false (by omega)) ?_
  refine WC.region (WO.step rfl (OR.move rfl (WO.step rfl (OR.fieldAddr FA78_0 rfl (WO.step rfl (OR.load T3 rfl rfl (hs.cellM (i := 2) rfl rfl) (WO.step rfl ?_)))))))
  refine OR.fieldAddr FA78_1 rfl (WO.step rfl (OR.load T3 rfl rfl (hs.cellM (i := 2) rfl rfl) (WO.step rfl (OR.fieldAddr FA81_2 rfl (WO.step rfl (OR.load T3 rfl rfl (hs.cellM (i := 3) rfl rfl) ?_))))))
  refine WO.step rfl (OR.callX (Mx := []) hs body12 rfl rfl (rnew_ok g s win _ _ hs.toSub ⟨by omega, by omega, by omega, by omega⟩ (by omega)) rfl rfl ?_)
  clear hs; rintro _ H M w hs hle1 hnew ⟨hHH, rb, wb, rfl, rfl⟩; replace hle := hle.trans hle1; (try replace hlb := hlb.trans hle1)
  subst hHH
  replace hs := HS.mtail (A := relMem true (newR g s win) rb wb (List.replicate 16 none)) hs
  refine WO.step rfl (OR.move rfl (WO.step rfl (OR.extract rfl rfl (WO.step rfl (OR.extract rfl rfl (WO.step rfl (OR.nilCheck rfl ?_)))))))
  refine WO.step rfl (OR.fieldAddr FA172_4 rfl (WO.stepN (OR.store hs T34 rfl rfl rfl (Nat.le_of_ble_eq_true rfl) rfl ?_)))
  clear hs; intro w hs
  refine WO.done (WX.seq (WC.seq (WC.seq (WC.region (WO.step rfl (OR.move rfl (WO.done ?_)))))))
  refine WX.seq ?_
  refine WC.no rfl rfl ?_
  refine WC.skip (WX.seq (WC.seq (WC.region (WO.step rfl (OR.move rfl ?_)))))
  have hs3 := (hs.drop 2).drop 2
  have hsF : HS [] H0 w0 H (fMem c (fN0 node) g3 tb (.pointer none) (some ⟨newR g s win, rb, wb, List.replicate 16 none⟩) none ++ []) w := by
    rw [hcd, List.append_nil]
    exact hs3
  clear hs hs3
  refine WO.step rfl (OR.callX (Mx := fMem c (fN0 node) g3 tb (.pointer none) (some ⟨newR g s win, rb, wb, List.replicate 16 none⟩) none) (Mr := []) hsF body95 rfl rfl (fwork_ok c (fN0 node) g3 tb (.pointer none) (some ⟨newR g s win, rb, wb, List.replicate 16 none⟩) none _ _ (HS.part hsF) ⟨slots_new _ _ _ _, newR_ok (by omega) hww⟩ (Ints.nil _) (by show 0 ≤ 1000; omega) (by show 1099511627776 ≤ 1099511627776; omega) (fun p hp => by cases hp)) rfl (fMem_flags _ _ _ _ _ _ _) ?_)
  clear hsF; rintro v H2 M w hs hle2 hnew2 ⟨l', rfl, hro⟩
  refine WO.done (WX.seq (WC.seq (WC.region (WO.step rfl (OR.move rfl (WO.step rfl (OR.assign rfl ?_)))))))
  refine WO.step rfl (OR.assign rfl (WO.done (WX.seq (WC.ret ?_))))
  refine WX.ret2 rfl rfl rfl ?_
  refine ⟨_, H2, _, rfl, hs, ?_, g3, tb, rb, wb, l', rfl, ?_, ?_⟩
  · intro p hp
    rw [List.append_nil] at hp
    exact List.all_eq_true.1 (fMem_flags _ _ _ _ _ _ _) p hp
  · rw [List.append_nil, hcd]
    rfl
  · rw [hcd]
    exact hro
set_option maxRecDepth 20000 in
set_option maxHeartbeats 2000000 in
theorem fnew_sink (c : CfgD) (hok : CfgOk c) (node : Int) (dl : Nat) (H0 : Hp) (w0 : World) (h0 : Sub H0 w0) (hf : CfgIn H0 c) (hnd : 1 ≤ node ∧ node < (c.nodes : Int)) (hns : node ∈ c.sinks) (hdl : dl ≤ 1099511627776) :
    Calls Tryz.prog 35 #[cfgV c, .int .i64 0, .int .i64 node, .int .u64 (dl : Int)] w0 (Ret [] H0 w0 fun v H' M' => ∃ xb tb rb wb l kb, v = .tuple #[ptr xb, .int .i64 0] ∧ M' = fMem c (fN node dl) xb tb (.pointer none) (some ⟨(newR c.g c.s c.win).moveTo dl, rb, wb, l⟩) (some (kb, ⟨c.g, c.s, dl, 0, false, false⟩)) ∧ RlOk H' (some ⟨(newR c.g c.s c.win).moveTo dl, rb, wb, l⟩)) := by
  have hs := HS.init h0
  have hle := Hp.le.refl H0
  have hlb := Hp.le.refl H0
  obtain ⟨nodes, g, s, win, que, sinks, vf, vs⟩ := c
  obtain ⟨fb, fo, cf, ef, hcf, hcc⟩ := hf.f
  replace ef : vf = .slice (some ⟨fb, fo, none⟩) 1 cf := ef
  subst ef
  have hk1 : 1 ≤ sinks.length ∧ sinks.length ≤ 8 := hok.k
  have hnn : 1 ≤ nodes ∧ nodes ≤ 64 := hok.n
  have hgs : 1 ≤ g ∧ g ≤ 255 ∧ 1 ≤ s ∧ s ≤ 65535 ∧ 4 < g * s := hok.gs
  have hww : 1 ≤ win ∧ win ≤ 16 := hok.w
  obtain ⟨bs, cz, hvs⟩ := hf.s.form
  replace hvs : vs = .slice bs sinks.length cz := hvs
  subst hvs
  replace hnd : 1 ≤ node ∧ node < (nodes : Int) := hnd
  replace hns : node ∈ sinks := hns
  obtain ⟨c, hcd⟩ : ∃ c : CfgD, c = ⟨nodes, g, s, win, que, sinks, .slice (some ⟨fb, fo, none⟩) 1 cf, (.slice bs sinks.length cz)⟩ := ⟨_, rfl⟩
  have hfs : Ints H0 (.slice bs sinks.length cz) sinks := hf.s
  have hlo : ∀ i (h : i < sinks.length), 1 ≤ sinks[i] ∧ sinks[i] ≤ (nodes : Int) - 1 := hok.lo
  rw [← hcd] at hok hf ⊢
  rw [show cfgV c = .agg #[.int .i64 (nodes : Int), .slice (some ⟨fb, fo, none⟩) 1 cf, .int .i64 (win : Int), .int .i64 (que : Int)] from by rw [hcd]; rfl]
  refine Calls.enter (args := [.agg #[.int .i64 (nodes : Int), .slice (some ⟨fb, fo, none⟩) 1 cf, .int .i64 (win : Int), .int .i64 (que : Int)], .int .i64 0, .int .i64 node, .int .u64 (dl : Int)]) Tryz.func35 rfl Tryz.ntmps35 rfl ?_
  refine WC.seq (WC.region (WO.step rfl (OR.box hs rfl ?_)))
  clear hs; intro g1 w hg1 hs
  refine WO.step rfl (OR.assign rfl (WO.step rfl (OR.assign rfl (WO.done (WX.seq (WC.seq (WC.seq ?_)))))))
  refine WC.region (WO.step rfl (OR.loadAll T81 rfl rfl (hs.blk (i := 0) rfl) rfl ?_))
  refine WO.step rfl (OR.call hs body47 rfl rfl (tconfig_ok ⟨nodes, g, s, win, que, sinks, .slice (some ⟨fb, fo, none⟩) 1 cf, (.slice bs sinks.length cz)⟩ (hcd ▸ hok) _ _ hs.toSub (hcd ▸ hf)) ?_)
  clear hs; rintro _ H w hs hle1 rfl; replace hle := hle.trans hle1; (try replace hlb := hlb.trans hle1)
  refine WO.step rfl (OR.not rfl (WO.step rfl (OR.move rfl ?_)))
  refine WO.guardYes rfl rfl rfl rfl (OR.move rfl (WO.guardYes rfl rfl rfl rfl (OR.lss rfl rfl (WO.step rfl (OR.pickF rfl rfl rfl (WO.step rfl (OR.move rfl ?_)))))))
  refine WO.guardYes rfl rfl rfl rfl (OR.move rfl (WO.guardYes rfl rfl rfl rfl (OR.fieldAddr FA81_1 rfl (WO.guardYes rfl rfl rfl rfl (OR.load T79 rfl rfl (hs.cellM (i := 0) rfl rfl) (WO.guardYes rfl rfl rfl rfl (OR.lenSlice T79.und rfl ?_)))))))
  refine WO.guardYes rfl rfl rfl rfl (OR.geq rfl rfl (WO.step rfl (OR.pickF rfl rfl rfl (WO.step rfl (OR.move rfl ?_)))))
  refine WO.guardYes rfl rfl rfl rfl (OR.move rfl (WO.guardYes rfl rfl rfl rfl (OR.lss rfl rfl (WO.step rfl (OR.pickF rfl rfl rfl (WO.step rfl (OR.move rfl ?_)))))))
  refine WO.guardYes rfl (decide_eq_false (by omega : ¬ node < 0)) rfl rfl (OR.move rfl (WO.guardYes rfl (decide_eq_false (by omega : ¬ node < 0)) rfl rfl (OR.fieldAddr FA81_0 rfl (WO.guardYes rfl (decide_eq_false (by omega : ¬ node < 0)) rfl rfl (OR.load T3 rfl rfl (hs.cellM (i := 0) rfl rfl) (WO.guardYes rfl (decide_eq_false (by omega : ¬ node < 0)) rfl rfl (OR.geq rfl rfl ?_)))))))
  refine WO.step rfl (OR.pickF rfl (decide_eq_false (by omega : ¬ node < 0)) rfl (WO.step rfl (OR.move rfl ?_)))
  refine WO.guardYes rfl (decide_eq_false (by omega : ¬ node ≥ (nodes : Int))) rfl rfl (OR.move rfl (WO.guardYes rfl (decide_eq_false (by omega : ¬ node ≥ (nodes : Int))) rfl rfl (OR.gtr rfl rfl (WO.step rfl (OR.pickF rfl (decide_eq_false (by omega : ¬ node ≥ (nodes : Int))) rfl (WO.done (WX.seq ?_)))))))
  refine WC.no rfl (decide_eq_false (by omega : ¬ (dl : Int) > 1099511627776)) ?_
  refine WC.skip (WX.seq (WC.seq (WC.region (WO.step rfl (OR.fieldAddr FA81_1 rfl (WO.step rfl (OR.load T79 rfl rfl (hs.cellM (i := 0) rfl rfl) ?_)))))))
  refine WO.step rfl (OR.move rfl ?_)
  refine WO.step rfl (OR.idxN 0 T79.und T78 rfl rfl rfl (by omega) ?_)
  refine WO.step rfl (OR.loadN (cs := [.int .i64 (g : Int), .int .i64 (s : Int), .int .i64 0, (.slice bs sinks.length cz)]) T78 rfl rfl rfl (fun j u hj => hs.cell (hcell.mono hle (by rw [Nat.zero_mul, Nat.add_zero]; exact hcc j u hj))) ?_)
  refine WO.step rfl (OR.alloc hs T78 ?_)
  clear hs; intro g2 w hg2 hs
  refine WO.stepN (OR.storeAll hs T78 rfl rfl rfl rfl rfl ?_)
  clear hs; intro w hs
  refine WO.done (WX.seq (WC.seq (WC.region (WO.step rfl (OR.fieldAddr FA78_3 rfl (WO.step rfl (OR.load T76 rfl rfl (hs.cellM (i := 0) rfl rfl) ?_)))))))
  refine WO.step rfl (OR.move rfl ?_)
  refine WO.step rfl (OR.call hs body94 rfl rfl (contains_ok' (.slice bs sinks.length cz) sinks node _ _ hs.toSub (hfs.mono hle) (by omega)) ?_)
  clear hs; rintro _ H w hs hle1 rfl; replace hle := hle.trans hle1; (try replace hlb := hlb.trans hle1)
  rw [decide_eq_true hns]
  refine WO.step rfl (OR.assign rfl (WO.done (WX.seq (WC.seq ?_))))
  refine WC.joinK (ι := Unit) (fun iu => [(2, .int .i64 node), (3, .int .u64 (dl : Int)), (4, ptr g1), (10, ptr g2), (11, .bool true)]) (fun iu w => (∃ H, Hp.le H0 H ∧ HS [] H0 w0 H [(g2, .cells #[.int .i64 (g : Int), .int .i64 (s : Int), .int .i64 0, (.slice bs sinks.length cz)] 78, true), (g1, .cells #[.int .i64 (nodes : Int), .slice (some ⟨fb, fo, none⟩) 1 cf, .int .i64 (win : Int), .int .i64 (que : Int)] 81, true)] w)) ?_ (fun iu w hW => ?_)
  · refine WC.seq (WC.region (WO.step rfl (OR.move rfl (WO.step rfl (OR.gtr rfl rfl (WO.step rfl (OR.move rfl ?_)))))))
    refine WO.guardSplit (j := 2) rfl (fun hpos => ?_) (fun hpos => ?_)
    · refine WO.guardYes rfl (decide_eq_true hpos) rfl rfl (OR.move rfl (WO.guardYes rfl (decide_eq_true hpos) rfl rfl (OR.not rfl (WO.step rfl (OR.pickT rfl (decide_eq_true hpos) rfl (WO.done (WX.seq ?_)))))))
      refine WC.no rfl rfl ?_
      refine WC.skip ?_
      refine WX.arrive (()) ⟨rfl, rfl, rfl, rfl, rfl,  trivial⟩ ?_
      exact ⟨H, hle, hs⟩
    · refine WO.guardNo rfl (decide_eq_false hpos) rfl rfl (WO.guardNo rfl (decide_eq_false hpos) rfl rfl (WO.step rfl (OR.pickF rfl (decide_eq_false hpos) rfl (WO.done (WX.seq (WC.no rfl rfl (WC.skip ?_)))))))
      refine WX.arrive (()) ⟨rfl, rfl, rfl, rfl, rfl,  trivial⟩ ?_
      exact ⟨H, hle, hs⟩
  · clear hs hle
    obtain ⟨H, hle, hs⟩ := hW
    refine WC.seq (WC.region (WO.step rfl (OR.loadAll T81 rfl rfl (hs.blk (i := 1) rfl) rfl (WO.step rfl (OR.loadAll T78 rfl rfl (hs.blk (i := 0) rfl) rfl (WO.step rfl (OR.move rfl ?_)))))))
    refine WO.step rfl (OR.makeMap hs ?_)
    clear hs; intro tb w htb hs
    refine WO.step rfl (OR.build (cs := #[.int .i64 (nodes : Int), .slice (some ⟨fb, fo, none⟩) 1 cf, .int .i64 (win : Int), .int .i64 (que : Int), .int .i64 (g : Int), .int .i64 (s : Int), .int .i64 0, (.slice bs sinks.length cz), .int .i64 node, .pointer none, .pointer none, .pointer none, .slice none 0 0, .map (some tb), .int .u64 0, .bool false, .int .u64 0, .bool false]) rfl (by intro w; kernel_rfl) ?_)
    refine WO.step rfl (OR.box hs rfl ?_)
    clear hs; intro g3 w hg3 hs
    refine WO.step rfl (OR.assign rfl (WO.done (WX.seq (WC.seq (WC.seq (WC.region (WO.step rfl ?_)))))))
    refine OR.move rfl (WO.step rfl (OR.fieldAddr FA78_2 rfl (WO.step rfl (OR.load T3 rfl rfl (hs.cellM (i := 2) rfl rfl) (WO.step rfl (OR.eql rfl rfl (WO.done ?_)))))))
    refine WX.seq ?_
    refine WC.no rfl (decide_eq_false (by omega)) ?_
    refine WC.region (WO.step rfl (OR.move rfl (WO.step rfl (OR.fieldAddr FA78_0 rfl (WO.step rfl (OR.load T3 rfl rfl (hs.cellM (i := 2) rfl rfl) (WO.step rfl ?_)))))))
    refine OR.fieldAddr FA78_1 rfl (WO.step rfl (OR.load T3 rfl rfl (hs.cellM (i := 2) rfl rfl) (WO.step rfl (OR.fieldAddr FA81_2 rfl (WO.step rfl (OR.load T3 rfl rfl (hs.cellM (i := 3) rfl rfl) ?_))))))
    refine WO.step rfl (OR.callX (Mx := []) hs body12 rfl rfl (rnew_ok g s win _ _ hs.toSub ⟨by omega, by omega, by omega, by omega⟩ (by omega)) rfl rfl ?_)
    clear hs; rintro _ H M w hs hle1 hnew ⟨hHH, rb, wb, rfl, rfl⟩; replace hle := hle.trans hle1; (try replace hlb := hlb.trans hle1)
    subst hHH
    replace hs := HS.mtail (A := relMem true (newR g s win) rb wb (List.replicate 16 none)) hs
    refine WO.step rfl (OR.move rfl (WO.step rfl (OR.extract rfl rfl (WO.step rfl (OR.extract rfl rfl (WO.step rfl (OR.nilCheck rfl ?_)))))))
    refine WO.step rfl (OR.fieldAddr FA172_4 rfl (WO.stepN (OR.store hs T34 rfl rfl rfl (Nat.le_of_ble_eq_true rfl) rfl ?_)))
    clear hs; intro w hs
    refine WO.done (WX.seq (WC.seq (WC.seq (WC.region (WO.step rfl (OR.move rfl (WO.done ?_)))))))
    refine WX.seq ?_
    refine WC.yes rfl rfl ?_
    refine WC.region (WO.step rfl (OR.move rfl (WO.step rfl (OR.fieldAddr FA78_0 rfl (WO.step rfl (OR.load T3 rfl rfl (hs.cellM (i := 2) rfl rfl) (WO.step rfl ?_)))))))
    refine OR.fieldAddr FA78_1 rfl (WO.step rfl (OR.load T3 rfl rfl (hs.cellM (i := 2) rfl rfl) (WO.step rfl (OR.move rfl ?_))))
    refine WO.step rfl (OR.callX (Mx := []) hs body10 rfl rfl (knew_ok g s dl _ _ hs.toSub) rfl rfl ?_)
    clear hs; rintro _ H M w hs hle1 hnew hkn; replace hle := hle.trans hle1; (try replace hlb := hlb.trans hle1)
    rw [if_pos ⟨by omega, hdl⟩] at hkn
    obtain ⟨kb, rfl, rfl⟩ := hkn
    replace hs : HS [] H0 w0 H ((kb, sinkObj ⟨g, s, dl, 0, false, false⟩, true) :: (g3, .cells #[.int .i64 (nodes : Int), .slice (some ⟨fb, fo, none⟩) 1 cf, .int .i64 (win : Int), .int .i64 (que : Int), .int .i64 (g : Int), .int .i64 (s : Int), .int .i64 0, (.slice bs sinks.length cz), .int .i64 node, .pointer none, ptr rb, .pointer none, .slice none 0 0, .map (some tb), .int .u64 0, .bool false, .int .u64 0, .bool false] 172, true) :: (tb, .map #[] 0, true) :: (g2, .cells #[.int .i64 (g : Int), .int .i64 (s : Int), .int .i64 0, (.slice bs sinks.length cz)] 78, true) :: (g1, .cells #[.int .i64 (nodes : Int), .slice (some ⟨fb, fo, none⟩) 1 cf, .int .i64 (win : Int), .int .i64 (que : Int)] 81, true) :: relMem true (newR g s win) rb wb (List.replicate 16 none)) w := hs
    refine WO.step rfl (OR.move rfl (WO.step rfl (OR.extract rfl rfl (WO.step rfl (OR.extract rfl rfl (WO.step rfl (OR.nilCheck rfl ?_)))))))
    refine WO.step rfl (OR.fieldAddr FA172_5 rfl ?_)
    replace hs := hs.front (i := 1) rfl
    refine WO.stepN (OR.store hs T27 rfl rfl rfl (Nat.le_of_ble_eq_true rfl) rfl ?_)
    clear hs; intro w hs
    refine WO.done (WX.seq (WC.seq (WC.region (WO.step rfl (OR.move rfl ?_)))))
    have hs3 := (hs.drop 3).drop 3
    have hsF : HS [] H0 w0 H (fMem c (fN0 node) g3 tb (.pointer none) (some ⟨newR g s win, rb, wb, List.replicate 16 none⟩) (some (kb, ⟨g, s, dl, 0, false, false⟩)) ++ []) w := by
      rw [hcd, List.append_nil]
      exact hs3.perm (List.Perm.cons _ (List.Perm.swap _ _ _))
    clear hs hs3
    refine WO.step rfl (OR.callX (Mx := fMem c (fN0 node) g3 tb (.pointer none) (some ⟨newR g s win, rb, wb, List.replicate 16 none⟩) (some (kb, ⟨g, s, dl, 0, false, false⟩))) (Mr := []) hsF body95 rfl rfl (fwork_ok c (fN0 node) g3 tb (.pointer none) (some ⟨newR g s win, rb, wb, List.replicate 16 none⟩) (some (kb, ⟨g, s, dl, 0, false, false⟩)) _ _ (HS.part hsF) ⟨slots_new _ _ _ _, newR_ok (by omega) hww⟩ (Ints.nil _) (by show 0 ≤ 1000; omega) (by show dl ≤ 1099511627776; omega) (fun p hp => by cases hp)) rfl (fMem_flags _ _ _ _ _ _ _) ?_)
    clear hsF; rintro v H2 M w hs hle2 hnew2 ⟨l', rfl, hro⟩
    refine WO.done (WX.seq (WC.seq (WC.region (WO.step rfl (OR.move rfl (WO.step rfl (OR.assign rfl ?_)))))))
    refine WO.step rfl (OR.assign rfl (WO.done (WX.seq (WC.ret ?_))))
    refine WX.ret2 rfl rfl rfl ?_
    refine ⟨_, H2, _, rfl, hs, ?_, g3, tb, rb, wb, l', kb, rfl, ?_, ?_⟩
    · intro p hp
      rw [List.append_nil] at hp
      exact List.all_eq_true.1 (fMem_flags _ _ _ _ _ _ _) p hp
    · rw [List.append_nil, hcd]
      rfl
    · rw [hcd]
      exact hro
end Go.Bw
