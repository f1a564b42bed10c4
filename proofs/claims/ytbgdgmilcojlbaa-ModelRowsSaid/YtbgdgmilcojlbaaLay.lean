/- Numbers as bytes; the symbols of a chunk. -/
import Derived.Test.YtbgdgmilcojlbaaDraws
import Derived.Test.YtbgdgmilcojlbaaChunks
namespace Go.Bw
set_option linter.unusedVariables false
set_option linter.unusedSimpArgs false
open Go.Proofs

def be8 (v : Nat) : List UInt8 := (List.range 8).map fun j => UInt8.ofNat (v / 256 ^ (7 - j))
def beN (size v : Nat) : List UInt8 := (be8 v).drop (8 - size)
theorem be8_len (v : Nat) : (be8 v).length = 8 := by simp [be8]
theorem beN_len (size v : Nat) (h : size ≤ 8) : (beN size v).length = size := by simp [beN, be8]; omega
theorem toB (n : Nat) : Value.int .u8 (IntKind.u8.wrap (n : Int)) = B (UInt8.ofNat n) := by
  rw [u8_wrap]
  show Value.int .u8 _ = Value.int .u8 ((UInt8.ofNat n).toNat : Int)
  rw [UInt8.toNat_ofNat']

set_option maxRecDepth 20000 in
set_option maxHeartbeats 2000000 in
theorem sclone_ok (v : Value) (l : List UInt8) (H0 : Hp) (w0 : World) (h0 : Sub H0 w0) (hv : Bytes H0 v l) (hl : l.length ≤ 140737488355328) :
    Calls Try.prog 181 #[v] w0 (Ret [] H0 w0 fun v H' M' => H' = H0 ∧ Own w0.heap.size 5 1 v l.length (l.map B) M') := by
  have hs := HS.init h0
  obtain ⟨base, cp, rfl⟩ := hv.form
  refine Calls.enter (args := [.slice base l.length cp]) Try.func181 rfl Try.ntmps181 rfl ?_
  refine WC.seq (WC.region (WO.step rfl (OR.assign rfl (WO.done (WX.seq (WC.seq (WC.seq ?_)))))))
  refine WC.region (WO.step rfl (OR.move rfl (WO.step rfl (OR.eqlNil T23.und rfl rfl (WO.done (WX.seq ?_))))))
  refine WC.cond rfl (fun hb => ?_) (fun hb => ?_)
  · refine WC.seq (WC.region (WO.step rfl (OR.assign rfl (WO.done (WX.seq (WC.ret (WX.seq_ret ?_)))))))
    refine WX.ret1 rfl rfl ?_
    have hb' : base = none := by cases base with | none => rfl | some a => cases hb
    subst hb'
    have h2 := Sl.src0 hv rfl
    refine ⟨_, H0, [], rfl, hs, by simp, rfl, ?_⟩
    have : l = [] := List.eq_nil_of_length_eq_zero h2
    subst this
    exact Own.nil _ _ _
  · refine WC.skip (WX.seq (WC.seq (WC.region ?_)))
    refine WO.step rfl (OR.buildSlice (vs := []) hs T23.und T5 rfl rfl rfl rfl (by simp) ?_)
    clear hs; intro g1 w hg1 hs
    refine WO.step rfl (OR.move rfl ?_)
    refine WO.step rfl (OR.append (n := 0) (cs := []) (news := l.map B) (Mo := [_]) (M := []) hs (Own.block (cap := 0) (by omega) rfl rfl hg1) T23.und T5 rfl (by omega) rfl rfl (by simp) (Sl.src hv hs) (Sl.src0 hv) (bytes_one l) (by omega) (by omega) ?_)
    clear hs; intro v' w Mo hs ho hge
    refine WO.step rfl (OR.assign rfl (WO.done (WX.seq (WC.ret ?_))))
    refine WX.ret1 rfl rfl ?_
    rw [Nat.zero_add, List.nil_append] at ho
    exact ⟨_, H0, Mo, rfl, by simpa using hs, ho.tt, rfl, ho⟩

set_option maxRecDepth 20000 in
set_option maxHeartbeats 2000000 in
theorem num_ok (vd : Value) (l : List UInt8) (v size : Nat) (H0 : Hp) (w0 : World) (h0 : Sub H0 w0) (hl : Bytes H0 vd l) (hll : l.length ≤ 100000000000000) (hv : v < 256 ^ size) (hv64 : v < 18446744073709551616) (hsz : 1 ≤ size ∧ size ≤ 8) :
    Calls Try.prog 160 #[vd, .int .u64 (v : Int), .int .i64 (size : Int)] w0 (Ret [] H0 w0 fun r H' M' => ∃ v1, r = .tuple #[v1, .int .i64 0] ∧ Own w0.heap.size 5 1 v1 (l.length + size) ((l ++ beN size v).map B) M') := by
  have hs := HS.init h0
  have hle := Hp.le.refl H0
  obtain ⟨b1, c1, rfl⟩ := hl.form
  refine Calls.enter (args := [.slice b1 l.length c1, .int .u64 (v : Int), .int .i64 (size : Int)]) Try.func160 rfl Try.ntmps160 rfl ?_
  refine WC.seq (WC.region (WO.step rfl (OR.assign rfl (WO.step rfl (OR.assign rfl (WO.done (WX.seq ?_)))))))
  refine WC.seq (WC.seq (WC.region (WO.step rfl (OR.move rfl (WO.step rfl (OR.lss rfl rfl (WO.step rfl ?_)))))))
  refine OR.move rfl ?_
  refine WO.guardYes rfl (decide_eq_false (by omega : ¬ (size : Int) < 1)) rfl rfl (OR.move rfl (WO.guardYes rfl (decide_eq_false (by omega : ¬ (size : Int) < 1)) rfl rfl (OR.gtr rfl rfl (WO.step rfl (OR.pickF rfl (decide_eq_false (by omega : ¬ (size : Int) < 1)) rfl (WO.done (WX.seq ?_)))))))
  refine WC.no rfl (decide_eq_false (by omega)) ?_
  refine WC.skip (WX.seq (WC.seq (WC.region (WO.step rfl (OR.alloc hs T237 ?_)))))
  clear hs; intro g1 w hg1 hs
  refine WO.done (WX.seq (WC.seq (WC.seq (WC.region (WO.step rfl (OR.move rfl (WO.done ?_)))))))
  refine WX.seq (WC.block ?_)
  refine WC.loop (ι := Nat × Nat) (fun ix => [(0, .slice b1 l.length c1), (1, .int .u64 (ix.2 : Int)), (2, .int .i64 (size : Int)), (8, ptr g1), (18, .int .i64 (ix.1 : Int))]) (fun ix w => (ix.1 ≤ 8 ∧ ix.2 = v / 256 ^ ix.1 ∧ ∃ c : List Value, c.length = 8 ∧ (∀ j, 8 - ix.1 ≤ j → j < 8 → c[j]? = some (B (UInt8.ofNat (v / 256 ^ (7 - j))))) ∧ ∃ H, Hp.le H0 H ∧ HS [] H0 w0 H [(g1, .cells c.toArray 237, true)] w)) (fun ix => 8 - ix.1) (0, v) ⟨rfl, rfl, rfl, rfl, rfl,  trivial⟩ ?_ (fun ix w hW => ?_)
  · refine ⟨by omega, by simp, List.replicate 8 (.int .u8 0), by simp, fun j h1 h2 => by omega, H0, hle, hs⟩
  clear hs hle
  obtain ⟨i, cur⟩ := ix
  obtain ⟨hi, hcur, c, hcl, hc, H, hle, hs⟩ := hW
  simp only at hi hcur hc
  subst hcur
  refine WC.seq (WC.region (WO.step rfl (OR.lss rfl rfl (WO.done (WX.seq (WC.seq ?_))))))
  refine WC.condD rfl (fun hlt => ?_) (fun hlt => ?_)
  · have hi' : i < 8 := by omega
    refine WC.skip (WX.seq (WC.seq (WC.block (WC.seq (WC.region (WO.step rfl (OR.move rfl ?_)))))))
    refine WO.step rfl (OR.assign rfl (WO.done (WX.seq (WC.seq (WC.region (WO.step rfl (OR.move rfl ?_)))))))
    refine WO.step rfl (OR.subI rfl rfl (by omega) (by omega) (WO.step rfl (OR.move rfl ?_)))
    refine WO.step rfl (OR.convI T58.und T5.und rfl ?_)
    rw [toB]
    refine WO.step rfl (OR.idxArr (7 - i) T237.und T5 rfl rfl (by omega) (by omega) ?_)
    refine WO.stepN (OR.store hs T5 rfl rfl rfl (by simp [hcl]) rfl ?_)
    clear hs; intro w hs
    refine WO.done (WX.seq (WC.region (WO.step rfl (OR.move rfl ?_))))
    refine WO.step rfl (OR.shr rfl rfl (by omega) ?_)
    have hsh : ((v / 256 ^ i : Nat) : Int).fdiv (2 ^ (min (8 : Int).toNat IntKind.u64.bits)) = ((v / 256 ^ (i + 1) : Nat) : Int) := by
      have e1 : (2 ^ (min (8 : Int).toNat IntKind.u64.bits) : Int) = ((256 : Nat) : Int) := rfl
      rw [e1, Int.fdiv_eq_ediv_of_nonneg _ (by omega), Nat.pow_succ, ← Nat.div_div_eq_div_mul]
      rfl
    rw [hsh]
    refine WO.step rfl (OR.assign rfl (WO.done (WX.block (WX.seq (WC.region (WO.step rfl (OR.addI rfl rfl (by omega) (by omega) ?_)))))))
    refine WO.step rfl (OR.move rfl (WO.done ?_))
    refine WX.again ((i + 1, v / 256 ^ (i + 1))) ⟨rfl, rfl, rfl, rfl, rfl,  trivial⟩ ?_ ?_
    · refine ⟨hi', rfl, _, by rw [setL_length]; exact hcl, fun j h1 h2 => ?_, H, hle, hs⟩
      rw [Nat.zero_add]
      show (setL c (7 - i) [B _])[j]? = _
      rw [setL_step, setL_nil]
      by_cases e : j = 7 - i
      · subst e
        rw [List.getElem?_set_self (by omega)]
        have : 7 - (7 - i) = i := by omega
        rw [this]
      · rw [List.getElem?_set_ne (Ne.symm e)]
        exact hc j (by simp only at h1; omega) h2
    · simp only; omega
  · have e : i = 8 := by omega
    subst e
    have hcb : c = (be8 v).map B := by
      apply List.ext_getElem?
      intro j
      by_cases hj : j < 8
      · rw [hc j (by omega) hj]
        simp [be8, hj]
      · rw [List.getElem?_eq_none (by omega), List.getElem?_eq_none (by simp [be8]; omega)]
    subst hcb
    refine WC.exit (WX.seq_exit (WX.loop_exit (WX.block_hit (WX.seq (WC.seq (WC.seq (WC.region ?_)))))))
    refine WO.step rfl (OR.move rfl (WO.step rfl (OR.subI rfl rfl (by omega) (by omega) ?_)))
    refine WO.step rfl (OR.sliceArrHi (8 - size) T237.und T5 rfl rfl (by omega) (by omega) ?_)
    refine WO.step rfl (OR.lenSlice T23.und rfl (WO.step rfl (OR.move rfl (WO.done (WX.seq (WC.block ?_))))))
    refine WC.loop (ι := Nat) (fun j => [(0, .slice b1 l.length c1), (2, .int .i64 (size : Int)), (8, ptr g1), (31, .slice (some ⟨g1, 0, none⟩) (8 - size) 8), (32, .int .i64 ((8 - size : Nat) : Int)), (33, .int .i64 (j : Int))]) (fun j w => (j ≤ 8 - size ∧ ∃ H, Hp.le H0 H ∧ HS [] H0 w0 H [(g1, .cells ((be8 v).map B).toArray 237, true)] w)) (fun j => 8 - size - j) 0 ⟨rfl, rfl, rfl, rfl, rfl, rfl,  trivial⟩ ?_ (fun j w hW => ?_)
    · exact ⟨by omega, H, hle, hs⟩
    clear hs hle
    obtain ⟨hj, H, hle, hs⟩ := hW
    refine WC.seq (WC.region (WO.step rfl (OR.lss rfl rfl (WO.done (WX.seq (WC.seq ?_))))))
    refine WC.condD rfl (fun hlt2 => ?_) (fun hlt2 => ?_)
    · have hj' : j < 8 - size := by omega
      have hz : (be8 v)[j]? = some 0 := by
        have h1 : v / 256 ^ (7 - j) = 0 := Nat.div_eq_of_lt (Nat.lt_of_lt_of_le hv (Nat.pow_le_pow_right (by omega) (by omega)))
        simp [be8, show j < 8 by omega, h1]
      refine WC.skip (WX.seq (WC.seq (WC.block (WC.seq (WC.region ?_)))))
      refine WO.step rfl (OR.idx j T23.und T5 rfl rfl rfl hj' ?_)
      refine WO.step rfl (OR.load T5 rfl rfl (hs.cellM (i := 0) (v := B 0) rfl (by rw [nth_eq, Nat.zero_add]; simp [hz])) ?_)
      refine WO.step rfl (OR.assign rfl (WO.done (WX.seq (WC.seq (WC.region (WO.step rfl (OR.move rfl ?_)))))))
      refine WO.step rfl (OR.neq rfl rfl (WO.done (WX.seq ?_)))
      refine WC.no rfl (decide_eq_false (by decide)) ?_
      refine WC.skip (WX.block (WX.seq (WC.region (WO.step rfl (OR.addI rfl rfl (by omega) (by omega) (WO.step rfl (OR.move rfl ?_)))))))
      refine WO.done ?_
      refine WX.again (j + 1) ⟨rfl, rfl, rfl, rfl, rfl, rfl,  trivial⟩ ?_ ?_
      · exact ⟨hj', H, hle, hs⟩
      · omega
    · refine WC.exit (WX.seq_exit (WX.loop_exit (WX.block_hit (WX.seq (WC.seq ?_)))))
      refine WC.draw 5 mixed hs (by kernel_rfl) ?_
      refine ⟨MF.eq _, by intro Mx H w hle hs; refine forVals_nil (ORg.plain (OR.move rfl ?_)); exact ⟨_, [], Hp.le.refl _, hs, rfl, rfl⟩, ?_⟩
      refine ⟨MF.own w0.heap.size 5 1 l.length (l.map B), ?_, ?_⟩
      · intro Mx H w hle2 hs; (try replace hle := hle.trans hle2); (try replace hlb := hlb.trans hle2); refine forVals_eq rfl rfl rfl ?_
        refine forVals_nil (ORg.plain (OR.callX (Mx := []) hs body181 rfl rfl (sclone_ok _ l _ _ hs.toSub (hl.mono hle) (by omega)) rfl rfl ?_))
        have hsz2 := hs.size
        clear hs; rintro v H1 M1 w hs hle1 hnew ⟨rfl, ho⟩
        exact ⟨_, M1, hle1, hs, ho.mono hsz2⟩
      refine ⟨MF.eq _, by intro Mx H w hle hs; refine forVals_nil (ORg.plain (OR.move rfl ?_)); exact ⟨_, [], Hp.le.refl _, hs, rfl, rfl⟩, ?_⟩
      refine ⟨MF.eq _, by intro Mx H w hle hs; refine forVals_eq rfl rfl rfl ?_; refine forVals_nil (ORg.plain (OR.subI rfl rfl (by omega) (by omega) ?_)); exact ⟨_, [], Hp.le.refl _, hs, rfl, rfl⟩, ?_⟩
      refine ⟨MF.eq (.slice (some ⟨g1, (8 - size) * 1, none⟩) (8 - (8 - size)) (8 - (8 - size))), ?_, ?_⟩
      · intro Mx H w hle2 hs; (try replace hle := hle.trans hle2); (try replace hlb := hlb.trans hle2); refine forVals_eq rfl rfl rfl ?_
        refine forVals_nil (ORg.plain (OR.sliceArrLo (8 - size) T237.und T5 rfl rfl (by omega) (by omega) ?_))
        exact ⟨_, [], Hp.le.refl _, hs, rfl, rfl⟩
      intro H w hle2; (try replace hle := hle.trans hle2); (try replace hlb := hlb.trans hle2)
      refine forAllVals_eq rfl ?_
      refine forAllVals_cons rfl ?_; intro v1 M1 h1
      refine forAllVals_eq rfl ?_
      refine forAllVals_eq rfl ?_
      refine forAllVals_eq rfl ?_
      refine forAllVals_nil ?_; (try clear hs); intro hs
      have hgb := (hs.mem g1 _ true (List.mem_append_right _ (List.mem_cons_self ..))).1
      have hbl := beN_len size v hsz.2
      refine WO.step rfl (OR.append (m := 8 - (8 - size)) (news := (beN size v).map B) hs h1 T23.und T5 rfl (by omega) rfl rfl (by rw [List.length_map, hbl]; omega) (fun a ha j u hj => by cases ha; exact cells_at hgb (by rw [beN, List.map_drop] at hj; have := get_drop hj; simpa using this)) (fun h => by cases h) (bytes_one _) (by omega) (by omega) ?_)
      clear hs; intro v' w Mo hs ho hge
      refine WO.step rfl (OR.assign rfl (WO.step rfl (OR.assign rfl (WO.done (WX.seq (WC.ret ?_))))))
      refine WX.ret2 rfl rfl rfl ?_
      have e9 : l.length + (8 - (8 - size)) = l.length + size := by omega
      rw [e9, ← List.map_append] at ho
      have hs2 : HS [] H0 w0 H (Mo ++ []) w := hs.dropMid
      rw [List.append_nil] at hs2
      exact ⟨_, H, Mo, rfl, hs2, ho.tt, _, rfl, ho⟩


def layAll (g s : Nat) (chunk : List UInt8) : List UInt8 := beN 4 chunk.length ++ chunk ++ List.replicate (g * s - 4 - chunk.length) 0
def layF (g s : Nat) (chunk : List UInt8) : List (List UInt8) := (List.range g).map fun i => ((layAll g s chunk).drop (s * i)).take s
theorem layAll_len {g s : Nat} {chunk : List UInt8} (h1 : 4 < g * s) (h : chunk.length ≤ g * s - 4) : (layAll g s chunk).length = g * s := by
  simp [layAll, beN_len 4 _ (by omega)]; omega
theorem Bytes.part3 {H : Hp} {c : Nat} {b : Option Addr} {l : List UInt8} (h : Bytes H (.slice b l.length c) l) (m k : Nat) (h1 : m < k) (h2 : k ≤ l.length) :
    Bytes H (.slice (if k = m then b else b.map (·.add (m * 1))) (k - m) (k - m)) ((l.drop m).take (k - m)) := by
  have h3 := h.part m k (by omega) h2
  have h4 := h.cap_le
  rw [if_neg (by omega)] at h3 ⊢
  have e : ((l.drop m).take (k - m)).length = k - m := by simp; omega
  unfold Bytes at h3 ⊢
  rw [e] at h3 ⊢
  exact Sl.cap h3 (k - m) (Nat.le_refl _) (by omega)

set_option maxRecDepth 20000 in
set_option maxHeartbeats 2000000 in
theorem lay_ok (g s : Nat) (vc : Value) (chunk : List UInt8) (H0 : Hp) (w0 : World) (h0 : Sub H0 w0) (hgs : 1 ≤ g ∧ g ≤ 255 ∧ 1 ≤ s ∧ s ≤ 65535 ∧ 4 < g * s) (hc : Bytes H0 vc chunk) (hl1 : 1 ≤ chunk.length) (hl2 : chunk.length ≤ g * s - 4) :
    Calls Try.prog 107 #[vc, .int .i64 (g : Int), .int .i64 (s : Int)] w0 (Pure H0 w0 fun v H' => ∃ r, v = .tuple #[r, .int .i64 0] ∧ BytesL H' r (layF g s chunk)) := by
  have hs := HS.init h0
  have hle := Hp.le.refl H0
  obtain ⟨hg1, hg2, hs1, hs2, hgs4⟩ := hgs
  have hmul : g * s ≤ 255 * 65535 := Nat.mul_le_mul hg2 hs2
  obtain ⟨bc, cc, rfl⟩ := hc.form
  have hal := layAll_len hgs4 hl2
  have hmc : (g : Int) * (s : Int) = ((g * s : Nat) : Int) := by rw [Int.natCast_mul]
  have hb1 : (0 : Int) ≤ (g : Int) * (s : Int) := by rw [hmc]; omega
  have hb2 : (g : Int) * (s : Int) ≤ 16711425 := by rw [hmc]; omega
  refine Calls.enter (args := [.slice bc chunk.length cc, .int .i64 (g : Int), .int .i64 (s : Int)]) Try.func107 rfl Try.ntmps107 rfl ?_
  refine WC.seq (WC.region (WO.step rfl (OR.assign rfl (WO.step rfl (OR.assign rfl (WO.done (WX.seq ?_)))))))
  refine WC.seq (WC.region (WO.step rfl (OR.move rfl (WO.step rfl (OR.move rfl ?_)))))
  refine WO.step rfl (OR.call hs body141 rfl rfl (room_ok (g : Int) (s : Int) _ _ hs.toSub) ?_)
  clear hs; rintro _ H w hs hle1 rfl; replace hle := hle.trans hle1; (try replace hlb := hlb.trans hle1)
  have hrc : (g : Int) * (s : Int) - 4 = ((g * s - 4 : Nat) : Int) := by rw [hmc]; omega
  rw [if_pos (show 1 ≤ (g : Int) ∧ (g : Int) ≤ 255 ∧ 1 ≤ (s : Int) ∧ (s : Int) ≤ 65535 ∧ 4 < (g : Int) * (s : Int) from ⟨by omega, by omega, by omega, by omega, by rw [hmc]; omega⟩), hrc]
  refine WO.step rfl (OR.move rfl (WO.step rfl (OR.extract rfl rfl (WO.step rfl (OR.extract rfl rfl (WO.step rfl (OR.assign rfl ?_)))))))
  refine WO.step rfl (OR.assign rfl (WO.done (WX.seq (WC.seq (WC.block (WC.seq (WC.region ?_)))))))
  refine WO.step rfl (OR.move rfl (WO.step rfl (OR.neq rfl rfl (WO.step rfl (OR.assign rfl (WO.done (WX.seq ?_)))))))
  refine WC.no rfl (decide_eq_false (by omega)) ?_
  refine WC.seq (WC.region (WO.step rfl (OR.move rfl (WO.step rfl (OR.lenSlice T23.und rfl (WO.step rfl (OR.eql rfl rfl ?_)))))))
  refine WO.step rfl (OR.assign rfl (WO.done (WX.seq ?_)))
  refine WC.no rfl (decide_eq_false (by omega)) ?_
  refine WC.seq (WC.region (WO.step rfl (OR.move rfl (WO.step rfl (OR.lenSlice T23.und rfl (WO.step rfl (OR.move rfl ?_)))))))
  refine WO.step rfl (OR.gtr rfl rfl (WO.step rfl (OR.assign rfl (WO.done (WX.seq ?_)))))
  refine WC.no rfl (decide_eq_false (by omega)) ?_
  refine WC.skip (WX.block (WX.seq (WC.seq (WC.region (WO.step rfl (OR.move rfl (WO.step rfl ?_)))))))
  refine OR.lenSlice T23.und rfl ?_
  refine WO.step rfl (OR.convI T3.und T58.und rfl ?_)
  rw [IntWalk.u64_in (chunk.length : Int) (by omega)]
  have h256 : chunk.length < 256 ^ 4 := Nat.lt_of_le_of_lt (by omega : chunk.length ≤ 16711425) (by decide)
  have hszc := hs.size
  refine WO.step rfl (OR.callX (Mx := []) hs body160 rfl rfl (num_ok (.slice none 0 0) [] chunk.length 4 _ _ hs.toSub (Bytes.nil _) (by simp) h256 (by omega) (by omega)) rfl rfl ?_)
  clear hs; rintro _ H Mo w hs hle1 hnew ⟨v1, rfl, ho⟩; replace hle := hle.trans hle1; (try replace hlb := hlb.trans hle1)
  rw [List.nil_append] at ho
  replace ho := ho.mono hszc
  refine WO.step rfl (OR.move rfl (WO.step rfl (OR.extract rfl rfl (WO.step rfl (OR.extract rfl rfl (WO.step rfl (OR.assign rfl ?_)))))))
  refine WO.step rfl (OR.assign rfl (WO.done (WX.seq (WC.seq (WC.region (WO.step rfl (OR.move rfl ?_)))))))
  refine WO.step rfl (OR.move rfl ?_)
  refine WO.step rfl (OR.append (m := chunk.length) (news := chunk.map B) hs ho T23.und T5 rfl (by omega) rfl rfl (by simp) (Sl.src (hc.mono hle) hs) (Sl.src0 hc) (bytes_one _) (by simp; omega) (by simp; omega) ?_)
  clear hs ho; intro v2 w Mo2 hs ho hge
  refine WO.step rfl (OR.move rfl (WO.step rfl (OR.move rfl (WO.step rfl (OR.lenSlice T23.und rfl (WO.step rfl (OR.subI rfl rfl (by omega) (by omega) ?_)))))))
  have hsubI : ((g * s - 4 : Nat) : Int) - (chunk.length : Int) = ((g * s - 4 - chunk.length : Nat) : Int) := by omega
  rw [hsubI]
  refine WO.step rfl (OR.appendZ (m := g * s - 4 - chunk.length) (Nat.le_refl _) hs ho T23.und T5 rfl T3.und rfl rfl rfl (by simp; omega) (by simp; omega) ?_)
  clear hs ho; intro v3 w Mo3 hs ho
  obtain ⟨H3, hle3, hs, hsl3, _⟩ := HS.pub hs ho
  replace hle := hle.trans hle3
  have hall : Bytes H3 v3 (layAll g s chunk) := by
    unfold Bytes
    rw [hal]
    have e1 : ([] : List UInt8).length + 4 + chunk.length + (g * s - 4 - chunk.length) = g * s := by simp; omega
    have e2 : (layAll g s chunk).map B = (beN 4 chunk.length).map B ++ chunk.map B ++ List.replicate (g * s - 4 - chunk.length) (B 0) := by simp [layAll]
    rw [e1] at hsl3
    rw [e2]
    exact hsl3
  obtain ⟨HB, hHB⟩ : ∃ X, X = H3 := ⟨_, rfl⟩
  subst hHB
  generalize hAL : layAll g s chunk = AL at hall hal
  obtain ⟨b3, c3, rfl⟩ := hall.form
  refine WO.step rfl (OR.assign rfl (WO.done (WX.seq (WC.seq (WC.region (WO.step rfl (OR.assign rfl ?_)))))))
  refine WO.done (WX.seq (WC.seq (WC.seq (WC.region (WO.step rfl (OR.assign rfl (WO.done ?_)))))))
  refine WX.seq (WC.block ?_)
  refine WC.loop (ι := Nat × Value) (fun ix => [(1, .int .i64 (g : Int)), (2, .int .i64 (s : Int)), (10, .slice b3 AL.length c3), (12, ix.2), (13, .int .i64 ((s * ix.1 : Nat) : Int))]) (fun ix w => (ix.1 ≤ g ∧ ∃ H cl Mo, Hp.le H0 H ∧ Hp.le HB H ∧ BLOk H cl ((List.range ix.1).map fun i => (AL.drop (s * i)).take s) ∧ Own w0.heap.size 23 1 ix.2 ix.1 cl Mo ∧ HS [] H0 w0 H (Mo ++ []) w)) (fun ix => g - ix.1) (0, .slice none 0 0) ⟨rfl, rfl, rfl, rfl, rfl,  trivial⟩ ?_ (fun ix w hW => ?_)
  · exact ⟨by omega, HB, [], [], hle, Hp.le.refl _, BLOk.nil _, Own.nil _ _ _, hs⟩
  clear hs hle ho hsl3
  obtain ⟨k, vo⟩ := ix
  obtain ⟨hk, H, cl, Mo, hle, hlb, hok, ho, hs⟩ := hW
  simp only at hk hok ho
  have hskg : s * k ≤ g * s := by rw [Nat.mul_comm g s]; exact Nat.mul_le_mul_left s hk
  refine WC.seq (WC.seq (WC.region (WO.step rfl (OR.move rfl (WO.step rfl (OR.move rfl (WO.step rfl ?_)))))))
  refine OR.move rfl (WO.step rfl (OR.mulI rfl rfl (by omega) (by omega) (WO.step rfl (OR.lss rfl rfl (WO.done (WX.seq ?_))))))
  refine WC.condD rfl (fun hlt => ?_) (fun hlt => ?_)
  · have hlt2 : s * k < s * g := by rw [Nat.mul_comm s g]; rw [hmc] at hlt; exact Int.ofNat_lt.1 hlt
    have hk' : k < g := Nat.lt_of_mul_lt_mul_left hlt2
    have hks : s * k + s ≤ g * s := by
      have := Nat.mul_le_mul_left s (show k + 1 ≤ g from hk')
      rw [Nat.mul_succ] at this
      rw [Nat.mul_comm g s]; exact this
    have hpc := hall.part3 (s * k) (s * k + s) (by omega) (by rw [hal]; exact hks)
    have hksI : ((s * k : Nat) : Int) + (s : Int) = ((s * k + s : Nat) : Int) := rfl
    have hksJ : ((s * k + s : Nat) : Int) ≤ 16711425 := Int.ofNat_le.2 (Nat.le_trans hks hmul)
    have hcap3 : s * k + s ≤ c3 := Nat.le_trans hks (by rw [← hal]; exact hall.cap_le)
    refine WC.skip (WX.seq (WC.seq (WC.block (WC.region (WO.step rfl (OR.move rfl (WO.step rfl ?_)))))))
    refine OR.move rfl (WO.step rfl (OR.move rfl (WO.step rfl (OR.move rfl (WO.step rfl (OR.move rfl (WO.step rfl ?_)))))))
    refine OR.addI rfl rfl (by omega) (by omega) (WO.step rfl (OR.move rfl (WO.step rfl (OR.move rfl (WO.step rfl (OR.addI rfl rfl (by omega) (by omega) ?_))))))
    refine WO.step rfl (OR.slice3G (s * k) (s * k + s) (s * k + s) T23.und T5 rfl rfl rfl rfl hksI rfl hksI (Nat.le_add_right _ _) (Nat.le_refl _) hcap3 ?_)
    refine WO.step rfl (OR.buildSlice (vs := [_]) hs T22.und T23 rfl rfl rfl rfl (by simp) ?_)
    clear hs; intro g3 w hg3 hs
    have hb9 := hs.blk (i := 0) rfl
    replace hs := hs.sink
    refine WO.step rfl (OR.append (m := 1) (news := [_]) hs ho T22.und T23 rfl (by omega) rfl rfl rfl (cells_of hb9) (fun h => by cases h) rfl (by omega) (by omega) ?_)
    clear hs ho; intro vo' w Mo' hs ho hge
    replace hs := hs.dropMid
    refine WO.step rfl (OR.assign rfl (WO.done (WX.block (WX.seq (WC.region (WO.step rfl (OR.move rfl ?_)))))))
    refine WO.step rfl (OR.move rfl (WO.step rfl (OR.addI rfl rfl (by omega) (by omega) (WO.step rfl (OR.assign rfl (WO.done ?_))))))
    refine WX.again ((k + 1, vo')) ⟨rfl, rfl, rfl, rfl, rfl,  trivial⟩ ?_ ?_
    · refine ⟨hk', H, cl ++ [_], Mo', hle, hlb, ?_, ho, hs⟩
      have e9 : s * k + s - s * k = s := by omega
      rw [e9] at hpc ⊢
      rw [List.range_succ, List.map_append, List.map_singleton]
      exact hok.snoc (hpc.mono hlb)
    · simp only; omega
  · have hkg : k = g := by
      rcases Nat.lt_or_ge k g with h | h
      · exfalso
        have := Nat.mul_lt_mul_of_pos_left h (show 0 < s by omega)
        rw [Nat.mul_comm s g] at this
        rw [hmc] at hlt
        exact hlt (Int.ofNat_lt.2 this)
      · omega
    subst hkg
    refine WC.exit (WX.seq_exit (WX.loop_exit (WX.block_hit (WX.seq (WC.seq (WC.region (WO.step rfl ?_)))))))
    refine OR.move rfl (WO.step rfl (OR.assign rfl (WO.step rfl (OR.assign rfl (WO.done (WX.seq (WC.ret ?_)))))))
    refine WX.ret2 rfl rfl rfl ?_
    obtain ⟨H4, hle4, hs4, hsl4, _⟩ := HS.pub hs ho
    refine .mk hs4 ⟨_, rfl, ?_⟩
    rw [layF, hAL]
    exact (hok.mono hle4).bytesL (by simpa using hsl4)

end Go.Bw
