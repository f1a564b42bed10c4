/- Numbers as bytes; the symbols of a chunk. -/
import Derived.Test.YtdibepkfgemddaaGreatDraws
import Derived.Test.YtdibepkfgemddaaGreatSrc1
import Derived.Test.YtdibepkfgemddaaGreatGone
namespace Go.Bw
set_option linter.unusedVariables false
set_option linter.unusedSimpArgs false
open Go.Proofs

def be8 (v : Nat) : List UInt8 := (List.range 8).map fun j => UInt8.ofNat (v / 256 ^ (7 - j))
def beN (size v : Nat) : List UInt8 := (be8 v).drop (8 - size)
theorem be8_len (v : Nat) : (be8 v).length = 8 := by simp [be8]
theorem beN_len (size v : Nat) (h : size ≤ 8) : (beN size v).length = size := by simp [beN, be8]; omega
theorem toB (n : Nat) : Value.int .u8 (IntKind.u8.wrap (n : Int)) = B (UInt8.ofNat n) := by
  rw [u8_wrap]
  show Value.int .u8 _ = Value.int .u8 ((UInt8.ofNat n).toNat : Int)
  rw [UInt8.toNat_ofNat']

set_option maxRecDepth 20000 in
set_option maxHeartbeats 2000000 in
theorem sclone_ok (v : Value) (l : List UInt8) (H0 : Hp) (w0 : World) (h0 : Sub H0 w0) (hv : Bytes H0 v l) (hl : l.length ≤ 140737488355328) :
    Calls Tryz.prog 175 #[v] w0 (Ret [] H0 w0 fun v H' M' => H' = H0 ∧ Own w0.heap.size 5 1 v l.length (l.map B) M') := by
  have hs := HS.init h0
  obtain ⟨base, cp, rfl⟩ := hv.form
  refine Calls.enter (args := [.slice base l.length cp]) Tryz.func175 rfl Tryz.ntmps175 rfl ?_
  refine WC.seq (WC.region (WO.step rfl (OR.assign rfl (WO.done (WX.seq (WC.seq (WC.seq ?_)))))))
  refine WC.region (WO.step rfl (OR.move rfl (WO.step rfl (OR.eqlNil T43.und rfl rfl (WO.done (WX.seq ?_))))))
  refine WC.cond rfl (fun hb => ?_) (fun hb => ?_)
  · refine WC.seq (WC.region (WO.step rfl (OR.assign rfl (WO.done (WX.seq (WC.ret (WX.seq_ret ?_)))))))
    refine WX.ret1 rfl rfl ?_
    have hb' : base = none := by cases base with | none => rfl | some a => cases hb
    subst hb'
    have h2 := Sl.src0 hv rfl
    refine ⟨_, H0, [], rfl, hs, by simp, rfl, ?_⟩
    have : l = [] := List.eq_nil_of_length_eq_zero h2
    subst this
    exact Own.nil _ _ _
  · refine WC.skip (WX.seq (WC.seq (WC.region ?_)))
    refine WO.step rfl (OR.buildSlice (vs := []) hs T43.und T5 rfl rfl rfl rfl (by simp) ?_)
    clear hs; intro g1 w hg1 hs
    refine WO.step rfl (OR.move rfl ?_)
    refine WO.step rfl (OR.append (n := 0) (cs := []) (news := l.map B) (Mo := [_]) (M := []) hs (Own.block (cap := 0) (by omega) rfl rfl hg1) T43.und T5 rfl (by omega) rfl rfl (by simp) (Sl.src hv hs) (Sl.src0 hv) (bytes_one l) (by omega) (by omega) ?_)
    clear hs; intro v' w Mo hs ho hge
    refine WO.step rfl (OR.assign rfl (WO.done (WX.seq (WC.ret ?_))))
    refine WX.ret1 rfl rfl ?_
    rw [Nat.zero_add, List.nil_append] at ho
    exact ⟨_, H0, Mo, rfl, by simpa using hs, ho.tt, rfl, ho⟩

set_option maxRecDepth 20000 in
set_option maxHeartbeats 2000000 in
theorem num_ok (vd : Value) (l : List UInt8) (v size : Nat) (H0 : Hp) (w0 : World) (h0 : Sub H0 w0) (hl : Bytes H0 vd l) (hll : l.length ≤ 100000000000000) (hv : v < 256 ^ size) (hv64 : v < 18446744073709551616) (hsz : 1 ≤ size ∧ size ≤ 8) :
    Calls Tryz.prog 146 #[vd, .int .u64 (v : Int), .int .i64 (size : Int)] w0 (Ret [] H0 w0 fun r H' M' => ∃ v1, r = .tuple #[v1, .int .i64 0] ∧ Own w0.heap.size 5 1 v1 (l.length + size) ((l ++ beN size v).map B) M') := by
  have hs := HS.init h0
  have hle := Hp.le.refl H0
  obtain ⟨b1, c1, rfl⟩ := hl.form
  refine Calls.enter (args := [.slice b1 l.length c1, .int .u64 (v : Int), .int .i64 (size : Int)]) Tryz.func146 rfl Tryz.ntmps146 rfl ?_
  refine WC.seq (WC.region (WO.step rfl (OR.assign rfl (WO.step rfl (OR.assign rfl (WO.done (WX.seq ?_)))))))
  refine WC.seq (WC.seq (WC.region (WO.step rfl (OR.move rfl (WO.step rfl (OR.lss rfl rfl (WO.step rfl ?_)))))))
  refine OR.move rfl ?_
  refine WO.guardYes rfl (decide_eq_false (by omega : ¬ (size : Int) < 1)) rfl rfl (OR.move rfl (WO.guardYes rfl (decide_eq_false (by omega : ¬ (size : Int) < 1)) rfl rfl (OR.gtr rfl rfl (WO.step rfl (OR.pickF rfl (decide_eq_false (by omega : ¬ (size : Int) < 1)) rfl (WO.done (WX.seq ?_)))))))
  refine WC.no rfl (decide_eq_false (by omega)) ?_
  refine WC.skip (WX.seq (WC.seq (WC.region (WO.step rfl (OR.alloc hs T242 ?_)))))
  clear hs; intro g1 w hg1 hs
  refine WO.done (WX.seq (WC.seq (WC.seq (WC.region (WO.step rfl (OR.move rfl (WO.done ?_)))))))
  refine WX.seq (WC.block ?_)
  refine WC.loop (ι := Nat × Nat) (fun ix => [(0, .slice b1 l.length c1), (1, .int .u64 (ix.2 : Int)), (2, .int .i64 (size : Int)), (8, ptr g1), (18, .int .i64 (ix.1 : Int))]) (fun ix w => (ix.1 ≤ 8 ∧ ix.2 = v / 256 ^ ix.1 ∧ ∃ c : List Value, c.length = 8 ∧ (∀ j, 8 - ix.1 ≤ j → j < 8 → c[j]? = some (B (UInt8.ofNat (v / 256 ^ (7 - j))))) ∧ ∃ H, Hp.le H0 H ∧ HS [] H0 w0 H [(g1, .cells c.toArray 242, true)] w)) (fun ix => 8 - ix.1) (0, v) ⟨rfl, rfl, rfl, rfl, rfl,  trivial⟩ ?_ (fun ix w hW => ?_)
  · refine ⟨by omega, by simp, List.replicate 8 (.int .u8 0), by simp, fun j h1 h2 => by omega, H0, hle, hs⟩
  clear hs hle
  obtain ⟨i, cur⟩ := ix
  obtain ⟨hi, hcur, c, hcl, hc, H, hle, hs⟩ := hW
  simp only at hi hcur hc
  subst hcur
  refine WC.seq (WC.region (WO.step rfl (OR.lss rfl rfl (WO.done (WX.seq (WC.seq ?_))))))
  refine WC.condD rfl (fun hlt => ?_) (fun hlt => ?_)
  · have hi' : i < 8 := by omega
    refine WC.skip (WX.seq (WC.seq (WC.block (WC.seq (WC.region (WO.step rfl (OR.move rfl ?_)))))))
    refine WO.step rfl (OR.assign rfl (WO.done (WX.seq (WC.seq (WC.region (WO.step rfl (OR.move rfl ?_)))))))
    refine WO.step rfl (OR.subI rfl rfl (by omega) (by omega) (WO.step rfl (OR.move rfl ?_)))
    refine WO.step rfl (OR.convI T22.und T5.und rfl ?_)
    rw [toB]
    refine WO.step rfl (OR.idxArr (7 - i) T242.und T5 rfl rfl (by omega) (by omega) ?_)
    refine WO.stepN (OR.store hs T5 rfl rfl rfl (by simp [hcl]) rfl ?_)
    clear hs; intro w hs
    refine WO.done (WX.seq (WC.region (WO.step rfl (OR.move rfl ?_))))
    refine WO.step rfl (OR.shr rfl rfl (by omega) ?_)
    have hsh : ((v / 256 ^ i : Nat) : Int).fdiv (2 ^ (min (8 : Int).toNat IntKind.u64.bits)) = ((v / 256 ^ (i + 1) : Nat) : Int) := by
      have e1 : (2 ^ (min (8 : Int).toNat IntKind.u64.bits) : Int) = ((256 : Nat) : Int) := rfl
      rw [e1, Int.fdiv_eq_ediv_of_nonneg _ (by omega), Nat.pow_succ, ← Nat.div_div_eq_div_mul]
      rfl
    rw [hsh]
    refine WO.step rfl (OR.assign rfl (WO.done (WX.block (WX.seq (WC.region (WO.step rfl (OR.addI rfl rfl (by omega) (by omega) ?_)))))))
    refine WO.step rfl (OR.move rfl (WO.done ?_))
    refine WX.again ((i + 1, v / 256 ^ (i + 1))) ⟨rfl, rfl, rfl, rfl, rfl,  trivial⟩ ?_ ?_
    · refine ⟨hi', rfl, _, by rw [setL_length]; exact hcl, fun j h1 h2 => ?_, H, hle, hs⟩
      rw [Nat.zero_add]
      show (setL c (7 - i) [B _])[j]? = _
      rw [setL_step, setL_nil]
      by_cases e : j = 7 - i
      · subst e
        rw [List.getElem?_set_self (by omega)]
        have : 7 - (7 - i) = i := by omega
        rw [this]
      · rw [List.getElem?_set_ne (Ne.symm e)]
        exact hc j (by simp only at h1; omega) h2
    · simp only; omega
  · have e : i = 8 := by omega
    subst e
    have hcb : c = (be8 v).map B := by
      apply List.ext_getElem?
      intro j
      by_cases hj : j < 8
      · rw [hc j (by omega) hj]
        simp [be8, hj]
      · rw [List.getElem?_eq_none (by omega), List.getElem?_eq_none (by simp [be8]; omega)]
    subst hcb
    refine WC.exit (WX.seq_exit (WX.loop_exit (WX.block_hit (WX.seq (WC.seq (WC.seq (WC.region ?_)))))))
    refine WO.step rfl (OR.move rfl (WO.step rfl (OR.subI rfl rfl (by omega) (by omega) ?_)))
    refine WO.step rfl (OR.sliceArrHi (8 - size) T242.und T5 rfl rfl (by omega) (by omega) ?_)
    refine WO.step rfl (OR.lenSlice T43.und rfl (WO.step rfl (OR.move rfl (WO.done (WX.seq (WC.block ?_))))))
    refine WC.loop (ι := Nat) (fun j => [(0, .slice b1 l.length c1), (2, .int .i64 (size : Int)), (8, ptr g1), (31, .slice (some ⟨g1, 0, none⟩) (8 - size) 8), (32, .int .i64 ((8 - size : Nat) : Int)), (33, .int .i64 (j : Int))]) (fun j w => (j ≤ 8 - size ∧ ∃ H, Hp.le H0 H ∧ HS [] H0 w0 H [(g1, .cells ((be8 v).map B).toArray 242, true)] w)) (fun j => 8 - size - j) 0 ⟨rfl, rfl, rfl, rfl, rfl, rfl,  trivial⟩ ?_ (fun j w hW => ?_)
    · exact ⟨by omega, H, hle, hs⟩
    clear hs hle
    obtain ⟨hj, H, hle, hs⟩ := hW
    refine WC.seq (WC.region (WO.step rfl (OR.lss rfl rfl (WO.done (WX.seq (WC.seq ?_))))))
    refine WC.condD rfl (fun hlt2 => ?_) (fun hlt2 => ?_)
    · have hj' : j < 8 - size := by omega
      have hz : (be8 v)[j]? = some 0 := by
        have h1 : v / 256 ^ (7 - j) = 0 := Nat.div_eq_of_lt (Nat.lt_of_lt_of_le hv (Nat.pow_le_pow_right (by omega) (by omega)))
        simp [be8, show j < 8 by omega, h1]
      refine WC.skip (WX.seq (WC.seq (WC.block (WC.seq (WC.region ?_)))))
      refine WO.step rfl (OR.idx j T43.und T5 rfl rfl rfl hj' ?_)
      refine WO.step rfl (OR.load T5 rfl rfl (hs.cellM (i := 0) (v := B 0) rfl (by rw [nth_eq, Nat.zero_add]; simp [hz])) ?_)
      refine WO.step rfl (OR.assign rfl (WO.done (WX.seq (WC.seq (WC.region (WO.step rfl (OR.move rfl ?_)))))))
      refine WO.step rfl (OR.neq rfl rfl (WO.done (WX.seq ?_)))
      refine WC.no rfl (decide_eq_false (by decide)) ?_
      refine WC.skip (WX.block (WX.seq (WC.region (WO.step rfl (OR.addI rfl rfl (by omega) (by omega) (WO.step rfl (OR.move rfl ?_)))))))
      refine WO.done ?_
      refine WX.again (j + 1) ⟨rfl, rfl, rfl, rfl, rfl, rfl,  trivial⟩ ?_ ?_
      · exact ⟨hj', H, hle, hs⟩
      · omega
    · refine WC.exit (WX.seq_exit (WX.loop_exit (WX.block_hit (WX.seq (WC.seq ?_)))))
      refine WC.draw 5 mixed hs (by kernel_rfl) ?_
      refine ⟨MF.eq _, by intro Mx H w hle hs; refine forVals_nil (ORg.plain (OR.move rfl ?_)); exact ⟨_, [], Hp.le.refl _, hs, rfl, rfl⟩, ?_⟩
      refine ⟨MF.own w0.heap.size 5 1 l.length (l.map B), ?_, ?_⟩
      · intro Mx H w hle2 hs; (try replace hle := hle.trans hle2); (try replace hlb := hlb.trans hle2); refine forVals_eq rfl rfl rfl ?_
        refine forVals_nil (ORg.plain (OR.callX (Mx := []) hs body175 rfl rfl (sclone_ok _ l _ _ hs.toSub (hl.mono hle) (by omega)) rfl rfl ?_))
        have hsz2 := hs.size
        clear hs; rintro v H1 M1 w hs hle1 hnew ⟨rfl, ho⟩
        exact ⟨_, M1, hle1, hs, ho.mono hsz2⟩
      refine ⟨MF.eq _, by intro Mx H w hle hs; refine forVals_nil (ORg.plain (OR.move rfl ?_)); exact ⟨_, [], Hp.le.refl _, hs, rfl, rfl⟩, ?_⟩
      refine ⟨MF.eq _, by intro Mx H w hle hs; refine forVals_eq rfl rfl rfl ?_; refine forVals_nil (ORg.plain (OR.subI rfl rfl (by omega) (by omega) ?_)); exact ⟨_, [], Hp.le.refl _, hs, rfl, rfl⟩, ?_⟩
      refine ⟨MF.eq (.slice (some ⟨g1, (8 - size) * 1, none⟩) (8 - (8 - size)) (8 - (8 - size))), ?_, ?_⟩
      · intro Mx H w hle2 hs; (try replace hle := hle.trans hle2); (try replace hlb := hlb.trans hle2); refine forVals_eq rfl rfl rfl ?_
        refine forVals_nil (ORg.plain (OR.sliceArrLo (8 - size) T242.und T5 rfl rfl (by omega) (by omega) ?_))
        exact ⟨_, [], Hp.le.refl _, hs, rfl, rfl⟩
      intro H w hle2; (try replace hle := hle.trans hle2); (try replace hlb := hlb.trans hle2)
      refine forAllVals_eq rfl ?_
      refine forAllVals_cons rfl ?_; intro v1 M1 h1
      refine forAllVals_eq rfl ?_
      refine forAllVals_eq rfl ?_
      refine forAllVals_eq rfl ?_
      refine forAllVals_nil ?_; (try clear hs); intro hs
      have hgb := (hs.mem g1 _ true (List.mem_append_right _ (List.mem_cons_self ..))).1
      have hbl := beN_len size v hsz.2
      refine WO.step rfl (OR.append (m := 8 - (8 - size)) (news := (beN size v).map B) hs h1 T43.und T5 rfl (by omega) rfl rfl (by rw [List.length_map, hbl]; omega) (fun a ha j u hj => by cases ha; exact cells_at hgb (by rw [beN, List.map_drop] at hj; have := get_drop hj; simpa using this)) (fun h => by cases h) (bytes_one _) (by omega) (by omega) ?_)
      clear hs; intro v' w Mo hs ho hge
      refine WO.step rfl (OR.assign rfl (WO.step rfl (OR.assign rfl (WO.done (WX.seq (WC.ret ?_))))))
      refine WX.ret2 rfl rfl rfl ?_
      have e9 : l.length + (8 - (8 - size)) = l.length + size := by omega
      rw [e9, ← List.map_append] at ho
      have hs2 : HS [] H0 w0 H (Mo ++ []) w := hs.dropMid
      rw [List.append_nil] at hs2
      exact ⟨_, H, Mo, rfl, hs2, ho.tt, _, rfl, ho⟩


def layAll (g s : Nat) (chunk : List UInt8) : List UInt8 := beN 4 chunk.length ++ chunk ++ List.replicate (g * s - 4 - chunk.length) 0
def layF (g s : Nat) (chunk : List UInt8) : List (List UInt8) := (List.range g).map fun i => ((layAll g s chunk).drop (s * i)).take s
theorem layAll_len {g s : Nat} {chunk : List UInt8} (h1 : 4 < g * s) (h : chunk.length ≤ g * s - 4) : (layAll g s chunk).length = g * s := by
  simp [layAll, beN_len 4 _ (by omega)]; omega
theorem Bytes.part3 {H : Hp} {c : Nat} {b : Option Addr} {l : List UInt8} (h : Bytes H (.slice b l.length c) l) (m k : Nat) (h1 : m < k) (h2 : k ≤ l.length) :
    Bytes H (.slice (if k = m then b else b.map (·.add (m * 1))) (k - m) (k - m)) ((l.drop m).take (k - m)) := by
  have h3 := h.part m k (by omega) h2
  have h4 := h.cap_le
  rw [if_neg (by omega)] at h3 ⊢
  have e : ((l.drop m).take (k - m)).length = k - m := by simp; omega
  unfold Bytes at h3 ⊢
  rw [e] at h3 ⊢
  exact Sl.cap h3 (k - m) (Nat.le_refl _) (by omega)

set_option maxRecDepth 20000 in
set_option maxHeartbeats 2000000 in
theorem lay_ok (g s : Nat) (vc : Value) (chunk : List UInt8) (H0 : Hp) (w0 : World) (h0 : Sub H0 w0) (hgs : 1 ≤ g ∧ g ≤ 255 ∧ 1 ≤ s ∧ s ≤ 65535 ∧ 4 < g * s) (hc : Bytes H0 vc chunk) (hl1 : 1 ≤ chunk.length) (hl2 : chunk.length ≤ g * s - 4) :
    Calls Tryz.prog 109 #[vc, .int .i64 (g : Int), .int .i64 (s : Int)] w0 (Pure H0 w0 fun v H' => ∃ r, v = .tuple #[r, .int .i64 0] ∧ BytesL H' r (layF g s chunk)) := by
  have hs := HS.init h0
  have hle := Hp.le.refl H0
  obtain ⟨hg1, hg2, hs1, hs2, hgs4⟩ := hgs
  have hmul : g * s ≤ 255 * 65535 := Nat.mul_le_mul hg2 hs2
  obtain ⟨bc, cc, rfl⟩ := hc.form
  have hal := layAll_len hgs4 hl2
  have hmc : (g : Int) * (s : Int) = ((g * s : Nat) : Int) := by rw [Int.natCast_mul]
  have hb1 : (0 : Int) ≤ (g : Int) * (s : Int) := by rw [hmc]; omega
  have hb2 : (g : Int) * (s : Int) ≤ 16711425 := by rw [hmc]; omega
  refine Calls.enter (args := [.slice bc chunk.length cc, .int .i64 (g : Int), .int .i64 (s : Int)]) Tryz.func109 rfl Tryz.ntmps109 rfl ?_
  refine WC.seq (WC.region (WO.step rfl (OR.assign rfl (WO.step rfl (OR.assign rfl (WO.done (WX.seq ?_)))))))
  refine WC.seq (WC.region (WO.step rfl (OR.move rfl (WO.step rfl (OR.move rfl ?_)))))
  refine WO.step rfl (OR.call hs body62 rfl rfl (room_ok (g : Int) (s : Int) _ _ hs.toSub) ?_)
  clear hs; rintro _ H w hs hle1 rfl; replace hle := hle.trans hle1; (try replace hlb := hlb.trans hle1)
  have hrc : (g : Int) * (s : Int) - 4 = ((g * s - 4 : Nat) : Int) := by rw [hmc]; omega
  rw [if_pos (show 1 ≤ (g : Int) ∧ (g : Int) ≤ 255 ∧ 1 ≤ (s : Int) ∧ (s : Int) ≤ 65535 ∧ 4 < (g : Int) * (s : Int) from ⟨by omega, by omega, by omega, by omega, by rw [hmc]; omega⟩), hrc]
  refine WO.step rfl (OR.move rfl (WO.step rfl (OR.extract rfl rfl (WO.step rfl (OR.extract rfl rfl (WO.step rfl (OR.assign rfl ?_)))))))
  refine WO.step rfl (OR.assign rfl (WO.done (WX.seq (WC.seq (WC.block (WC.seq (WC.region ?_)))))))
  refine WO.step rfl (OR.move rfl (WO.step rfl (OR.neq rfl rfl (WO.step rfl (OR.assign rfl (WO.done (WX.seq ?_)))))))
  refine WC.no rfl (decide_eq_false (by omega)) ?_
  refine WC.seq (WC.region (WO.step rfl (OR.move rfl (WO.step rfl (OR.lenSlice T43.und rfl (WO.step rfl (OR.eql rfl rfl ?_)))))))
  refine WO.step rfl (OR.assign rfl (WO.done (WX.seq ?_)))
  refine WC.no rfl (decide_eq_false (by omega)) ?_
  refine WC.seq (WC.region (WO.step rfl (OR.move rfl (WO.step rfl (OR.lenSlice T43.und rfl (WO.step rfl (OR.move rfl ?_)))))))
  refine WO.step rfl (OR.gtr rfl rfl (WO.step rfl (OR.assign rfl (WO.done (WX.seq ?_)))))
  refine WC.no rfl (decide_eq_false (by omega)) ?_
  refine WC.skip (WX.block (WX.seq (WC.seq (WC.region (WO.step rfl (OR.move rfl (WO.step rfl ?_)))))))
  refine OR.lenSlice T43.und rfl ?_
  refine WO.step rfl (OR.convI T3.und T22.und rfl ?_)
  rw [IntWalk.u64_in (chunk.length : Int) (by omega)]
  have h256 : chunk.length < 256 ^ 4 := Nat.lt_of_le_of_lt (by omega : chunk.length ≤ 16711425) (by decide)
  have hszc := hs.size
  refine WO.step rfl (OR.callX (Mx := []) hs body146 rfl rfl (num_ok (.slice none 0 0) [] chunk.length 4 _ _ hs.toSub (Bytes.nil _) (by simp) h256 (by omega) (by omega)) rfl rfl ?_)
  clear hs; rintro _ H Mo w hs hle1 hnew ⟨v1, rfl, ho⟩; replace hle := hle.trans hle1; (try replace hlb := hlb.trans hle1)
  rw [List.nil_append] at ho
  replace ho := ho.mono hszc
  refine WO.step rfl (OR.move rfl (WO.step rfl (OR.extract rfl rfl (WO.step rfl (OR.extract rfl rfl (WO.step rfl (OR.assign rfl ?_)))))))
  refine WO.step rfl (OR.assign rfl (WO.done (WX.seq (WC.seq (WC.region (WO.step rfl (OR.move rfl ?_)))))))
  refine WO.step rfl (OR.move rfl ?_)
  refine WO.step rfl (OR.append (m := chunk.length) (news := chunk.map B) hs ho T43.und T5 rfl (by omega) rfl rfl (by simp) (Sl.src (hc.mono hle) hs) (Sl.src0 hc) (bytes_one _) (by simp; omega) (by simp; omega) ?_)
  clear hs ho; intro v2 w Mo2 hs ho hge
  refine WO.step rfl (OR.move rfl (WO.step rfl (OR.move rfl (WO.step rfl (OR.lenSlice T43.und rfl (WO.step rfl (OR.subI rfl rfl (by omega) (by omega) ?_)))))))
  have hsubI : ((g * s - 4 : Nat) : Int) - (chunk.length : Int) = ((g * s - 4 - chunk.length : Nat) : Int) := by omega
  rw [hsubI]
  refine WO.step rfl (OR.appendZ (m := g * s - 4 - chunk.length) (Nat.le_refl _) hs ho T43.und T5 rfl T3.und rfl rfl rfl (by simp; omega) (by simp; omega) ?_)
  clear hs ho; intro v3 w Mo3 hs ho
  obtain ⟨H3, hle3, hs, hsl3, _⟩ := HS.pub hs ho
  replace hle := hle.trans hle3
  have hall : Bytes H3 v3 (layAll g s chunk) := by
    unfold Bytes
    rw [hal]
    have e1 : ([] : List UInt8).length + 4 + chunk.length + (g * s - 4 - chunk.length) = g * s := by simp; omega
    have e2 : (layAll g s chunk).map B = (beN 4 chunk.length).map B ++ chunk.map B ++ List.replicate (g * s - 4 - chunk.length) (B 0) := by simp [layAll]
    rw [e1] at hsl3
    rw [e2]
    exact hsl3
  obtain ⟨HB, hHB⟩ : ∃ X, X = H3 := ⟨_, rfl⟩
  subst hHB
  generalize hAL : layAll g s chunk = AL at hall hal
  obtain ⟨b3, c3, rfl⟩ := hall.form
  refine WO.step rfl (OR.assign rfl (WO.done (WX.seq (WC.seq (WC.region (WO.step rfl (OR.assign rfl ?_)))))))
  refine WO.done (WX.seq (WC.seq (WC.seq (WC.region (WO.step rfl (OR.assign rfl (WO.done ?_)))))))
  refine WX.seq (WC.block ?_)
  refine WC.loop (ι := Nat × Value) (fun ix => [(1, .int .i64 (g : Int)), (2, .int .i64 (s : Int)), (10, .slice b3 AL.length c3), (12, ix.2), (13, .int .i64 ((s * ix.1 : Nat) : Int))]) (fun ix w => (ix.1 ≤ g ∧ ∃ H cl Mo, Hp.le H0 H ∧ Hp.le HB H ∧ BLOk H cl ((List.range ix.1).map fun i => (AL.drop (s * i)).take s) ∧ Own w0.heap.size 43 1 ix.2 ix.1 cl Mo ∧ HS [] H0 w0 H (Mo ++ []) w)) (fun ix => g - ix.1) (0, .slice none 0 0) ⟨rfl, rfl, rfl, rfl, rfl,  trivial⟩ ?_ (fun ix w hW => ?_)
  · exact ⟨by omega, HB, [], [], hle, Hp.le.refl _, BLOk.nil _, Own.nil _ _ _, hs⟩
  clear hs hle ho hsl3
  obtain ⟨k, vo⟩ := ix
  obtain ⟨hk, H, cl, Mo, hle, hlb, hok, ho, hs⟩ := hW
  simp only at hk hok ho
  have hskg : s * k ≤ g * s := by rw [Nat.mul_comm g s]; exact Nat.mul_le_mul_left s hk
  refine WC.seq (WC.seq (WC.region (WO.step rfl (OR.move rfl (WO.step rfl (OR.move rfl (WO.step rfl ?_)))))))
  refine OR.move rfl (WO.step rfl (OR.mulI rfl rfl (by omega) (by omega) (WO.step rfl (OR.lss rfl rfl (WO.done (WX.seq ?_))))))
  refine WC.condD rfl (fun hlt => ?_) (fun hlt => ?_)
  · have hlt2 : s * k < s * g := by rw [Nat.mul_comm s g]; rw [hmc] at hlt; exact Int.ofNat_lt.1 hlt
    have hk' : k < g := Nat.lt_of_mul_lt_mul_left hlt2
    have hks : s * k + s ≤ g * s := by
      have := Nat.mul_le_mul_left s (show k + 1 ≤ g from hk')
      rw [Nat.mul_succ] at this
      rw [Nat.mul_comm g s]; exact this
    have hpc := hall.part3 (s * k) (s * k + s) (by omega) (by rw [hal]; exact hks)
    have hksI : ((s * k : Nat) : Int) + (s : Int) = ((s * k + s : Nat) : Int) := rfl
    have hksJ : ((s * k + s : Nat) : Int) ≤ 16711425 := Int.ofNat_le.2 (Nat.le_trans hks hmul)
    have hcap3 : s * k + s ≤ c3 := Nat.le_trans hks (by rw [← hal]; exact hall.cap_le)
    refine WC.skip (WX.seq (WC.seq (WC.block (WC.region (WO.step rfl (OR.move rfl (WO.step rfl ?_)))))))
    refine OR.move rfl (WO.step rfl (OR.move rfl (WO.step rfl (OR.move rfl (WO.step rfl (OR.move rfl (WO.step rfl ?_)))))))
    refine OR.addI rfl rfl (by omega) (by omega) (WO.step rfl (OR.move rfl (WO.step rfl (OR.move rfl (WO.step rfl (OR.addI rfl rfl (by omega) (by omega) ?_))))))
    refine WO.step rfl (OR.slice3G (s * k) (s * k + s) (s * k + s) T43.und T5 rfl rfl rfl rfl hksI rfl hksI (Nat.le_add_right _ _) (Nat.le_refl _) hcap3 ?_)
    refine WO.step rfl (OR.buildSlice (vs := [_]) hs T40.und T43 rfl rfl rfl rfl (by simp) ?_)
    clear hs; intro g3 w hg3 hs
    have hb9 := hs.blk (i := 0) rfl
    replace hs := hs.sink
    refine WO.step rfl (OR.append (m := 1) (news := [_]) hs ho T40.und T43 rfl (by omega) rfl rfl rfl (cells_of hb9) (fun h => by cases h) rfl (by omega) (by omega) ?_)
    clear hs ho; intro vo' w Mo' hs ho hge
    replace hs := hs.dropMid
    refine WO.step rfl (OR.assign rfl (WO.done (WX.block (WX.seq (WC.region (WO.step rfl (OR.move rfl ?_)))))))
    refine WO.step rfl (OR.move rfl (WO.step rfl (OR.addI rfl rfl (by omega) (by omega) (WO.step rfl (OR.assign rfl (WO.done ?_))))))
    refine WX.again ((k + 1, vo')) ⟨rfl, rfl, rfl, rfl, rfl,  trivial⟩ ?_ ?_
    · refine ⟨hk', H, cl ++ [_], Mo', hle, hlb, ?_, ho, hs⟩
      have e9 : s * k + s - s * k = s := by omega
      rw [e9] at hpc ⊢
      rw [List.range_succ, List.map_append, List.map_singleton]
      exact hok.snoc (hpc.mono hlb)
    · simp only; omega
  · have hkg : k = g := by
      rcases Nat.lt_or_ge k g with h | h
      · exfalso
        have := Nat.mul_lt_mul_of_pos_left h (show 0 < s by omega)
        rw [Nat.mul_comm s g] at this
        rw [hmc] at hlt
        exact hlt (Int.ofNat_lt.2 this)
      · omega
    subst hkg
    refine WC.exit (WX.seq_exit (WX.loop_exit (WX.block_hit (WX.seq (WC.seq (WC.region (WO.step rfl ?_)))))))
    refine OR.move rfl (WO.step rfl (OR.assign rfl (WO.step rfl (OR.assign rfl (WO.done (WX.seq (WC.ret ?_)))))))
    refine WX.ret2 rfl rfl rfl ?_
    obtain ⟨H4, hle4, hs4, hsl4, _⟩ := HS.pub hs ho
    refine .mk hs4 ⟨_, rfl, ?_⟩
    rw [layF, hAL]
    exact (hok.mono hle4).bytesL (by simpa using hsl4)

end Go.Bw
namespace Go.Bw
set_option linter.unusedVariables false
set_option linter.unusedSimpArgs false
open Go.Proofs

/-- A source of a stream and cuts. -/
def newD (g s : Nat) (st : List UInt8) (cuts : List Int) (cl : Bool) : SrcD := ⟨g, s, st, cuts, cl, chunksF (g * s - 4) st cuts, openF (g * s - 4) st cuts⟩

set_option maxRecDepth 20000 in
set_option maxHeartbeats 2000000 in
theorem restore_bad (g s : Int) (b1 b2 : Option Addr) (n1 n2 c1 c2 : Nat) (cl : Bool) (H0 : Hp) (w0 : World) (h0 : Sub H0 w0) (hbad : ¬ goodGS g s ∨ 262144 < n1) :
    Calls Tryz.prog 82 #[.int .i64 g, .int .i64 s, .slice b1 n1 c1, .slice b2 n2 c2, .bool cl] w0 (Pure H0 w0 fun v _ => v = .tuple #[.pointer none, .int .i64 1]) := by
  have hs := HS.init h0
  have hle := Hp.le.refl H0
  refine Calls.enter (args := [.int .i64 g, .int .i64 s, .slice b1 n1 c1, .slice b2 n2 c2, .bool cl]) Tryz.func82 rfl Tryz.ntmps82 rfl ?_
  refine WC.seq (WC.region (WO.step rfl (OR.assign rfl (WO.step rfl (OR.assign rfl (WO.done (WX.seq ?_)))))))
  refine WC.seq (WC.region (WO.step rfl (OR.move rfl (WO.step rfl (OR.move rfl (WO.step rfl (OR.move rfl ?_)))))))
  refine WO.step rfl (OR.build (cs := #[.int .i64 g, .int .i64 s, .slice none 0 0, .slice none 0 0, .bool cl, .slice none 0 0, .slice none 0 0]) rfl (by intro w; kernel_rfl) ?_)
  refine WO.step rfl (OR.box hs rfl ?_)
  clear hs; intro g1 w hg1 hs
  refine WO.step rfl (OR.assign rfl (WO.done (WX.seq (WC.seq (WC.seq (WC.region (WO.step rfl ?_)))))))
  refine OR.move rfl (WO.step rfl (OR.lenSlice T43.und rfl (WO.step rfl (OR.gtr rfl rfl (WO.step rfl (OR.move rfl ?_))))))
  refine WO.guardSplit (j := 3) rfl (fun q1 => ?_) (fun q1 => ?_)
  · refine WO.guardNo rfl (decide_eq_true q1) rfl rfl (WO.guardNo rfl (decide_eq_true q1) rfl rfl (WO.guardNo rfl (decide_eq_true q1) rfl rfl (WO.guardNo rfl (decide_eq_true q1) rfl rfl (WO.guardNo rfl (decide_eq_true q1) rfl rfl (WO.step rfl (OR.pickT rfl (decide_eq_true q1) rfl (WO.step rfl ?_)))))))
    refine OR.move rfl (WO.guardNo rfl rfl rfl rfl (WO.guardNo rfl rfl rfl rfl (WO.guardGone rfl rfl rfl (WO.guardGone rfl rfl rfl (WO.guardGone rfl rfl rfl (WO.guardGone rfl rfl rfl (WO.guardGone rfl rfl rfl ?_)))))))
    refine WO.guardGone rfl rfl rfl (WO.guardNo rfl rfl rfl rfl (WO.step rfl (OR.pickT rfl rfl rfl (WO.done (WX.seq (WC.yes rfl rfl (WC.seq ?_)))))))
    refine WC.region (WO.step rfl (OR.assign rfl (WO.step rfl (OR.assign rfl (WO.done (WX.seq (WC.ret ?_)))))))
    refine WX.seq_ret ?_
    refine WX.ret2 rfl rfl rfl ?_
    exact .mk hs rfl
  · refine WO.guardYes rfl (decide_eq_false q1) rfl rfl (OR.move rfl (WO.guardYes rfl (decide_eq_false q1) rfl rfl (OR.move rfl (WO.guardYes rfl (decide_eq_false q1) rfl rfl (OR.move rfl ?_)))))
    refine WO.guardYes rfl (decide_eq_false q1) rfl rfl (OR.call hs body89 rfl rfl (set_bad g1 g s (.slice none 0 0) (.slice none 0 0) (.slice none 0 0) (.slice none 0 0) _ _ cl _ _ hs.toSub (hs.blk (i := 0) rfl) (hs.mem g1 _ true (List.mem_cons_self ..)).2.1 (hbad.resolve_right (by omega)) rfl rfl) ?_)
    clear hs; rintro _ H w hs hle1 rfl; replace hle := hle.trans hle1; (try replace hlb := hlb.trans hle1)
    refine WO.guardYes rfl (decide_eq_false q1) rfl rfl (OR.neq rfl rfl (WO.step rfl (OR.pickF rfl (decide_eq_false q1) rfl (WO.step rfl (OR.move rfl ?_)))))
    refine WO.guardNo rfl rfl rfl rfl (WO.guardNo rfl rfl rfl rfl (WO.guardGone rfl rfl rfl (WO.guardGone rfl rfl rfl (WO.guardGone rfl rfl rfl (WO.guardGone rfl rfl rfl (WO.guardGone rfl rfl rfl (WO.guardGone rfl rfl rfl ?_)))))))
    refine WO.guardNo rfl rfl rfl rfl (WO.step rfl (OR.pickT rfl rfl rfl (WO.done (WX.seq (WC.yes rfl rfl (WC.seq (WC.region ?_)))))))
    refine WO.step rfl (OR.assign rfl (WO.step rfl (OR.assign rfl (WO.done (WX.seq (WC.ret (WX.seq_ret ?_)))))))
    refine WX.ret2 rfl rfl rfl ?_
    exact .mk hs rfl

set_option maxRecDepth 20000 in
set_option maxHeartbeats 2000000 in
theorem restore_ok (g s : Nat) (vs vc : Value) (st : List UInt8) (cuts : List Int) (cl : Bool) (H0 : Hp) (w0 : World) (h0 : Sub H0 w0) (hgs : goodGS g s) (h1 : Bytes H0 vs st) (h2 : Ints H0 vc cuts) (hl : st.length ≤ 262144) (hl2 : cuts.length ≤ 1000000000) :
    Calls Tryz.prog 82 #[.int .i64 (g : Int), .int .i64 (s : Int), vs, vc, .bool cl] w0 (Ret [] H0 w0 fun v H' M' => if cutsOk st.length 0 cuts = true ∧ (cl = true → openF (g * s - 4) st cuts = []) then
        ∃ b o, v = .tuple #[ptr b, .int .i64 0] ∧ M' = [(b, o, true)] ∧ w0.heap.size ≤ b ∧ SrcIn H' (newD g s st cuts cl) o
      else v = .tuple #[.pointer none, .int .i64 1]) := by
  have hs := HS.init h0
  have hle := Hp.le.refl H0
  obtain ⟨b1, c1, rfl⟩ := h1.form
  obtain ⟨b2, c2, rfl⟩ := h2.form
  refine Calls.enter (args := [.int .i64 (g : Int), .int .i64 (s : Int), .slice b1 st.length c1, .slice b2 cuts.length c2, .bool cl]) Tryz.func82 rfl Tryz.ntmps82 rfl ?_
  refine WC.seq (WC.region (WO.step rfl (OR.assign rfl (WO.step rfl (OR.assign rfl (WO.done (WX.seq ?_)))))))
  refine WC.seq (WC.region (WO.step rfl (OR.move rfl (WO.step rfl (OR.move rfl (WO.step rfl (OR.move rfl ?_)))))))
  refine WO.step rfl (OR.build (cs := #[.int .i64 (g : Int), .int .i64 (s : Int), .slice none 0 0, .slice none 0 0, .bool cl, .slice none 0 0, .slice none 0 0]) rfl (by intro w; kernel_rfl) ?_)
  refine WO.step rfl (OR.box hs rfl ?_)
  clear hs; intro g1 w hg1 hs
  refine WO.step rfl (OR.assign rfl (WO.done (WX.seq (WC.seq (WC.seq (WC.region (WO.step rfl ?_)))))))
  refine OR.move rfl (WO.step rfl (OR.lenSlice T43.und rfl (WO.step rfl (OR.gtr rfl rfl (WO.step rfl (OR.move rfl ?_))))))
  refine WO.guardYes rfl (decide_eq_false (by omega : ¬ ((st.length : Int) > 262144))) rfl rfl (OR.move rfl (WO.guardYes rfl (decide_eq_false (by omega : ¬ ((st.length : Int) > 262144))) rfl rfl (OR.move rfl (WO.guardYes rfl (decide_eq_false (by omega : ¬ ((st.length : Int) > 262144))) rfl rfl (OR.move rfl ?_)))))
  refine WO.guardYes rfl (decide_eq_false (by omega : ¬ ((st.length : Int) > 262144))) rfl rfl (OR.callX (Mx := [(g1, _, true)]) hs body89 rfl rfl (set_ok g1 g s (.slice none 0 0) (.slice none 0 0) (.slice none 0 0) (.slice none 0 0) _ _ cl st cuts _ _ hs.toSub (hs.blk (i := 0) rfl) (hs.mem g1 _ true (List.mem_cons_self ..)).2.1 hgs h1 h2 (by omega) (by omega)) rfl rfl ?_)
  clear hs; rintro _ H M' w hs hle1 hnew hres; replace hle := hle.trans hle1; (try replace hlb := hlb.trans hle1)
  by_cases hT : cutsOk st.length 0 cuts = true
  · rw [if_pos hT] at hres
    obtain ⟨rfl, o, rfl, hsrc⟩ := hres
    refine WO.guardYes rfl (decide_eq_false (by omega : ¬ ((st.length : Int) > 262144))) rfl rfl (OR.neq rfl rfl (WO.step rfl (OR.pickF rfl (decide_eq_false (by omega : ¬ ((st.length : Int) > 262144))) rfl (WO.step rfl (OR.move rfl ?_)))))
    obtain ⟨vs', vc', vch', vop', ho, q1, q2, q3, q4⟩ := hsrc
    have hop := q4
    obtain ⟨b9, c9, e9⟩ := hop.form
    cases cl with
    | false =>
      refine WO.guardYes rfl rfl rfl rfl (OR.move rfl (WO.guardYes rfl rfl rfl rfl (OR.move rfl ?_)))
      refine WO.guardNo rfl rfl rfl rfl (WO.guardNo rfl rfl rfl rfl (WO.guardNo rfl rfl rfl rfl (WO.guardNo rfl rfl rfl rfl (WO.guardNo rfl rfl rfl rfl (WO.guardNo rfl rfl rfl rfl (WO.guardYes rfl rfl rfl rfl (OR.pickF rfl rfl rfl ?_)))))))
      refine WO.step rfl (OR.pickF rfl rfl rfl (WO.done (WX.seq (WC.no rfl rfl (WC.skip (WX.seq (WC.seq ?_)))))))
      refine WC.region (WO.step rfl (OR.move rfl (WO.step rfl (OR.assign rfl (WO.step rfl (OR.assign rfl (WO.done ?_)))))))
      refine WX.seq (WC.ret ?_)
      refine WX.ret2 rfl rfl rfl ?_
      refine ⟨_, H, _, rfl, hs, by simp, ?_⟩
      show ite _ _ _
      rw [if_pos ⟨hT, fun h => by cases h⟩]
      exact ⟨g1, o, rfl, rfl, hg1, _, _, _, _, ho, q1, q2, q3, q4⟩
    | true =>
      subst e9 ho
      refine WO.guardYes rfl rfl rfl rfl (OR.move rfl (WO.guardYes rfl rfl rfl rfl (OR.move rfl ?_)))
      refine WO.guardYes rfl rfl rfl rfl (OR.move rfl (WO.guardYes rfl rfl rfl rfl (OR.nilCheck rfl (WO.guardYes rfl rfl rfl rfl (OR.fieldAddr FA163_6 rfl (WO.guardYes rfl rfl rfl rfl (OR.load T43 rfl rfl (hs.cellM (i := 0) rfl rfl) ?_)))))))
      refine WO.guardYes rfl rfl rfl rfl (OR.lenSlice T43.und rfl (WO.guardYes rfl rfl rfl rfl (OR.gtr rfl rfl (WO.guardYes rfl rfl rfl rfl (OR.pickT rfl rfl rfl (WO.step rfl (OR.pickF rfl rfl rfl ?_)))))))
      refine WO.done (WX.seq ?_)
      refine WC.cond rfl (fun hopn => ?_) (fun hopn => ?_)
      · have hne : ¬ openF (g * s - 4) st cuts = [] := fun e => by simp only at hopn; rw [e] at hopn; cases hopn
        refine WC.seq (WC.region (WO.step rfl (OR.assign rfl (WO.step rfl (OR.assign rfl (WO.done (WX.seq ?_)))))))
        refine WC.ret (WX.seq_ret ?_)
        refine WX.ret2 rfl rfl rfl ?_
        refine ⟨_, H, _, rfl, hs.drop 0, by simp [dropAt], ?_⟩
        show ite _ _ _
        rw [if_neg (fun h => hne (h.2 rfl))]
      · have he : openF (g * s - 4) st cuts = [] := by
          simp only at hopn
          refine List.eq_nil_of_length_eq_zero ?_
          have := of_decide_eq_false hopn
          omega
        refine WC.skip (WX.seq (WC.seq (WC.region (WO.step rfl (OR.move rfl (WO.step rfl (OR.assign rfl ?_)))))))
        refine WO.step rfl (OR.assign rfl (WO.done (WX.seq (WC.ret ?_))))
        refine WX.ret2 rfl rfl rfl ?_
        refine ⟨_, H, _, rfl, hs, by simp, ?_⟩
        show ite _ _ _
        rw [if_pos ⟨hT, fun _ => he⟩]
        exact ⟨g1, _, rfl, rfl, hg1, _, _, _, _, rfl, q1, q2, q3, q4⟩
  · rw [if_neg hT] at hres
    obtain ⟨rfl, rfl⟩ := hres
    refine WO.guardYes rfl (decide_eq_false (by omega : ¬ ((st.length : Int) > 262144))) rfl rfl (OR.neq rfl rfl (WO.step rfl (OR.pickF rfl (decide_eq_false (by omega : ¬ ((st.length : Int) > 262144))) rfl (WO.step rfl (OR.move rfl ?_)))))
    refine WO.guardNo rfl rfl rfl rfl (WO.guardNo rfl rfl rfl rfl (WO.guardGone rfl rfl rfl (WO.guardGone rfl rfl rfl (WO.guardGone rfl rfl rfl (WO.guardGone rfl rfl rfl (WO.guardGone rfl rfl rfl (WO.guardGone rfl rfl rfl ?_)))))))
    refine WO.guardNo rfl rfl rfl rfl (WO.step rfl (OR.pickT rfl rfl rfl (WO.done (WX.seq (WC.yes rfl rfl (WC.seq (WC.region ?_)))))))
    refine WO.step rfl (OR.assign rfl (WO.step rfl (OR.assign rfl (WO.done (WX.seq (WC.ret (WX.seq_ret ?_)))))))
    refine WX.ret2 rfl rfl rfl ?_
    refine ⟨_, H, _, rfl, hs.drop 0, by simp [dropAt], ?_⟩
    show ite _ _ _
    rw [if_neg (fun h => hT h.1)]

end Go.Bw
namespace Go.Bw
set_option linter.unusedVariables false
set_option linter.unusedSimpArgs false
open Go.Proofs

set_option maxRecDepth 20000 in
set_option maxHeartbeats 2000000 in
theorem snew_ok (g s : Nat) (H0 : Hp) (w0 : World) (h0 : Sub H0 w0) (hgs : goodGS g s) :
    Calls Tryz.prog 28 #[.int .i64 (g : Int), .int .i64 (s : Int)] w0 (Ret [] H0 w0 fun v H' M' => ∃ b o, v = .tuple #[ptr b, .int .i64 0] ∧ M' = [(b, o, true)] ∧ w0.heap.size ≤ b ∧ SrcIn H' (newD g s [] [] false) o) := by
  have hs := HS.init h0
  have hle := Hp.le.refl H0
  refine Calls.enter (args := [.int .i64 (g : Int), .int .i64 (s : Int)]) Tryz.func28 rfl Tryz.ntmps28 rfl ?_
  refine WC.seq (WC.region (WO.step rfl (OR.assign rfl (WO.step rfl (OR.assign rfl (WO.done (WX.seq ?_)))))))
  refine WC.seq (WC.region (WO.step rfl (OR.move rfl (WO.step rfl (OR.move rfl ?_)))))
  refine WO.step rfl (OR.callX (Mx := []) hs body82 rfl rfl (restore_ok g s (.slice none 0 0) (.slice none 0 0) [] [] false _ _ hs.toSub hgs (Sl.empty _ _ _) (Sl.empty _ _ _) (by simp) (by simp)) rfl rfl ?_)
  clear hs; rintro _ H M' w hs hle1 hnew hres; replace hle := hle.trans hle1; (try replace hlb := hlb.trans hle1)
  rw [if_pos ⟨rfl, fun h => by cases h⟩] at hres
  obtain ⟨b, o, rfl, rfl, hb, hsrc⟩ := hres
  refine WO.step rfl (OR.extract rfl rfl (WO.step rfl (OR.extract rfl rfl (WO.step rfl (OR.assign rfl (WO.step rfl (OR.assign rfl ?_)))))))
  refine WO.done (WX.seq (WC.ret ?_))
  refine WX.ret2 rfl rfl rfl ?_
  exact ⟨_, H, _, rfl, hs, by simp, b, o, rfl, rfl, hb, hsrc⟩
set_option maxRecDepth 20000 in
set_option maxHeartbeats 2000000 in
theorem snew_bad (g s : Int) (H0 : Hp) (w0 : World) (h0 : Sub H0 w0) (hgs : ¬ goodGS g s) :
    Calls Tryz.prog 28 #[.int .i64 g, .int .i64 s] w0 (Pure H0 w0 fun v _ => v = .tuple #[.pointer none, .int .i64 1]) := by
  have hs := HS.init h0
  have hle := Hp.le.refl H0
  refine Calls.enter (args := [.int .i64 g, .int .i64 s]) Tryz.func28 rfl Tryz.ntmps28 rfl ?_
  refine WC.seq (WC.region (WO.step rfl (OR.assign rfl (WO.step rfl (OR.assign rfl (WO.done (WX.seq ?_)))))))
  refine WC.seq (WC.region (WO.step rfl (OR.move rfl (WO.step rfl (OR.move rfl ?_)))))
  refine WO.step rfl (OR.call hs body82 rfl rfl (restore_bad g s none none 0 0 0 0 false _ _ hs.toSub (.inl hgs)) ?_)
  clear hs; rintro _ H w hs hle1 rfl; replace hle := hle.trans hle1; (try replace hlb := hlb.trans hle1)
  refine WO.step rfl (OR.extract rfl rfl (WO.step rfl (OR.extract rfl rfl (WO.step rfl (OR.assign rfl (WO.step rfl (OR.assign rfl ?_)))))))
  refine WO.done (WX.seq (WC.ret ?_))
  refine WX.ret2 rfl rfl rfl ?_
  exact .mk hs rfl

theorem whole_mem {room a n : Nat} {st : List UInt8} {c : List UInt8} (h : c ∈ wholeL room st a n) (hle : a + n * room ≤ st.length) : c.length = room := by
  simp only [wholeL, List.mem_map, List.mem_range] at h
  obtain ⟨k, hk, rfl⟩ := h
  have : (k + 1) * room ≤ n * room := Nat.mul_le_mul_right _ hk
  rw [Nat.add_mul, Nat.one_mul] at this
  simp
  omega
theorem step_mem {room : Nat} {st : List UInt8} (hr : 1 ≤ room) {p : List (List UInt8) × Nat} {cut : Nat} (hp : ∀ c ∈ p.1, 1 ≤ c.length ∧ c.length ≤ room) (h1 : p.2 ≤ cut) (h2 : cut ≤ st.length) :
    ∀ c ∈ (chunkStep room st p ((cut : Nat) : Int)).1, 1 ≤ c.length ∧ c.length ≤ room := by
  intro c hc
  have hd : (cut - p.2) / room * room ≤ cut - p.2 := Nat.div_mul_le_self _ _
  have hm : (cut - p.2) % room < room := Nat.mod_lt _ (by omega)
  have hdm := Nat.div_add_mod (cut - p.2) room
  rw [Nat.mul_comm] at hdm
  rw [chunkStep, List.mem_append, List.mem_append] at hc
  rcases hc with (hc | hc) | hc
  · exact hp c hc
  · have := whole_mem hc (by rw [Int.toNat_natCast]; omega)
    omega
  · simp only [Int.toNat_natCast, cutPiece] at hc
    split at hc
    · simp only [List.mem_singleton] at hc
      subst hc
      simp
      omega
    · cases hc
theorem chunkP_mem {room : Nat} {st : List UInt8} (hr : 1 ≤ room) : ∀ (cuts : List Int) (p : List (List UInt8) × Nat), (∀ c ∈ p.1, 1 ≤ c.length ∧ c.length ≤ room) → p.2 ≤ st.length → cutsOk st.length (p.2 : Int) cuts = true →
    (∀ c ∈ (cuts.foldl (chunkStep room st) p).1, 1 ≤ c.length ∧ c.length ≤ room) ∧ (cuts.foldl (chunkStep room st) p).2 ≤ st.length
  | [], p, h1, h2, _ => ⟨h1, h2⟩
  | c :: cs, p, h1, h2, h => by
    simp only [cutsOk, Bool.and_eq_true, decide_eq_true_eq] at h
    obtain ⟨⟨h3, h4⟩, h5⟩ := h
    obtain ⟨k, rfl⟩ := Int.eq_ofNat_of_zero_le (show 0 ≤ c by omega)
    have hk : (chunkStep room st p ((k : Nat) : Int)).2 = k := rfl
    exact chunkP_mem hr cs _ (step_mem hr h1 (by omega) (by omega)) (by rw [hk]; omega) (by rw [hk]; exact h5)
theorem chunksF_mem {room : Nat} {st : List UInt8} {cuts : List Int} (hr : 1 ≤ room) (h : cutsOk st.length 0 cuts = true) : ∀ c ∈ chunksF room st cuts, 1 ≤ c.length ∧ c.length ≤ room := by
  have h1 := chunkP_mem (st := st) hr cuts ([], 0) (by simp) (Nat.zero_le _) h
  intro c hc
  rw [chunksF, List.mem_append] at hc
  rcases hc with hc | hc
  · exact h1.1 c hc
  · have h2 : (st.length - (chunkP room st cuts).2) / room * room ≤ st.length - (chunkP room st cuts).2 := Nat.div_mul_le_self _ _
    have h3 : (chunkP room st cuts).2 ≤ st.length := h1.2
    have := whole_mem hc (by omega)
    omega
theorem SrcOk.mem {x : SrcD} (h : SrcOk x) : ∀ c ∈ x.chunks, 1 ≤ c.length ∧ c.length ≤ x.g * x.s - 4 := by
  rw [h.ch]
  exact chunksF_mem h.room h.cuts
theorem SrcOk.nat {x : SrcD} (h : SrcOk x) : 1 ≤ x.g ∧ x.g ≤ 255 ∧ 1 ≤ x.s ∧ x.s ≤ 65535 ∧ 4 < x.g * x.s := by
  have h1 := h.gs
  have h2 : (4 : Int) < (x.g : Int) * (x.s : Int) := h1.2.2.2.2
  rw [← Int.natCast_mul] at h2
  have := h1.1
  have := h1.2.1
  have := h1.2.2.1
  have := h1.2.2.2.1
  omega

/-- Two questions that change nothing. -/
theorem first2 (v1 v2 : Value) (e1 e2 : Int) (gb cap : Nat) (xs : List Nat) (H0 H : Hp) (w0 w : World) (M : Mem) (hs : HS xs H0 w0 H ((gb, .cells #[v1, v2] 70, true) :: M) w)
    (h1 : ∃ f vf vc, v1 = .func (.func f) (List.toArray vf) (List.toArray vc) ∧ Body Tryz.prog f ∧ ∀ H' w', Hp.le H H' → HS xs H0 w0 H' ((gb, .cells #[v1, v2] 70, true) :: M) w' → Calls Tryz.prog f (vf ++ [] ++ vc).toArray w' (Pure H' w' fun v _ => v = .int .i64 e1))
    (h2 : ∃ f vf vc, v2 = .func (.func f) (List.toArray vf) (List.toArray vc) ∧ Body Tryz.prog f ∧ ∀ H' w', Hp.le H H' → HS xs H0 w0 H' ((gb, .cells #[v1, v2] 70, true) :: M) w' → Calls Tryz.prog f (vf ++ [] ++ vc).toArray w' (Pure H' w' fun v _ => v = .int .i64 e2)) :
    Calls Tryz.prog 83 #[.slice (some ⟨gb, 0, none⟩) 2 cap] w (fun e w' => e = .returned (.int .i64 (if e1 = 0 then e2 else e1)) ∧ ∃ H', Hp.le H H' ∧ HS xs H0 w0 H' ((gb, .cells #[v1, v2] 70, true) :: M) w') := by
  obtain ⟨f1, vf1, vc1, rfl, hb1, h1⟩ := h1
  obtain ⟨f2, vf2, vc2, rfl, hb2, h2⟩ := h2
  refine (first_ok [.func (.func f1) vf1.toArray vc1.toArray, .func (.func f2) vf2.toArray vc2.toArray] gb cap
    (fun i w' => (i = 1 → e1 = 0) ∧ (i = 2 → e1 = 0 ∧ e2 = 0) ∧ ∃ H', Hp.le H H' ∧ HS xs H0 w0 H' ((gb, .cells #[.func (.func f1) vf1.toArray vc1.toArray, .func (.func f2) vf2.toArray vc2.toArray] 70, true) :: M) w')
    (fun er w' => er = (if e1 = 0 then e2 else e1) ∧ ∃ H', Hp.le H H' ∧ HS xs H0 w0 H' ((gb, .cells #[.func (.func f1) vf1.toArray vc1.toArray, .func (.func f2) vf2.toArray vc2.toArray] 70, true) :: M) w')
    w ⟨(fun h => by cases h), (fun h => by cases h), H, Hp.le.refl H, hs⟩ (by simp) ?_ ?_ ?_).mono ?_
  · rintro i w' ⟨_, _, H', _, hs'⟩ h
    match i, h with
    | 0, _ => exact hs'.cellM (i := 0) rfl rfl
    | 1, _ => exact hs'.cellM (i := 0) rfl rfl
  · rintro i h w' ⟨q1, _, H', hle', hs'⟩
    match i, h with
    | 0, _ =>
      refine ⟨_, vf1, vc1, rfl, hb1, (h1 H' w' hle' hs').mono fun e w2 hp => ?_⟩
      obtain ⟨v, H2, rfl, hs2, hle2, rfl⟩ := hp.step hs'
      by_cases hz : e1 = 0
      · exact ⟨e1, rfl, .inl ⟨hz, (fun _ => hz), (fun h => by cases h), H2, hle'.trans hle2, hs2⟩⟩
      · exact ⟨e1, rfl, .inr ⟨hz, by rw [if_neg hz], H2, hle'.trans hle2, hs2⟩⟩
    | 1, _ =>
      refine ⟨_, vf2, vc2, rfl, hb2, (h2 H' w' hle' hs').mono fun e w2 hp => ?_⟩
      obtain ⟨v, H2, rfl, hs2, hle2, rfl⟩ := hp.step hs'
      have h10 := q1 rfl
      by_cases hz : e2 = 0
      · exact ⟨e2, rfl, .inl ⟨hz, (fun h => by cases h), (fun _ => ⟨h10, hz⟩), H2, hle'.trans hle2, hs2⟩⟩
      · exact ⟨e2, rfl, .inr ⟨hz, by rw [if_pos h10], H2, hle'.trans hle2, hs2⟩⟩
  · rintro w' ⟨_, q2, H', hle', hs'⟩
    obtain ⟨a, b⟩ := q2 rfl
    exact ⟨by rw [if_pos a, b], H', hle', hs'⟩
  · rintro e w' ⟨er, rfl, rfl, H', hle', hs'⟩
    exact ⟨rfl, H', hle', hs'⟩

set_option maxRecDepth 20000 in
set_option maxHeartbeats 2000000 in
theorem there_ok (b : Nat) (gen : Nat) (H0 : Hp) (w0 : World) (h0 : Sub H0 w0) :
    Calls Tryz.prog 108 #[ptr b, .int .u64 (gen : Int)] w0 (Pure H0 w0 fun v H' => ∃ gg gx, v = .func (.func 145) #[] #[ptr gg, ptr gx] ∧ hcell H' ⟨gg, 0, none⟩ = some (.int .u64 (gen : Int)) ∧ hcell H' ⟨gx, 0, none⟩ = some (ptr b)) := by
  have hs := HS.init h0
  have hle := Hp.le.refl H0
  refine Calls.enter (args := [ptr b, .int .u64 (gen : Int)]) Tryz.func108 rfl Tryz.ntmps108 rfl ?_
  refine WC.seq (WC.region (WO.step rfl (OR.box hs rfl ?_)))
  clear hs; intro g1 w hg1 hs
  refine WO.step rfl (OR.box hs rfl ?_)
  clear hs; intro g2 w hg2 hs
  refine WO.step rfl (OR.assign rfl (WO.done (WX.seq (WC.seq (WC.region (WO.step rfl (OR.makeFunc rfl rfl ?_)))))))
  refine WO.step rfl (OR.assign rfl (WO.done (WX.seq (WC.ret ?_))))
  obtain ⟨H, hle1, hp_g2, hs9⟩ := hs.pub1 hg2; clear hs; have hs := hs9; clear hs9; replace hle := hle.trans hle1; (try replace hlb := hlb.trans hle1)
  obtain ⟨H, hle1, hp_g1, hs9⟩ := hs.pub1 hg1; clear hs; have hs := hs9; clear hs9; replace hle := hle.trans hle1; (try replace hlb := hlb.trans hle1)
  refine WX.ret1 rfl rfl ?_
  exact .mk hs ⟨g2, g1, rfl, hcell_of (hle1 _ _ hp_g2) rfl, hcell_of hp_g1 rfl⟩

set_option maxRecDepth 20000 in
set_option maxHeartbeats 2000000 in
theorem there1_ok (b gg gx : Nat) (gen : Nat) (x : SrcD) (o : Obj) (H0 : Hp) (w0 : World) (h0 : Sub H0 w0) (hb : w0.heap[b]? = some o) (hn : H0 b = none) (hx : SrcIn H0 x o) (hl : x.chunks.length < 9223372036854775807)
    (h1 : hcell H0 ⟨gg, 0, none⟩ = some (.int .u64 (gen : Int))) (h2 : hcell H0 ⟨gx, 0, none⟩ = some (ptr b)) :
    Calls Tryz.prog 145 #[ptr gg, ptr gx] w0 (Pure H0 w0 fun v _ => v = .int .i64 (if gen < x.chunks.length then 0 else 23)) := by
  have hs := HS.startR h0 hb hn
  have hle := Hp.le.refl H0
  refine Calls.enter (args := [ptr gg, ptr gx]) Tryz.func145 rfl Tryz.ntmps145 rfl ?_
  refine WC.seq (WC.region (WO.step rfl (OR.assign rfl (WO.done (WX.seq (WC.seq (WC.seq ?_)))))))
  refine WC.draw 3 mixed hs (by kernel_rfl) ?_
  refine ⟨MF.eq (.int .u64 (gen : Int)), ?_, ?_⟩
  · intro Mx H w hle2 hs; (try replace hle := hle.trans hle2); (try replace hlb := hlb.trans hle2)
    refine forVals_nil (ORg.plain (OR.load T22 rfl rfl (hs.cell (hcell.mono hle h1)) ?_))
    exact ⟨_, [], Hp.le.refl _, hs, rfl, rfl⟩
  refine ⟨MF.eq (ptr b), ?_, ?_⟩
  · intro Mx H w hle2 hs; (try replace hle := hle.trans hle2); (try replace hlb := hlb.trans hle2)
    refine forVals_nil (ORg.plain (OR.load T66 rfl rfl (hs.cell (hcell.mono hle h2)) ?_))
    exact ⟨_, [], Hp.le.refl _, hs, rfl, rfl⟩
  refine ⟨MF.eq (.int .u64 (x.chunks.length : Int)), ?_, ?_⟩
  · intro Mx H w hle2 hs; (try replace hle := hle.trans hle2); (try replace hlb := hlb.trans hle2); refine forVals_eq rfl rfl rfl ?_
    refine forVals_nil (ORg.plain (OR.call hs body31 rfl rfl (gens_ok b x o _ _ hs.toSub (hs.right.blk (i := 0) rfl) (hs.right.mem b _ false (List.mem_cons_self ..)).2.1 (hx.mono hle) hl) ?_))
    clear hs; rintro _ H w hs hle1 rfl
    exact ⟨_, [], hle1, hs, rfl, rfl⟩
  intro H w hle2; (try replace hle := hle.trans hle2); (try replace hlb := hlb.trans hle2)
  refine forAllVals_eq rfl ?_
  refine forAllVals_eq rfl ?_
  refine forAllVals_eq rfl ?_
  refine forAllVals_nil ?_; (try clear hs); intro hs
  refine WO.step rfl (OR.geq rfl rfl (WO.done (WX.seq ?_)))
  refine WC.condD rfl (fun hge => ?_) (fun hge => ?_)
  · refine WC.seq (WC.region (WO.step rfl (OR.assign rfl (WO.done (WX.seq (WC.ret (WX.seq_ret ?_)))))))
    refine WX.ret1 rfl rfl ?_
    exact .mk hs (by rw [if_neg (by omega)])
  · refine WC.skip (WX.seq (WC.seq (WC.region (WO.step rfl (OR.assign rfl (WO.done (WX.seq ?_)))))))
    refine WC.ret ?_
    refine WX.ret1 rfl rfl ?_
    exact .mk hs (by rw [if_pos (by omega)])

/-- A slice of slices of bytes, or a row, with an error. -/
def TupL (H : Hp) (v : Value) (ll : List (List UInt8)) (e : Int) : Prop := ∃ r, v = .tuple #[r, .int .i64 e] ∧ BytesL H r ll
def MF.tupL (ll : List (List UInt8)) (e : Int) : MF := MF.of (fun v H => TupL H v ll e) fun _ _ _ hle ⟨r, h1, h2⟩ => ⟨r, h1, h2.mono hle⟩
def TupR (H : Hp) (v : Value) (x : RowD) (e : Int) : Prop := ∃ r, v = .tuple #[r, .int .i64 e] ∧ RowV H r x
def MF.tupR (x : RowD) (e : Int) : MF := MF.of (fun v H => TupR H v x e) fun _ _ _ hle ⟨r, h1, h2⟩ => ⟨r, h1, h2.mono hle⟩

/-- The symbols of a generation. -/
def symF (x : SrcD) (gen : Nat) : List (List UInt8) := match x.chunks[gen]? with
  | some c => layF x.g x.s c
  | none => []
def thereE (x : SrcD) (gen : Nat) : Int := if gen < x.chunks.length then 0 else 23
set_option maxRecDepth 20000 in
set_option maxHeartbeats 2000000 in
theorem symbols_ok (b : Nat) (gen : Nat) (x : SrcD) (o : Obj) (H0 : Hp) (w0 : World) (h0 : Sub H0 w0) (hb : w0.heap[b]? = some o) (hn : H0 b = none) (hx : SrcIn H0 x o) (hok : SrcOk x) :
    Calls Tryz.prog 49 #[ptr b, .int .u64 (gen : Int)] w0 (Pure H0 w0 fun v H' => TupL H' v (symF x gen) (thereE x gen)) := by
  have hs := HS.startR h0 hb hn
  have hle := Hp.le.refl H0
  have hchl := hok.chl
  have hgp : 0 < x.g := by have := hok.gs.1; omega
  have hx0 := hx
  obtain ⟨vs, vc, vch, vop, rfl, hx1, hx2, hx3, hx4⟩ := hx0
  refine Calls.enter (args := [ptr b, .int .u64 (gen : Int)]) Tryz.func49 rfl Tryz.ntmps49 rfl ?_
  refine WC.seq (WC.region (WO.step rfl (OR.assign rfl (WO.step rfl (OR.assign rfl (WO.done (WX.seq ?_)))))))
  refine WC.seq (WC.seq (WC.region (WO.step rfl (OR.move rfl (WO.step rfl (OR.makeFunc rfl rfl (WO.step rfl ?_)))))))
  refine OR.move rfl (WO.step rfl (OR.move rfl ?_))
  refine WO.step rfl (OR.call hs body108 rfl rfl (there_ok b gen _ _ hs.toSub) ?_)
  clear hs; rintro _ H w hs hle1 ⟨gg, gx, rfl, hc1, hc2⟩; replace hle := hle.trans hle1; (try replace hlb := hlb.trans hle1)
  refine WO.step rfl (OR.buildSlice (vs := [_, _]) hs T215.und T70 rfl rfl rfl rfl (by simp) ?_)
  clear hs; intro g4 w hg4 hs
  refine WO.step rfl (OR.callW body83 rfl rfl (first2 _ _ 0 (thereE x gen) g4 2 _ _ _ _ _ _ hs ⟨_, [ptr b], [], rfl, body84, fun H' w' hl' hs' => smade_ok b x.g x.s vs vc vch vop x.cl _ _ hs'.toSub (hs'.blk (i := 1) rfl) (hs'.mem b (srcObj x.g x.s vs vc x.cl vch vop) false (by simp)).2.1 hgp⟩ ⟨_, [], [ptr gg, ptr gx], rfl, body145, fun H' w' hl' hs' => there1_ok b gg gx gen x (srcObj x.g x.s vs vc x.cl vch vop) _ _ hs'.toSub (hs'.blk (i := 1) rfl) (hs'.mem b (srcObj x.g x.s vs vc x.cl vch vop) false (by simp)).2.1 (hx.mono (hle.trans hl')) (by omega) (hcell.mono hl' hc1) (hcell.mono hl' hc2)⟩) ?_)
  clear hs
  rintro e w ⟨rfl, H, hle1, hs⟩
  replace hle := hle.trans hle1
  refine ⟨_, rfl, ?_⟩
  rw [if_pos rfl]
  by_cases hlt : gen < x.chunks.length
  · have hE : thereE x gen = 0 := by rw [thereE, if_pos hlt]
    rw [hE]
    obtain ⟨b3, c3, e3⟩ := hx3.form
    subst e3
    refine WO.step rfl (OR.assign rfl (WO.done (WX.seq (WC.seq (WC.region (WO.step rfl (OR.move rfl ?_)))))))
    refine WO.step rfl (OR.neq rfl rfl (WO.done (WX.seq ?_)))
    refine WC.no rfl (decide_eq_false (by decide)) ?_
    obtain ⟨cs, hsl, hcl, hcs⟩ := hx3
    obtain ⟨ob, oo, rfl, hco⟩ := hsl.pos (by omega)
    have hgc : gen < cs.length := by omega
    have hcell' := hco gen cs[gen] (List.getElem?_eq_getElem hgc)
    have hcb := hcs gen hlt hgc
    have hmem := hok.mem x.chunks[gen] (List.getElem_mem hlt)
    have hsym : symF x gen = layF x.g x.s x.chunks[gen] := by rw [symF, List.getElem?_eq_getElem hlt]
    refine WC.skip (WX.seq (WC.seq ?_))
    refine WC.sub [(0, ptr b), (1, .int .u64 (gen : Int))] ⟨rfl, rfl,  trivial⟩ ?_
    refine WC.draw 19 mixed hs (by kernel_rfl) ?_
    refine ⟨MF.eq _, by intro Mx H w hle hs; refine forVals_nil (ORg.plain (OR.move rfl ?_)); exact ⟨_, [], Hp.le.refl _, hs, rfl, rfl⟩, ?_⟩
    refine ⟨MF.eq _, by intro Mx H w hle hs; refine forVals_eq rfl rfl rfl ?_; refine forVals_nil (ORg.plain (OR.nilCheck rfl ?_)); exact ⟨_, [], Hp.le.refl _, hs, rfl, rfl⟩, ?_⟩
    refine ⟨MF.eq _, by intro Mx H w hle hs; refine forVals_eq rfl rfl rfl ?_; refine forVals_nil (ORg.plain (OR.fieldAddr FA163_5 rfl ?_)); exact ⟨_, [], Hp.le.refl _, hs, rfl, rfl⟩, ?_⟩
    refine ⟨MF.eq _, by intro Mx H w hle hs; refine forVals_eq rfl rfl rfl ?_; refine forVals_nil (ORg.plain (OR.load T40 rfl rfl (hs.right.cellM (i := 1) rfl rfl) ?_)); exact ⟨_, [], Hp.le.refl _, hs, rfl, rfl⟩, ?_⟩
    refine ⟨MF.eq _, by intro Mx H w hle hs; refine forVals_nil (ORg.plain (OR.move rfl ?_)); exact ⟨_, [], Hp.le.refl _, hs, rfl, rfl⟩, ?_⟩
    refine ⟨MF.eq (.pointer (some ⟨ob, oo + gen, none⟩)), ?_, ?_⟩
    · intro Mx H w hle2 hs; (try replace hle := hle.trans hle2); (try replace hlb := hlb.trans hle2); refine forVals_eq rfl rfl rfl ?_; refine forVals_eq rfl rfl rfl ?_
      refine forVals_nil (ORg.plain (OR.idx gen T40.und T43 rfl rfl rfl hlt ?_))
      exact ⟨_, [], Hp.le.refl _, hs, rfl, rfl⟩
    refine ⟨MF.eq cs[gen], ?_, ?_⟩
    · intro Mx H w hle2 hs; (try replace hle := hle.trans hle2); (try replace hlb := hlb.trans hle2); refine forVals_eq rfl rfl rfl ?_
      refine forVals_nil (ORg.plain (OR.load T43 rfl rfl (hs.cell (hcell.mono hle hcell')) ?_))
      exact ⟨_, [], Hp.le.refl _, hs, rfl, rfl⟩
    refine ⟨MF.eq _, by intro Mx H w hle hs; refine forVals_nil (ORg.plain (OR.move rfl ?_)); exact ⟨_, [], Hp.le.refl _, hs, rfl, rfl⟩, ?_⟩
    refine ⟨MF.eq _, by intro Mx H w hle hs; refine forVals_eq rfl rfl rfl ?_; refine forVals_nil (ORg.plain (OR.nilCheck rfl ?_)); exact ⟨_, [], Hp.le.refl _, hs, rfl, rfl⟩, ?_⟩
    refine ⟨MF.eq _, by intro Mx H w hle hs; refine forVals_eq rfl rfl rfl ?_; refine forVals_nil (ORg.plain (OR.fieldAddr FA163_0 rfl ?_)); exact ⟨_, [], Hp.le.refl _, hs, rfl, rfl⟩, ?_⟩
    refine ⟨MF.eq _, by intro Mx H w hle hs; refine forVals_eq rfl rfl rfl ?_; refine forVals_nil (ORg.plain (OR.load T3 rfl rfl (hs.right.cellM (i := 1) rfl rfl) ?_)); exact ⟨_, [], Hp.le.refl _, hs, rfl, rfl⟩, ?_⟩
    refine ⟨MF.eq _, by intro Mx H w hle hs; refine forVals_nil (ORg.plain (OR.move rfl ?_)); exact ⟨_, [], Hp.le.refl _, hs, rfl, rfl⟩, ?_⟩
    refine ⟨MF.eq _, by intro Mx H w hle hs; refine forVals_eq rfl rfl rfl ?_; refine forVals_nil (ORg.plain (OR.nilCheck rfl ?_)); exact ⟨_, [], Hp.le.refl _, hs, rfl, rfl⟩, ?_⟩
    refine ⟨MF.eq _, by intro Mx H w hle hs; refine forVals_eq rfl rfl rfl ?_; refine forVals_nil (ORg.plain (OR.fieldAddr FA163_1 rfl ?_)); exact ⟨_, [], Hp.le.refl _, hs, rfl, rfl⟩, ?_⟩
    refine ⟨MF.eq _, by intro Mx H w hle hs; refine forVals_eq rfl rfl rfl ?_; refine forVals_nil (ORg.plain (OR.load T3 rfl rfl (hs.right.cellM (i := 1) rfl rfl) ?_)); exact ⟨_, [], Hp.le.refl _, hs, rfl, rfl⟩, ?_⟩
    refine ⟨MF.tupL (layF x.g x.s x.chunks[gen]) 0, ?_, ?_⟩
    · intro Mx H w hle2 hs; (try replace hle := hle.trans hle2); (try replace hlb := hlb.trans hle2); refine forVals_eq rfl rfl rfl ?_; refine forVals_eq rfl rfl rfl ?_; refine forVals_eq rfl rfl rfl ?_
      refine forVals_nil (ORg.plain (OR.call hs body109 rfl rfl (lay_ok x.g x.s cs[gen] x.chunks[gen] _ _ hs.toSub hok.nat (hcb.mono hle) hmem.1 hmem.2) ?_))
      clear hs; rintro _ H w hs hle1 ⟨r, rfl, hr⟩
      exact ⟨_, [], hle1, hs, ⟨r, rfl, hr⟩, rfl⟩
    refine ⟨MF.bytesL (layF x.g x.s x.chunks[gen]), ?_, ?_⟩
    · intro Mx H w hle2 hs; (try replace hle := hle.trans hle2); (try replace hlb := hlb.trans hle2); refine forVals_of rfl rfl rfl ?_; intro v15 h15
      obtain ⟨r, rfl, hr⟩ := h15
      refine forVals_nil (ORg.plain (OR.extract rfl rfl ?_))
      exact ⟨_, [], Hp.le.refl _, hs, hr, rfl⟩
    refine ⟨MF.eq (.int .i64 0), ?_, ?_⟩
    · intro Mx H w hle2 hs; (try replace hle := hle.trans hle2); (try replace hlb := hlb.trans hle2); refine forVals_of rfl rfl rfl ?_; intro v15 h15
      obtain ⟨r, rfl, hr⟩ := h15
      refine forVals_nil (ORg.plain (OR.extract rfl rfl ?_))
      exact ⟨_, [], Hp.le.refl _, hs, rfl, rfl⟩
    refine ⟨MF.bytesL (layF x.g x.s x.chunks[gen]), ?_, ?_⟩
    · intro Mx H w hle2 hs; (try replace hle := hle.trans hle2); (try replace hlb := hlb.trans hle2); refine forVals_of rfl rfl rfl ?_; intro v16 h16
      refine forVals_nil (ORg.plain (OR.assign rfl ?_))
      exact ⟨_, [], Hp.le.refl _, hs, h16, rfl⟩
    intro H w hle2; (try replace hle := hle.trans hle2); (try replace hlb := hlb.trans hle2)
    refine forAllVals_eq rfl ?_
    refine forAllVals_eq rfl ?_
    refine forAllVals_eq rfl ?_
    refine forAllVals_eq rfl ?_
    refine forAllVals_eq rfl ?_
    refine forAllVals_eq rfl ?_
    refine forAllVals_eq rfl ?_
    refine forAllVals_eq rfl ?_
    refine forAllVals_eq rfl ?_
    refine forAllVals_eq rfl ?_
    refine forAllVals_eq rfl ?_
    refine forAllVals_eq rfl ?_
    refine forAllVals_eq rfl ?_
    refine forAllVals_eq rfl ?_
    refine forAllVals_eq rfl ?_
    refine forAllVals_of rfl ?_; intro v15 h15
    refine forAllVals_of rfl ?_; intro v16 h16
    refine forAllVals_eq rfl ?_
    refine forAllVals_of rfl ?_; intro v18 h18
    refine forAllVals_nil ?_; (try clear hs); intro hs
    refine WO.step rfl (OR.assign rfl (WO.done (WX.seq (WC.ret ?_))))
    refine WX.ret2 rfl rfl rfl ?_
    rw [hsym]
    exact .mk (hs.drop 0) ⟨_, rfl, h18⟩
  · have hE : thereE x gen = 23 := by rw [thereE, if_neg hlt]
    rw [hE]
    refine WO.step rfl (OR.assign rfl (WO.done (WX.seq (WC.seq (WC.region (WO.step rfl (OR.move rfl ?_)))))))
    refine WO.step rfl (OR.neq rfl rfl (WO.done (WX.seq ?_)))
    refine WC.yes rfl (decide_eq_true (by decide)) ?_
    refine WC.seq (WC.region (WO.step rfl (OR.move rfl (WO.step rfl (OR.assign rfl (WO.step rfl (OR.assign rfl ?_)))))))
    refine WO.done (WX.seq (WC.ret (WX.seq_ret ?_)))
    refine WX.ret2 rfl rfl rfl ?_
    exact .mk (hs.drop 0) ⟨_, rfl, by rw [symF, List.getElem?_eq_none (by omega)]; exact ⟨[], Sl.empty _ _ _, rfl, fun i h => by simp at h⟩⟩

theorem symF_len {x : SrcD} (hok : SrcOk x) {gen : Nat} (h : gen < x.chunks.length) : (symF x gen).length = x.g := by
  rw [symF, List.getElem?_eq_getElem h]
  simp [layF]
theorem symF_row {x : SrcD} (hok : SrcOk x) {gen : Nat} (h : gen < x.chunks.length) : ∀ r ∈ symF x gen, r.length = x.s := by
  rw [symF, List.getElem?_eq_getElem h]
  intro r hr
  simp only [layF, List.mem_map, List.mem_range] at hr
  obtain ⟨i, hi, rfl⟩ := hr
  have hmem := hok.mem x.chunks[gen] (List.getElem_mem h)
  have hal := layAll_len (g := x.g) (s := x.s) (chunk := x.chunks[gen]) hok.nat.2.2.2.2 hmem.2
  have : x.s * (i + 1) ≤ x.g * x.s := by rw [Nat.mul_comm x.g]; exact Nat.mul_le_mul_left _ hi
  rw [Nat.mul_add, Nat.mul_one] at this
  simp [hal]
  omega

def rowE (x : SrcD) (gen : Nat) (c : List UInt8) : Int := if gen < x.chunks.length then (if c.length = x.g then 0 else 21) else 23
def rowF (x : SrcD) (gen : Nat) (c : List UInt8) : RowD := if gen < x.chunks.length ∧ c.length = x.g then (c, comb x.s (symF x gen) c) else ([], [])
set_option maxRecDepth 20000 in
set_option maxHeartbeats 2000000 in
theorem srow_ok (b : Nat) (gen : Nat) (vd : Value) (c : List UInt8) (x : SrcD) (o : Obj) (H0 : Hp) (w0 : World) (h0 : Sub H0 w0) (hb : w0.heap[b]? = some o) (hn : H0 b = none) (hx : SrcIn H0 x o) (hok : SrcOk x) (hc : Bytes H0 vd c) (hl : c.length ≤ 140737488355328) :
    Calls Tryz.prog 32 #[ptr b, .int .u64 (gen : Int), vd] w0 (Pure H0 w0 fun v H' => TupR H' v (rowF x gen c) (rowE x gen c)) := by
  have hs := HS.startR h0 hb hn
  have hle := Hp.le.refl H0
  have hx0 := hx
  obtain ⟨hn1, hn2, hn3, hn4, hn5⟩ := hok.nat
  obtain ⟨b1, c1, rfl⟩ := hc.form
  obtain ⟨vs, vc, vch, vop, rfl, hx1, hx2, hx3, hx4⟩ := hx0
  have hz : RowV H0 (.agg #[.slice none 0 0, .slice none 0 0]) ([], []) := ⟨_, _, rfl, Sl.empty _ _ _, Sl.empty _ _ _⟩
  refine Calls.enter (args := [ptr b, .int .u64 (gen : Int), .slice b1 c.length c1]) Tryz.func32 rfl Tryz.ntmps32 rfl ?_
  refine WC.seq (WC.region (WO.step rfl (OR.alloc hs T45 ?_)))
  clear hs; intro g1 w hg1 hs
  refine WO.step rfl (OR.assign rfl (WO.done (WX.seq (WC.seq (WC.region (WO.step rfl (OR.move rfl ?_)))))))
  refine WO.step rfl (OR.move rfl ?_)
  refine WO.step rfl (OR.call hs body49 rfl rfl (symbols_ok b gen x _ _ _ hs.toSub (hs.blk (i := 1) rfl) (hs.mem b (srcObj x.g x.s vs vc x.cl vch vop) false (by simp)).2.1 (hx.mono hle) hok) ?_)
  clear hs; rintro _ H w hs hle1 ⟨r, rfl, hr⟩; replace hle := hle.trans hle1; (try replace hlb := hlb.trans hle1)
  obtain ⟨b2, c2, rfl⟩ := hr.form
  by_cases hlt : gen < x.chunks.length
  · have hE : thereE x gen = 0 := by rw [thereE, if_pos hlt]
    rw [hE]
    refine WO.step rfl (OR.move rfl (WO.step rfl (OR.extract rfl rfl (WO.step rfl (OR.extract rfl rfl (WO.step rfl (OR.assign rfl ?_)))))))
    refine WO.step rfl (OR.assign rfl (WO.done (WX.seq (WC.seq (WC.block (WC.seq (WC.region ?_)))))))
    refine WO.step rfl (OR.move rfl (WO.step rfl (OR.neq rfl rfl (WO.step rfl (OR.assign rfl (WO.done (WX.seq ?_)))))))
    refine WC.no rfl (decide_eq_false (by decide)) ?_
    refine WC.seq (WC.region (WO.step rfl (OR.move rfl (WO.step rfl (OR.lenSlice T43.und rfl (WO.step rfl (OR.move rfl ?_)))))))
    refine WO.step rfl (OR.nilCheck rfl (WO.step rfl (OR.fieldAddr FA163_0 rfl (WO.step rfl (OR.load T3 rfl rfl (hs.cellM (i := 1) rfl rfl) (WO.step rfl (OR.neq rfl rfl ?_)))))))
    refine WO.step rfl (OR.assign rfl (WO.done (WX.seq ?_)))
    refine WC.condD rfl (fun hne => ?_) (fun hne => ?_)
    · refine WC.seq (WC.region (WO.step rfl (OR.buildZero T45 PL45 (WO.stepN (OR.storeAll hs T45 rfl rfl rfl rfl rfl ?_)))))
      clear hs; intro w hs
      refine WO.step rfl (OR.assign rfl (WO.done (WX.seq (WC.ret (WX.block_ret (WX.seq_ret ?_))))))
      refine WX.retCT T45 rfl rfl rfl rfl rfl (hs.blk (i := 0) rfl) ?_
      have e1 : rowE x gen c = 21 := by rw [rowE, if_pos hlt, if_neg (by omega)]
      have e2 : rowF x gen c = ([], []) := by rw [rowF, if_neg (by omega)]
      rw [e1, e2]
      exact .mk (hs.drop 0) ⟨_, rfl, hz.mono hle⟩
    · have hcl : c.length = x.g := by omega
      have hsl := symF_len hok hlt
      refine WC.skip (WX.block (WX.seq (WC.seq (WC.region (WO.step rfl (OR.move rfl (WO.step rfl ?_)))))))
      refine OR.move rfl ?_
      refine WO.step rfl (OR.call hs body91 rfl rfl (combine_ok _ _ (symF x gen) c x.s _ _ hs.toSub hr (hc.mono hle) (by omega) (symF_row hok hlt) (by omega) (by omega)) ?_)
      clear hs; rintro _ H w hs hle1 ⟨r2, rfl, hr2⟩; replace hle := hle.trans hle1; (try replace hlb := hlb.trans hle1)
      rw [if_pos (by omega)] at hr2
      rw [if_pos (by omega)]
      refine WO.step rfl (OR.move rfl (WO.step rfl (OR.extract rfl rfl (WO.step rfl (OR.extract rfl rfl (WO.step rfl (OR.assign rfl ?_)))))))
      refine WO.step rfl (OR.assign rfl (WO.done (WX.seq (WC.seq (WC.region (WO.step rfl (OR.move rfl ?_)))))))
      refine WO.step rfl (OR.call hs body87 rfl rfl (clone_pure _ _ _ _ hs.toSub (hc.mono hle) hl) ?_)
      clear hs; rintro _ H w hs hle1 hr3; replace hle := hle.trans hle1; (try replace hlb := hlb.trans hle1)
      obtain ⟨b4, c4, rfl⟩ := hr2.form
      obtain ⟨b5, c5, rfl⟩ := hr3.form
      refine WO.step rfl (OR.move rfl (WO.step rfl (OR.buildAll T45 rfl rfl PL45 rfl rfl (WO.stepN (OR.storeAll hs T45 rfl rfl rfl rfl rfl ?_)))))
      clear hs; intro w hs
      refine WO.step rfl (OR.assign rfl (WO.done (WX.seq (WC.ret ?_))))
      refine WX.retCT T45 rfl rfl rfl rfl rfl (hs.blk (i := 0) rfl) ?_
      have e1 : rowE x gen c = 0 := by rw [rowE, if_pos hlt, if_pos hcl]
      have e2 : rowF x gen c = (c, comb x.s (symF x gen) c) := by rw [rowF, if_pos ⟨hlt, hcl⟩]
      rw [e1, e2]
      exact .mk (hs.drop 0) ⟨_, rfl, _, _, rfl, hr3, hr2.mono hle1⟩
  · have hE : thereE x gen = 23 := by rw [thereE, if_neg hlt]
    rw [hE]
    refine WO.step rfl (OR.move rfl (WO.step rfl (OR.extract rfl rfl (WO.step rfl (OR.extract rfl rfl (WO.step rfl (OR.assign rfl ?_)))))))
    refine WO.step rfl (OR.assign rfl (WO.done (WX.seq (WC.seq (WC.block (WC.seq (WC.region ?_)))))))
    refine WO.step rfl (OR.move rfl (WO.step rfl (OR.neq rfl rfl (WO.step rfl (OR.assign rfl (WO.done (WX.seq ?_)))))))
    refine WC.yes rfl (decide_eq_true (by decide)) ?_
    refine WC.seq (WC.region (WO.step rfl (OR.buildZero T45 PL45 (WO.step rfl (OR.move rfl (WO.stepN (OR.storeAll hs T45 rfl rfl rfl rfl rfl ?_)))))))
    clear hs; intro w hs
    refine WO.step rfl (OR.assign rfl (WO.done (WX.seq (WC.ret (WX.block_ret (WX.seq_ret ?_))))))
    refine WX.retCT T45 rfl rfl rfl rfl rfl (hs.blk (i := 0) rfl) ?_
    have e1 : rowE x gen c = 23 := by rw [rowE, if_neg hlt]
    have e2 : rowF x gen c = ([], []) := by rw [rowF, if_neg (by omega)]
    rw [e1, e2]
    exact .mk (hs.drop 0) ⟨_, rfl, hz.mono hle⟩

def sendC (x : SrcD) (sent : Nat) (l : List UInt8) : List UInt8 := coefF x.g (sent % x.g) (if sent < x.g then [] else l)
set_option maxRecDepth 20000 in
set_option maxHeartbeats 2000000 in
theorem ssend_ok (b : Nat) (gen sent : Nat) (vd : Value) (l : List UInt8) (x : SrcD) (o : Obj) (H0 : Hp) (w0 : World) (h0 : Sub H0 w0) (hb : w0.heap[b]? = some o) (hn : H0 b = none) (hx : SrcIn H0 x o) (hok : SrcOk x) (hl : Bytes H0 vd l) (hst : sent < 18446744073709551616) :
    Calls Tryz.prog 212 #[ptr b, .int .u64 (gen : Int), .int .u64 (sent : Int), vd] w0 (Pure H0 w0 fun v H' => TupR H' v (rowF x gen (sendC x sent l)) (thereE x gen)) := by
  have hs := HS.startR h0 hb hn
  have hle := Hp.le.refl H0
  have hx0 := hx
  have hchl := hok.chl
  obtain ⟨hn1, hn2, hn3, hn4, hn5⟩ := hok.nat
  have hz : RowV H0 (.agg #[.slice none 0 0, .slice none 0 0]) ([], []) := ⟨_, _, rfl, Sl.empty _ _ _, Sl.empty _ _ _⟩
  obtain ⟨b1, c1, rfl⟩ := hl.form
  obtain ⟨vs, vc, vch, vop, rfl, hx1, hx2, hx3, hx4⟩ := hx0
  have hsc : (sendC x sent l).length = x.g := coefF_len _ _ _
  refine Calls.enter (args := [ptr b, .int .u64 (gen : Int), .int .u64 (sent : Int), .slice b1 l.length c1]) Tryz.func212 rfl Tryz.ntmps212 rfl ?_
  refine WC.seq (WC.region (WO.step rfl (OR.alloc hs T45 ?_)))
  clear hs; intro g1 w hg1 hs
  refine WO.step rfl (OR.assign rfl (WO.done (WX.seq (WC.seq (WC.seq (WC.region (WO.step rfl ?_)))))))
  refine OR.move rfl (WO.step rfl (OR.makeFunc rfl rfl (WO.step rfl (OR.move rfl (WO.step rfl (OR.move rfl ?_))))))
  refine WO.step rfl (OR.call hs body108 rfl rfl (there_ok b gen _ _ hs.toSub) ?_)
  clear hs; rintro _ H w hs hle1 ⟨gg, gx, rfl, hc1, hc2⟩; replace hle := hle.trans hle1; (try replace hlb := hlb.trans hle1)
  refine WO.step rfl (OR.buildSlice (vs := [_, _]) hs T215.und T70 rfl rfl rfl rfl (by simp) ?_)
  clear hs; intro g4 w hg4 hs
  refine WO.step rfl (OR.callW body83 rfl rfl (first2 _ _ 0 (thereE x gen) g4 2 _ _ _ _ _ _ hs ⟨_, [ptr b], [], rfl, body84, fun H' w' hl' hs' => smade_ok b x.g x.s vs vc vch vop x.cl _ _ hs'.toSub (hs'.blk (i := 2) rfl) (hs'.mem b (srcObj x.g x.s vs vc x.cl vch vop) false (by simp)).2.1 hn1⟩ ⟨_, [], [ptr gg, ptr gx], rfl, body145, fun H' w' hl' hs' => there1_ok b gg gx gen x (srcObj x.g x.s vs vc x.cl vch vop) _ _ hs'.toSub (hs'.blk (i := 2) rfl) (hs'.mem b (srcObj x.g x.s vs vc x.cl vch vop) false (by simp)).2.1 (hx.mono (hle.trans hl')) (by omega) (hcell.mono hl' hc1) (hcell.mono hl' hc2)⟩) ?_)
  clear hs
  rintro e w ⟨rfl, H, hle1, hs⟩
  replace hle := hle.trans hle1
  refine ⟨_, rfl, ?_⟩
  rw [if_pos rfl]
  by_cases hlt : gen < x.chunks.length
  · have hE : thereE x gen = 0 := by rw [thereE, if_pos hlt]
    rw [hE]
    refine WO.step rfl (OR.assign rfl (WO.done (WX.seq (WC.seq (WC.region (WO.step rfl (OR.move rfl ?_)))))))
    refine WO.step rfl (OR.neq rfl rfl (WO.done (WX.seq ?_)))
    refine WC.no rfl (decide_eq_false (by decide)) ?_
    refine WC.skip (WX.seq (WC.seq (WC.seq (WC.region (WO.step rfl (OR.move rfl (WO.step rfl ?_)))))))
    refine OR.move rfl (WO.step rfl (OR.nilCheck rfl (WO.step rfl (OR.fieldAddr FA163_0 rfl (WO.step rfl (OR.load T3 rfl rfl (hs.cellM (i := 2) rfl rfl) ?_))))))
    refine WO.step rfl (OR.convI T3.und T22.und rfl ?_)
    rw [u64_wrap _ (by omega)]
    refine WO.step rfl (OR.lss rfl rfl (WO.step rfl (OR.move rfl ?_)))
    replace hs := hs.drop (i := 0)
    by_cases hsg : sent < x.g
    · have hsc' : sendC x sent l = coefF x.g (sent % x.g) [] := by rw [sendC, if_pos hsg]
      refine WO.guardYes rfl (decide_eq_true (by omega : (sent : Int) < (x.g : Int))) rfl rfl (OR.move rfl ?_)
      refine WO.guardYes rfl (decide_eq_true (by omega : (sent : Int) < (x.g : Int))) rfl rfl (OR.convI T22.und T3.und rfl ?_)
      rw [IntWalk.i64_in (sent : Int) (by omega)]
      refine WO.guardYes rfl (decide_eq_true (by omega : (sent : Int) < (x.g : Int))) rfl rfl (OR.move rfl (WO.guardYes rfl (decide_eq_true (by omega : (sent : Int) < (x.g : Int))) rfl rfl (OR.nilCheck rfl (WO.guardYes rfl (decide_eq_true (by omega : (sent : Int) < (x.g : Int))) rfl rfl (OR.fieldAddr FA163_0 rfl (WO.guardYes rfl (decide_eq_true (by omega : (sent : Int) < (x.g : Int))) rfl rfl (OR.load T3 rfl rfl (hs.cellM (i := 1) rfl rfl) ?_)))))))
      refine WO.guardYes rfl (decide_eq_true (by omega : (sent : Int) < (x.g : Int))) rfl rfl (OR.call hs body213 rfl rfl (syst_ok (sent : Int) (x.g : Int) _ _ hs.toSub) ?_)
      clear hs; rintro _ H w hs hle1 rfl; replace hle := hle.trans hle1; (try replace hlb := hlb.trans hle1)
      rw [decide_eq_true (by omega : (0 : Int) ≤ (sent : Int) ∧ (sent : Int) < (x.g : Int))]
      refine WO.step rfl (OR.pickT rfl (decide_eq_true (by omega : (sent : Int) < (x.g : Int))) rfl (WO.done (WX.seq ?_)))
      refine WC.yes rfl rfl ?_
      refine WC.region (WO.step rfl (OR.assign rfl (WO.done (WX.seq (WC.seq (WC.region (WO.step rfl ?_)))))))
      refine OR.move rfl (WO.step rfl (OR.move rfl (WO.step rfl (OR.nilCheck rfl (WO.step rfl (OR.fieldAddr FA163_0 rfl (WO.step rfl ?_)))))))
      refine OR.load T3 rfl rfl (hs.cellM (i := 1) rfl rfl) ?_
      refine WO.step rfl (OR.call hs body202 rfl rfl (turn_ok sent x.g _ _ hs.toSub ⟨hn1, hn2⟩ hst) ?_)
      clear hs; rintro _ H w hs hle1 rfl; replace hle := hle.trans hle1; (try replace hlb := hlb.trans hle1)
      refine WO.step rfl (OR.move rfl (WO.step rfl (OR.extract rfl rfl (WO.step rfl (OR.extract rfl rfl (WO.step rfl (OR.assign rfl ?_)))))))
      refine WO.step rfl (OR.assign rfl (WO.done (WX.seq (WC.seq (WC.region (WO.step rfl (OR.move rfl ?_)))))))
      refine WO.step rfl (OR.move rfl (WO.step rfl (OR.nilCheck rfl (WO.step rfl (OR.fieldAddr FA163_0 rfl (WO.step rfl (OR.load T3 rfl rfl (hs.cellM (i := 1) rfl rfl) ?_)))))))
      refine WO.step rfl (OR.move rfl ?_)
      refine WO.step rfl (OR.call hs body203 rfl rfl (coefs_ok _ [] x.g (sent % x.g) _ _ hs.toSub (Sl.empty _ _ _) ⟨hn1, hn2⟩ (Nat.mod_lt _ hn1)) ?_)
      clear hs; rintro _ H w hs hle1 ⟨r, rfl, hr⟩; replace hle := hle.trans hle1; (try replace hlb := hlb.trans hle1)
      rw [← hsc'] at hr
      refine WO.step rfl (OR.move rfl (WO.step rfl (OR.extract rfl rfl (WO.step rfl (OR.extract rfl rfl (WO.step rfl (OR.assign rfl ?_)))))))
      refine WO.step rfl (OR.assign rfl (WO.done (WX.seq (WC.seq (WC.region (WO.step rfl (OR.move rfl ?_)))))))
      refine WO.step rfl (OR.move rfl (WO.step rfl (OR.move rfl ?_)))
      refine WO.step rfl (OR.call hs body32 rfl rfl (srow_ok b gen _ (sendC x sent l) x (srcObj x.g x.s vs vc x.cl vch vop) _ _ hs.toSub (hs.blk (i := 1) rfl) (hs.mem b (srcObj x.g x.s vs vc x.cl vch vop) false (by simp)).2.1 (hx.mono hle) hok hr (by omega)) ?_)
      clear hs; rintro _ H w hs hle1 ⟨r2, rfl, hr2⟩; replace hle := hle.trans hle1; (try replace hlb := hlb.trans hle1)
      have e1 : rowE x gen (sendC x sent l) = 0 := by rw [rowE, if_pos hlt, if_pos hsc]
      rw [e1]
      obtain ⟨y1, y2, rfl, hy1, hy2⟩ := hr2
      obtain ⟨b4, c4, rfl⟩ := hy1.form
      obtain ⟨b5, c5, rfl⟩ := hy2.form
      refine WO.step rfl (OR.extract rfl rfl (WO.step rfl (OR.extract rfl rfl (WO.stepN (OR.storeAll hs T45 rfl rfl rfl rfl rfl ?_)))))
      clear hs; intro w hs
      refine WO.step rfl (OR.assign rfl (WO.done (WX.seq (WC.ret ?_))))
      refine WX.retCT T45 rfl rfl rfl rfl rfl (hs.blk (i := 0) rfl) ?_
      exact .mk (hs.drop 0) ⟨_, rfl, _, _, rfl, hy1, hy2⟩
    · have hsc' : sendC x sent l = coefF x.g (sent % x.g) l := by rw [sendC, if_neg hsg]
      refine WO.guardNo rfl (decide_eq_false (by omega : ¬ (sent : Int) < (x.g : Int))) rfl rfl (WO.guardNo rfl (decide_eq_false (by omega : ¬ (sent : Int) < (x.g : Int))) rfl rfl (WO.guardNo rfl (decide_eq_false (by omega : ¬ (sent : Int) < (x.g : Int))) rfl rfl (WO.guardNo rfl (decide_eq_false (by omega : ¬ (sent : Int) < (x.g : Int))) rfl rfl (WO.guardNo rfl (decide_eq_false (by omega : ¬ (sent : Int) < (x.g : Int))) rfl rfl (WO.guardNo rfl (decide_eq_false (by omega : ¬ (sent : Int) < (x.g : Int))) rfl rfl (WO.guardNo rfl (decide_eq_false (by omega : ¬ (sent : Int) < (x.g : Int))) rfl rfl (WO.step rfl ?_)))))))
      refine OR.pickF rfl (decide_eq_false (by omega : ¬ (sent : Int) < (x.g : Int))) rfl (WO.done (WX.seq (WC.no rfl rfl (WC.skip (WX.seq (WC.seq (WC.region ?_)))))))
      refine WO.step rfl (OR.move rfl (WO.step rfl (OR.move rfl (WO.step rfl (OR.nilCheck rfl (WO.step rfl (OR.fieldAddr FA163_0 rfl ?_)))))))
      refine WO.step rfl (OR.load T3 rfl rfl (hs.cellM (i := 1) rfl rfl) ?_)
      refine WO.step rfl (OR.call hs body202 rfl rfl (turn_ok sent x.g _ _ hs.toSub ⟨hn1, hn2⟩ hst) ?_)
      clear hs; rintro _ H w hs hle1 rfl; replace hle := hle.trans hle1; (try replace hlb := hlb.trans hle1)
      refine WO.step rfl (OR.move rfl (WO.step rfl (OR.extract rfl rfl (WO.step rfl (OR.extract rfl rfl (WO.step rfl (OR.assign rfl ?_)))))))
      refine WO.step rfl (OR.assign rfl (WO.done (WX.seq (WC.seq (WC.region (WO.step rfl (OR.move rfl ?_)))))))
      refine WO.step rfl (OR.move rfl (WO.step rfl (OR.nilCheck rfl (WO.step rfl (OR.fieldAddr FA163_0 rfl (WO.step rfl (OR.load T3 rfl rfl (hs.cellM (i := 1) rfl rfl) ?_)))))))
      refine WO.step rfl (OR.move rfl ?_)
      refine WO.step rfl (OR.call hs body203 rfl rfl (coefs_ok _ l x.g (sent % x.g) _ _ hs.toSub (hl.mono hle) ⟨hn1, hn2⟩ (Nat.mod_lt _ hn1)) ?_)
      clear hs; rintro _ H w hs hle1 ⟨r, rfl, hr⟩; replace hle := hle.trans hle1; (try replace hlb := hlb.trans hle1)
      rw [← hsc'] at hr
      refine WO.step rfl (OR.move rfl (WO.step rfl (OR.extract rfl rfl (WO.step rfl (OR.extract rfl rfl (WO.step rfl (OR.assign rfl ?_)))))))
      refine WO.step rfl (OR.assign rfl (WO.done (WX.seq (WC.seq (WC.region (WO.step rfl (OR.move rfl ?_)))))))
      refine WO.step rfl (OR.move rfl (WO.step rfl (OR.move rfl ?_)))
      refine WO.step rfl (OR.call hs body32 rfl rfl (srow_ok b gen _ (sendC x sent l) x (srcObj x.g x.s vs vc x.cl vch vop) _ _ hs.toSub (hs.blk (i := 1) rfl) (hs.mem b (srcObj x.g x.s vs vc x.cl vch vop) false (by simp)).2.1 (hx.mono hle) hok hr (by omega)) ?_)
      clear hs; rintro _ H w hs hle1 ⟨r2, rfl, hr2⟩; replace hle := hle.trans hle1; (try replace hlb := hlb.trans hle1)
      have e1 : rowE x gen (sendC x sent l) = 0 := by rw [rowE, if_pos hlt, if_pos hsc]
      rw [e1]
      obtain ⟨y1, y2, rfl, hy1, hy2⟩ := hr2
      obtain ⟨b4, c4, rfl⟩ := hy1.form
      obtain ⟨b5, c5, rfl⟩ := hy2.form
      refine WO.step rfl (OR.extract rfl rfl (WO.step rfl (OR.extract rfl rfl (WO.stepN (OR.storeAll hs T45 rfl rfl rfl rfl rfl ?_)))))
      clear hs; intro w hs
      refine WO.step rfl (OR.assign rfl (WO.done (WX.seq (WC.ret ?_))))
      refine WX.retCT T45 rfl rfl rfl rfl rfl (hs.blk (i := 0) rfl) ?_
      exact .mk (hs.drop 0) ⟨_, rfl, _, _, rfl, hy1, hy2⟩
  · have hE : thereE x gen = 23 := by rw [thereE, if_neg hlt]
    rw [hE]
    refine WO.step rfl (OR.assign rfl (WO.done (WX.seq (WC.seq (WC.region (WO.step rfl (OR.move rfl ?_)))))))
    refine WO.step rfl (OR.neq rfl rfl (WO.done (WX.seq ?_)))
    refine WC.yes rfl (decide_eq_true (by decide)) ?_
    refine WC.seq (WC.region (WO.step rfl (OR.buildZero T45 PL45 (WO.step rfl (OR.move rfl ?_)))))
    replace hs := hs.front (i := 1) rfl
    refine WO.stepN (OR.storeAll hs T45 rfl rfl rfl rfl rfl ?_)
    clear hs; intro w hs
    refine WO.step rfl (OR.assign rfl (WO.done (WX.seq (WC.ret (WX.seq_ret ?_)))))
    refine WX.retCT T45 rfl rfl rfl rfl rfl (hs.blk (i := 0) rfl) ?_
    have e2 : rowF x gen (sendC x sent l) = ([], []) := by rw [rowF, if_neg (by omega)]
    rw [e2]
    exact .mk ((hs.drop 0).drop 0) ⟨_, rfl, hz.mono hle⟩

end Go.Bw
