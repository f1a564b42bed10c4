/- A reader of bytes. -/
import Derived.Test.YtdibepkfgemddaaSmall
import Derived.Test.YtdibepkfgemddaaDefer
namespace Go.Bw
set_option linter.unusedVariables false
set_option linter.unusedSimpArgs false
open Go.Proofs

def rdObj (v : Value) : Obj := .cells #[v, .bool true] 156
def beVal (l : List UInt8) : Nat := l.foldl (fun n b => n * 256 + b.toNat) 0
theorem beVal_snoc (l : List UInt8) (b : UInt8) : beVal (l ++ [b]) = beVal l * 256 + b.toNat := by simp [beVal]
theorem beVal_take (l : List UInt8) (k : Nat) (h : k < l.length) : beVal (l.take (k + 1)) = beVal (l.take k) * 256 + l[k].toNat := by
  rw [List.take_succ_eq_append_getElem h, beVal_snoc]
theorem beVal_lt : ∀ (k : Nat) (l : List UInt8), l.length = k → beVal l < 256 ^ k
  | 0, l, h => by
    have : l = [] := List.eq_nil_of_length_eq_zero h
    subst this
    simp [beVal]
  | k + 1, l, h => by
    have hd : l = l.take k ++ [l[k]] := by
      rw [← List.take_succ_eq_append_getElem (by omega)]
      exact (List.take_of_length_le (by omega)).symm
    have h1 := beVal_lt k (l.take k) (by simp; omega)
    have h2 := l[k].toNat_lt
    rw [hd, beVal_snoc, Nat.pow_succ]
    omega

set_option maxRecDepth 20000 in
set_option maxHeartbeats 2000000 in
theorem wnew_ok (v : Value) (l : List UInt8) (H0 : Hp) (w0 : World) (h0 : Sub H0 w0) (hv : Bytes H0 v l) (hl : l.length ≤ 140737488355328) :
    Calls Try.prog 93 #[v] w0 (Ret [] H0 w0 fun v H' M' => ∃ b vb, v = ptr b ∧ w0.heap.size ≤ b ∧ M' = [(b, rdObj vb, true)] ∧ Bytes H' vb l) := by
  have hs := HS.init h0
  have hle := Hp.le.refl H0
  obtain ⟨b1, c1, rfl⟩ := hv.form
  refine Calls.enter (args := [.slice b1 l.length c1]) Try.func93 rfl Try.ntmps93 rfl ?_
  refine WC.seq (WC.region (WO.step rfl (OR.assign rfl (WO.done (WX.seq (WC.seq (WC.region ?_)))))))
  refine WO.step rfl (OR.move rfl ?_)
  refine WO.step rfl (OR.call hs body76 rfl rfl (clone_pure _ _ _ _ hs.toSub hv hl) ?_)
  clear hs; rintro _ H w hs hle1 hr; replace hle := hle.trans hle1; (try replace hlb := hlb.trans hle1)
  obtain ⟨b2, c2, rfl⟩ := hr.form
  refine WO.step rfl (OR.buildAll T156 rfl rfl PL156 rfl rfl (WO.step rfl (OR.box hs rfl ?_)))
  clear hs; intro g1 w hg1 hs
  refine WO.step rfl (OR.assign rfl (WO.done (WX.seq (WC.ret ?_))))
  refine WX.ret1 rfl rfl ?_
  exact ⟨_, H, _, rfl, hs, by simp, g1, _, rfl, hg1, rfl, hr⟩

set_option maxRecDepth 20000 in
set_option maxHeartbeats 2000000 in
theorem rleft_ok (b : Nat) (vb : Value) (l : List UInt8) (H0 : Hp) (w0 : World) (h0 : Sub H0 w0) (hb : w0.heap[b]? = some (rdObj vb)) (hn : H0 b = none) (hv : Bytes H0 vb l) :
    Calls Try.prog 97 #[ptr b] w0 (Pure H0 w0 fun v _ => v = .int .i64 (l.length : Int)) := by
  have hs := HS.startR h0 hb hn
  have hle := Hp.le.refl H0
  obtain ⟨b1, c1, rfl⟩ := hv.form
  refine Calls.enter (args := [ptr b]) Try.func97 rfl Try.ntmps97 rfl ?_
  refine WC.seq (WC.region (WO.step rfl (OR.assign rfl (WO.done (WX.seq (WC.seq (WC.seq ?_)))))))
  refine WC.region (WO.step rfl (OR.move rfl (WO.step rfl (OR.eqlNilP T135.und rfl rfl (WO.done (WX.seq (WC.no rfl rfl ?_)))))))
  refine WC.skip (WX.seq (WC.seq (WC.region (WO.step rfl (OR.move rfl (WO.step rfl (OR.nilCheck rfl ?_)))))))
  refine WO.step rfl (OR.fieldAddr FA156_0 rfl (WO.step rfl (OR.load T37 rfl rfl (hs.cellM (i := 0) rfl rfl) (WO.step rfl (OR.lenSlice T37.und rfl (WO.step rfl (OR.assign rfl ?_)))))))
  refine WO.done (WX.seq (WC.ret ?_))
  refine WX.ret1 rfl rfl ?_
  exact .mk hs rfl

theorem Bytes.dropS {H : Hp} {b : Option Addr} {c : Nat} {l : List UInt8} (h : Bytes H (.slice b l.length c) l) (m : Nat) (hm : m ≤ l.length) : Bytes H (.slice (if c = m then b else b.map (·.add (m * 1))) (l.length - m) (c - m)) (l.drop m) := by
  have := Sl.dropS h m hm
  unfold Bytes
  rw [List.length_drop, List.map_drop]
  rw [Nat.mul_one] at this ⊢
  exact this

set_option maxRecDepth 20000 in
set_option maxHeartbeats 2000000 in
theorem rtake_ok (b : Nat) (vb : Value) (l : List UInt8) (n : Nat) (H0 : Hp) (w0 : World) (h0 : Sub H0 w0) (hb : w0.heap[b]? = some (rdObj vb)) (hn : H0 b = none) (hv : Bytes H0 vb l) (hnl : n ≤ l.length) (hl : l.length ≤ 140737488355328) :
    Calls Try.prog 96 #[ptr b, .int .i64 (n : Int)] w0 (Ret [b] H0 w0 fun v H' M' => ∃ r vb', v = .tuple #[r, .int .i64 0] ∧ Bytes H' r (l.take n) ∧ M' = [(b, rdObj vb', true)] ∧ Bytes H' vb' (l.drop n)) := by
  have hs := HS.start1 h0 hb hn
  have hle := Hp.le.refl H0
  obtain ⟨b1, c1, rfl⟩ := hv.form
  have hcap := hv.cap_le
  refine Calls.enter (args := [ptr b, .int .i64 (n : Int)]) Try.func96 rfl Try.ntmps96 rfl ?_
  refine WC.seq (WC.region (WO.step rfl (OR.assign rfl (WO.step rfl (OR.assign rfl (WO.done (WX.seq ?_)))))))
  refine WC.seq (WC.block (WC.seq (WC.region (WO.step rfl (OR.move rfl (WO.step rfl (OR.eqlNilP T135.und rfl rfl ?_)))))))
  refine WO.step rfl (OR.move rfl (WO.guardYes rfl rfl rfl rfl (OR.move rfl (WO.guardYes rfl rfl rfl rfl (OR.nilCheck rfl (WO.guardYes rfl rfl rfl rfl (OR.fieldAddr FA156_1 rfl ?_)))))))
  refine WO.guardYes rfl rfl rfl rfl (OR.load T4 rfl rfl (hs.cellM (i := 0) rfl rfl) (WO.guardYes rfl rfl rfl rfl (OR.not rfl (WO.step rfl (OR.pickF rfl rfl rfl (WO.step rfl (OR.assign rfl ?_)))))))
  refine WO.done (WX.seq ?_)
  refine WC.no rfl rfl ?_
  refine WC.seq (WC.region (WO.step rfl (OR.move rfl (WO.step rfl (OR.lss rfl rfl (WO.step rfl (OR.assign rfl ?_)))))))
  refine WO.done (WX.seq ?_)
  refine WC.no rfl (decide_eq_false (by omega)) ?_
  refine WC.seq (WC.region (WO.step rfl (OR.move rfl (WO.step rfl (OR.move rfl (WO.step rfl (OR.nilCheck rfl ?_)))))))
  refine WO.step rfl (OR.fieldAddr FA156_0 rfl (WO.step rfl (OR.load T37 rfl rfl (hs.cellM (i := 0) rfl rfl) (WO.step rfl (OR.lenSlice T37.und rfl (WO.step rfl (OR.gtr rfl rfl ?_)))))))
  refine WO.step rfl (OR.assign rfl (WO.done (WX.seq ?_)))
  refine WC.no rfl (decide_eq_false (by omega)) ?_
  refine WC.skip (WX.block (WX.seq (WC.seq (WC.region (WO.step rfl (OR.move rfl (WO.step rfl ?_)))))))
  refine OR.nilCheck rfl (WO.step rfl (OR.fieldAddr FA156_0 rfl (WO.step rfl (OR.load T37 rfl rfl (hs.cellM (i := 0) rfl rfl) (WO.step rfl (OR.move rfl ?_))))))
  refine WO.step rfl (OR.sliceHiG n T37.und T5 rfl rfl rfl (by omega) ?_)
  have htk : Bytes H0 (.slice b1 n c1) (l.take n) := by
    have := Sl.takeS hv n hnl
    unfold Bytes
    rw [Nat.mul_one] at this
    rw [List.length_take, Nat.min_eq_left hnl, List.map_take]
    exact this
  refine WO.step rfl (OR.call hs body76 rfl rfl (clone_pure _ _ _ _ hs.toSub htk (by simp; omega)) ?_)
  clear hs; rintro _ H w hs hle1 hr; replace hle := hle.trans hle1; (try replace hlb := hlb.trans hle1)
  refine WO.step rfl (OR.assign rfl (WO.done (WX.seq (WC.seq (WC.region (WO.step rfl (OR.move rfl ?_)))))))
  refine WO.step rfl (OR.move rfl (WO.step rfl (OR.nilCheck rfl (WO.step rfl (OR.fieldAddr FA156_0 rfl (WO.step rfl (OR.load T37 rfl rfl (hs.cellM (i := 0) rfl rfl) ?_)))))))
  refine WO.step rfl (OR.move rfl ?_)
  refine WO.step rfl (OR.sliceLoG n T37.und T5 rfl rfl rfl hnl ?_)
  obtain ⟨b2, c2, rfl⟩ := hr.form
  refine WO.step rfl (OR.nilCheck rfl (WO.step rfl (OR.fieldAddr FA156_0 rfl (WO.stepN (OR.store hs T37 rfl rfl rfl (Nat.le_of_ble_eq_true rfl) rfl ?_)))))
  clear hs; intro w hs
  refine WO.done (WX.seq (WC.seq (WC.region (WO.step rfl (OR.move rfl (WO.step rfl (OR.assign rfl ?_)))))))
  refine WO.step rfl (OR.assign rfl (WO.done (WX.seq (WC.ret ?_))))
  refine WX.ret2 rfl rfl rfl ?_
  exact ⟨_, H, _, rfl, hs, by simp, _, _, rfl, hr, rfl, (hv.dropS n hnl).mono hle⟩

set_option maxRecDepth 20000 in
set_option maxHeartbeats 2000000 in
theorem keep_ok (b : Value) (v : Value) (g : Nat) (H0 : Hp) (w0 : World) (h0 : Sub H0 w0) (hg : w0.heap[g]? = some (.cells #[.int .i64 0] 24)) (hn : H0 g = none) :
    CallsD Try.prog 112 #[b, v, ptr g] .returning w0 fun e u' w' => u' = .returning ∧ Pure H0 w0 (fun _ _ => True) e w' := by
  have hs := HS.startR h0 hg hn
  refine CallsD.enter (args := [b, v, ptr g]) Try.func112 rfl Try.ntmps112 rfl ?_
  refine WC.seq (WC.region (WO.step rfl (OR.move rfl (WO.step rfl (OR.nilCheck rfl (WO.step rfl (OR.load T24 rfl rfl (hs.cellM (i := 0) rfl rfl) ?_)))))))
  refine WO.step rfl (OR.neq rfl rfl (WO.done (WX.seq ?_)))
  refine WC.no rfl (decide_eq_false (by omega)) ?_
  refine WC.skip ?_
  refine WX.end0 rfl ?_
  exact .mk hs trivial

set_option maxRecDepth 20000 in
set_option maxHeartbeats 2000000 in
theorem rnum_ok (b : Nat) (vb : Value) (l : List UInt8) (k : Nat) (H0 : Hp) (w0 : World) (h0 : Sub H0 w0) (hb : w0.heap[b]? = some (rdObj vb)) (hn : H0 b = none) (hv : Bytes H0 vb l) (hk1 : 1 ≤ k) (hk8 : k ≤ 8) (hnl : k ≤ l.length) (hl : l.length ≤ 140737488355328) :
    Calls Try.prog 95 #[ptr b, .int .i64 (k : Int)] w0 (Ret [b] H0 w0 fun v H' M' => ∃ vb', v = .tuple #[.int .u64 (beVal (l.take k) : Int), .int .i64 0] ∧ M' = [(b, rdObj vb', true)] ∧ Bytes H' vb' (l.drop k)) := by
  have hs := HS.start1 h0 hb hn
  have hle := Hp.le.refl H0
  have hv0 := hv
  obtain ⟨b1, c1, rfl⟩ := hv0.form
  refine Calls.enterD (args := [ptr b, .int .i64 (k : Int)]) Try.func95 rfl Try.ntmps95 rfl ?_
  refine WC.seq (WC.region (WO.step rfl (OR.assign rfl (WO.step rfl (OR.alloc hs T24 ?_)))))
  clear hs; intro g1 w hg1 hs
  refine WO.done (WX.seq (WC.seq (WC.block (WC.seq (WC.region (WO.step rfl (OR.move rfl ?_)))))))
  refine WO.step rfl (OR.eqlNilP T135.und rfl rfl (WO.step rfl (OR.move rfl (WO.guardYes rfl rfl rfl rfl (OR.move rfl (WO.guardYes rfl rfl rfl rfl (OR.nilCheck rfl ?_)))))))
  refine WO.guardYes rfl rfl rfl rfl (OR.fieldAddr FA156_1 rfl (WO.guardYes rfl rfl rfl rfl (OR.load T4 rfl rfl (hs.cellM (i := 1) rfl rfl) (WO.guardYes rfl rfl rfl rfl (OR.not rfl (WO.step rfl (OR.pickF rfl rfl rfl ?_)))))))
  refine WO.step rfl (OR.assign rfl (WO.done (WX.seq ?_)))
  refine WC.no rfl rfl ?_
  refine WC.seq (WC.region (WO.step rfl (OR.move rfl (WO.step rfl (OR.lss rfl rfl (WO.step rfl (OR.move rfl ?_)))))))
  refine WO.guardYes rfl (decide_eq_false (by omega)) rfl rfl (OR.move rfl (WO.guardYes rfl (decide_eq_false (by omega)) rfl rfl (OR.gtr rfl rfl (WO.step rfl (OR.pickF rfl (decide_eq_false (by omega)) rfl (WO.step rfl (OR.assign rfl ?_)))))))
  refine WO.done (WX.seq ?_)
  refine WC.no rfl (decide_eq_false (by omega)) ?_
  refine WC.skip (WX.block (WX.seq (WC.seq (WC.region (WO.step rfl (OR.move rfl (WO.step rfl ?_)))))))
  refine OR.move rfl (WO.step rfl (OR.nilCheck rfl (WO.step rfl (OR.fieldAddr FA156_0 rfl (WO.step rfl (OR.load T37 rfl rfl (hs.cellM (i := 1) rfl rfl) ?_))))))
  refine WO.defer rfl rfl ?_
  refine WO.done (WX.seq (WC.seq (WC.seq (WC.region (WO.step rfl (OR.move rfl (WO.step rfl ?_)))))))
  refine OR.move rfl (WO.done (WX.seq (WC.block ?_)))
  refine WC.loop (ι := Nat) (fun j => [(0, ptr b), (4, .int .u64 (beVal (l.take j) : Int)), (5, ptr g1), (28, .int .i64 (k : Int)), (29, .int .i64 (j : Int))]) (fun j w => (j ≤ k ∧ ∃ H vb', Hp.le H0 H ∧ Bytes H vb' (l.drop j) ∧ HS [b] H0 w0 H [(g1, .cells #[.int .i64 0] 24, true), (b, rdObj vb', true)] w)) (fun j => k - j) 0 ⟨rfl, rfl, rfl, rfl, rfl,  trivial⟩ ?_ (fun j w hW => ?_)
  · exact ⟨by omega, H0, _, hle, by rw [List.drop_zero]; exact hv, hs⟩
  clear hs hle
  obtain ⟨hj, H, vb', hle, hv', hs⟩ := hW
  refine WC.seq (WC.region (WO.step rfl (OR.lss rfl rfl (WO.done (WX.seq (WC.seq ?_))))))
  refine WC.condD rfl (fun hlt => ?_) (fun hlt => ?_)
  · have hlt' : j < k := by omega
    have hj' : j < l.length := by omega
    have hdl : (l.drop j).length = l.length - j := List.length_drop
    obtain ⟨b2, c2, rfl⟩ := hv'.form
    have hcap := hv'.cap_le
    refine WC.skip (WX.seq (WC.seq (WC.block (WC.seq (WC.seq (WC.region (WO.step rfl ?_)))))))
    refine OR.move rfl (WO.step rfl (OR.nilCheck rfl (WO.step rfl (OR.fieldAddr FA156_0 rfl (WO.step rfl (OR.load T37 rfl rfl (hs.cellM (i := 1) rfl rfl) (WO.step rfl ?_)))))))
    refine OR.lenSlice T37.und rfl (WO.step rfl (OR.eql rfl rfl (WO.done (WX.seq ?_))))
    refine WC.no rfl (decide_eq_false (by omega)) ?_
    refine WC.skip (WX.seq (WC.seq (WC.region (WO.step rfl (OR.move rfl ?_)))))
    refine WO.step rfl (OR.shl rfl rfl (by omega) ?_)
    obtain ⟨b3, o3, rfl, hce⟩ := hv'.pos (by omega)
    have hc0 := hce 0 (by omega)
    have he0 : (l.drop j)[0]'(by omega) = l[j] := by rw [List.getElem_drop]; simp
    rw [he0] at hc0
    refine WO.step rfl (OR.move rfl (WO.step rfl (OR.nilCheck rfl (WO.step rfl (OR.fieldAddr FA156_0 rfl (WO.step rfl (OR.load T37 rfl rfl (hs.cellM (i := 1) rfl rfl) ?_)))))))
    refine WO.step rfl (OR.idx 0 T37.und T5 rfl rfl rfl (by omega) ?_)
    refine WO.step rfl (OR.load T5 rfl rfl (hs.cell hc0) ?_)
    refine WO.step rfl (OR.convI T5.und T27.und rfl ?_)
    have hb8 := l[j].toNat_lt
    have hbv := beVal_lt j (l.take j) (by simp; omega)
    have hbv2 : beVal (l.take j) * 256 < 18446744073709551616 := by
      have h1 : 256 ^ (j + 1) ≤ 256 ^ 8 := Nat.pow_le_pow_right (by omega) (by omega)
      have h2 : beVal (l.take j) * 256 < 256 ^ (j + 1) := by rw [Nat.pow_succ]; exact Nat.mul_lt_mul_of_pos_right hbv (by omega)
      exact Nat.lt_of_lt_of_le h2 (Nat.le_trans h1 (by decide))
    have hbv3 : beVal (l.take j) * 256 + l[j].toNat < 18446744073709551616 := by
      have h1 : 256 ^ (j + 1) ≤ 256 ^ 8 := Nat.pow_le_pow_right (by omega) (by omega)
      have h2 := beVal_lt (j + 1) (l.take (j + 1)) (by simp; omega)
      rw [beVal_take l j hj'] at h2
      exact Nat.lt_of_lt_of_le h2 (Nat.le_trans h1 (by decide))
    have e1 : IntKind.u64.wrap ((beVal (l.take j) : Int) * 2 ^ (min (Int.toNat 8) IntKind.u64.bits)) = ((beVal (l.take j) * 256 : Nat) : Int) := by
      have := u64_wrap (beVal (l.take j) * 256) hbv2
      rw [← this, Int.natCast_mul]
      rfl
    rw [e1, u64_wrap l[j].toNat (by omega)]
    refine WO.step rfl (OR.or rfl rfl ?_)
    rw [or_u64 _ _ hb8 hbv3, ← beVal_take l j hj']
    refine WO.step rfl (OR.assign rfl (WO.done (WX.seq (WC.region (WO.step rfl (OR.move rfl (WO.step rfl ?_)))))))
    refine OR.move rfl (WO.step rfl (OR.nilCheck rfl (WO.step rfl (OR.fieldAddr FA156_0 rfl (WO.step rfl (OR.load T37 rfl rfl (hs.cellM (i := 1) rfl rfl) ?_))))))
    refine WO.step rfl (OR.sliceLoG 1 T37.und T5 rfl rfl rfl (by omega) ?_)
    refine WO.step rfl (OR.nilCheck rfl (WO.step rfl (OR.fieldAddr FA156_0 rfl ?_)))
    replace hs := hs.front (i := 1) rfl
    refine WO.stepN (OR.store hs T37 rfl rfl rfl (Nat.le_of_ble_eq_true rfl) rfl ?_)
    clear hs; intro w hs
    refine WO.done (WX.block (WX.seq (WC.region (WO.step rfl (OR.addI rfl rfl (by omega) (by omega) (WO.step rfl (OR.move rfl ?_)))))))
    refine WO.done ?_
    replace hs := hs.front (i := 1) rfl
    refine WX.again (j + 1) ⟨rfl, rfl, rfl, rfl, rfl,  trivial⟩ ?_ ?_
    · refine ⟨hlt', H, _, hle, ?_, hs⟩
      have := hv'.dropS 1 (by omega)
      rw [List.drop_drop] at this
      exact this
    · omega
  · have e : j = k := by omega
    subst e
    refine WC.exit (WX.seq_exit (WX.loop_exit (WX.block_hit (WX.seq (WC.seq (WC.region (WO.step rfl ?_)))))))
    refine OR.move rfl (WO.step rfl (OR.assign rfl (WO.stepN (OR.storeAll hs T24 rfl rfl rfl rfl rfl ?_))))
    clear hs; intro w hs
    refine WO.done (WX.seq (WC.ret ?_))
    refine WX.retD (dargs := [ptr b, .slice b1 l.length c1, ptr g1]) (cap := []) body112 (keep_ok _ _ g1 _ _ hs.toSub (hs.blk (i := 0) rfl) (hs.mem g1 _ true (List.mem_cons_self ..)).2.1) ?_
    intro e w' hp
    obtain ⟨v, H', rfl, hs', hle', _⟩ := hp.step hs
    refine ⟨v, rfl, fun a ha => ⟨_, results_TC T24 rfl rfl (ha 4 _ rfl) (ha 5 _ rfl) (hs'.cellM (i := 0) rfl rfl), _, H', _, rfl, hs'.drop 0, by simp [dropAt], _, rfl, rfl, hv'.mono hle'⟩⟩

end Go.Bw
