/- A reader of bytes. -/
import Derived.Test.YtdibepkfgemddaaGreatSmall
import Derived.Test.YtdibepkfgemddaaGreatDefer
import Derived.Test.YtdibepkfgemddaaGreatConts
namespace Go.Bw
set_option linter.unusedVariables false
set_option linter.unusedSimpArgs false
open Go.Proofs

def rdObj (v : Value) : Obj := .cells #[v, .bool true] 246
def beVal (l : List UInt8) : Nat := l.foldl (fun n b => n * 256 + b.toNat) 0
theorem beVal_snoc (l : List UInt8) (b : UInt8) : beVal (l ++ [b]) = beVal l * 256 + b.toNat := by simp [beVal]
theorem beVal_take (l : List UInt8) (k : Nat) (h : k < l.length) : beVal (l.take (k + 1)) = beVal (l.take k) * 256 + l[k].toNat := by
  rw [List.take_succ_eq_append_getElem h, beVal_snoc]
theorem beVal_lt : ∀ (k : Nat) (l : List UInt8), l.length = k → beVal l < 256 ^ k
  | 0, l, h => by
    have : l = [] := List.eq_nil_of_length_eq_zero h
    subst this
    simp [beVal]
  | k + 1, l, h => by
    have hd : l = l.take k ++ [l[k]] := by
      rw [← List.take_succ_eq_append_getElem (by omega)]
      exact (List.take_of_length_le (by omega)).symm
    have h1 := beVal_lt k (l.take k) (by simp; omega)
    have h2 := l[k].toNat_lt
    rw [hd, beVal_snoc, Nat.pow_succ]
    omega

set_option maxRecDepth 20000 in
set_option maxHeartbeats 2000000 in
theorem wnew_ok (v : Value) (l : List UInt8) (H0 : Hp) (w0 : World) (h0 : Sub H0 w0) (hv : Bytes H0 v l) (hl : l.length ≤ 140737488355328) :
    Calls Tryz.prog 155 #[v] w0 (Ret [] H0 w0 fun v H' M' => ∃ b vb, v = ptr b ∧ w0.heap.size ≤ b ∧ M' = [(b, rdObj vb, true)] ∧ Bytes H' vb l) := by
  have hs := HS.init h0
  have hle := Hp.le.refl H0
  obtain ⟨b1, c1, rfl⟩ := hv.form
  refine Calls.enter (args := [.slice b1 l.length c1]) Tryz.func155 rfl Tryz.ntmps155 rfl ?_
  refine WC.seq (WC.region (WO.step rfl (OR.assign rfl (WO.done (WX.seq (WC.seq (WC.region ?_)))))))
  refine WO.step rfl (OR.move rfl ?_)
  refine WO.step rfl (OR.call hs body87 rfl rfl (clone_pure _ _ _ _ hs.toSub hv hl) ?_)
  clear hs; rintro _ H w hs hle1 hr; replace hle := hle.trans hle1; (try replace hlb := hlb.trans hle1)
  obtain ⟨b2, c2, rfl⟩ := hr.form
  refine WO.step rfl (OR.buildAll T246 rfl rfl PL246 rfl rfl (WO.step rfl (OR.box hs rfl ?_)))
  clear hs; intro g1 w hg1 hs
  refine WO.step rfl (OR.assign rfl (WO.done (WX.seq (WC.ret ?_))))
  refine WX.ret1 rfl rfl ?_
  exact ⟨_, H, _, rfl, hs, by simp, g1, _, rfl, hg1, rfl, hr⟩

set_option maxRecDepth 20000 in
set_option maxHeartbeats 2000000 in
theorem rleft_ok (b : Nat) (vb : Value) (l : List UInt8) (H0 : Hp) (w0 : World) (h0 : Sub H0 w0) (hb : w0.heap[b]? = some (rdObj vb)) (hn : H0 b = none) (hv : Bytes H0 vb l) :
    Calls Tryz.prog 159 #[ptr b] w0 (Pure H0 w0 fun v _ => v = .int .i64 (l.length : Int)) := by
  have hs := HS.startR h0 hb hn
  have hle := Hp.le.refl H0
  obtain ⟨b1, c1, rfl⟩ := hv.form
  refine Calls.enter (args := [ptr b]) Tryz.func159 rfl Tryz.ntmps159 rfl ?_
  refine WC.seq (WC.region (WO.step rfl (OR.assign rfl (WO.done (WX.seq (WC.seq (WC.seq ?_)))))))
  refine WC.region (WO.step rfl (OR.move rfl (WO.step rfl (OR.eqlNilP T226.und rfl rfl (WO.done (WX.seq (WC.no rfl rfl ?_)))))))
  refine WC.skip (WX.seq (WC.seq (WC.region (WO.step rfl (OR.move rfl (WO.step rfl (OR.nilCheck rfl ?_)))))))
  refine WO.step rfl (OR.fieldAddr FA246_0 rfl (WO.step rfl (OR.load T43 rfl rfl (hs.cellM (i := 0) rfl rfl) (WO.step rfl (OR.lenSlice T43.und rfl (WO.step rfl (OR.assign rfl ?_)))))))
  refine WO.done (WX.seq (WC.ret ?_))
  refine WX.ret1 rfl rfl ?_
  exact .mk hs rfl

theorem Bytes.dropS {H : Hp} {b : Option Addr} {c : Nat} {l : List UInt8} (h : Bytes H (.slice b l.length c) l) (m : Nat) (hm : m ≤ l.length) : Bytes H (.slice (if c = m then b else b.map (·.add (m * 1))) (l.length - m) (c - m)) (l.drop m) := by
  have := Sl.dropS h m hm
  unfold Bytes
  rw [List.length_drop, List.map_drop]
  rw [Nat.mul_one] at this ⊢
  exact this

set_option maxRecDepth 20000 in
set_option maxHeartbeats 2000000 in
theorem rtake_ok (b : Nat) (vb : Value) (l : List UInt8) (n : Nat) (H0 : Hp) (w0 : World) (h0 : Sub H0 w0) (hb : w0.heap[b]? = some (rdObj vb)) (hn : H0 b = none) (hv : Bytes H0 vb l) (hnl : n ≤ l.length) (hl : l.length ≤ 140737488355328) :
    Calls Tryz.prog 158 #[ptr b, .int .i64 (n : Int)] w0 (Ret [b] H0 w0 fun v H' M' => ∃ r vb', v = .tuple #[r, .int .i64 0] ∧ Bytes H' r (l.take n) ∧ M' = [(b, rdObj vb', true)] ∧ Bytes H' vb' (l.drop n)) := by
  have hs := HS.start1 h0 hb hn
  have hle := Hp.le.refl H0
  obtain ⟨b1, c1, rfl⟩ := hv.form
  have hcap := hv.cap_le
  refine Calls.enter (args := [ptr b, .int .i64 (n : Int)]) Tryz.func158 rfl Tryz.ntmps158 rfl ?_
  refine WC.seq (WC.region (WO.step rfl (OR.assign rfl (WO.step rfl (OR.assign rfl (WO.done (WX.seq ?_)))))))
  refine WC.seq (WC.block (WC.seq (WC.region (WO.step rfl (OR.move rfl (WO.step rfl (OR.eqlNilP T226.und rfl rfl ?_)))))))
  refine WO.step rfl (OR.move rfl (WO.guardYes rfl rfl rfl rfl (OR.move rfl (WO.guardYes rfl rfl rfl rfl (OR.nilCheck rfl (WO.guardYes rfl rfl rfl rfl (OR.fieldAddr FA246_1 rfl ?_)))))))
  refine WO.guardYes rfl rfl rfl rfl (OR.load T4 rfl rfl (hs.cellM (i := 0) rfl rfl) (WO.guardYes rfl rfl rfl rfl (OR.not rfl (WO.step rfl (OR.pickF rfl rfl rfl (WO.step rfl (OR.assign rfl ?_)))))))
  refine WO.done (WX.seq ?_)
  refine WC.no rfl rfl ?_
  refine WC.seq (WC.region (WO.step rfl (OR.move rfl (WO.step rfl (OR.lss rfl rfl (WO.step rfl (OR.assign rfl ?_)))))))
  refine WO.done (WX.seq ?_)
  refine WC.no rfl (decide_eq_false (by omega)) ?_
  refine WC.seq (WC.region (WO.step rfl (OR.move rfl (WO.step rfl (OR.move rfl (WO.step rfl (OR.nilCheck rfl ?_)))))))
  refine WO.step rfl (OR.fieldAddr FA246_0 rfl (WO.step rfl (OR.load T43 rfl rfl (hs.cellM (i := 0) rfl rfl) (WO.step rfl (OR.lenSlice T43.und rfl (WO.step rfl (OR.gtr rfl rfl ?_)))))))
  refine WO.step rfl (OR.assign rfl (WO.done (WX.seq ?_)))
  refine WC.no rfl (decide_eq_false (by omega)) ?_
  refine WC.skip (WX.block (WX.seq (WC.seq (WC.region (WO.step rfl (OR.move rfl (WO.step rfl ?_)))))))
  refine OR.nilCheck rfl (WO.step rfl (OR.fieldAddr FA246_0 rfl (WO.step rfl (OR.load T43 rfl rfl (hs.cellM (i := 0) rfl rfl) (WO.step rfl (OR.move rfl ?_))))))
  refine WO.step rfl (OR.sliceHiG n T43.und T5 rfl rfl rfl (by omega) ?_)
  have htk : Bytes H0 (.slice b1 n c1) (l.take n) := by
    have := Sl.takeS hv n hnl
    unfold Bytes
    rw [Nat.mul_one] at this
    rw [List.length_take, Nat.min_eq_left hnl, List.map_take]
    exact this
  refine WO.step rfl (OR.call hs body87 rfl rfl (clone_pure _ _ _ _ hs.toSub htk (by simp; omega)) ?_)
  clear hs; rintro _ H w hs hle1 hr; replace hle := hle.trans hle1; (try replace hlb := hlb.trans hle1)
  refine WO.step rfl (OR.assign rfl (WO.done (WX.seq (WC.seq (WC.region (WO.step rfl (OR.move rfl ?_)))))))
  refine WO.step rfl (OR.move rfl (WO.step rfl (OR.nilCheck rfl (WO.step rfl (OR.fieldAddr FA246_0 rfl (WO.step rfl (OR.load T43 rfl rfl (hs.cellM (i := 0) rfl rfl) ?_)))))))
  refine WO.step rfl (OR.move rfl ?_)
  refine WO.step rfl (OR.sliceLoG n T43.und T5 rfl rfl rfl hnl ?_)
  obtain ⟨b2, c2, rfl⟩ := hr.form
  refine WO.step rfl (OR.nilCheck rfl (WO.step rfl (OR.fieldAddr FA246_0 rfl (WO.stepN (OR.store hs T43 rfl rfl rfl (Nat.le_of_ble_eq_true rfl) rfl ?_)))))
  clear hs; intro w hs
  refine WO.done (WX.seq (WC.seq (WC.region (WO.step rfl (OR.move rfl (WO.step rfl (OR.assign rfl ?_)))))))
  refine WO.step rfl (OR.assign rfl (WO.done (WX.seq (WC.ret ?_))))
  refine WX.ret2 rfl rfl rfl ?_
  exact ⟨_, H, _, rfl, hs, by simp, _, _, rfl, hr, rfl, (hv.dropS n hnl).mono hle⟩

set_option maxRecDepth 20000 in
set_option maxHeartbeats 2000000 in
theorem keep_ok (b : Value) (v : Value) (g : Nat) (H0 : Hp) (w0 : World) (h0 : Sub H0 w0) (hg : w0.heap[g]? = some (.cells #[.int .i64 0] 28)) (hn : H0 g = none) :
    CallsD Tryz.prog 178 #[b, v, ptr g] .returning w0 fun e u' w' => u' = .returning ∧ Pure H0 w0 (fun _ _ => True) e w' := by
  have hs := HS.startR h0 hg hn
  refine CallsD.enter (args := [b, v, ptr g]) Tryz.func178 rfl Tryz.ntmps178 rfl ?_
  refine WC.seq (WC.region (WO.step rfl (OR.move rfl (WO.step rfl (OR.nilCheck rfl (WO.step rfl (OR.load T28 rfl rfl (hs.cellM (i := 0) rfl rfl) ?_)))))))
  refine WO.step rfl (OR.neq rfl rfl (WO.done (WX.seq ?_)))
  refine WC.no rfl (decide_eq_false (by omega)) ?_
  refine WC.skip ?_
  refine WX.end0 rfl ?_
  exact .mk hs trivial

set_option maxRecDepth 20000 in
set_option maxHeartbeats 2000000 in
theorem rnum_ok (b : Nat) (vb : Value) (l : List UInt8) (k : Nat) (H0 : Hp) (w0 : World) (h0 : Sub H0 w0) (hb : w0.heap[b]? = some (rdObj vb)) (hn : H0 b = none) (hv : Bytes H0 vb l) (hk1 : 1 ≤ k) (hk8 : k ≤ 8) (hnl : k ≤ l.length) (hl : l.length ≤ 140737488355328) :
    Calls Tryz.prog 157 #[ptr b, .int .i64 (k : Int)] w0 (Ret [b] H0 w0 fun v H' M' => ∃ vb', v = .tuple #[.int .u64 (beVal (l.take k) : Int), .int .i64 0] ∧ M' = [(b, rdObj vb', true)] ∧ Bytes H' vb' (l.drop k)) := by
  have hs := HS.start1 h0 hb hn
  have hle := Hp.le.refl H0
  have hv0 := hv
  obtain ⟨b1, c1, rfl⟩ := hv0.form
  refine Calls.enterD (args := [ptr b, .int .i64 (k : Int)]) Tryz.func157 rfl Tryz.ntmps157 rfl ?_
  refine WC.seq (WC.region (WO.step rfl (OR.assign rfl (WO.step rfl (OR.alloc hs T28 ?_)))))
  clear hs; intro g1 w hg1 hs
  refine WO.done (WX.seq (WC.seq (WC.block (WC.seq (WC.region (WO.step rfl (OR.move rfl ?_)))))))
  refine WO.step rfl (OR.eqlNilP T226.und rfl rfl (WO.step rfl (OR.move rfl (WO.guardYes rfl rfl rfl rfl (OR.move rfl (WO.guardYes rfl rfl rfl rfl (OR.nilCheck rfl ?_)))))))
  refine WO.guardYes rfl rfl rfl rfl (OR.fieldAddr FA246_1 rfl (WO.guardYes rfl rfl rfl rfl (OR.load T4 rfl rfl (hs.cellM (i := 1) rfl rfl) (WO.guardYes rfl rfl rfl rfl (OR.not rfl (WO.step rfl (OR.pickF rfl rfl rfl ?_)))))))
  refine WO.step rfl (OR.assign rfl (WO.done (WX.seq ?_)))
  refine WC.no rfl rfl ?_
  refine WC.seq (WC.region (WO.step rfl (OR.move rfl (WO.step rfl (OR.lss rfl rfl (WO.step rfl (OR.move rfl ?_)))))))
  refine WO.guardYes rfl (decide_eq_false (by omega)) rfl rfl (OR.move rfl (WO.guardYes rfl (decide_eq_false (by omega)) rfl rfl (OR.gtr rfl rfl (WO.step rfl (OR.pickF rfl (decide_eq_false (by omega)) rfl (WO.step rfl (OR.assign rfl ?_)))))))
  refine WO.done (WX.seq ?_)
  refine WC.no rfl (decide_eq_false (by omega)) ?_
  refine WC.skip (WX.block (WX.seq (WC.seq (WC.region (WO.step rfl (OR.move rfl (WO.step rfl ?_)))))))
  refine OR.move rfl (WO.step rfl (OR.nilCheck rfl (WO.step rfl (OR.fieldAddr FA246_0 rfl (WO.step rfl (OR.load T43 rfl rfl (hs.cellM (i := 1) rfl rfl) ?_))))))
  refine WO.defer rfl rfl ?_
  refine WO.done (WX.seq (WC.seq (WC.seq (WC.region (WO.step rfl (OR.move rfl (WO.step rfl ?_)))))))
  refine OR.move rfl (WO.done (WX.seq (WC.block ?_)))
  refine WC.loop (ι := Nat) (fun j => [(0, ptr b), (4, .int .u64 (beVal (l.take j) : Int)), (5, ptr g1), (28, .int .i64 (k : Int)), (29, .int .i64 (j : Int))]) (fun j w => (j ≤ k ∧ ∃ H vb', Hp.le H0 H ∧ Bytes H vb' (l.drop j) ∧ HS [b] H0 w0 H [(g1, .cells #[.int .i64 0] 28, true), (b, rdObj vb', true)] w)) (fun j => k - j) 0 ⟨rfl, rfl, rfl, rfl, rfl,  trivial⟩ ?_ (fun j w hW => ?_)
  · exact ⟨by omega, H0, _, hle, by rw [List.drop_zero]; exact hv, hs⟩
  clear hs hle
  obtain ⟨hj, H, vb', hle, hv', hs⟩ := hW
  refine WC.seq (WC.region (WO.step rfl (OR.lss rfl rfl (WO.done (WX.seq (WC.seq ?_))))))
  refine WC.condD rfl (fun hlt => ?_) (fun hlt => ?_)
  · have hlt' : j < k := by omega
    have hj' : j < l.length := by omega
    have hdl : (l.drop j).length = l.length - j := List.length_drop
    obtain ⟨b2, c2, rfl⟩ := hv'.form
    have hcap := hv'.cap_le
    refine WC.skip (WX.seq (WC.seq (WC.block (WC.seq (WC.seq (WC.region (WO.step rfl ?_)))))))
    refine OR.move rfl (WO.step rfl (OR.nilCheck rfl (WO.step rfl (OR.fieldAddr FA246_0 rfl (WO.step rfl (OR.load T43 rfl rfl (hs.cellM (i := 1) rfl rfl) (WO.step rfl ?_)))))))
    refine OR.lenSlice T43.und rfl (WO.step rfl (OR.eql rfl rfl (WO.done (WX.seq ?_))))
    refine WC.no rfl (decide_eq_false (by omega)) ?_
    refine WC.skip (WX.seq (WC.seq (WC.region (WO.step rfl (OR.move rfl ?_)))))
    refine WO.step rfl (OR.shl rfl rfl (by omega) ?_)
    obtain ⟨b3, o3, rfl, hce⟩ := hv'.pos (by omega)
    have hc0 := hce 0 (by omega)
    have he0 : (l.drop j)[0]'(by omega) = l[j] := by rw [List.getElem_drop]; simp
    rw [he0] at hc0
    refine WO.step rfl (OR.move rfl (WO.step rfl (OR.nilCheck rfl (WO.step rfl (OR.fieldAddr FA246_0 rfl (WO.step rfl (OR.load T43 rfl rfl (hs.cellM (i := 1) rfl rfl) ?_)))))))
    refine WO.step rfl (OR.idx 0 T43.und T5 rfl rfl rfl (by omega) ?_)
    refine WO.step rfl (OR.load T5 rfl rfl (hs.cell hc0) ?_)
    refine WO.step rfl (OR.convI T5.und T22.und rfl ?_)
    have hb8 := l[j].toNat_lt
    have hbv := beVal_lt j (l.take j) (by simp; omega)
    have hbv2 : beVal (l.take j) * 256 < 18446744073709551616 := by
      have h1 : 256 ^ (j + 1) ≤ 256 ^ 8 := Nat.pow_le_pow_right (by omega) (by omega)
      have h2 : beVal (l.take j) * 256 < 256 ^ (j + 1) := by rw [Nat.pow_succ]; exact Nat.mul_lt_mul_of_pos_right hbv (by omega)
      exact Nat.lt_of_lt_of_le h2 (Nat.le_trans h1 (by decide))
    have hbv3 : beVal (l.take j) * 256 + l[j].toNat < 18446744073709551616 := by
      have h1 : 256 ^ (j + 1) ≤ 256 ^ 8 := Nat.pow_le_pow_right (by omega) (by omega)
      have h2 := beVal_lt (j + 1) (l.take (j + 1)) (by simp; omega)
      rw [beVal_take l j hj'] at h2
      exact Nat.lt_of_lt_of_le h2 (Nat.le_trans h1 (by decide))
    have e1 : IntKind.u64.wrap ((beVal (l.take j) : Int) * 2 ^ (min (Int.toNat 8) IntKind.u64.bits)) = ((beVal (l.take j) * 256 : Nat) : Int) := by
      have := u64_wrap (beVal (l.take j) * 256) hbv2
      rw [← this, Int.natCast_mul]
      rfl
    rw [e1, u64_wrap l[j].toNat (by omega)]
    refine WO.step rfl (OR.or rfl rfl ?_)
    rw [or_u64 _ _ hb8 hbv3, ← beVal_take l j hj']
    refine WO.step rfl (OR.assign rfl (WO.done (WX.seq (WC.region (WO.step rfl (OR.move rfl (WO.step rfl ?_)))))))
    refine OR.move rfl (WO.step rfl (OR.nilCheck rfl (WO.step rfl (OR.fieldAddr FA246_0 rfl (WO.step rfl (OR.load T43 rfl rfl (hs.cellM (i := 1) rfl rfl) ?_))))))
    refine WO.step rfl (OR.sliceLoG 1 T43.und T5 rfl rfl rfl (by omega) ?_)
    refine WO.step rfl (OR.nilCheck rfl (WO.step rfl (OR.fieldAddr FA246_0 rfl ?_)))
    replace hs := hs.front (i := 1) rfl
    refine WO.stepN (OR.store hs T43 rfl rfl rfl (Nat.le_of_ble_eq_true rfl) rfl ?_)
    clear hs; intro w hs
    refine WO.done (WX.block (WX.seq (WC.region (WO.step rfl (OR.addI rfl rfl (by omega) (by omega) (WO.step rfl (OR.move rfl ?_)))))))
    refine WO.done ?_
    replace hs := hs.front (i := 1) rfl
    refine WX.again (j + 1) ⟨rfl, rfl, rfl, rfl, rfl,  trivial⟩ ?_ ?_
    · refine ⟨hlt', H, _, hle, ?_, hs⟩
      have := hv'.dropS 1 (by omega)
      rw [List.drop_drop] at this
      exact this
    · omega
  · have e : j = k := by omega
    subst e
    refine WC.exit (WX.seq_exit (WX.loop_exit (WX.block_hit (WX.seq (WC.seq (WC.region (WO.step rfl ?_)))))))
    refine OR.move rfl (WO.step rfl (OR.assign rfl (WO.stepN (OR.storeAll hs T28 rfl rfl rfl rfl rfl ?_))))
    clear hs; intro w hs
    refine WO.done (WX.seq (WC.ret ?_))
    refine WX.retD (dargs := [ptr b, .slice b1 l.length c1, ptr g1]) (cap := []) body178 (keep_ok _ _ g1 _ _ hs.toSub (hs.blk (i := 0) rfl) (hs.mem g1 _ true (List.mem_cons_self ..)).2.1) ?_
    intro e w' hp
    obtain ⟨v, H', rfl, hs', hle', _⟩ := hp.step hs
    refine ⟨v, rfl, fun a ha => ⟨_, results_TC T28 rfl rfl (ha 4 _ rfl) (ha 5 _ rfl) (hs'.cellM (i := 0) rfl rfl), _, H', _, rfl, hs'.drop 0, by simp [dropAt], _, rfl, rfl, hv'.mono hle'⟩⟩

end Go.Bw
namespace Go.Bw
set_option linter.unusedVariables false
set_option linter.unusedSimpArgs false
open Go.Proofs

theorem take_flat_succ (ll : List (List UInt8)) (k : Nat) (h : k < ll.length) : (ll.take (k + 1)).flatten = (ll.take k).flatten ++ ll[k] := by
  rw [List.take_succ_eq_append_getElem h, List.flatten_append]
  simp
theorem flat_take_le (ll : List (List UInt8)) (k : Nat) : (ll.take k).flatten.length ≤ ll.flatten.length := by
  have : ll.flatten = (ll.take k).flatten ++ (ll.drop k).flatten := by rw [← List.flatten_append, List.take_append_drop]
  rw [this, List.length_append]
  omega
theorem setL_take (c : List Value) (o : Nat) (news : List Value) (h : o + news.length ≤ c.length) : (setL c o news).take (o + news.length) = c.take o ++ news := by
  rw [setL_at _ _ _ h, List.take_append_of_le_length (by simp; omega), List.take_of_length_le (by simp; omega)]

set_option maxRecDepth 20000 in
set_option maxHeartbeats 2000000 in
theorem join_ok (vl : Value) (ll : List (List UInt8)) (H0 : Hp) (w0 : World) (h0 : Sub H0 w0) (hv : BytesL H0 vl ll) (hl : ll.flatten.length ≤ 1000000000000) (hll : ll.length ≤ 1000000000000) :
    Calls Tryz.prog 156 #[vl, .slice none 0 0] w0 (Pure H0 w0 fun v H' => Bytes H' v ll.flatten) := by
  have hs := HS.init h0
  have hle := Hp.le.refl H0
  have hv0 := hv
  obtain ⟨b1, c1, rfl⟩ := hv0.form
  obtain ⟨cs, hsl, hcl, hcs⟩ := hv
  have hcap1 : ll.length ≤ c1 := by
    obtain ⟨_, b', c', q1, q2, _⟩ := hsl
    cases q1
    exact q2
  refine Calls.enter (args := [.slice b1 ll.length c1, .slice none 0 0]) Tryz.func156 rfl Tryz.ntmps156 rfl ?_
  refine WC.seq (WC.region (WO.step rfl (OR.assign rfl (WO.done (WX.seq (WC.seq (WC.seq ?_)))))))
  refine WC.region (WO.step rfl (OR.move rfl (WO.step rfl (OR.lenSlice T40.und rfl (WO.step rfl (OR.eql rfl rfl (WO.done ?_)))))))
  refine WX.seq ?_
  refine WC.condD rfl (fun hz => ?_) (fun hz => ?_)
  · refine WC.seq (WC.region ?_)
    refine WO.step rfl (OR.buildSlice (vs := []) hs T43.und T5 rfl rfl rfl rfl (by simp) ?_)
    clear hs; intro g1 w hg1 hs
    refine WO.step rfl (OR.assign rfl (WO.done (WX.seq (WC.ret (WX.seq_ret ?_)))))
    refine WX.ret1 rfl rfl ?_
    have : ll = [] := List.eq_nil_of_length_eq_zero (by omega)
    subst this
    exact .mk (hs.drop 0) (Sl.empty _ _ _)
  · obtain ⟨ob, oo, rfl, hco⟩ := hsl.pos (by omega)
    have hget : ∀ k (h : k < ll.length), hcell H0 ⟨ob, oo + k, none⟩ = some (cs[k]'(by omega)) ∧ Bytes H0 (cs[k]'(by omega)) ll[k] := fun k h => ⟨hco k _ (List.getElem?_eq_getElem (by omega)), hcs k h (by omega)⟩
    obtain ⟨hc0, hb0⟩ := hget 0 (by omega)
    obtain ⟨be0, ce0, he0⟩ := hb0.form
    rw [he0] at hb0
    refine WC.skip (WX.seq (WC.seq (WC.seq (WC.region (WO.step rfl (OR.move rfl (WO.step rfl ?_)))))))
    refine OR.lenSlice T40.und rfl (WO.step rfl (OR.eql rfl rfl (WO.done (WX.seq ?_))))
    refine WC.condD rfl (fun h1 => ?_) (fun h1 => ?_)
    · refine WC.seq (WC.region (WO.step rfl (OR.move rfl ?_)))
      refine WO.step rfl (OR.idx 0 T40.und T43 rfl rfl rfl (by omega) ?_)
      refine WO.step rfl (OR.load T43 rfl rfl (hs.cell hc0) ?_)
      rw [he0]
      have hl1 := flat_take_le ll 1
      have hl2 : (ll.take 1).flatten = (ll.take 0).flatten ++ ll[0]'(by omega) := take_flat_succ ll 0 (by omega)
      have hl3 : ll.take 1 = ll := List.take_of_length_le (by omega)
      have hl4 : ll.flatten = ll[0]'(by omega) := by
        have h9 : (ll.take 1).flatten = ll.flatten := by rw [hl3]
        rw [List.take_zero, List.flatten_nil, List.nil_append] at hl2
        exact h9.symm.trans hl2
      have hl5 : (ll[0]'(by omega)).length ≤ 1000000000000 := by rw [← hl4]; exact hl
      refine WO.step rfl (OR.append (n := 0) (m := (ll[0]'(by omega)).length) (cs := []) (news := (ll[0]'(by omega)).map B) (Mo := []) (M := []) hs (Own.nil _ _ _) T43.und T5 rfl (by omega) rfl rfl (by simp) (Sl.src hb0 hs) (Sl.src0 hb0) (bytes_one _) (by omega) (by omega) ?_)
      clear hs; intro v' w Mo hs ho hge
      obtain ⟨H3, hle3, hs, hsl3, _⟩ := HS.pub hs ho
      refine WO.step rfl (OR.assign rfl (WO.done (WX.seq (WC.ret (WX.seq_ret ?_)))))
      refine WX.ret1 rfl rfl ?_
      refine .mk hs ?_
      unfold Bytes
      rw [hl4]
      rw [Nat.zero_add, List.nil_append] at hsl3
      exact hsl3
    · refine WC.skip (WX.seq (WC.seq (WC.region (WO.step rfl (OR.assign rfl (WO.done (WX.seq ?_)))))))
      refine WC.seq (WC.seq (WC.region (WO.step rfl (OR.move rfl (WO.step rfl (OR.lenSlice T43.und rfl (WO.step rfl ?_)))))))
      refine OR.gtr rfl rfl (WO.done (WX.seq ?_))
      refine WC.no rfl (decide_eq_false (by omega)) ?_
      refine WC.skip (WX.seq (WC.seq (WC.seq (WC.region (WO.step rfl (OR.move rfl (WO.step rfl ?_)))))))
      refine OR.lenSlice T40.und rfl (WO.step rfl (OR.move rfl (WO.done (WX.seq (WC.block ?_)))))
      refine WC.loop (ι := Nat) (fun k => [(0, .slice (some ⟨ob, oo, none⟩) ll.length c1), (1, .slice none 0 0), (5, .int .i64 ((ll.take k).flatten.length : Int)), (42, .slice (some ⟨ob, oo, none⟩) ll.length c1), (43, .int .i64 (ll.length : Int)), (44, .int .i64 (k : Int))]) (fun k w => (k ≤ ll.length ∧ HS [] H0 w0 H0 [] w)) (fun k => ll.length - k) 0 ⟨rfl, rfl, rfl, rfl, rfl, rfl,  trivial⟩ ?_ (fun k w hW => ?_)
      · exact ⟨by omega, hs⟩
      clear hs
      obtain ⟨hk, hs⟩ := hW
      refine WC.seq (WC.region (WO.step rfl (OR.lss rfl rfl (WO.done (WX.seq (WC.seq ?_))))))
      refine WC.condD rfl (fun hlt => ?_) (fun hlt => ?_)
      · have hk' : k < ll.length := by omega
        obtain ⟨hck, hbk⟩ := hget k hk'
        obtain ⟨be, ce, he⟩ := hbk.form
        refine WC.skip (WX.seq (WC.seq (WC.block (WC.seq (WC.region ?_)))))
        refine WO.step rfl (OR.idx k T40.und T43 rfl rfl rfl hk' ?_)
        refine WO.step rfl (OR.load T43 rfl rfl (hs.cell hck) ?_)
        rw [he]
        have hf1 := take_flat_succ ll k hk'
        have hf2 := flat_take_le ll (k + 1)
        have hf3 : (ll.take (k + 1)).flatten.length = (ll.take k).flatten.length + ll[k].length := by rw [hf1, List.length_append]
        refine WO.step rfl (OR.assign rfl (WO.done (WX.seq (WC.seq (WC.seq (WC.region (WO.step rfl ?_)))))))
        refine OR.move rfl (WO.step rfl (OR.lenSlice T43.und rfl (WO.step rfl (OR.move rfl (WO.step rfl (OR.subI rfl rfl (by omega) (by omega) (WO.step rfl ?_)))))))
        refine OR.gtr rfl rfl (WO.done (WX.seq ?_))
        refine WC.no rfl (decide_eq_false (by omega)) ?_
        have hf4 : ((ll.take k).flatten.length : Int) + (ll[k].length : Int) = ((ll.take (k + 1)).flatten.length : Int) := by omega
        refine WC.skip (WX.seq (WC.region (WO.step rfl (OR.move rfl (WO.step rfl (OR.move rfl (WO.step rfl ?_)))))))
        refine OR.lenSlice T43.und rfl (WO.step rfl (OR.addI rfl rfl (by omega) (by omega) (WO.step rfl (OR.assign rfl (WO.done (WX.block (WX.seq ?_)))))))
        refine WC.region (WO.step rfl (OR.addI rfl rfl (by omega) (by omega) (WO.step rfl (OR.move rfl (WO.done ?_)))))
        rw [hf4]
        refine WX.again (k + 1) ⟨rfl, rfl, rfl, rfl, rfl, rfl,  trivial⟩ ?_ ?_
        · exact ⟨by omega, hs⟩
        · omega
      · have e : k = ll.length := by omega
        subst e
        rw [List.take_length]
        obtain ⟨T, hT⟩ : ∃ T, ll.flatten.length = T := ⟨_, rfl⟩
        rw [hT] at hl ⊢
        refine WC.exit (WX.seq_exit (WX.loop_exit (WX.block_hit (WX.seq (WC.seq (WC.region (WO.step rfl ?_)))))))
        refine OR.move rfl ?_
        refine WO.step rfl (OR.makeNoZero (ps := #[3]) (t := 43) hs Tryz.func177 (by kernel_rfl) (by kernel_rfl) (by kernel_rfl) (by kernel_rfl) T43.und rfl rfl (by omega) ?_)
        clear hs; intro g c w hg hTc hs
        refine WO.step rfl (OR.move rfl (WO.step rfl (OR.move rfl ?_)))
        refine WO.step rfl (OR.sliceMax T T43.und T5 rfl rfl rfl rfl hTc ?_)
        refine WO.step rfl (OR.assign rfl (WO.done (WX.seq (WC.seq (WC.region (WO.step rfl (OR.move rfl ?_)))))))
        refine WO.step rfl (OR.move rfl ?_)
        refine WO.step rfl (OR.idx 0 T40.und T43 rfl rfl rfl (by omega) ?_)
        refine WO.step rfl (OR.load T43 rfl rfl (hs.cell hc0) ?_)
        rw [he0]
        have hl2 : (ll.take 1).flatten = (ll.take 0).flatten ++ ll[0]'(by omega) := take_flat_succ ll 0 (by omega)
        have hl6 := flat_take_le ll 1
        rw [List.take_zero, List.flatten_nil, List.nil_append] at hl2
        have hl7 : (ll[0]'(by omega)).length ≤ T := by rw [← hl2]; omega
        refine WO.step rfl (OR.copyO hs ((ll[0]'(by omega)).map B) T43.und T5 rfl rfl (by rw [List.length_map, natmin (c := (ll[0]'(by omega)).length) (by omega)]; omega) (Sl.src0 hb0) (Sl.src hb0 hs) (by simp; omega) (bytes_one _) ?_)
        clear hs; intro w hs
        rw [natmin (c := (ll[0]'(by omega)).length) (by omega)]
        refine WO.step rfl (OR.assign rfl (WO.done (WX.seq (WC.seq (WC.seq (WC.region (WO.step rfl ?_)))))))
        refine OR.move rfl ?_
        refine WO.step rfl (OR.sliceLoG 1 T40.und T43 rfl rfl rfl (by omega) ?_)
        rw [if_neg (by omega), Option.map_some, add_off, Nat.mul_one]
        have hci : (setL c.toList 0 ((ll[0]'(by omega)).map B)).take (ll[0]'(by omega)).length = ((ll.take 1).flatten).map B := by
          have := setL_take c.toList 0 ((ll[0]'(by omega)).map B) (by simp; omega)
          rw [List.length_map, Nat.zero_add, List.take_zero, List.nil_append] at this
          rw [this, hl2]
        have hcz : T ≤ (setL c.toList 0 ((ll[0]'(by omega)).map B)).toArray.size := by rw [List.size_toArray, setL_length]; simpa using hTc
        generalize hcg : (setL c.toList 0 ((ll[0]'(by omega)).map B)).toArray = cc at *
        have hcg2 : setL c.toList 0 ((ll[0]'(by omega)).map B) = cc.toList := by rw [← hcg]
        rw [hcg2] at hci
        have hp1 : (ll[0]'(by omega)).length = (ll.take 1).flatten.length := by rw [hl2]
        rw [hp1] at hci ⊢
        refine WO.step rfl (OR.lenSlice T40.und rfl (WO.step rfl (OR.move rfl (WO.done (WX.seq (WC.block ?_))))))
        refine WC.loop (ι := Nat) (fun j => [(1, .slice none 0 0), (8, .slice (some ⟨g, 0, none⟩) T T), (9, .int .i64 ((ll.take (j + 1)).flatten.length : Int)), (70, .slice (some ⟨ob, oo + 1, none⟩) (ll.length - 1) (c1 - 1)), (71, .int .i64 ((ll.length - 1 : Nat) : Int)), (72, .int .i64 (j : Int))]) (fun j w => (j ≤ ll.length - 1 ∧ ∃ c, T ≤ c.size ∧ c.toList.take (ll.take (j + 1)).flatten.length = ((ll.take (j + 1)).flatten).map B ∧ HS [] H0 w0 H0 [(g, .cells c 5, true)] w)) (fun j => ll.length - 1 - j) 0 ⟨rfl, rfl, rfl, rfl, rfl, rfl,  trivial⟩ ?_ (fun j w hW => ?_)
        · exact ⟨by omega, cc, hcz, hci, hs⟩
        clear hs hci hcz hcg hcg2 hTc
        obtain ⟨hj, c, hcz, hci, hs⟩ := hW
        refine WC.seq (WC.region (WO.step rfl (OR.lss rfl rfl (WO.done (WX.seq (WC.seq ?_))))))
        refine WC.condD rfl (fun hlt2 => ?_) (fun hlt2 => ?_)
        · have hj' : 1 + j < ll.length := by omega
          obtain ⟨hck, hbk⟩ := hget (1 + j) hj'
          rw [← Nat.add_assoc] at hck
          obtain ⟨be, ce, he⟩ := hbk.form
          rw [he] at hbk hck
          refine WC.skip (WX.seq (WC.seq (WC.block (WC.seq (WC.region ?_)))))
          refine WO.step rfl (OR.idx j T40.und T43 rfl rfl rfl (by omega) ?_)
          refine WO.step rfl (OR.load T43 rfl rfl (hs.cell hck) ?_)
          have hf1 := take_flat_succ ll (j + 1) (by omega)
          have hf2 := flat_take_le ll (j + 1 + 1)
          have hf3 : (ll.take (j + 1 + 1)).flatten.length = (ll.take (j + 1)).flatten.length + ll[1 + j].length := by
            rw [hf1, List.length_append]
            simp only [Nat.add_comm 1 j]
          have hf5 : (ll.take (j + 1 + 1)).flatten = (ll.take (j + 1)).flatten ++ ll[1 + j] := by rw [hf1]; simp only [Nat.add_comm 1 j]
          generalize hacc : (ll.take (j + 1)).flatten = acc at *
          have hsl2 : (if T = acc.length then some (⟨g, 0, none⟩ : Addr) else (some (⟨g, 0, none⟩ : Addr)).map (·.add (acc.length * 1))) = some ⟨g, if T = acc.length then 0 else acc.length, none⟩ := by
            split
            · rfl
            · rw [Option.map_some, add_off, Nat.mul_one, Nat.zero_add]
          have ho : (if T = acc.length then 0 else acc.length) + ll[1 + j].length ≤ c.size := by split <;> omega
          refine WO.step rfl (OR.assign rfl (WO.done (WX.seq (WC.seq (WC.region (WO.step rfl (OR.move rfl ?_)))))))
          refine WO.step rfl (OR.move rfl (WO.step rfl (OR.move rfl ?_)))
          refine WO.step rfl (OR.sliceLoG acc.length T43.und T5 rfl rfl rfl (by omega) ?_)
          rw [hsl2]
          refine WO.step rfl (OR.move rfl ?_)
          refine WO.step rfl (OR.copyO hs [] T43.und T5 rfl rfl (by rw [natmin (c := 0) (by omega)]; rfl) (fun _ => rfl) (fun q hq => by cases hq) (by simp; omega) rfl ?_)
          clear hs; intro w hs
          rw [natmin (c := 0) (by omega)]
          rw [setL_nil] at hs
          replace hs : HS [] H0 w0 H0 [(g, .cells c 5, true)] w := hs
          refine WO.step rfl (OR.addI rfl rfl (by omega) (by omega) ?_)
          rw [show (acc.length : Int) + ((0 : Nat) : Int) = (acc.length : Int) from by omega]
          refine WO.step rfl (OR.assign rfl (WO.done (WX.seq (WC.region (WO.step rfl (OR.move rfl (WO.step rfl ?_)))))))
          refine OR.move rfl (WO.step rfl (OR.move rfl ?_))
          refine WO.step rfl (OR.sliceLoG acc.length T43.und T5 rfl rfl rfl (by omega) ?_)
          rw [hsl2]
          refine WO.step rfl (OR.move rfl ?_)
          refine WO.step rfl (OR.copyO hs (ll[1 + j].map B) T43.und T5 rfl rfl (by rw [List.length_map, natmin (c := ll[1 + j].length) (by omega)]; omega) (Sl.src0 hbk) (Sl.src hbk hs) (by rw [List.length_map]; exact ho) (bytes_one _) ?_)
          clear hs; intro w hs
          rw [natmin (c := ll[1 + j].length) (by omega)]
          refine WO.step rfl (OR.addI rfl rfl (by omega) (by omega) (WO.step rfl (OR.assign rfl (WO.done (WX.block (WX.seq (WC.region ?_)))))))
          refine WO.step rfl (OR.addI rfl rfl (by omega) (by omega) (WO.step rfl (OR.move rfl (WO.done ?_))))
          rw [show (acc.length : Int) + (ll[1 + j].length : Int) = ((ll.take (j + 1 + 1)).flatten.length : Int) from by omega]
          refine WX.again (j + 1) ⟨rfl, rfl, rfl, rfl, rfl, rfl,  trivial⟩ ?_ ?_
          · refine ⟨by omega, _, ?_, ?_, hs⟩
            · rw [List.size_toArray, setL_length]; simpa using hcz
            · rw [hf5, List.length_append, List.map_append]
              by_cases hTe : T = acc.length
              · have hz0 : ll[1 + j] = [] := List.eq_nil_of_length_eq_zero (by omega)
                rw [hz0, List.map_nil, setL_nil, List.append_nil]
                exact hci
              · rw [if_neg hTe] at ho ⊢
                have := setL_take c.toList acc.length (ll[1 + j].map B) (by rw [List.length_map]; simpa using ho)
                rw [List.length_map] at this
                show (setL c.toList acc.length (ll[1 + j].map B)).take (acc.length + ll[1 + j].length) = _
                rw [this, hci]
          · omega
        · have e : j = ll.length - 1 := by omega
          have e2 : ll.take (j + 1) = ll := List.take_of_length_le (by omega)
          rw [e2, hT] at hci
          refine WC.exit (WX.seq_exit (WX.loop_exit (WX.block_hit (WX.seq (WC.seq (WC.region (WO.step rfl ?_)))))))
          refine OR.move rfl (WO.step rfl (OR.assign rfl (WO.done (WX.seq (WC.ret ?_)))))
          refine WX.ret1 rfl rfl ?_
          have hp := hs.publish hg
          refine .mk hp ?_
          have := Bytes.block (l := ll.flatten) (cap := T) (Hp.put_same H0 g (.cells c 5)) (by rw [hT]; exact hci) (by omega)
          rw [hT] at this
          exact this
end Go.Bw
namespace Go.Bw
set_option linter.unusedVariables false
set_option linter.unusedSimpArgs false
open Go.Proofs

set_option maxRecDepth 20000 in
set_option maxHeartbeats 2000000 in
theorem ptake1_ok (gs : Nat) (s : Nat) (vx : Value) (l : List UInt8) (H0 : Hp) (w0 : World) (h0 : Sub H0 w0) (hc : hcell H0 ⟨gs, 0, none⟩ = some (.int .i64 (s : Int))) (hx : Bytes H0 vx l) :
    Calls Tryz.prog 154 #[vx, ptr gs] w0 (Pure H0 w0 fun v _ => v = .bool (decide (l.length ≠ s))) := by
  have hs := HS.init h0
  obtain ⟨b1, c1, rfl⟩ := hx.form
  refine Calls.enter (args := [.slice b1 l.length c1, ptr gs]) Tryz.func154 rfl Tryz.ntmps154 rfl ?_
  refine WC.seq (WC.region (WO.step rfl (OR.assign rfl (WO.done (WX.seq (WC.seq (WC.region ?_)))))))
  refine WO.step rfl (OR.move rfl (WO.step rfl (OR.lenSlice T43.und rfl ?_)))
  refine WO.step rfl (OR.load T3 rfl rfl (hs.cell hc) ?_)
  refine WO.step rfl (OR.neq rfl rfl (WO.step rfl (OR.assign rfl (WO.done (WX.seq (WC.ret ?_))))))
  refine WX.ret1 rfl rfl ?_
  refine .mk hs ?_
  congr 1
  rw [decide_eq_decide]
  omega
set_option maxRecDepth 20000 in
set_option maxHeartbeats 2000000 in
theorem ptake2_ok (x : UInt8) (H0 : Hp) (w0 : World) (h0 : Sub H0 w0) : Calls Tryz.prog 161 #[B x] w0 (Pure H0 w0 fun v _ => v = .bool (decide (x ≠ 0))) := by
  have hs := HS.init h0
  refine Calls.enter (args := [B x]) Tryz.func161 rfl Tryz.ntmps161 rfl ?_
  refine WC.seq (WC.region (WO.step rfl (OR.assign rfl (WO.done (WX.seq (WC.seq (WC.region ?_)))))))
  refine WO.step rfl (OR.move rfl (WO.step rfl (OR.neq rfl rfl (WO.step rfl (OR.assign rfl (WO.done (WX.seq ?_)))))))
  refine WC.ret ?_
  refine WX.ret1 rfl rfl ?_
  refine .mk hs ?_
  congr 1
  rw [decide_eq_decide]
  constructor
  · intro h e; apply h; rw [e]; rfl
  · intro h e; apply h; exact UInt8.toNat.inj (by simpa using e)

set_option maxRecDepth 20000 in
set_option maxHeartbeats 2000000 in
theorem containsB_ok (v : Value) (l : List UInt8) (p : UInt8 → Bool) (f : FuncId) (cap : List Value) (H0 : Hp) (w0 : World) (h0 : Sub H0 w0) (hv : Bytes H0 v l) (hl : l.length < 9223372036854775807) (hbf : Body Tryz.prog f)
    (hf : ∀ (x : UInt8) H w, Hp.le H0 H → Sub H w → Calls Tryz.prog f ([B x] ++ cap).toArray w (Pure H w fun v _ => v = .bool (p x))) :
    Calls Tryz.prog 160 #[v, .func (.func f) #[] cap.toArray] w0 (Pure H0 w0 fun v _ => v = .bool (decide (idxFrom p l 0 ≥ 0))) := by
  have hs := HS.init h0
  have hle := Hp.le.refl H0
  refine Calls.enter (args := [v, .func (.func f) #[] cap.toArray]) Tryz.func160 rfl Tryz.ntmps160 rfl ?_
  refine WC.seq (WC.region (WO.step rfl (OR.assign rfl (WO.done (WX.seq (WC.seq (WC.region ?_)))))))
  refine WO.step rfl (OR.move rfl (WO.step rfl (OR.move rfl ?_)))
  refine WO.step rfl (OR.call hs body147 rfl rfl (indexFunc_ok v l p f cap _ _ hs.toSub hv hl hbf hf) ?_)
  clear hs; rintro _ H w hs hle1 rfl; replace hle := hle.trans hle1; (try replace hlb := hlb.trans hle1)
  refine WO.step rfl (OR.geq rfl rfl (WO.step rfl (OR.assign rfl (WO.done (WX.seq (WC.ret ?_))))))
  refine WX.ret1 rfl rfl ?_
  exact .mk hs rfl
end Go.Bw
