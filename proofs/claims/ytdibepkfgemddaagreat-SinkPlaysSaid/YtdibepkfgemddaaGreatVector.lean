/- Vectors over the field: what the code reckons. -/
import Derived.Test.YtdibepkfgemddaaGreatField
import Derived.Test.YtdibepkfgemddaaGreatOps2
namespace Go.Bw
set_option linter.unusedVariables false
set_option linter.unusedSimpArgs false
open Go.Proofs

/-- The first place from k on at which something holds; -1: nowhere. -/
def idxFrom (p : UInt8 → Bool) (l : List UInt8) (k : Nat) : Int :=
  match (l.drop k).findIdx? p with
  | some i => ((k + i : Nat) : Int)
  | none => -1
/-- The place of the first byte that is not 0; -1: there is none. -/
def lead (l : List UInt8) : Int := idxFrom (fun x => decide (x ≠ 0)) l 0

theorem idxFrom_hit (p : UInt8 → Bool) (l : List UInt8) (k : Nat) (h : k < l.length) (hp : p l[k] = true) : idxFrom p l k = (k : Int) := by
  unfold idxFrom
  rw [List.drop_eq_getElem_cons h, List.findIdx?_cons, hp]
  simp
theorem idxFrom_miss (p : UInt8 → Bool) (l : List UInt8) (k : Nat) (h : k < l.length) (hp : p l[k] = false) : idxFrom p l k = idxFrom p l (k + 1) := by
  unfold idxFrom
  rw [List.drop_eq_getElem_cons h, List.findIdx?_cons, hp]
  cases (l.drop (k + 1)).findIdx? p with
  | none => simp
  | some i => simp; omega
theorem idxFrom_end (p : UInt8 → Bool) (l : List UInt8) (k : Nat) (h : l.length ≤ k) : idxFrom p l k = -1 := by
  unfold idxFrom
  rw [List.drop_eq_nil_of_le h]
  rfl

set_option maxRecDepth 20000 in
set_option maxHeartbeats 2000000 in
theorem lead1_ok (x : UInt8) (H0 : Hp) (w0 : World) (h0 : Sub H0 w0) : Calls Tryz.prog 148 #[B x] w0 (Pure H0 w0 fun v _ => v = .bool (decide (x ≠ 0))) := by
  have hs := HS.init h0
  refine Calls.enter (args := [B x]) Tryz.func148 rfl Tryz.ntmps148 rfl ?_
  refine WC.seq (WC.region (WO.step rfl (OR.assign rfl (WO.done (WX.seq (WC.seq (WC.region ?_)))))))
  refine WO.step rfl (OR.move rfl (WO.step rfl (OR.neq rfl rfl (WO.step rfl (OR.assign rfl (WO.done (WX.seq ?_)))))))
  refine WC.ret ?_
  refine WX.ret1 rfl rfl ?_
  refine .mk hs ?_
  congr 1
  rw [decide_eq_decide]
  constructor
  · intro h e; apply h; rw [e]; rfl
  · intro h e; apply h; exact UInt8.toNat.inj (by simpa using e)

set_option maxRecDepth 20000 in
set_option maxHeartbeats 2000000 in
theorem indexFunc_ok (v : Value) (l : List UInt8) (p : UInt8 → Bool) (f : FuncId) (cap : List Value) (H0 : Hp) (w0 : World) (h0 : Sub H0 w0) (hv : Bytes H0 v l) (hl : l.length < 9223372036854775807) (hbf : Body Tryz.prog f)
    (hf : ∀ (x : UInt8) H w, Hp.le H0 H → Sub H w → Calls Tryz.prog f ([B x] ++ cap).toArray w (Pure H w fun v _ => v = .bool (p x))) :
    Calls Tryz.prog 147 #[v, .func (.func f) #[] cap.toArray] w0 (Pure H0 w0 fun v _ => v = .int .i64 (idxFrom p l 0)) := by
  have hs := HS.init h0
  obtain ⟨base, cp, rfl⟩ := hv.form
  refine Calls.enter (args := [.slice base l.length cp, .func (.func f) #[] cap.toArray]) Tryz.func147 rfl Tryz.ntmps147 rfl ?_
  refine WC.seq (WC.region (WO.step rfl (OR.assign rfl (WO.done (WX.seq (WC.seq (WC.seq ?_)))))))
  refine WC.region (WO.step rfl (OR.move rfl (WO.step rfl (OR.lenSlice T43.und rfl (WO.step rfl (OR.move rfl (WO.done ?_)))))))
  refine WX.seq (WC.block ?_)
  refine WC.loop (ι := Nat) (fun k => [(0, .slice base l.length cp), (1, .func (.func f) #[] cap.toArray), (7, .int .i64 (l.length : Int)), (8, .int .i64 (k : Int))]) (fun k w => (k ≤ l.length ∧ idxFrom p l 0 = idxFrom p l k ∧ ∃ H, Hp.le H0 H ∧ HS [] H0 w0 H [] w)) (fun k => l.length - k) 0 ⟨rfl, rfl, rfl, rfl,  trivial⟩ ?_ (fun k w hW => ?_)
  · exact ⟨by omega, rfl, H0, .refl H0, hs⟩
  obtain ⟨hk, he, H, hle, hs⟩ := hW
  refine WC.seq (WC.region (WO.step rfl (OR.lss rfl rfl (WO.done (WX.seq (WC.seq ?_))))))
  refine WC.condD rfl (fun hlt => ?_) (fun hlt => ?_)
  · have hlt' : k < l.length := by omega
    obtain ⟨b, o, rfl, hc⟩ := hv.pos (by omega)
    refine WC.skip (WX.seq (WC.seq (WC.block (WC.seq (WC.region (WO.step rfl (OR.move rfl ?_)))))))
    refine WO.step rfl (OR.assign rfl (WO.done (WX.seq (WC.seq (WC.region (WO.step rfl (OR.move rfl ?_)))))))
    refine WO.step rfl (OR.move rfl (WO.step rfl (OR.move rfl ?_)))
    refine WO.step rfl (OR.idx k T43.und T5 rfl rfl rfl hlt' ?_)
    refine WO.step rfl (OR.load T5 rfl rfl (hs.cell (hcell.mono hle (hc k hlt'))) ?_)
    refine WO.step rfl (OR.call hs (hbf) rfl rfl (hf l[k] _ _ hle hs.toSub) ?_)
    clear hs; rintro _ H w hs hle1 rfl; replace hle := hle.trans hle1; (try replace hlb := hlb.trans hle1)
    refine WO.done (WX.seq ?_)
    refine WC.cond rfl (fun hp => ?_) (fun hp => ?_)
    · refine WC.seq (WC.region (WO.step rfl (OR.move rfl (WO.step rfl (OR.assign rfl (WO.done (WX.seq ?_)))))))
      refine WC.ret (WX.block_ret (WX.seq_ret (WX.loop_ret (WX.block_ret (WX.seq_ret ?_)))))
      refine WX.ret1 rfl rfl ?_
      refine .mk hs ?_
      rw [he, idxFrom_hit p l k hlt' hp]
    · refine WC.skip (WX.block (WX.seq (WC.region (WO.step rfl (OR.addI rfl rfl (by omega) (by omega) (WO.step rfl (OR.move rfl ?_)))))))
      refine WO.done ?_
      refine WX.again (k + 1) ⟨rfl, rfl, rfl, rfl,  trivial⟩ ?_ ?_
      · refine ⟨hlt', ?_, H, hle, hs⟩
        rw [he, idxFrom_miss p l k hlt' hp]
      · omega
  · refine WC.exit (WX.seq_exit (WX.loop_exit (WX.block_hit (WX.seq (WC.seq (WC.region (WO.step rfl ?_)))))))
    refine OR.assign rfl (WO.done (WX.seq (WC.ret ?_)))
    refine WX.ret1 rfl rfl ?_
    refine .mk hs ?_
    rw [he, idxFrom_end p l k (by omega)]

set_option maxRecDepth 20000 in
set_option maxHeartbeats 2000000 in
theorem lead_ok (v : Value) (l : List UInt8) (H0 : Hp) (w0 : World) (h0 : Sub H0 w0) (hv : Bytes H0 v l) (hl : l.length < 9223372036854775807) :
    Calls Tryz.prog 110 #[v] w0 (Pure H0 w0 fun v _ => v = .int .i64 (lead l)) := by
  have hs := HS.init h0
  have hle := Hp.le.refl H0
  refine Calls.enter (args := [v]) Tryz.func110 rfl Tryz.ntmps110 rfl ?_
  refine WC.seq (WC.region (WO.step rfl (OR.assign rfl (WO.done (WX.seq (WC.seq (WC.region ?_)))))))
  refine WO.step rfl (OR.move rfl ?_)
  refine WO.step rfl (OR.call hs body147 rfl rfl (indexFunc_ok v l (fun x => decide (x ≠ 0)) 148 [] _ _ hs.toSub hv hl body148 (fun x H w _ hH => lead1_ok x H w hH)) ?_)
  clear hs; rintro _ H w hs hle1 rfl; replace hle := hle.trans hle1; (try replace hlb := hlb.trans hle1)
  refine WO.step rfl (OR.assign rfl (WO.done (WX.seq (WC.ret ?_))))
  refine WX.ret1 rfl rfl ?_
  exact .mk hs rfl

set_option maxRecDepth 20000 in
set_option maxHeartbeats 2000000 in
theorem isZero_ok (v : Value) (l : List UInt8) (H0 : Hp) (w0 : World) (h0 : Sub H0 w0) (hv : Bytes H0 v l) (hl : l.length < 9223372036854775807) :
    Calls Tryz.prog 50 #[v] w0 (Pure H0 w0 fun v _ => v = .bool (decide (lead l < 0))) := by
  have hs := HS.init h0
  have hle := Hp.le.refl H0
  refine Calls.enter (args := [v]) Tryz.func50 rfl Tryz.ntmps50 rfl ?_
  refine WC.seq (WC.region (WO.step rfl (OR.assign rfl (WO.done (WX.seq (WC.seq (WC.region ?_)))))))
  refine WO.step rfl (OR.move rfl ?_)
  refine WO.step rfl (OR.call hs body110 rfl rfl (lead_ok v l _ _ hs.toSub hv hl) ?_)
  clear hs; rintro _ H w hs hle1 rfl; replace hle := hle.trans hle1; (try replace hlb := hlb.trans hle1)
  refine WO.step rfl (OR.lss rfl rfl (WO.step rfl (OR.assign rfl (WO.done (WX.seq (WC.ret ?_))))))
  refine WX.ret1 rfl rfl ?_
  exact .mk hs rfl

set_option maxRecDepth 20000 in
set_option maxHeartbeats 2000000 in
theorem clone_ok (v : Value) (l : List UInt8) (H0 : Hp) (w0 : World) (h0 : Sub H0 w0) (hv : Bytes H0 v l) (hl : l.length ≤ 140737488355328) :
    Calls Tryz.prog 87 #[v] w0 (Ret [] H0 w0 fun v H' M' => H' = H0 ∧ Own w0.heap.size 5 1 v l.length (l.map B) M') := by
  have hs := HS.init h0
  obtain ⟨base, cp, rfl⟩ := hv.form
  refine Calls.enter (args := [.slice base l.length cp]) Tryz.func87 rfl Tryz.ntmps87 rfl ?_
  refine WC.seq (WC.region (WO.step rfl (OR.assign rfl (WO.done (WX.seq (WC.seq (WC.seq ?_)))))))
  refine WC.region (WO.step rfl (OR.move rfl (WO.step rfl (OR.eqlNil T43.und rfl rfl (WO.done (WX.seq ?_))))))
  refine WC.cond rfl (fun hb => ?_) (fun hb => ?_)
  · refine WC.seq (WC.region (WO.step rfl (OR.assign rfl (WO.done (WX.seq (WC.ret (WX.seq_ret ?_)))))))
    refine WX.ret1 rfl rfl ?_
    have hb' : base = none := by cases base with | none => rfl | some a => cases hb
    subst hb'
    have h2 := Sl.src0 hv rfl
    refine ⟨_, H0, [], rfl, hs, by simp, rfl, ?_⟩
    have : l = [] := List.eq_nil_of_length_eq_zero h2
    subst this
    exact Own.nil _ _ _
  · refine WC.skip (WX.seq (WC.seq (WC.region ?_)))
    refine WO.step rfl (OR.buildSlice (vs := []) hs T43.und T5 rfl rfl rfl rfl (by simp) ?_)
    clear hs; intro g1 w hg1 hs
    refine WO.step rfl (OR.move rfl ?_)
    refine WO.step rfl (OR.append (n := 0) (cs := []) (news := l.map B) (Mo := [_]) (M := []) hs (Own.block (cap := 0) (by omega) rfl rfl hg1) T43.und T5 rfl (by omega) rfl rfl (by simp) (Sl.src hv hs) (Sl.src0 hv) (bytes_one l) (by omega) (by omega) ?_)
    clear hs; intro v' w Mo hs ho hge
    refine WO.step rfl (OR.assign rfl (WO.done (WX.seq (WC.ret ?_))))
    refine WX.ret1 rfl rfl ?_
    rw [Nat.zero_add, List.nil_append] at ho
    refine ⟨_, H0, Mo, rfl, by simpa using hs, ?_, rfl, ho⟩
    rcases ho.2 with ⟨rfl, _⟩ | ⟨g, c, cap, rfl, _⟩ <;> simp

theorem clone_pure (v : Value) (l : List UInt8) (H0 : Hp) (w0 : World) (h0 : Sub H0 w0) (hv : Bytes H0 v l) (hl : l.length ≤ 140737488355328) :
    Calls Tryz.prog 87 #[v] w0 (Pure H0 w0 fun v H' => Bytes H' v l) :=
  (clone_ok v l H0 w0 h0 hv hl).mono fun _ _ h => own_pure h fun _ _ _ h => h

set_option maxRecDepth 20000 in
set_option maxHeartbeats 2000000 in
theorem equal_ok (va vb : Value) (a b : List UInt8) (H0 : Hp) (w0 : World) (h0 : Sub H0 w0) (ha : Bytes H0 va a) (hb : Bytes H0 vb b) :
    Calls Tryz.prog 51 #[va, vb] w0 (Pure H0 w0 fun v _ => v = .bool (decide (a = b))) := by
  have hs := HS.init h0
  refine Calls.enter (args := [va, vb]) Tryz.func51 rfl Tryz.ntmps51 rfl ?_
  refine WC.seq (WC.region (WO.step rfl (OR.assign rfl (WO.done (WX.seq (WC.seq (WC.region ?_)))))))
  refine WO.step rfl (OR.move rfl ?_)
  refine WO.step rfl (OR.toStr hs T43.und T9.und T5.und rfl ha ?_)
  refine WO.step rfl (OR.move rfl ?_)
  refine WO.step rfl (OR.toStr hs T43.und T9.und T5.und rfl hb ?_)
  refine WO.step rfl (OR.eqlStr rfl rfl (WO.step rfl (OR.assign rfl (WO.done (WX.seq (WC.ret ?_))))))
  refine WX.ret1 rfl rfl ?_
  exact .mk hs rfl

/-- What each makes. -/
def eachR (f : UInt8 → UInt8 → UInt8) (a b : List UInt8) : List UInt8 := if a.length = b.length then List.zipWith f a b else []
def eachE (a b : List UInt8) : Int := if a.length = b.length then 0 else 21

theorem take_step (f : UInt8 → UInt8 → UInt8) (a b : List UInt8) (c : List Value) (k : Nat) (ha : k < a.length) (hb : k < b.length) (hc : k < c.length) (h : c.take k = ((List.zipWith f a b).take k).map B) :
    (setL c k [B (f a[k] b[k])]).take (k + 1) = ((List.zipWith f a b).take (k + 1)).map B := by
  rw [setL_step, setL_nil, List.take_succ_eq_append_getElem (by simpa using hc), List.take_set, List.set_eq_of_length_le (by rw [List.length_take]; omega), h,
    List.take_succ_eq_append_getElem (by simp; omega)]
  simp

set_option maxRecDepth 20000 in
set_option maxHeartbeats 2000000 in
theorem each_ok (va vb : Value) (a b : List UInt8) (f : UInt8 → UInt8 → UInt8) (fid : FuncId) (cap : List Value) (H0 : Hp) (w0 : World) (h0 : Sub H0 w0) (ha : Bytes H0 va a) (hb : Bytes H0 vb b)
    (hl : a.length ≤ 140737488355328) (hbf : Body Tryz.prog fid)
    (hf : ∀ (x y : UInt8) H w, Hp.le H0 H → Sub H w → Calls Tryz.prog fid ([B x, B y] ++ cap).toArray w (Pure H w fun v _ => v = B (f x y))) :
    Calls Tryz.prog 164 #[va, vb, .func (.func fid) #[] cap.toArray] w0 (Pure H0 w0 fun v H' => ∃ r, v = .tuple #[r, .int .i64 (eachE a b)] ∧ Bytes H' r (eachR f a b)) := by
  have hs := HS.init h0
  have hle := Hp.le.refl H0
  obtain ⟨ba, ca, rfl⟩ := ha.form
  obtain ⟨bb, cb, rfl⟩ := hb.form
  refine Calls.enter (args := [.slice ba a.length ca, .slice bb b.length cb, .func (.func fid) #[] cap.toArray]) Tryz.func164 rfl Tryz.ntmps164 rfl ?_
  refine WC.seq (WC.region (WO.step rfl (OR.assign rfl (WO.step rfl (OR.assign rfl (WO.done (WX.seq ?_)))))))
  refine WC.seq (WC.seq (WC.region (WO.step rfl (OR.move rfl (WO.step rfl (OR.lenSlice T43.und rfl (WO.step rfl ?_)))))))
  refine OR.move rfl (WO.step rfl (OR.lenSlice T43.und rfl (WO.step rfl (OR.neq rfl rfl (WO.done (WX.seq ?_))))))
  refine WC.condD rfl (fun hne => ?_) (fun hne => ?_)
  · refine WC.seq (WC.region (WO.step rfl (OR.assign rfl (WO.step rfl (OR.assign rfl (WO.done (WX.seq ?_)))))))
    refine WC.ret (WX.seq_ret ?_)
    refine WX.ret2 rfl rfl rfl ?_
    have : ¬ a.length = b.length := by omega
    refine .mk hs ⟨_, by rw [eachE, if_neg this], ?_⟩
    rw [eachR, if_neg this]
    exact Bytes.nil _
  · have heq : a.length = b.length := by omega
    refine WC.skip (WX.seq (WC.seq (WC.region (WO.step rfl (OR.move rfl (WO.step rfl (OR.lenSlice T43.und rfl ?_)))))))
    refine WO.step rfl (OR.make1 hs T43.und T5 rfl rfl rfl (by omega) (by omega) ?_)
    clear hs; intro g1 w hg1 hs
    refine WO.step rfl (OR.assign rfl (WO.done (WX.seq (WC.seq (WC.seq (WC.region (WO.step rfl ?_)))))))
    refine OR.move rfl (WO.step rfl (OR.lenSlice T43.und rfl (WO.step rfl (OR.move rfl (WO.done (WX.seq (WC.block ?_)))))))
    refine WC.loop (ι := Nat) (fun k => [(0, .slice ba a.length ca), (1, .slice bb b.length cb), (2, .func (.func fid) #[] cap.toArray), (8, .slice (some ⟨g1, 0, none⟩) a.length a.length), (19, .int .i64 (a.length : Int)), (20, .int .i64 (k : Int))]) (fun k w => (k ≤ a.length ∧ ∃ (c : List Value) (H : Hp), c.length = a.length ∧ c.take k = ((List.zipWith f a b).take k).map B ∧ Hp.le H0 H ∧ HS [] H0 w0 H [(g1, .cells c.toArray 5, true)] w)) (fun k => a.length - k) 0 ⟨rfl, rfl, rfl, rfl, rfl, rfl,  trivial⟩ ?_ (fun k w hW => ?_)
    · exact ⟨by omega, _, H0, List.length_replicate .., by simp, .refl H0, hs⟩
    obtain ⟨hk, c, H, hcl, hct, hle, hs⟩ := hW
    refine WC.seq (WC.region (WO.step rfl (OR.lss rfl rfl (WO.done (WX.seq (WC.seq ?_))))))
    refine WC.condD rfl (fun hlt => ?_) (fun hlt => ?_)
    · have hka : k < a.length := by omega
      have hkb : k < b.length := by omega
      obtain ⟨xa, oa, rfl, hca⟩ := ha.pos (by omega)
      obtain ⟨xb, ob, rfl, hcb⟩ := hb.pos (by omega)
      refine WC.skip (WX.seq (WC.seq (WC.block (WC.seq (WC.region (WO.step rfl (OR.move rfl ?_)))))))
      refine WO.step rfl (OR.assign rfl (WO.done (WX.seq ?_)))
      refine WC.draw 12 mixed hs (by kernel_rfl) ?_
      refine ⟨MF.eq _, by intro Mx H w hle hs; refine forVals_nil (ORg.plain (OR.move rfl ?_)); exact ⟨_, [], Hp.le.refl _, hs, rfl, rfl⟩, ?_⟩
      refine ⟨MF.eq _, by intro Mx H w hle hs; refine forVals_nil (ORg.plain (OR.move rfl ?_)); exact ⟨_, [], Hp.le.refl _, hs, rfl, rfl⟩, ?_⟩
      refine ⟨MF.eq _, by intro Mx H w hle hs; refine forVals_nil (ORg.plain (OR.move rfl ?_)); exact ⟨_, [], Hp.le.refl _, hs, rfl, rfl⟩, ?_⟩
      refine ⟨MF.eq _, by intro Mx H w hle hs; refine forVals_nil (ORg.plain (OR.move rfl ?_)); exact ⟨_, [], Hp.le.refl _, hs, rfl, rfl⟩, ?_⟩
      refine ⟨MF.eq _, by intro Mx H w hle hs; refine forVals_nil (ORg.plain (OR.move rfl ?_)); exact ⟨_, [], Hp.le.refl _, hs, rfl, rfl⟩, ?_⟩
      refine ⟨MF.eq (.pointer (some ⟨xa, oa + k, none⟩)), ?_, ?_⟩
      · intro Mx H w hle2 hs; (try replace hle := hle.trans hle2); (try replace hlb := hlb.trans hle2); refine forVals_eq rfl rfl rfl ?_; refine forVals_eq rfl rfl rfl ?_
        refine forVals_nil (ORg.plain (OR.idx k T43.und T5 rfl rfl rfl hka ?_))
        exact ⟨_, [], Hp.le.refl _, hs, rfl, rfl⟩
      refine ⟨MF.eq (B a[k]), ?_, ?_⟩
      · intro Mx H w hle2 hs; (try replace hle := hle.trans hle2); (try replace hlb := hlb.trans hle2); refine forVals_eq rfl rfl rfl ?_
        refine forVals_nil (ORg.plain (OR.load T5 rfl rfl (hs.cell (hcell.mono hle (hca k hka))) ?_))
        exact ⟨_, [], Hp.le.refl _, hs, rfl, rfl⟩
      refine ⟨MF.eq _, by intro Mx H w hle hs; refine forVals_nil (ORg.plain (OR.move rfl ?_)); exact ⟨_, [], Hp.le.refl _, hs, rfl, rfl⟩, ?_⟩
      refine ⟨MF.eq _, by intro Mx H w hle hs; refine forVals_nil (ORg.plain (OR.move rfl ?_)); exact ⟨_, [], Hp.le.refl _, hs, rfl, rfl⟩, ?_⟩
      refine ⟨MF.eq (.pointer (some ⟨xb, ob + k, none⟩)), ?_, ?_⟩
      · intro Mx H w hle2 hs; (try replace hle := hle.trans hle2); (try replace hlb := hlb.trans hle2); refine forVals_eq rfl rfl rfl ?_; refine forVals_eq rfl rfl rfl ?_
        refine forVals_nil (ORg.plain (OR.idx k T43.und T5 rfl rfl rfl hkb ?_))
        exact ⟨_, [], Hp.le.refl _, hs, rfl, rfl⟩
      refine ⟨MF.eq (B b[k]), ?_, ?_⟩
      · intro Mx H w hle2 hs; (try replace hle := hle.trans hle2); (try replace hlb := hlb.trans hle2); refine forVals_eq rfl rfl rfl ?_
        refine forVals_nil (ORg.plain (OR.load T5 rfl rfl (hs.cell (hcell.mono hle (hcb k hkb))) ?_))
        exact ⟨_, [], Hp.le.refl _, hs, rfl, rfl⟩
      refine ⟨MF.eq (B (f a[k] b[k])), ?_, ?_⟩
      · intro Mx H w hle2 hs; (try replace hle := hle.trans hle2); (try replace hlb := hlb.trans hle2); refine forVals_eq rfl rfl rfl ?_; refine forVals_eq rfl rfl rfl ?_; refine forVals_eq rfl rfl rfl ?_
        refine forVals_nil (ORg.plain (OR.call hs (hbf) rfl rfl (hf a[k] b[k] _ _ hle hs.toSub) ?_))
        clear hs; rintro _ H w hs hle1 rfl
        exact ⟨_, [], hle1, hs, rfl, rfl⟩
      intro H w hle2; (try replace hle := hle.trans hle2); (try replace hlb := hlb.trans hle2)
      refine forAllVals_eq rfl ?_
      refine forAllVals_eq rfl ?_
      refine forAllVals_eq rfl ?_
      refine forAllVals_eq rfl ?_
      refine forAllVals_eq rfl ?_
      refine forAllVals_eq rfl ?_
      refine forAllVals_eq rfl ?_
      refine forAllVals_eq rfl ?_
      refine forAllVals_eq rfl ?_
      refine forAllVals_eq rfl ?_
      refine forAllVals_eq rfl ?_
      refine forAllVals_eq rfl ?_
      refine forAllVals_nil ?_; (try clear hs); intro hs
      refine WO.step rfl (OR.idx k T43.und T5 rfl rfl rfl hka ?_)
      refine WO.stepN (OR.store hs T5 rfl rfl rfl (by simp [hcl]; omega) rfl ?_)
      clear hs; intro w hs
      refine WO.done (WX.block (WX.seq (WC.region (WO.step rfl (OR.addI rfl rfl (by omega) (by omega) (WO.step rfl (OR.move rfl ?_)))))))
      refine WO.done ?_
      refine WX.again (k + 1) ⟨rfl, rfl, rfl, rfl, rfl, rfl,  trivial⟩ ?_ ?_
      · refine ⟨by omega, _, _, ?_, ?_, hle, hs⟩
        · rw [setL_length]; exact hcl
        · rw [Nat.zero_add]; exact take_step f a b c k hka hkb (by omega) hct
      · omega
    · have e : k = a.length := by omega
      subst e
      refine WC.exit (WX.seq_exit (WX.loop_exit (WX.block_hit (WX.seq (WC.seq (WC.region (WO.step rfl ?_)))))))
      refine OR.move rfl (WO.step rfl (OR.assign rfl (WO.step rfl (OR.assign rfl (WO.done (WX.seq (WC.ret ?_)))))))
      refine WX.ret2 rfl rfl rfl ?_
      have hs := hs.publish hg1
      refine .mk hs ⟨_, by rw [eachE, if_pos heq], ?_⟩
      have hr : eachR f a b = List.zipWith f a b := if_pos heq
      have hrl : (List.zipWith f a b).length = a.length := by simp; omega
      rw [hr]
      have := Bytes.block (H := H.put g1 (.cells c.toArray 5)) (l := List.zipWith f a b) (cap := a.length) (Hp.put_same ..) (by rw [hrl, hct, List.take_of_length_le (by omega)]) (by omega)
      rw [hrl] at this
      exact this

set_option maxRecDepth 20000 in
set_option maxHeartbeats 2000000 in
theorem addScaled1_ok (x y c : UInt8) (g : Nat) (H0 : Hp) (w0 : World) (h0 : Sub H0 w0) (hc : hcell H0 ⟨g, 0, none⟩ = some (B c)) :
    Calls Tryz.prog 172 #[B x, B y, .pointer (some ⟨g, 0, none⟩)] w0 (Pure H0 w0 fun v _ => v = B (x ^^^ mul y c)) := by
  have hs := HS.init h0
  have hle := Hp.le.refl H0
  refine Calls.enter (args := [B x, B y, .pointer (some ⟨g, 0, none⟩)]) Tryz.func172 rfl Tryz.ntmps172 rfl ?_
  refine WC.seq (WC.region (WO.step rfl (OR.assign rfl (WO.done (WX.seq (WC.seq (WC.region ?_)))))))
  refine WO.step rfl (OR.move rfl (WO.step rfl (OR.move rfl ?_)))
  refine WO.step rfl (OR.load T5 rfl rfl (hs.cell hc) ?_)
  refine WO.step rfl (OR.call hs body166 rfl rfl (mul_ok y c _ _ hs.toSub) ?_)
  clear hs; rintro _ H w hs hle1 rfl; replace hle := hle.trans hle1; (try replace hlb := hlb.trans hle1)
  refine WO.step rfl (OR.call hs body173 rfl rfl (add_ok x (mul y c) _ _ hs.toSub) ?_)
  clear hs; rintro _ H w hs hle1 rfl; replace hle := hle.trans hle1; (try replace hlb := hlb.trans hle1)
  refine WO.step rfl (OR.assign rfl (WO.done (WX.seq (WC.ret ?_))))
  refine WX.ret1 rfl rfl ?_
  exact .mk hs rfl

/-- What AddScaled makes. -/
def addS (c : UInt8) (a b : List UInt8) : List UInt8 := eachR (fun x y => x ^^^ mul y c) a b

set_option maxRecDepth 20000 in
set_option maxHeartbeats 2000000 in
theorem addScaled_ok (va vb : Value) (a b : List UInt8) (c : UInt8) (H0 : Hp) (w0 : World) (h0 : Sub H0 w0) (ha : Bytes H0 va a) (hb : Bytes H0 vb b) (hl : a.length ≤ 140737488355328) :
    Calls Tryz.prog 139 #[va, vb, B c] w0 (Pure H0 w0 fun v H' => ∃ r, v = .tuple #[r, .int .i64 (eachE a b)] ∧ Bytes H' r (addS c a b)) := by
  have hs := HS.init h0
  have hle := Hp.le.refl H0
  refine Calls.enter (args := [va, vb, B c]) Tryz.func139 rfl Tryz.ntmps139 rfl ?_
  refine WC.seq (WC.region (WO.step rfl (OR.box hs rfl ?_)))
  clear hs; intro g1 w hg1 hs
  refine WO.step rfl (OR.assign rfl (WO.step rfl (OR.assign rfl (WO.done (WX.seq (WC.seq (WC.region ?_)))))))
  refine WO.step rfl (OR.move rfl (WO.step rfl (OR.move rfl (WO.step rfl (OR.makeFunc rfl rfl ?_)))))
  obtain ⟨H, hle1, hp_g1, hs9⟩ := hs.pub1 hg1; clear hs; have hs := hs9; clear hs9; replace hle := hle.trans hle1; (try replace hlb := hlb.trans hle1)
  refine WO.step rfl (OR.call hs body164 rfl rfl (each_ok va vb a b (fun x y => x ^^^ mul y c) 172 [.pointer (some ⟨g1, 0, none⟩)] _ _ hs.toSub (ha.mono hle) (hb.mono hle) hl body172 (fun x y H w h hH => addScaled1_ok x y c g1 H w hH (hcell.mono h (hcell_of hp_g1 rfl)))) ?_)
  clear hs; rintro _ H w hs hle1 ⟨r, rfl, hr⟩; replace hle := hle.trans hle1; (try replace hlb := hlb.trans hle1)
  refine WO.step rfl (OR.extract rfl rfl (WO.step rfl (OR.extract rfl rfl (WO.step rfl (OR.assign rfl (WO.step rfl (OR.assign rfl ?_)))))))
  refine WO.done (WX.seq (WC.ret ?_))
  refine WX.ret2 rfl rfl rfl ?_
  exact .mk hs ⟨r, rfl, hr⟩

set_option maxRecDepth 20000 in
set_option maxHeartbeats 2000000 in
theorem scale1_ok (x y c : UInt8) (g : Nat) (H0 : Hp) (w0 : World) (h0 : Sub H0 w0) (hc : hcell H0 ⟨g, 0, none⟩ = some (B c)) :
    Calls Tryz.prog 165 #[B x, B y, .pointer (some ⟨g, 0, none⟩)] w0 (Pure H0 w0 fun v _ => v = B (mul x c)) := by
  have hs := HS.init h0
  have hle := Hp.le.refl H0
  refine Calls.enter (args := [B x, B y, .pointer (some ⟨g, 0, none⟩)]) Tryz.func165 rfl Tryz.ntmps165 rfl ?_
  refine WC.seq (WC.region (WO.step rfl (OR.assign rfl (WO.done (WX.seq (WC.seq (WC.region ?_)))))))
  refine WO.step rfl (OR.move rfl ?_)
  refine WO.step rfl (OR.load T5 rfl rfl (hs.cell hc) ?_)
  refine WO.step rfl (OR.call hs body166 rfl rfl (mul_ok x c _ _ hs.toSub) ?_)
  clear hs; rintro _ H w hs hle1 rfl; replace hle := hle.trans hle1; (try replace hlb := hlb.trans hle1)
  refine WO.step rfl (OR.assign rfl (WO.done (WX.seq (WC.ret ?_))))
  refine WX.ret1 rfl rfl ?_
  exact .mk hs rfl

set_option maxRecDepth 20000 in
set_option maxHeartbeats 2000000 in
theorem scale_ok (va : Value) (a : List UInt8) (c : UInt8) (H0 : Hp) (w0 : World) (h0 : Sub H0 w0) (ha : Bytes H0 va a) (hl : a.length ≤ 140737488355328) :
    Calls Tryz.prog 123 #[va, B c] w0 (Pure H0 w0 fun v H' => Bytes H' v (a.map (fun x => mul x c))) := by
  have hs := HS.init h0
  have hle := Hp.le.refl H0
  refine Calls.enter (args := [va, B c]) Tryz.func123 rfl Tryz.ntmps123 rfl ?_
  refine WC.seq (WC.region (WO.step rfl (OR.box hs rfl ?_)))
  clear hs; intro g1 w hg1 hs
  refine WO.step rfl (OR.assign rfl (WO.done (WX.seq (WC.seq (WC.region (WO.step rfl (OR.move rfl ?_)))))))
  refine WO.step rfl (OR.move rfl (WO.step rfl (OR.makeFunc rfl rfl ?_)))
  obtain ⟨H, hle1, hp_g1, hs9⟩ := hs.pub1 hg1; clear hs; have hs := hs9; clear hs9; replace hle := hle.trans hle1; (try replace hlb := hlb.trans hle1)
  refine WO.step rfl (OR.call hs body164 rfl rfl (each_ok va va a a (fun x _ => mul x c) 165 [.pointer (some ⟨g1, 0, none⟩)] _ _ hs.toSub (ha.mono hle) (ha.mono hle) hl body165 (fun x y H w h hH => scale1_ok x y c g1 H w hH (hcell.mono h (hcell_of hp_g1 rfl)))) ?_)
  clear hs; rintro _ H w hs hle1 ⟨r, rfl, hr⟩; replace hle := hle.trans hle1; (try replace hlb := hlb.trans hle1)
  refine WO.step rfl (OR.move rfl (WO.step rfl (OR.extract rfl rfl (WO.step rfl (OR.extract rfl rfl (WO.step rfl (OR.assign rfl ?_)))))))
  refine WO.step rfl (OR.assign rfl (WO.done (WX.seq (WC.seq (WC.region (WO.step rfl (OR.move rfl ?_)))))))
  refine WO.step rfl (OR.assign rfl (WO.done (WX.seq (WC.ret ?_))))
  refine WX.ret1 rfl rfl ?_
  refine .mk hs ?_
  have : eachR (fun x _ => mul x c) a a = a.map (fun x => mul x c) := by
    rw [eachR, if_pos rfl, List.zipWith_self]
  rwa [this] at hr

-- left out, for this seat has no vector.Add: theorem vadd_ok (va vb
-- left out, for this seat has no vector.Unit: theorem unit_ok (m i
/-- What Combine makes of rows of s bytes. -/
def comb (s : Nat) (rows : List (List UInt8)) (c : List UInt8) : List UInt8 := (rows.zip c).foldl (fun out p => addS p.2 out p.1) (List.replicate s 0)

theorem addS_length (c : UInt8) (a b : List UInt8) (h : a.length = b.length) : (addS c a b).length = a.length := by
  rw [addS, eachR, if_pos h]; simp; omega
theorem comb_step (s : Nat) (rows : List (List UInt8)) (c : List UInt8) (k : Nat) (h1 : k < rows.length) (h2 : k < c.length) :
    comb s (rows.take (k + 1)) (c.take (k + 1)) = addS c[k] (comb s (rows.take k) (c.take k)) rows[k] := by
  unfold comb
  rw [List.take_succ_eq_append_getElem h1, List.take_succ_eq_append_getElem h2, List.zip_append (by simp; omega), List.foldl_append]
  rfl
theorem comb_length (s : Nat) (rows : List (List UInt8)) (c : List UInt8) (h : ∀ r ∈ rows, r.length = s) : (comb s rows c).length = s := by
  have key : ∀ (l : List (List UInt8 × UInt8)) (out : List UInt8), out.length = s → (∀ p ∈ l, p.1.length = s) → (l.foldl (fun out p => addS p.2 out p.1) out).length = s := by
    intro l
    induction l with
    | nil => intro out h _; exact h
    | cons p l ih =>
      intro out ho hp
      rw [List.foldl_cons]
      exact ih _ (by rw [addS_length _ _ _ (by rw [ho, hp p (by simp)])]; exact ho) (fun q hq => hp q (by simp [hq]))
  refine key _ _ (by simp) ?_
  intro p hp
  exact h _ (List.of_mem_zip hp).1

set_option maxRecDepth 20000 in
set_option maxHeartbeats 2000000 in
theorem combine_ok (vr vc : Value) (rows : List (List UInt8)) (c : List UInt8) (s : Nat) (H0 : Hp) (w0 : World) (h0 : Sub H0 w0) (hr : BytesL H0 vr rows) (hc : Bytes H0 vc c)
    (hne : 0 < rows.length) (hrow : ∀ r ∈ rows, r.length = s) (hs1 : s ≤ 140737488355328) (hs2 : rows.length ≤ 140737488355328) :
    Calls Tryz.prog 91 #[vr, vc] w0 (Pure H0 w0 fun v H' => TupB H' v (if rows.length = c.length then comb s rows c else []) (if rows.length = c.length then 0 else 21)) := by
  have hs := HS.init h0
  have hle := Hp.le.refl H0
  obtain ⟨br, cr, rfl⟩ := hr.form
  obtain ⟨bc, cc, rfl⟩ := hc.form
  refine Calls.enter (args := [.slice br rows.length cr, .slice bc c.length cc]) Tryz.func91 rfl Tryz.ntmps91 rfl ?_
  refine WC.seq (WC.region (WO.step rfl (OR.assign rfl (WO.step rfl (OR.assign rfl (WO.done (WX.seq ?_)))))))
  refine WC.seq (WC.block (WC.seq (WC.region (WO.step rfl (OR.move rfl (WO.step rfl (OR.lenSlice T40.und rfl ?_)))))))
  refine WO.step rfl (OR.eql rfl rfl (WO.step rfl (OR.assign rfl (WO.done (WX.seq ?_)))))
  refine WC.no rfl (decide_eq_false (by omega : ¬ (rows.length : Int) = 0)) ?_
  refine WC.seq (WC.region (WO.step rfl (OR.move rfl (WO.step rfl (OR.lenSlice T40.und rfl (WO.step rfl (OR.move rfl ?_)))))))
  refine WO.step rfl (OR.lenSlice T43.und rfl (WO.step rfl (OR.neq rfl rfl (WO.step rfl (OR.assign rfl (WO.done (WX.seq ?_)))))))
  refine WC.condD rfl (fun hq => ?_) (fun hq => ?_)
  · refine WC.seq (WC.region (WO.step rfl (OR.assign rfl (WO.step rfl (OR.assign rfl (WO.done (WX.seq ?_)))))))
    refine WC.ret (WX.block_ret (WX.seq_ret ?_))
    refine WX.ret2 rfl rfl rfl ?_
    have : ¬ rows.length = c.length := by omega
    refine .mk hs ?_
    rw [if_neg this, if_neg this]
    exact ⟨_, rfl, Bytes.nil _⟩
  · have heq : rows.length = c.length := by omega
    obtain ⟨xr, or_, rfl, hcr⟩ := hr.pos hne
    obtain ⟨xc, oc, rfl, hcc⟩ := hc.pos (by omega)
    obtain ⟨e0, he0, hb0⟩ := hcr 0 hne
    obtain ⟨b00, c00, rfl⟩ := hb0.form
    have hl0 : rows[0].length = s := hrow _ (List.getElem_mem _)
    refine WC.skip (WX.block (WX.seq (WC.seq (WC.region (WO.step rfl (OR.move rfl ?_))))))
    refine WO.step rfl (OR.idx 0 T40.und T43 rfl rfl rfl hne ?_)
    refine WO.step rfl (OR.load T43 rfl rfl (hs.cell he0) ?_)
    rw [hl0]
    refine WO.step rfl (OR.lenSlice T43.und rfl ?_)
    refine WO.step rfl (OR.make1 hs T43.und T5 rfl rfl rfl (by omega) (by omega) ?_)
    clear hs; intro g1 w hg1 hs
    refine WO.step rfl (OR.assign rfl (WO.done (WX.seq (WC.seq (WC.seq (WC.region (WO.step rfl ?_)))))))
    refine OR.move rfl (WO.step rfl (OR.lenSlice T40.und rfl (WO.step rfl (OR.move rfl (WO.done (WX.seq (WC.block ?_)))))))
    obtain ⟨H, hle1, hp_g1, hs9⟩ := hs.pub1 hg1; clear hs; have hs := hs9; clear hs9; replace hle := hle.trans hle1; (try replace hlb := hlb.trans hle1)
    refine WC.loop (ι := Nat × Value) (fun ix => [(0, .slice (some ⟨xr, or_, none⟩) rows.length cr), (1, .slice (some ⟨xc, oc, none⟩) c.length cc), (6, ix.2), (26, .int .i64 (rows.length : Int)), (27, .int .i64 (ix.1 : Int))]) (fun ix w => (ix.1 ≤ rows.length ∧ ∃ H, Hp.le H0 H ∧ Bytes H ix.2 (comb s (rows.take ix.1) (c.take ix.1)) ∧ HS [] H0 w0 H [] w)) (fun ix => rows.length - ix.1) (0, .slice (some ⟨g1, 0, none⟩) s s) ⟨rfl, rfl, rfl, rfl, rfl,  trivial⟩ ?_ (fun ix w hW => ?_)
    · refine ⟨by omega, H, hle, ?_, hs⟩
      have hz : comb s (rows.take 0) (c.take 0) = List.replicate s 0 := by simp [comb]
      rw [hz]
      have := Bytes.block (l := List.replicate s 0) (cap := s) hp_g1 (by simp) (by simp)
      rwa [List.length_replicate] at this
    obtain ⟨k, vo⟩ := ix
    obtain ⟨hk, H, hle, hbo, hs⟩ := hW
    simp only at hk hbo
    refine WC.seq (WC.region (WO.step rfl (OR.lss rfl rfl (WO.done (WX.seq (WC.seq ?_))))))
    refine WC.condD rfl (fun hlt => ?_) (fun hlt => ?_)
    · have hk' : k < rows.length := by omega
      have hkc : k < c.length := by omega
      obtain ⟨ek, hek, hbk⟩ := hcr k hk'
      have hlk : rows[k].length = s := hrow _ (List.getElem_mem _)
      have hlo : (comb s (rows.take k) (c.take k)).length = s := comb_length _ _ _ (fun r hr => hrow r (List.mem_of_mem_take hr))
      have hE : eachE (comb s (rows.take k) (c.take k)) rows[k] = 0 := if_pos (by omega)
      have hstep := comb_step s rows c k hk' hkc
      refine WC.skip (WX.seq (WC.seq (WC.block (WC.seq (WC.region (WO.step rfl (OR.move rfl ?_)))))))
      refine WO.step rfl (OR.assign rfl (WO.done (WX.seq (WC.seq ?_))))
      refine WC.draw 15 mixed hs (by kernel_rfl) ?_
      refine ⟨MF.eq _, by intro Mx H w hle hs; refine forVals_nil (ORg.plain (OR.move rfl ?_)); exact ⟨_, [], Hp.le.refl _, hs, rfl, rfl⟩, ?_⟩
      refine ⟨MF.eq _, by intro Mx H w hle hs; refine forVals_nil (ORg.plain (OR.move rfl ?_)); exact ⟨_, [], Hp.le.refl _, hs, rfl, rfl⟩, ?_⟩
      refine ⟨MF.eq _, by intro Mx H w hle hs; refine forVals_nil (ORg.plain (OR.move rfl ?_)); exact ⟨_, [], Hp.le.refl _, hs, rfl, rfl⟩, ?_⟩
      refine ⟨MF.eq (.pointer (some ⟨xr, or_ + k, none⟩)), ?_, ?_⟩
      · intro Mx H w hle2 hs; (try replace hle := hle.trans hle2); (try replace hlb := hlb.trans hle2); refine forVals_eq rfl rfl rfl ?_; refine forVals_eq rfl rfl rfl ?_
        refine forVals_nil (ORg.plain (OR.idx k T40.und T43 rfl rfl rfl hk' ?_))
        exact ⟨_, [], Hp.le.refl _, hs, rfl, rfl⟩
      refine ⟨MF.eq ek, ?_, ?_⟩
      · intro Mx H w hle2 hs; (try replace hle := hle.trans hle2); (try replace hlb := hlb.trans hle2); refine forVals_eq rfl rfl rfl ?_
        refine forVals_nil (ORg.plain (OR.load T43 rfl rfl (hs.cell (hcell.mono hle hek)) ?_))
        exact ⟨_, [], Hp.le.refl _, hs, rfl, rfl⟩
      refine ⟨MF.eq _, by intro Mx H w hle hs; refine forVals_nil (ORg.plain (OR.move rfl ?_)); exact ⟨_, [], Hp.le.refl _, hs, rfl, rfl⟩, ?_⟩
      refine ⟨MF.eq _, by intro Mx H w hle hs; refine forVals_nil (ORg.plain (OR.move rfl ?_)); exact ⟨_, [], Hp.le.refl _, hs, rfl, rfl⟩, ?_⟩
      refine ⟨MF.eq (.pointer (some ⟨xc, oc + k, none⟩)), ?_, ?_⟩
      · intro Mx H w hle2 hs; (try replace hle := hle.trans hle2); (try replace hlb := hlb.trans hle2); refine forVals_eq rfl rfl rfl ?_; refine forVals_eq rfl rfl rfl ?_
        refine forVals_nil (ORg.plain (OR.idx k T43.und T5 rfl rfl rfl hkc ?_))
        exact ⟨_, [], Hp.le.refl _, hs, rfl, rfl⟩
      refine ⟨MF.eq (B c[k]), ?_, ?_⟩
      · intro Mx H w hle2 hs; (try replace hle := hle.trans hle2); (try replace hlb := hlb.trans hle2); refine forVals_eq rfl rfl rfl ?_
        refine forVals_nil (ORg.plain (OR.load T5 rfl rfl (hs.cell (hcell.mono hle (hcc k hkc))) ?_))
        exact ⟨_, [], Hp.le.refl _, hs, rfl, rfl⟩
      refine ⟨MF.tupB (addS c[k] (comb s (rows.take k) (c.take k)) rows[k]) 0, ?_, ?_⟩
      · intro Mx H w hle2 hs; (try replace hle := hle.trans hle2); (try replace hlb := hlb.trans hle2); refine forVals_eq rfl rfl rfl ?_; refine forVals_eq rfl rfl rfl ?_; refine forVals_eq rfl rfl rfl ?_
        refine forVals_nil (ORg.plain (OR.call hs body139 rfl rfl (addScaled_ok _ _ _ _ _ _ _ hs.toSub (hbo.mono hle2) (hbk.mono hle) (by omega)) ?_))
        clear hs; rintro _ H w hs hle1 ⟨r, rfl, hr⟩
        exact ⟨_, [], hle1, hs, ⟨r, by rw [hE], hr⟩, rfl⟩
      refine ⟨MF.tupB (addS c[k] (comb s (rows.take k) (c.take k)) rows[k]) 0, ?_, ?_⟩
      · intro Mx H w hle2 hs; (try replace hle := hle.trans hle2); (try replace hlb := hlb.trans hle2); refine forVals_of rfl rfl rfl ?_; intro v9 h9
        obtain ⟨r, rfl, hr⟩ := h9
        refine forVals_nil (ORg.plain (OR.move rfl ?_))
        exact ⟨_, [], Hp.le.refl _, hs, ⟨r, rfl, hr⟩, rfl⟩
      refine ⟨MF.bytes (addS c[k] (comb s (rows.take k) (c.take k)) rows[k]), ?_, ?_⟩
      · intro Mx H w hle2 hs; (try replace hle := hle.trans hle2); (try replace hlb := hlb.trans hle2); refine forVals_of rfl rfl rfl ?_; intro v10 h10
        obtain ⟨r, rfl, hr⟩ := h10
        refine forVals_nil (ORg.plain (OR.extract rfl rfl ?_))
        exact ⟨_, [], Hp.le.refl _, hs, hr, rfl⟩
      refine ⟨MF.eq (.int .i64 0), ?_, ?_⟩
      · intro Mx H w hle2 hs; (try replace hle := hle.trans hle2); (try replace hlb := hlb.trans hle2); refine forVals_of rfl rfl rfl ?_; intro v10 h10
        obtain ⟨r, rfl, hr⟩ := h10
        refine forVals_nil (ORg.plain (OR.extract rfl rfl ?_))
        exact ⟨_, [], Hp.le.refl _, hs, rfl, rfl⟩
      refine ⟨MF.bytes (addS c[k] (comb s (rows.take k) (c.take k)) rows[k]), ?_, ?_⟩
      · intro Mx H w hle2 hs; (try replace hle := hle.trans hle2); (try replace hlb := hlb.trans hle2); refine forVals_of rfl rfl rfl ?_; intro v11 h11
        refine forVals_nil (ORg.plain (OR.assign rfl ?_))
        exact ⟨_, [], Hp.le.refl _, hs, h11, rfl⟩
      refine ⟨MF.eq _, by intro Mx H w hle hs; refine forVals_eq rfl rfl rfl ?_; refine forVals_nil (ORg.plain (OR.assign rfl ?_)); exact ⟨_, [], Hp.le.refl _, hs, rfl, rfl⟩, ?_⟩
      intro H w hle2; (try replace hle := hle.trans hle2); (try replace hlb := hlb.trans hle2)
      refine forAllVals_eq rfl ?_
      refine forAllVals_eq rfl ?_
      refine forAllVals_eq rfl ?_
      refine forAllVals_eq rfl ?_
      refine forAllVals_eq rfl ?_
      refine forAllVals_eq rfl ?_
      refine forAllVals_eq rfl ?_
      refine forAllVals_eq rfl ?_
      refine forAllVals_eq rfl ?_
      refine forAllVals_of rfl ?_; intro v9 h9
      refine forAllVals_of rfl ?_; intro v10 h10
      refine forAllVals_of rfl ?_; intro v11 h11
      refine forAllVals_eq rfl ?_
      refine forAllVals_of rfl ?_; intro v13 h13
      refine forAllVals_eq rfl ?_
      refine forAllVals_nil ?_; (try clear hs); intro hs
      refine WO.done (WX.seq (WC.seq (WC.seq (WC.region (WO.step rfl (OR.move rfl (WO.step rfl ?_)))))))
      refine OR.neq rfl rfl (WO.done (WX.seq ?_))
      refine WC.no rfl (decide_eq_false (by omega : ¬ (0 : Int) ≠ 0)) ?_
      refine WC.skip (WX.seq (WC.region (WO.step rfl (OR.move rfl (WO.step rfl (OR.assign rfl (WO.done ?_)))))))
      refine WX.block (WX.seq (WC.region (WO.step rfl (OR.addI rfl rfl (by omega) (by omega) (WO.step rfl (OR.move rfl (WO.done ?_)))))))
      refine WX.again ((k + 1, v13)) ⟨rfl, rfl, rfl, rfl, rfl,  trivial⟩ ?_ ?_
      · refine ⟨hk', H, hle, ?_, hs⟩
        simp only
        rw [hstep]
        exact h13
      · simp only; omega
    · have e : k = rows.length := by omega
      subst e
      refine WC.exit (WX.seq_exit (WX.loop_exit (WX.block_hit (WX.seq (WC.seq (WC.region (WO.step rfl ?_)))))))
      refine OR.move rfl (WO.step rfl (OR.assign rfl (WO.step rfl (OR.assign rfl (WO.done (WX.seq (WC.ret ?_)))))))
      refine WX.ret2 rfl rfl rfl ?_
      refine .mk hs ?_
      rw [if_pos heq, if_pos heq]
      refine ⟨vo, rfl, ?_⟩
      rw [List.take_of_length_le (Nat.le_refl _), List.take_of_length_le (by omega)] at hbo
      exact hbo

end Go.Bw
