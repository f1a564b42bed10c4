/- What a call makes lies in new memory: contracts that tell so. -/
import Derived.Test.YtdibepkfgemddaaGreatBasis2
import Derived.Test.YtdibepkfgemddaaGreatInsert
namespace Go.Bw
set_option linter.unusedVariables false
set_option linter.unusedSimpArgs false
open Go.Proofs

/-- The part of memory that is new. -/
def Hp.nu (w0 : World) (H : Hp) : Hp := fun b => if w0.heap.size ≤ b then H b else none
theorem Hp.nu_le (w0 : World) (H : Hp) : Hp.le (H.nu w0) H := by
  intro b o h
  unfold Hp.nu at h
  split at h
  · exact h
  · cases h
theorem Hp.nu_mono {w0 : World} {H H' : Hp} (h : Hp.le H H') : Hp.le (H.nu w0) (H'.nu w0) := by
  intro b o hb
  unfold Hp.nu at hb ⊢
  split at hb
  · rw [if_pos (by assumption)]; exact h b o hb
  · cases hb
theorem Hp.nu_sub {w0 w : World} {H : Hp} (h : w0.heap.size ≤ w.heap.size) : Hp.le (H.nu w) (H.nu w0) := by
  intro b o hb
  unfold Hp.nu at hb ⊢
  split at hb
  · rw [if_pos (by omega)]; exact hb
  · cases hb
theorem Hp.nu_at {w0 : World} {H : Hp} {g : Nat} {o : Obj} (hg : w0.heap.size ≤ g) (h : H g = some o) : (H.nu w0) g = some o := by
  unfold Hp.nu
  rw [if_pos hg]
  exact h
/-- What was owned stays from now on; it is new. -/
theorem HS.pubN {xs : List Nat} {H0 H : Hp} {w0 w : World} {M : Mem} {e : TypeId} {sz n : Nat} {v : Value} {cs : List Value} {Mo : Mem} (h : HS xs H0 w0 H (Mo ++ M) w) (ho : Own w0.heap.size e sz v n cs Mo) :
    ∃ H', Hp.le H H' ∧ HS xs H0 w0 H' M w ∧ Sl (H'.nu w0) sz v n cs := by
  obtain ⟨hl, ⟨rfl, ⟨b9, rfl⟩, rfl⟩ | ⟨g, c, cap, rfl, rfl, hn, hc, hx, hg⟩⟩ := ho
  · have : cs = [] := List.eq_nil_of_length_eq_zero (by simpa using hl)
    subst this
    exact ⟨H, .refl H, h, Sl.empty _ sz b9⟩
  · have h0 := h.mem g (.cells c e) true (by simp)
    exact ⟨H.put g (.cells c e), Hp.le_put h0.2.1 _, HS.publish h hg, Sl.block (Hp.nu_at hg (Hp.put_same ..)) hl hx hn⟩
/-- A slice whose block was made after N and is its own; it stays. -/
def OwnH (H : Hp) (N : Nat) (e : TypeId) (sz : Nat) (v : Value) (n : Nat) (xs : List Value) : Prop := ∃ Mo, Own N e sz v n xs Mo ∧ ∀ p ∈ Mo, H p.1 = some p.2.1
theorem OwnH.mono {H H' : Hp} {N : Nat} {e : TypeId} {sz n : Nat} {v : Value} {xs : List Value} (h : OwnH H N e sz v n xs) (hle : Hp.le H H') : OwnH H' N e sz v n xs := by
  obtain ⟨Mo, h1, h2⟩ := h
  exact ⟨Mo, h1, fun p hp => hle _ _ (h2 p hp)⟩
theorem OwnH.anti {H : Hp} {N N' : Nat} {e : TypeId} {sz n : Nat} {v : Value} {xs : List Value} (h : OwnH H N e sz v n xs) (hle : N' ≤ N) : OwnH H N' e sz v n xs := by
  obtain ⟨Mo, h1, h2⟩ := h
  exact ⟨Mo, h1.mono hle, h2⟩
theorem OwnH.sl {H : Hp} {N : Nat} {e : TypeId} {sz n : Nat} {v : Value} {xs : List Value} (h : OwnH H N e sz v n xs) : Sl H sz v n xs := by
  obtain ⟨Mo, ⟨hl, ⟨rfl, ⟨b9, rfl⟩, rfl⟩ | ⟨g, c, cap, rfl, rfl, hn, hc, hx, hg⟩⟩, h2⟩ := h
  · have : xs = [] := List.eq_nil_of_length_eq_zero (by simpa using hl)
    subst this
    exact Sl.empty _ sz b9
  · exact Sl.block (h2 (g, .cells c e, true) (by simp)) hl hx hn
theorem HS.pubO {xs : List Nat} {H0 H : Hp} {w0 w : World} {M : Mem} {e : TypeId} {sz n : Nat} {v : Value} {cs : List Value} {Mo : Mem} (h : HS xs H0 w0 H (Mo ++ M) w) (ho : Own w0.heap.size e sz v n cs Mo) :
    ∃ H', Hp.le H H' ∧ HS xs H0 w0 H' M w ∧ OwnH H' w0.heap.size e sz v n cs := by
  have ho2 := ho
  obtain ⟨hl, ⟨rfl, ⟨b9, rfl⟩, rfl⟩ | ⟨g, c, cap, rfl, rfl, hn, hc, hx, hg⟩⟩ := ho
  · exact ⟨H, .refl H, h, [], ho2, fun p hp => by cases hp⟩
  · have h0 := h.mem g (.cells c e) true (by simp)
    exact ⟨H.put g (.cells c e), Hp.le_put h0.2.1 _, HS.publish h hg, _, ho2, fun p hp => by rw [List.mem_singleton.1 hp]; exact Hp.put_same ..⟩
def BytesO (H : Hp) (N : Nat) (v : Value) (l : List UInt8) : Prop := OwnH H N 5 1 v l.length (l.map B)
theorem BytesO.bytes {H : Hp} {N : Nat} {v : Value} {l : List UInt8} (h : BytesO H N v l) : Bytes H v l := OwnH.sl h
theorem BytesO.mono {H H' : Hp} {N : Nat} {v : Value} {l : List UInt8} (h : BytesO H N v l) (hle : Hp.le H H') : BytesO H' N v l := OwnH.mono h hle
theorem BytesO.anti {H : Hp} {N N' : Nat} {v : Value} {l : List UInt8} (h : BytesO H N v l) (hle : N' ≤ N) : BytesO H N' v l := OwnH.anti h hle
def MF.bytesO (N : Nat) (l : List UInt8) : MF := MF.of (fun v H => BytesO H N v l) fun _ _ _ hle h => BytesO.mono h hle
/-- A row, coefficients and payload in new blocks of their own. -/
def RowVO (H : Hp) (N : Nat) (v : Value) (r : RowD) : Prop := ∃ c p, v = .agg #[c, p] ∧ BytesO H N c r.1 ∧ BytesO H N p r.2
def RowsO (H : Hp) (N : Nat) (cs : List (Value × Value)) (rs : List RowD) : Prop :=
  cs.length = rs.length ∧ ∀ i (h : i < rs.length) (h' : i < cs.length), BytesO H N cs[i].1 rs[i].1 ∧ BytesO H N cs[i].2 rs[i].2
theorem RowsO.mono {H H' : Hp} {N : Nat} {cs : List (Value × Value)} {rs : List RowD} (h : RowsO H N cs rs) (hle : Hp.le H H') : RowsO H' N cs rs :=
  ⟨h.1, fun i a b => ⟨((h.2 i a b).1).mono hle, ((h.2 i a b).2).mono hle⟩⟩
theorem RowsO.ok {H : Hp} {N : Nat} {cs : List (Value × Value)} {rs : List RowD} (h : RowsO H N cs rs) : RowsOk H cs rs := ⟨h.1, fun i a b => ⟨((h.2 i a b).1).bytes, ((h.2 i a b).2).bytes⟩⟩
theorem RowsO.snoc {H : Hp} {N : Nat} {cs : List (Value × Value)} {rs : List RowD} (h : RowsO H N cs rs) {c p : Value} {r : RowD} (hc : BytesO H N c r.1) (hp : BytesO H N p r.2) : RowsO H N (cs ++ [(c, p)]) (rs ++ [r]) := by
  refine ⟨by simp [h.1], fun i a b => ?_⟩
  have h1 := h.1
  by_cases e : i < rs.length
  · have e' : i < cs.length := by omega
    simp only [List.getElem_append_left e, List.getElem_append_left e']
    exact h.2 i e e'
  · simp only [List.length_append, List.length_singleton] at a b
    have : i = rs.length := by omega
    subst this
    simp only [List.getElem_append_right (Nat.le_refl _), Nat.sub_self, List.getElem_cons_zero]
    rw [List.getElem_append_right (by omega)]
    simp only [h1, Nat.sub_self, List.getElem_cons_zero]
    exact ⟨hc, hp⟩
theorem RowsO.snoc' {H : Hp} {N : Nat} {cs : List (Value × Value)} {rs : List RowD} {k : Nat} (hk : k < rs.length) (h : RowsO H N cs (rs.take k)) {c p : Value} (hc : BytesO H N c rs[k].1) (hp : BytesO H N p rs[k].2) : RowsO H N (cs ++ [(c, p)]) (rs.take (k + 1)) := by
  rw [List.take_succ_eq_append_getElem hk]
  exact h.snoc hc hp
def BLO (H : Hp) (N : Nat) (cs : List Value) (ll : List (List UInt8)) : Prop := cs.length = ll.length ∧ ∀ i (h : i < ll.length) (h' : i < cs.length), BytesO H N cs[i] ll[i]
theorem BLO.mono {H H' : Hp} {N : Nat} {cs : List Value} {ll : List (List UInt8)} (h : BLO H N cs ll) (hle : Hp.le H H') : BLO H' N cs ll := ⟨h.1, fun i a b => (h.2 i a b).mono hle⟩
theorem BLO.ok {H : Hp} {N : Nat} {cs : List Value} {ll : List (List UInt8)} (h : BLO H N cs ll) : BLOk H cs ll := ⟨h.1, fun i a b => (h.2 i a b).bytes⟩
theorem BLO.nil (H : Hp) (N : Nat) : BLO H N [] [] := ⟨rfl, fun i h => by simp at h⟩
theorem BLO.snoc {H : Hp} {N : Nat} {cs : List Value} {ll : List (List UInt8)} (h : BLO H N cs ll) {c : Value} {l : List UInt8} (hc : BytesO H N c l) : BLO H N (cs ++ [c]) (ll ++ [l]) := by
  refine ⟨by simp [h.1], fun i a b => ?_⟩
  have h1 := h.1
  by_cases e : i < ll.length
  · have e' : i < cs.length := by omega
    simp only [List.getElem_append_left e, List.getElem_append_left e']
    exact h.2 i e e'
  · simp only [List.length_append, List.length_singleton] at a b
    have : i = ll.length := by omega
    subst this
    simp only [List.getElem_append_right (Nat.le_refl _), Nat.sub_self, List.getElem_cons_zero]
    rw [List.getElem_append_right (by omega)]
    simp only [h1, Nat.sub_self, List.getElem_cons_zero]
    exact hc

theorem clone_new (v : Value) (l : List UInt8) (H0 : Hp) (w0 : World) (h0 : Sub H0 w0) (hv : Bytes H0 v l) (hl : l.length ≤ 140737488355328) :
    Calls Tryz.prog 87 #[v] w0 (Pure H0 w0 fun v H' => BytesO H' w0.heap.size v l) :=
  (clone_ok v l H0 w0 h0 hv hl).mono fun E w' h => by
    obtain ⟨v, H', M', rfl, hs, hM, rfl, ho⟩ := h
    obtain ⟨H2, h1, h2, h3⟩ := HS.pubO (M := []) (by simpa using hs) ho
    exact ⟨v, H2, [], rfl, h2, by simp, rfl, h3⟩

set_option maxRecDepth 20000 in
set_option maxHeartbeats 2000000 in
theorem each_new (va vb : Value) (a b : List UInt8) (f : UInt8 → UInt8 → UInt8) (fid : FuncId) (cap : List Value) (H0 : Hp) (w0 : World) (h0 : Sub H0 w0) (ha : Bytes H0 va a) (hb : Bytes H0 vb b)
    (hl : a.length ≤ 140737488355328) (hbf : Body Tryz.prog fid)
    (hf : ∀ (x y : UInt8) H w, Hp.le H0 H → Sub H w → Calls Tryz.prog fid ([B x, B y] ++ cap).toArray w (Pure H w fun v _ => v = B (f x y))) :
    Calls Tryz.prog 164 #[va, vb, .func (.func fid) #[] cap.toArray] w0 (Pure H0 w0 fun v H' => ∃ r, v = .tuple #[r, .int .i64 (eachE a b)] ∧ Bytes (H'.nu w0) r (eachR f a b)) := by
  have hs := HS.init h0
  have hle := Hp.le.refl H0
  obtain ⟨ba, ca, rfl⟩ := ha.form
  obtain ⟨bb, cb, rfl⟩ := hb.form
  refine Calls.enter (args := [.slice ba a.length ca, .slice bb b.length cb, .func (.func fid) #[] cap.toArray]) Tryz.func164 rfl Tryz.ntmps164 rfl ?_
  refine WC.seq (WC.region (WO.step rfl (OR.assign rfl (WO.step rfl (OR.assign rfl (WO.done (WX.seq ?_)))))))
  refine WC.seq (WC.seq (WC.region (WO.step rfl (OR.move rfl (WO.step rfl (OR.lenSlice T43.und rfl (WO.step rfl ?_)))))))
  refine OR.move rfl (WO.step rfl (OR.lenSlice T43.und rfl (WO.step rfl (OR.neq rfl rfl (WO.done (WX.seq ?_))))))
  refine WC.condD rfl (fun hne => ?_) (fun hne => ?_)
  · refine WC.seq (WC.region (WO.step rfl (OR.assign rfl (WO.step rfl (OR.assign rfl (WO.done (WX.seq ?_)))))))
    refine WC.ret (WX.seq_ret ?_)
    refine WX.ret2 rfl rfl rfl ?_
    have : ¬ a.length = b.length := by omega
    refine .mk hs ⟨_, by rw [eachE, if_neg this], ?_⟩
    rw [eachR, if_neg this]
    exact Bytes.nil _
  · have heq : a.length = b.length := by omega
    refine WC.skip (WX.seq (WC.seq (WC.region (WO.step rfl (OR.move rfl (WO.step rfl (OR.lenSlice T43.und rfl ?_)))))))
    refine WO.step rfl (OR.make1 hs T43.und T5 rfl rfl rfl (by omega) (by omega) ?_)
    clear hs; intro g1 w hg1 hs
    refine WO.step rfl (OR.assign rfl (WO.done (WX.seq (WC.seq (WC.seq (WC.region (WO.step rfl ?_)))))))
    refine OR.move rfl (WO.step rfl (OR.lenSlice T43.und rfl (WO.step rfl (OR.move rfl (WO.done (WX.seq (WC.block ?_)))))))
    refine WC.loop (ι := Nat) (fun k => [(0, .slice ba a.length ca), (1, .slice bb b.length cb), (2, .func (.func fid) #[] cap.toArray), (8, .slice (some ⟨g1, 0, none⟩) a.length a.length), (19, .int .i64 (a.length : Int)), (20, .int .i64 (k : Int))]) (fun k w => (k ≤ a.length ∧ ∃ (c : List Value) (H : Hp), c.length = a.length ∧ c.take k = ((List.zipWith f a b).take k).map B ∧ Hp.le H0 H ∧ HS [] H0 w0 H [(g1, .cells c.toArray 5, true)] w)) (fun k => a.length - k) 0 ⟨rfl, rfl, rfl, rfl, rfl, rfl,  trivial⟩ ?_ (fun k w hW => ?_)
    · exact ⟨by omega, _, H0, List.length_replicate .., by simp, .refl H0, hs⟩
    obtain ⟨hk, c, H, hcl, hct, hle, hs⟩ := hW
    refine WC.seq (WC.region (WO.step rfl (OR.lss rfl rfl (WO.done (WX.seq (WC.seq ?_))))))
    refine WC.condD rfl (fun hlt => ?_) (fun hlt => ?_)
    · have hka : k < a.length := by omega
      have hkb : k < b.length := by omega
      obtain ⟨xa, oa, rfl, hca⟩ := ha.pos (by omega)
      obtain ⟨xb, ob, rfl, hcb⟩ := hb.pos (by omega)
      refine WC.skip (WX.seq (WC.seq (WC.block (WC.seq (WC.region (WO.step rfl (OR.move rfl ?_)))))))
      refine WO.step rfl (OR.assign rfl (WO.done (WX.seq ?_)))
      refine WC.draw 12 mixed hs (by kernel_rfl) ?_
      refine ⟨MF.eq _, by intro Mx H w hle hs; refine forVals_nil (ORg.plain (OR.move rfl ?_)); exact ⟨_, [], Hp.le.refl _, hs, rfl, rfl⟩, ?_⟩
      refine ⟨MF.eq _, by intro Mx H w hle hs; refine forVals_nil (ORg.plain (OR.move rfl ?_)); exact ⟨_, [], Hp.le.refl _, hs, rfl, rfl⟩, ?_⟩
      refine ⟨MF.eq _, by intro Mx H w hle hs; refine forVals_nil (ORg.plain (OR.move rfl ?_)); exact ⟨_, [], Hp.le.refl _, hs, rfl, rfl⟩, ?_⟩
      refine ⟨MF.eq _, by intro Mx H w hle hs; refine forVals_nil (ORg.plain (OR.move rfl ?_)); exact ⟨_, [], Hp.le.refl _, hs, rfl, rfl⟩, ?_⟩
      refine ⟨MF.eq _, by intro Mx H w hle hs; refine forVals_nil (ORg.plain (OR.move rfl ?_)); exact ⟨_, [], Hp.le.refl _, hs, rfl, rfl⟩, ?_⟩
      refine ⟨MF.eq (.pointer (some ⟨xa, oa + k, none⟩)), ?_, ?_⟩
      · intro Mx H w hle2 hs; (try replace hle := hle.trans hle2); (try replace hlb := hlb.trans hle2); refine forVals_eq rfl rfl rfl ?_; refine forVals_eq rfl rfl rfl ?_
        refine forVals_nil (ORg.plain (OR.idx k T43.und T5 rfl rfl rfl hka ?_))
        exact ⟨_, [], Hp.le.refl _, hs, rfl, rfl⟩
      refine ⟨MF.eq (B a[k]), ?_, ?_⟩
      · intro Mx H w hle2 hs; (try replace hle := hle.trans hle2); (try replace hlb := hlb.trans hle2); refine forVals_eq rfl rfl rfl ?_
        refine forVals_nil (ORg.plain (OR.load T5 rfl rfl (hs.cell (hcell.mono hle (hca k hka))) ?_))
        exact ⟨_, [], Hp.le.refl _, hs, rfl, rfl⟩
      refine ⟨MF.eq _, by intro Mx H w hle hs; refine forVals_nil (ORg.plain (OR.move rfl ?_)); exact ⟨_, [], Hp.le.refl _, hs, rfl, rfl⟩, ?_⟩
      refine ⟨MF.eq _, by intro Mx H w hle hs; refine forVals_nil (ORg.plain (OR.move rfl ?_)); exact ⟨_, [], Hp.le.refl _, hs, rfl, rfl⟩, ?_⟩
      refine ⟨MF.eq (.pointer (some ⟨xb, ob + k, none⟩)), ?_, ?_⟩
      · intro Mx H w hle2 hs; (try replace hle := hle.trans hle2); (try replace hlb := hlb.trans hle2); refine forVals_eq rfl rfl rfl ?_; refine forVals_eq rfl rfl rfl ?_
        refine forVals_nil (ORg.plain (OR.idx k T43.und T5 rfl rfl rfl hkb ?_))
        exact ⟨_, [], Hp.le.refl _, hs, rfl, rfl⟩
      refine ⟨MF.eq (B b[k]), ?_, ?_⟩
      · intro Mx H w hle2 hs; (try replace hle := hle.trans hle2); (try replace hlb := hlb.trans hle2); refine forVals_eq rfl rfl rfl ?_
        refine forVals_nil (ORg.plain (OR.load T5 rfl rfl (hs.cell (hcell.mono hle (hcb k hkb))) ?_))
        exact ⟨_, [], Hp.le.refl _, hs, rfl, rfl⟩
      refine ⟨MF.eq (B (f a[k] b[k])), ?_, ?_⟩
      · intro Mx H w hle2 hs; (try replace hle := hle.trans hle2); (try replace hlb := hlb.trans hle2); refine forVals_eq rfl rfl rfl ?_; refine forVals_eq rfl rfl rfl ?_; refine forVals_eq rfl rfl rfl ?_
        refine forVals_nil (ORg.plain (OR.call hs (hbf) rfl rfl (hf a[k] b[k] _ _ hle hs.toSub) ?_))
        clear hs; rintro _ H w hs hle1 rfl
        exact ⟨_, [], hle1, hs, rfl, rfl⟩
      intro H w hle2; (try replace hle := hle.trans hle2); (try replace hlb := hlb.trans hle2)
      refine forAllVals_eq rfl ?_
      refine forAllVals_eq rfl ?_
      refine forAllVals_eq rfl ?_
      refine forAllVals_eq rfl ?_
      refine forAllVals_eq rfl ?_
      refine forAllVals_eq rfl ?_
      refine forAllVals_eq rfl ?_
      refine forAllVals_eq rfl ?_
      refine forAllVals_eq rfl ?_
      refine forAllVals_eq rfl ?_
      refine forAllVals_eq rfl ?_
      refine forAllVals_eq rfl ?_
      refine forAllVals_nil ?_; (try clear hs); intro hs
      refine WO.step rfl (OR.idx k T43.und T5 rfl rfl rfl hka ?_)
      refine WO.stepN (OR.store hs T5 rfl rfl rfl (by simp [hcl]; omega) rfl ?_)
      clear hs; intro w hs
      refine WO.done (WX.block (WX.seq (WC.region (WO.step rfl (OR.addI rfl rfl (by omega) (by omega) (WO.step rfl (OR.move rfl ?_)))))))
      refine WO.done ?_
      refine WX.again (k + 1) ⟨rfl, rfl, rfl, rfl, rfl, rfl,  trivial⟩ ?_ ?_
      · refine ⟨by omega, _, _, ?_, ?_, hle, hs⟩
        · rw [setL_length]; exact hcl
        · rw [Nat.zero_add]; exact take_step f a b c k hka hkb (by omega) hct
      · omega
    · have e : k = a.length := by omega
      subst e
      refine WC.exit (WX.seq_exit (WX.loop_exit (WX.block_hit (WX.seq (WC.seq (WC.region (WO.step rfl ?_)))))))
      refine OR.move rfl (WO.step rfl (OR.assign rfl (WO.step rfl (OR.assign rfl (WO.done (WX.seq (WC.ret ?_)))))))
      refine WX.ret2 rfl rfl rfl ?_
      have hs := hs.publish hg1
      refine .mk hs ⟨_, by rw [eachE, if_pos heq], ?_⟩
      have hr : eachR f a b = List.zipWith f a b := if_pos heq
      have hrl : (List.zipWith f a b).length = a.length := by simp; omega
      rw [hr]
      have := Bytes.block (H := (H.put g1 (.cells c.toArray 5)).nu w0) (l := List.zipWith f a b) (cap := a.length) (Hp.nu_at hg1 (Hp.put_same ..)) (by rw [hrl, hct, List.take_of_length_le (by omega)]) (by omega)
      rw [hrl] at this
      exact this

set_option maxRecDepth 20000 in
set_option maxHeartbeats 2000000 in
theorem addScaled_new (va vb : Value) (a b : List UInt8) (c : UInt8) (H0 : Hp) (w0 : World) (h0 : Sub H0 w0) (ha : Bytes H0 va a) (hb : Bytes H0 vb b) (hl : a.length ≤ 140737488355328) :
    Calls Tryz.prog 139 #[va, vb, B c] w0 (Pure H0 w0 fun v H' => ∃ r, v = .tuple #[r, .int .i64 (eachE a b)] ∧ Bytes (H'.nu w0) r (addS c a b)) := by
  have hs := HS.init h0
  have hle := Hp.le.refl H0
  refine Calls.enter (args := [va, vb, B c]) Tryz.func139 rfl Tryz.ntmps139 rfl ?_
  refine WC.seq (WC.region (WO.step rfl (OR.box hs rfl ?_)))
  clear hs; intro g1 w hg1 hs
  refine WO.step rfl (OR.assign rfl (WO.step rfl (OR.assign rfl (WO.done (WX.seq (WC.seq (WC.region ?_)))))))
  refine WO.step rfl (OR.move rfl (WO.step rfl (OR.move rfl (WO.step rfl (OR.makeFunc rfl rfl ?_)))))
  obtain ⟨H, hle1, hp_g1, hs9⟩ := hs.pub1 hg1; clear hs; have hs := hs9; clear hs9; replace hle := hle.trans hle1; (try replace hlb := hlb.trans hle1)
  have hz := hs.size
  refine WO.step rfl (OR.call hs body164 rfl rfl (each_new va vb a b (fun x y => x ^^^ mul y c) 172 [.pointer (some ⟨g1, 0, none⟩)] _ _ hs.toSub (ha.mono hle) (hb.mono hle) hl body172 (fun x y H w h hH => addScaled1_ok x y c g1 H w hH (hcell.mono h (hcell_of hp_g1 rfl)))) ?_)
  clear hs; rintro _ H w hs hle1 ⟨r, rfl, hr⟩; replace hle := hle.trans hle1; (try replace hlb := hlb.trans hle1)
  replace hr := hr.mono (Hp.nu_sub hz)
  refine WO.step rfl (OR.extract rfl rfl (WO.step rfl (OR.extract rfl rfl (WO.step rfl (OR.assign rfl (WO.step rfl (OR.assign rfl ?_)))))))
  refine WO.done (WX.seq (WC.ret ?_))
  refine WX.ret2 rfl rfl rfl ?_
  exact .mk hs ⟨r, rfl, hr⟩

set_option maxRecDepth 20000 in
set_option maxHeartbeats 2000000 in
theorem scale_new (va : Value) (a : List UInt8) (c : UInt8) (H0 : Hp) (w0 : World) (h0 : Sub H0 w0) (ha : Bytes H0 va a) (hl : a.length ≤ 140737488355328) :
    Calls Tryz.prog 123 #[va, B c] w0 (Pure H0 w0 fun v H' => Bytes (H'.nu w0) v (a.map (fun x => mul x c))) := by
  have hs := HS.init h0
  have hle := Hp.le.refl H0
  refine Calls.enter (args := [va, B c]) Tryz.func123 rfl Tryz.ntmps123 rfl ?_
  refine WC.seq (WC.region (WO.step rfl (OR.box hs rfl ?_)))
  clear hs; intro g1 w hg1 hs
  refine WO.step rfl (OR.assign rfl (WO.done (WX.seq (WC.seq (WC.region (WO.step rfl (OR.move rfl ?_)))))))
  refine WO.step rfl (OR.move rfl (WO.step rfl (OR.makeFunc rfl rfl ?_)))
  obtain ⟨H, hle1, hp_g1, hs9⟩ := hs.pub1 hg1; clear hs; have hs := hs9; clear hs9; replace hle := hle.trans hle1; (try replace hlb := hlb.trans hle1)
  have hz := hs.size
  refine WO.step rfl (OR.call hs body164 rfl rfl (each_new va va a a (fun x _ => mul x c) 165 [.pointer (some ⟨g1, 0, none⟩)] _ _ hs.toSub (ha.mono hle) (ha.mono hle) hl body165 (fun x y H w h hH => scale1_ok x y c g1 H w hH (hcell.mono h (hcell_of hp_g1 rfl)))) ?_)
  clear hs; rintro _ H w hs hle1 ⟨r, rfl, hr⟩; replace hle := hle.trans hle1; (try replace hlb := hlb.trans hle1)
  replace hr := hr.mono (Hp.nu_sub hz)
  refine WO.step rfl (OR.move rfl (WO.step rfl (OR.extract rfl rfl (WO.step rfl (OR.extract rfl rfl (WO.step rfl (OR.assign rfl ?_)))))))
  refine WO.step rfl (OR.assign rfl (WO.done (WX.seq (WC.seq (WC.region (WO.step rfl (OR.move rfl ?_)))))))
  refine WO.step rfl (OR.assign rfl (WO.done (WX.seq (WC.ret ?_))))
  refine WX.ret1 rfl rfl ?_
  refine .mk hs ?_
  have : eachR (fun x _ => mul x c) a a = a.map (fun x => mul x c) := by
    rw [eachR, if_pos rfl, List.zipWith_self]
  rwa [this] at hr

set_option maxRecDepth 20000 in
set_option maxHeartbeats 2000000 in
theorem plus_new (r x : RowD) (c : UInt8) (rc rp xc xp : Value) (H0 : Hp) (w0 : World) (h0 : Sub H0 w0) (hrc : Bytes H0 rc r.1) (hrp : Bytes H0 rp r.2) (hxc : Bytes H0 xc x.1) (hxp : Bytes H0 xp x.2)
    (hl1 : r.1.length ≤ 140737488355328) (hl2 : r.2.length ≤ 140737488355328) :
    Calls Tryz.prog 125 #[.agg #[rc, rp], .agg #[xc, xp], B c] w0 (Pure H0 w0 fun v H' => RowV (H'.nu w0) v (plusR r x c)) := by
  have hs := HS.init h0
  have hle := Hp.le.refl H0
  refine Calls.enter (args := [.agg #[rc, rp], .agg #[xc, xp], B c]) Tryz.func125 rfl Tryz.ntmps125 rfl ?_
  refine WC.seq (WC.region (WO.step rfl (OR.box hs rfl ?_)))
  clear hs; intro g1 w hg1 hs
  refine WO.step rfl (OR.box hs rfl ?_)
  clear hs; intro g2 w hg2 hs
  refine WO.step rfl (OR.alloc hs T45 ?_)
  clear hs; intro g3 w hg3 hs
  refine WO.done (WX.seq (WC.seq (WC.region (WO.step rfl (OR.fieldAddr FA45_0 rfl (WO.step rfl (OR.load T43 rfl rfl (hs.cellM (i := 2) rfl rfl) ?_)))))))
  refine WO.step rfl (OR.fieldAddr FA45_0 rfl (WO.step rfl (OR.load T43 rfl rfl (hs.cellM (i := 1) rfl rfl) (WO.step rfl (OR.move rfl ?_)))))
  have hz := hs.size
  refine WO.step rfl (OR.call hs body139 rfl rfl (addScaled_new _ _ _ _ c _ _ hs.toSub hrc hxc hl1) ?_)
  clear hs; rintro _ H w hs hle1 ⟨r1, rfl, hr1⟩; replace hle := hle.trans hle1; (try replace hlb := hlb.trans hle1)
  replace hr1 := hr1.mono (Hp.nu_sub hz)
  refine WO.step rfl (OR.move rfl (WO.step rfl (OR.extract rfl rfl (WO.step rfl (OR.extract rfl rfl (WO.step rfl (OR.assign rfl ?_)))))))
  refine WO.step rfl (OR.assign rfl (WO.done (WX.seq (WC.seq (WC.region (WO.step rfl (OR.fieldAddr FA45_1 rfl ?_)))))))
  refine WO.step rfl (OR.load T43 rfl rfl (hs.cellM (i := 2) rfl rfl) (WO.step rfl (OR.fieldAddr FA45_1 rfl (WO.step rfl (OR.load T43 rfl rfl (hs.cellM (i := 1) rfl rfl) (WO.step rfl (OR.move rfl ?_)))))))
  have hz := hs.size
  refine WO.step rfl (OR.call hs body139 rfl rfl (addScaled_new _ _ _ _ c _ _ hs.toSub (hrp.mono hle) (hxp.mono hle) hl2) ?_)
  clear hs; rintro _ H w hs hle1 ⟨r2, rfl, hr2⟩; replace hle := hle.trans hle1; (try replace hlb := hlb.trans hle1)
  replace hr1 := hr1.mono (Hp.nu_mono hle1)
  replace hr2 := hr2.mono (Hp.nu_sub hz)
  obtain ⟨b1, c1, rfl⟩ := hr1.form
  obtain ⟨b2, c2, rfl⟩ := hr2.form
  refine WO.step rfl (OR.move rfl (WO.step rfl (OR.extract rfl rfl (WO.step rfl (OR.extract rfl rfl (WO.step rfl (OR.assign rfl ?_)))))))
  refine WO.step rfl (OR.assign rfl (WO.done (WX.seq (WC.seq (WC.region (WO.step rfl (OR.move rfl ?_)))))))
  refine WO.step rfl (OR.move rfl (WO.step rfl (OR.buildAll T45 rfl rfl PL45 rfl rfl (WO.stepN (OR.storeAll hs T45 rfl rfl rfl rfl rfl ?_)))))
  clear hs; intro w hs
  refine WO.done (WX.seq (WC.ret ?_))
  refine WX.retCell T45 rfl rfl rfl rfl (hs.blk (i := 0) rfl) ?_
  exact .mk hs ⟨_, _, rfl, hr1, hr2⟩

def MF.bytesN (w0 : World) (l : List UInt8) : MF := MF.of (fun v H => Bytes (H.nu w0) v l) fun _ _ _ hle h => Bytes.mono h (Hp.nu_mono hle)

set_option maxRecDepth 20000 in
set_option maxHeartbeats 2000000 in
theorem own_new (r : RowD) (rc rp : Value) (H0 : Hp) (w0 : World) (h0 : Sub H0 w0) (hrc : Bytes H0 rc r.1) (hrp : Bytes H0 rp r.2)
    (hl1 : r.1.length ≤ 140737488355328) (hl2 : r.2.length ≤ 140737488355328) :
    Calls Tryz.prog 121 #[.agg #[rc, rp]] w0 (Pure H0 w0 fun v H' => RowVO H' w0.heap.size v r) := by
  have hs := HS.init h0
  have hle := Hp.le.refl H0
  refine Calls.enter (args := [.agg #[rc, rp]]) Tryz.func121 rfl Tryz.ntmps121 rfl ?_
  have hs0 := Nat.le_refl w0.heap.size
  refine WC.seq (WC.region (WO.step rfl (OR.box hs rfl ?_)))
  clear hs; intro g1 w hg1 hs
  refine WO.step rfl (OR.alloc hs T45 ?_)
  clear hs; intro g2 w hg2 hs
  refine WO.done (WX.seq (WC.seq ?_))
  refine WC.draw 6 mixed hs (by kernel_rfl) ?_
  refine ⟨MF.eq _, by intro Mx H w hle hs; refine forVals_nil (ORg.plain (OR.fieldAddr FA45_0 rfl ?_)); exact ⟨_, [], Hp.le.refl _, hs, rfl, rfl⟩, ?_⟩
  refine ⟨MF.eq _, by intro Mx H w hle hs; refine forVals_eq rfl rfl rfl ?_; refine forVals_nil (ORg.plain (OR.load T43 rfl rfl (hs.right.cellM (i := 1) rfl rfl) ?_)); exact ⟨_, [], Hp.le.refl _, hs, rfl, rfl⟩, ?_⟩
  refine ⟨MF.bytesO w0.heap.size r.1, ?_, ?_⟩
  · intro Mx H w hle2 hs; (try replace hle := hle.trans hle2); (try replace hlb := hlb.trans hle2); refine forVals_eq rfl rfl rfl ?_
    have hz := hs.size
    refine forVals_nil (ORg.plain (OR.call hs body87 rfl rfl (clone_new _ _ _ _ hs.toSub (hrc.mono hle) hl1) ?_))
    clear hs; rintro _ H w hs hle1 hb
    exact ⟨_, [], hle1, hs, (hb.anti hz), rfl⟩
  refine ⟨MF.eq _, by intro Mx H w hle hs; refine forVals_nil (ORg.plain (OR.fieldAddr FA45_1 rfl ?_)); exact ⟨_, [], Hp.le.refl _, hs, rfl, rfl⟩, ?_⟩
  refine ⟨MF.eq _, by intro Mx H w hle hs; refine forVals_eq rfl rfl rfl ?_; refine forVals_nil (ORg.plain (OR.load T43 rfl rfl (hs.right.cellM (i := 1) rfl rfl) ?_)); exact ⟨_, [], Hp.le.refl _, hs, rfl, rfl⟩, ?_⟩
  refine ⟨MF.bytesO w0.heap.size r.2, ?_, ?_⟩
  · intro Mx H w hle2 hs; (try replace hle := hle.trans hle2); (try replace hlb := hlb.trans hle2); refine forVals_eq rfl rfl rfl ?_
    have hz := hs.size
    refine forVals_nil (ORg.plain (OR.call hs body87 rfl rfl (clone_new _ _ _ _ hs.toSub (hrp.mono hle) hl2) ?_))
    clear hs; rintro _ H w hs hle1 hb
    exact ⟨_, [], hle1, hs, (hb.anti hz), rfl⟩
  intro H w hle2; (try replace hle := hle.trans hle2); (try replace hlb := hlb.trans hle2)
  refine forAllVals_eq rfl ?_
  refine forAllVals_eq rfl ?_
  refine forAllVals_of rfl ?_; intro v2 h2
  refine forAllVals_eq rfl ?_
  refine forAllVals_eq rfl ?_
  refine forAllVals_of rfl ?_; intro v5 h5
  refine forAllVals_nil ?_; (try clear hs); intro hs
  obtain ⟨b1, c1, rfl⟩ := h2.bytes.form
  obtain ⟨b2, c2, rfl⟩ := h5.bytes.form
  refine WO.step rfl (OR.buildAll T45 rfl rfl PL45 rfl rfl (WO.stepN (OR.storeAll hs T45 rfl rfl rfl rfl rfl ?_)))
  clear hs; intro w hs
  refine WO.done (WX.seq (WC.ret ?_))
  refine WX.retCell T45 rfl rfl rfl rfl (hs.blk (i := 0) rfl) ?_
  exact .mk hs ⟨_, _, rfl, h2, h5⟩

set_option maxRecDepth 20000 in
set_option maxHeartbeats 2000000 in
theorem rows_new (rows : List RowD) (rv : Value) (b g s : Nat) (H0 : Hp) (w0 : World) (h0 : Sub H0 w0) (hb : w0.heap[b]? = some (basisObj g s rv)) (hn : H0 b = none) (hv : Rws H0 rv rows)
    (hrs : ∀ x ∈ rows, RowGS g s x) (hg0 : 0 < g) (hg : g ≤ 255) (hsm : s ≤ 65535) (hlen : rows.length ≤ 255) :
    Calls Tryz.prog 143 #[ptr b] w0 (Ret [] H0 w0 fun v H' M' => ∃ cs, Own w0.heap.size 45 2 v rows.length (rowCells cs) M' ∧ RowsO H' w0.heap.size cs rows) := by
  have hs := HS.startR h0 hb hn
  have hle := Hp.le.refl H0
  have hv0 := hv
  obtain ⟨br, cr, rfl⟩ := hv.form
  refine Calls.enter (args := [ptr b]) Tryz.func143 rfl Tryz.ntmps143 rfl ?_
  refine WC.seq (WC.region (WO.step rfl (OR.assign rfl (WO.done (WX.seq (WC.seq (WC.region ?_)))))))
  refine WO.step rfl (OR.assign rfl (WO.done (WX.seq (WC.seq (WC.seq (WC.region (WO.step rfl ?_)))))))
  refine OR.move rfl ?_
  refine WO.step rfl (OR.call hs body93 rfl rfl (rank_ok b g s _ rows _ _ hs.toSub hb hn hg0 hv0) ?_)
  clear hs; rintro _ H w hs hle1 rfl; replace hle := hle.trans hle1; (try replace hlb := hlb.trans hle1)
  refine WO.step rfl (OR.move rfl (WO.done (WX.seq (WC.block ?_))))
  refine WC.loop (ι := Nat × Value) (fun ix => [(0, ptr b), (3, ix.2), (6, .int .i64 (rows.length : Int)), (7, .int .i64 (ix.1 : Int))]) (fun ix w => (ix.1 ≤ rows.length ∧ ∃ H cs Mo, Hp.le H0 H ∧ RowsO H w0.heap.size cs (rows.take ix.1) ∧ Own w0.heap.size 45 2 ix.2 ix.1 (rowCells cs) Mo ∧ HS [] H0 w0 H (Mo ++ [(b, basisObj g s (.slice br rows.length cr), false)]) w)) (fun ix => rows.length - ix.1) (0, .slice none 0 0) ⟨rfl, rfl, rfl, rfl,  trivial⟩ ?_ (fun ix w hW => ?_)
  · exact ⟨by omega, H, [], [], hle, ⟨by simp, fun i h => by simp at h⟩, Own.nil _ _ _, hs⟩
  obtain ⟨k, vo⟩ := ix
  obtain ⟨hk, H, cs, Mo, hle, hok, ho, hs⟩ := hW
  simp only at hk hok ho
  refine WC.seq (WC.region (WO.step rfl (OR.lss rfl rfl (WO.done (WX.seq (WC.seq ?_))))))
  refine WC.condD rfl (fun hlt => ?_) (fun hlt => ?_)
  · have hk' : k < rows.length := by omega
    obtain ⟨xb, xo, rfl, hcr⟩ := hv.pos (by omega)
    obtain ⟨ec, ep, hcc, hec, hep⟩ := hcr k hk'
    have hgs := hrs rows[k] (List.getElem_mem _)
    refine WC.skip (WX.seq (WC.seq (WC.block (WC.seq (WC.region (WO.step rfl (OR.move rfl ?_)))))))
    refine WO.step rfl (OR.assign rfl (WO.done (WX.seq (WC.region (WO.step rfl (OR.move rfl (WO.step rfl ?_)))))))
    refine OR.move rfl (WO.step rfl (OR.nilCheck rfl (WO.step rfl (OR.fieldAddr FA194_2 rfl ?_))))
    refine WO.step rfl (OR.load T97 rfl rfl (hs.right.cellM (i := 0) rfl rfl) ?_)
    refine WO.step rfl (OR.move rfl ?_)
    refine WO.step rfl (OR.idxN k T97.und T45 rfl rfl rfl hk' ?_)
    refine WO.step rfl (OR.loadN (cs := [_, _]) T45 rfl rfl rfl (fun j u hj => hs.cell (hcell.mono hle (hcc j u hj))) ?_)
    have hz := hs.size
    refine WO.step rfl (OR.call hs body121 rfl rfl (own_new rows[k] _ _ _ _ hs.toSub (hec.mono hle) (hep.mono hle) (by rw [hgs.1]; omega) (by rw [hgs.2]; omega)) ?_)
    clear hs; rintro _ H w hs hle1 ⟨oc, op, rfl, hoc, hop⟩; replace hle := hle.trans hle1; (try replace hlb := hlb.trans hle1)
    replace hoc := hoc.anti hz
    replace hop := hop.anti hz
    obtain ⟨_, _, rfl⟩ := hoc.bytes.form
    obtain ⟨_, _, rfl⟩ := hop.bytes.form
    refine WO.step rfl (OR.buildSlice (vs := [_]) hs T97.und T45 rfl rfl rfl rfl (by simp) ?_)
    clear hs; intro g1 w hg1 hs
    have hb1 := hs.blk (i := 0) rfl
    replace hs := hs.sink
    refine WO.step rfl (OR.append (m := 1) (news := [_, _]) hs ho T97.und T45 rfl (by omega) rfl rfl rfl (cells_of hb1) (fun h => by cases h) rfl (by omega) (by omega) ?_)
    clear hs ho; intro vo' w Mo' hs ho hge
    replace hs := hs.dropMid
    refine WO.step rfl (OR.assign rfl (WO.done (WX.block (WX.seq (WC.region (WO.step rfl (OR.addI rfl rfl (by omega) (by omega) ?_)))))))
    refine WO.step rfl (OR.move rfl (WO.done ?_))
    refine WX.again ((k + 1, vo')) ⟨rfl, rfl, rfl, rfl,  trivial⟩ ?_ ?_
    · refine ⟨hk', H, cs ++ [(_, _)], Mo', hle, RowsO.snoc' hk' (hok.mono hle1) hoc hop, ?_, hs⟩
      rw [rowCells_append]
      exact ho
    · simp only; omega
  · have e : k = rows.length := by omega
    subst e
    refine WC.exit (WX.seq_exit (WX.loop_exit (WX.block_hit (WX.seq (WC.seq (WC.region (WO.step rfl ?_)))))))
    refine OR.move rfl (WO.step rfl (OR.assign rfl (WO.done (WX.seq (WC.ret ?_)))))
    refine WX.ret1 rfl rfl ?_
    rw [List.take_of_length_le (Nat.le_refl _)] at hok
    exact ⟨_, H, Mo, rfl, hs.sublist (List.sublist_append_left _ _), ho.tt, cs, ho, hok⟩

/-- A slice's block. -/
def blkOf : Value → Nat
  | .slice (some a) _ _ => a.block
  | _ => 0
theorem OwnH.blk {H : Hp} {N : Nat} {e : TypeId} {sz n : Nat} {v : Value} {xs : List Value} (h : OwnH H N e sz v n xs) (hn : 0 < n) : N ≤ blkOf v ∧ ∃ c cap, v = .slice (some ⟨blkOf v, 0, none⟩) n cap ∧ H (blkOf v) = some (.cells c e) ∧ n ≤ cap ∧ c.size = cap * sz ∧ c.toList.take (n * sz) = xs := by
  obtain ⟨Mo, ⟨hl, ⟨rfl, ⟨b9, rfl⟩, rfl⟩ | ⟨g, c, cap, rfl, rfl, hn2, hc, hx, hg⟩⟩, h2⟩ := h
  · omega
  · exact ⟨hg, c, cap, rfl, h2 (g, .cells c e, true) (by simp), hn2, hc, hx⟩
theorem pairwise_snoc {l : List Nat} {x : Nat} (h : l.Pairwise (· < ·)) (hx : ∀ y ∈ l, y < x) : (l ++ [x]).Pairwise (· < ·) := by
  rw [List.pairwise_append]
  exact ⟨h, by simp, fun a ha b hb => by rw [List.mem_singleton.1 hb]; exact hx a ha⟩
set_option maxRecDepth 20000 in
set_option maxHeartbeats 2000000 in
theorem solve_new (rows : List RowD) (rv : Value) (b g s : Nat) (H0 : Hp) (w0 : World) (h0 : Sub H0 w0) (hb : w0.heap[b]? = some (basisObj g s rv)) (hn : H0 b = none) (hv : Rws H0 rv rows)
    (hrs : ∀ x ∈ rows, RowGS g s x) (hs0 : 0 < s) (hg0 : 0 < g) (hg : g ≤ 255) (hsm : s ≤ 65535) (hlen : rows.length ≤ 255) :
    Calls Tryz.prog 152 #[ptr b] w0 (Ret [] H0 w0 fun v H' M' => ∃ r, v = .tuple #[r, .int .i64 (if rows.length < g then 24 else 0)] ∧ (rows.length < g → r = .slice none 0 0 ∧ M' = []) ∧ (¬ rows.length < g → ∃ cs, Own w0.heap.size 43 1 r rows.length cs M' ∧ BLO H' w0.heap.size cs (rows.map (·.2)) ∧ (cs.map blkOf).Pairwise (· < ·))) := by
  have hs := HS.startR h0 hb hn
  have hle := Hp.le.refl H0
  obtain ⟨br, cr, rfl⟩ := hv.form
  refine Calls.enter (args := [ptr b]) Tryz.func152 rfl Tryz.ntmps152 rfl ?_
  refine WC.seq (WC.region (WO.step rfl (OR.assign rfl (WO.step rfl (OR.assign rfl (WO.done (WX.seq ?_)))))))
  refine WC.seq (WC.block (WC.seq (WC.region (WO.step rfl (OR.move rfl ?_)))))
  refine WO.step rfl (OR.call hs body119 rfl rfl (made_yes b g s _ _ _ hs.toSub hb hn hg0) ?_)
  clear hs; rintro _ H w hs hle1 rfl; replace hle := hle.trans hle1; (try replace hlb := hlb.trans hle1)
  refine WO.step rfl (OR.not rfl (WO.step rfl (OR.assign rfl (WO.done (WX.seq ?_)))))
  refine WC.no rfl rfl ?_
  refine WC.seq ?_
  refine WC.draw 11 mixed hs (by kernel_rfl) ?_
  refine ⟨MF.eq _, by intro Mx H w hle hs; refine forVals_nil (ORg.plain (OR.move rfl ?_)); exact ⟨_, [], Hp.le.refl _, hs, rfl, rfl⟩, ?_⟩
  refine ⟨MF.eq _, by intro Mx H w hle hs; refine forVals_eq rfl rfl rfl ?_; refine forVals_nil (ORg.plain (OR.nilCheck rfl ?_)); exact ⟨_, [], Hp.le.refl _, hs, rfl, rfl⟩, ?_⟩
  refine ⟨MF.eq _, by intro Mx H w hle hs; refine forVals_eq rfl rfl rfl ?_; refine forVals_nil (ORg.plain (OR.fieldAddr FA194_2 rfl ?_)); exact ⟨_, [], Hp.le.refl _, hs, rfl, rfl⟩, ?_⟩
  refine ⟨MF.eq _, by intro Mx H w hle hs; refine forVals_eq rfl rfl rfl ?_; refine forVals_nil (ORg.plain (OR.load T97 rfl rfl (hs.right.cellM (i := 0) rfl rfl) ?_)); exact ⟨_, [], Hp.le.refl _, hs, rfl, rfl⟩, ?_⟩
  refine ⟨MF.eq _, by intro Mx H w hle hs; refine forVals_eq rfl rfl rfl ?_; refine forVals_nil (ORg.plain (OR.lenSlice T97.und rfl ?_)); exact ⟨_, [], Hp.le.refl _, hs, rfl, rfl⟩, ?_⟩
  refine ⟨MF.eq _, by intro Mx H w hle hs; refine forVals_nil (ORg.plain (OR.move rfl ?_)); exact ⟨_, [], Hp.le.refl _, hs, rfl, rfl⟩, ?_⟩
  refine ⟨MF.eq _, by intro Mx H w hle hs; refine forVals_eq rfl rfl rfl ?_; refine forVals_nil (ORg.plain (OR.nilCheck rfl ?_)); exact ⟨_, [], Hp.le.refl _, hs, rfl, rfl⟩, ?_⟩
  refine ⟨MF.eq _, by intro Mx H w hle hs; refine forVals_eq rfl rfl rfl ?_; refine forVals_nil (ORg.plain (OR.fieldAddr FA194_0 rfl ?_)); exact ⟨_, [], Hp.le.refl _, hs, rfl, rfl⟩, ?_⟩
  refine ⟨MF.eq _, by intro Mx H w hle hs; refine forVals_eq rfl rfl rfl ?_; refine forVals_nil (ORg.plain (OR.load T3 rfl rfl (hs.right.cellM (i := 0) rfl rfl) ?_)); exact ⟨_, [], Hp.le.refl _, hs, rfl, rfl⟩, ?_⟩
  refine ⟨MF.eq _, by intro Mx H w hle hs; refine forVals_eq rfl rfl rfl ?_; refine forVals_eq rfl rfl rfl ?_; refine forVals_nil (ORg.plain (OR.lss rfl rfl ?_)); exact ⟨_, [], Hp.le.refl _, hs, rfl, rfl⟩, ?_⟩
  refine ⟨MF.eq _, by intro Mx H w hle hs; refine forVals_eq rfl rfl rfl ?_; refine forVals_nil (ORg.plain (OR.assign rfl ?_)); exact ⟨_, [], Hp.le.refl _, hs, rfl, rfl⟩, ?_⟩
  intro H w hle2; (try replace hle := hle.trans hle2); (try replace hlb := hlb.trans hle2)
  refine forAllVals_eq rfl ?_
  refine forAllVals_eq rfl ?_
  refine forAllVals_eq rfl ?_
  refine forAllVals_eq rfl ?_
  refine forAllVals_eq rfl ?_
  refine forAllVals_eq rfl ?_
  refine forAllVals_eq rfl ?_
  refine forAllVals_eq rfl ?_
  refine forAllVals_eq rfl ?_
  refine forAllVals_eq rfl ?_
  refine forAllVals_eq rfl ?_
  refine forAllVals_nil ?_; (try clear hs); intro hs
  refine WO.done (WX.seq ?_)
  refine WC.condD rfl (fun hlt => ?_) (fun hlt => ?_)
  · refine WC.seq (WC.region (WO.step rfl (OR.assign rfl (WO.step rfl (OR.assign rfl (WO.done (WX.seq ?_)))))))
    refine WC.ret (WX.block_ret (WX.seq_ret ?_))
    refine WX.ret2 rfl rfl rfl ?_
    have : rows.length < g := by omega
    exact ⟨_, H, [], rfl, hs.sublist (List.nil_sublist _), by simp, _, by rw [if_pos this], fun _ => ⟨rfl, rfl⟩, fun h => absurd this h⟩
  · have hge : ¬ rows.length < g := by omega
    refine WC.skip (WX.block (WX.seq (WC.seq (WC.region (WO.step rfl (OR.assign rfl (WO.done ?_)))))))
    refine WX.seq (WC.seq (WC.seq (WC.region (WO.step rfl (OR.move rfl (WO.step rfl (OR.nilCheck rfl ?_)))))))
    refine WO.step rfl (OR.fieldAddr FA194_2 rfl (WO.step rfl (OR.load T97 rfl rfl (hs.cellM (i := 0) rfl rfl) (WO.step rfl (OR.lenSlice T97.und rfl (WO.step rfl (OR.move rfl ?_)))))))
    refine WO.done (WX.seq (WC.block ?_))
    refine WC.loop (ι := Nat × Value) (fun ix => [(4, ix.2), (25, .slice br rows.length cr), (26, .int .i64 (rows.length : Int)), (27, .int .i64 (ix.1 : Int))]) (fun ix w => (ix.1 ≤ rows.length ∧ ∃ H cs Mo, Hp.le H0 H ∧ BLO H w0.heap.size cs ((rows.take ix.1).map (·.2)) ∧ (cs.map blkOf).Pairwise (· < ·) ∧ Own w0.heap.size 43 1 ix.2 ix.1 cs Mo ∧ HS [] H0 w0 H (Mo ++ [(b, basisObj g s (.slice br rows.length cr), false)]) w)) (fun ix => rows.length - ix.1) (0, .slice none 0 0) ⟨rfl, rfl, rfl, rfl,  trivial⟩ ?_ (fun ix w hW => ?_)
    · exact ⟨by omega, H, [], [], hle, BLO.nil _ _, by simp, Own.nil _ _ _, hs⟩
    obtain ⟨k, vo⟩ := ix
    obtain ⟨hk, H, cs, Mo, hle, hok, hpw, ho, hs⟩ := hW
    simp only at hk hok ho hpw
    refine WC.seq (WC.region (WO.step rfl (OR.lss rfl rfl (WO.done (WX.seq (WC.seq ?_))))))
    refine WC.condD rfl (fun hlt => ?_) (fun hlt => ?_)
    · have hk' : k < rows.length := by omega
      obtain ⟨xb, xo, rfl, hcr⟩ := hv.pos (by omega)
      obtain ⟨ec, ep, hcc, hec, hep⟩ := hcr k hk'
      have hgs := hrs rows[k] (List.getElem_mem _)
      obtain ⟨b1, c1, rfl⟩ := hec.form
      obtain ⟨b2, c2, rfl⟩ := hep.form
      refine WC.skip (WX.seq (WC.seq (WC.block (WC.seq (WC.region ?_)))))
      refine WO.step rfl (OR.idxN k T97.und T45 rfl rfl rfl hk' ?_)
      refine WO.step rfl (OR.loadN (cs := [_, _]) T45 rfl rfl rfl (fun j u hj => hs.cell (hcell.mono hle (hcc j u hj))) ?_)
      refine WO.step rfl (OR.alloc hs T45 ?_)
      clear hs; intro g1 w hg1 hs
      refine WO.stepN (OR.storeAll hs T45 rfl rfl rfl rfl rfl ?_)
      clear hs; intro w hs
      refine WO.done (WX.seq (WC.region (WO.step rfl (OR.move rfl (WO.step rfl (OR.fieldAddr FA45_1 rfl (WO.step rfl ?_)))))))
      refine OR.load T43 rfl rfl (hs.cellM (i := 0) rfl rfl) ?_
      have hz := hs.size
      have hblt : ∀ y ∈ cs.map blkOf, y < w.heap.size := by
        intro y hy
        obtain ⟨v, hv', rfl⟩ := List.mem_map.1 hy
        obtain ⟨i, hi, rfl⟩ := List.mem_iff_getElem.1 hv'
        have hlen' := hok.1
        have hi2 : i < ((rows.take k).map (·.2)).length := by omega
        have hpo : 0 < (((rows.take k).map (fun x : RowD => x.2))[i]).length := by
          simp only [List.getElem_map, List.getElem_take]
          rw [(hrs _ (List.getElem_mem _)).2]; exact hs0
        obtain ⟨_, c9, cap9, _, hH9, _⟩ := OwnH.blk (hok.2 i hi2 hi) hpo
        exact lt_of_heap (hs.sub _ _ hH9)
      refine WO.step rfl (OR.call hs body87 rfl rfl (clone_new _ _ _ _ hs.toSub (hep.mono hle) (by rw [hgs.2]; omega)) ?_)
      clear hs; rintro _ H w hs hle1 hcl; replace hle := hle.trans hle1; (try replace hlb := hlb.trans hle1)
      have hpl : 0 < rows[k].2.length := by rw [hgs.2]; omega
      have hnb := (OwnH.blk hcl hpl).1
      have hpw2 := pairwise_snoc hpw (x := blkOf _) (fun y hy => Nat.lt_of_lt_of_le (hblt y hy) hnb)
      replace hcl := hcl.anti hz
      obtain ⟨b3, c3, rfl⟩ := hcl.bytes.form
      refine WO.step rfl (OR.buildSlice (vs := [_]) hs T40.und T43 rfl rfl rfl rfl (by simp) ?_)
      clear hs; intro g2 w hg2 hs
      have hb1 := hs.blk (i := 0) rfl
      replace hs := (hs.drop 1).sink
      have hs := hs
      refine WO.step rfl (OR.append (m := 1) (news := [_]) hs ho T40.und T43 rfl (by omega) rfl rfl rfl (cells_of hb1) (fun h => by cases h) rfl (by omega) (by omega) ?_)
      clear hs ho; intro vo' w Mo' hs ho hge
      replace hs := hs.dropMid
      refine WO.step rfl (OR.assign rfl (WO.done (WX.block (WX.seq (WC.region (WO.step rfl (OR.addI rfl rfl (by omega) (by omega) ?_)))))))
      refine WO.step rfl (OR.move rfl (WO.done ?_))
      refine WX.again ((k + 1, vo')) ⟨rfl, rfl, rfl, rfl,  trivial⟩ ?_ ?_
      · refine ⟨hk', H, cs ++ [_], Mo', hle, ?_, by rw [List.map_append]; exact hpw2, ho, hs⟩
        rw [List.take_succ_eq_append_getElem hk', List.map_append]
        exact (hok.mono hle1).snoc hcl
      · simp only; omega
    · have e : k = rows.length := by omega
      subst e
      refine WC.exit (WX.seq_exit (WX.loop_exit (WX.block_hit (WX.seq (WC.seq (WC.region (WO.step rfl ?_)))))))
      refine OR.move rfl (WO.step rfl (OR.assign rfl (WO.step rfl (OR.assign rfl (WO.done (WX.seq (WC.ret ?_)))))))
      refine WX.ret2 rfl rfl rfl ?_
      rw [List.take_of_length_le (Nat.le_refl _)] at hok
      exact ⟨_, H, Mo, rfl, hs.sublist (List.sublist_append_left _ _), ho.tt, vo, by rw [if_neg hge], fun h => absurd h hge, fun _ => ⟨cs, ho, hok, hpw⟩⟩

def MF.rowN (w0 : World) (r : RowD) : MF := MF.of (fun v H => RowV (H.nu w0) v r) fun _ _ _ hle h => RowV.mono h (Hp.nu_mono hle)
/-- The first k rows. -/
def RowsTo (H : Hp) (cs : List (Value × Value)) (rs : List RowD) (k : Nat) : Prop := cs.length = rs.length ∧ ∀ j, j < k → ∀ (h1 : j < rs.length) (h2 : j < cs.length), Bytes H cs[j].1 rs[j].1 ∧ Bytes H cs[j].2 rs[j].2
theorem RowsTo.mono {H H' : Hp} {cs : List (Value × Value)} {rs : List RowD} {k : Nat} (h : RowsTo H cs rs k) (hle : Hp.le H H') : RowsTo H' cs rs k := ⟨h.1, fun j hj h1 h2 => ⟨(h.2 j hj h1 h2).1.mono hle, (h.2 j hj h1 h2).2.mono hle⟩⟩
theorem RowsTo.set {H : Hp} {cs : List (Value × Value)} {rs : List RowD} {k : Nat} (h : RowsTo H cs rs k) (hk : k < rs.length) {c p : Value} (hc : Bytes H c rs[k].1) (hp : Bytes H p rs[k].2) : RowsTo H (cs.set k (c, p)) rs (k + 1) := by
  refine ⟨by simpa using h.1, fun j hj h1 h2 => ?_⟩
  simp only [List.getElem_set]
  by_cases e : k = j
  · subst e
    simp only [if_pos]
    exact ⟨hc, hp⟩
  · simp only [if_neg e]
    exact h.2 j (by omega) h1 (by simpa using h2)
theorem RowsTo.all {H : Hp} {cs : List (Value × Value)} {rs : List RowD} (h : RowsTo H cs rs rs.length) : RowsOk H cs rs := ⟨h.1, fun j h1 h2 => h.2 j h1 h1 h2⟩

set_option maxRecDepth 20000 in
set_option maxHeartbeats 2000000 in
theorem insert_new (rows : List RowD) (r : RowD) (rv rc rp : Value) (b g s : Nat) (H0 : Hp) (w0 : World) (h0 : Sub H0 w0) (hb : w0.heap[b]? = some (basisObj g s rv)) (hn : H0 b = none) (hv : Rws H0 rv rows)
    (hrc : Bytes H0 rc r.1) (hrp : Bytes H0 rp r.2) (hrs : ∀ x ∈ rows, RowGS g s x ∧ 0 ≤ lead x.1) (hg0 : 0 < g) (hg : g ≤ 255) (hsm : s ≤ 65535) (hlen : rows.length ≤ 255) :
    Calls Tryz.prog 72 #[ptr b, .agg #[rc, rp]] w0 (Ret [b] H0 w0 fun v H' M' => ∃ rv', M' = [(b, basisObj g s rv', true)] ∧ Rws H' rv' (insR g s rows r).2 ∧
      v = .tuple #[.bool (insR g s rows r).1, .int .i64 (if r.1.length = g ∧ r.2.length = s then 0 else 21)] ∧ ((insR g s rows r).1 = true → Rws (H'.nu w0) rv' (insR g s rows r).2) ∧ ((insR g s rows r).1 = false → rv' = rv)) := by
  have hs := HS.start1 h0 hb hn
  have hle := Hp.le.refl H0
  have hv0 := hv
  obtain ⟨br, cr, rfl⟩ := hv.form
  obtain ⟨b1, c1, rfl⟩ := hrc.form
  obtain ⟨b2, c2, rfl⟩ := hrp.form
  refine Calls.enter (args := [ptr b, .agg #[.slice b1 r.1.length c1, .slice b2 r.2.length c2]]) Tryz.func72 rfl Tryz.ntmps72 rfl ?_
  refine WC.seq (WC.region (WO.step rfl (OR.box hs rfl ?_)))
  clear hs; intro g1 w hg1 hs
  refine WO.step rfl (OR.assign rfl (WO.step rfl (OR.assign rfl (WO.done (WX.seq (WC.seq (WC.block ?_)))))))
  refine WC.seq (WC.region (WO.step rfl (OR.move rfl ?_)))
  have hbw := hs.blk (i := 1) rfl
  refine WO.step rfl (OR.call hs body119 rfl rfl (made_yes b g s _ _ _ hs.toSub hbw hn hg0) ?_)
  clear hs; rintro _ H w hs hle1 rfl; replace hle := hle.trans hle1; (try replace hlb := hlb.trans hle1)
  refine WO.step rfl (OR.not rfl (WO.step rfl (OR.assign rfl (WO.done (WX.seq ?_)))))
  refine WC.no rfl rfl ?_
  by_cases hdim : r.1.length = g ∧ r.2.length = s
  · have hone : insR g s rows r = if lead (redR rows r).1 < 0 then (false, rows) else (true, insAt (rows.map (freeR (redR rows r))) (placeOf rows (lead (redR rows r).1)) (normR (redR rows r))) := by rw [insR, if_pos hdim]
    rw [hone]
    simp only [if_pos hdim]
    refine WC.seq ?_
    refine WC.draw 19 mixed hs (by kernel_rfl) ?_
    refine ⟨MF.eq _, by intro Mx H w hle hs; refine forVals_nil (ORg.plain (OR.fieldAddr FA45_0 rfl ?_)); exact ⟨_, [], Hp.le.refl _, hs, rfl, rfl⟩, ?_⟩
    refine ⟨MF.eq _, by intro Mx H w hle hs; refine forVals_eq rfl rfl rfl ?_; refine forVals_nil (ORg.plain (OR.load T43 rfl rfl (hs.right.cellM (i := 0) rfl rfl) ?_)); exact ⟨_, [], Hp.le.refl _, hs, rfl, rfl⟩, ?_⟩
    refine ⟨MF.eq _, by intro Mx H w hle hs; refine forVals_eq rfl rfl rfl ?_; refine forVals_nil (ORg.plain (OR.lenSlice T43.und rfl ?_)); exact ⟨_, [], Hp.le.refl _, hs, rfl, rfl⟩, ?_⟩
    refine ⟨MF.eq _, by intro Mx H w hle hs; refine forVals_nil (ORg.plain (OR.move rfl ?_)); exact ⟨_, [], Hp.le.refl _, hs, rfl, rfl⟩, ?_⟩
    refine ⟨MF.eq _, by intro Mx H w hle hs; refine forVals_eq rfl rfl rfl ?_; refine forVals_nil (ORg.plain (OR.nilCheck rfl ?_)); exact ⟨_, [], Hp.le.refl _, hs, rfl, rfl⟩, ?_⟩
    refine ⟨MF.eq _, by intro Mx H w hle hs; refine forVals_eq rfl rfl rfl ?_; refine forVals_nil (ORg.plain (OR.fieldAddr FA194_0 rfl ?_)); exact ⟨_, [], Hp.le.refl _, hs, rfl, rfl⟩, ?_⟩
    refine ⟨MF.eq _, by intro Mx H w hle hs; refine forVals_eq rfl rfl rfl ?_; refine forVals_nil (ORg.plain (OR.load T3 rfl rfl (hs.right.cellM (i := 1) rfl rfl) ?_)); exact ⟨_, [], Hp.le.refl _, hs, rfl, rfl⟩, ?_⟩
    refine ⟨MF.eq _, by intro Mx H w hle hs; refine forVals_eq rfl rfl rfl ?_; refine forVals_eq rfl rfl rfl ?_; refine forVals_nil (ORg.plain (OR.neq rfl rfl ?_)); exact ⟨_, [], Hp.le.refl _, hs, rfl, rfl⟩, ?_⟩
    refine ⟨MF.eq _, by intro Mx H w hle hs; refine forVals_eq rfl rfl rfl ?_; refine forVals_nil (ORg.plain (OR.move rfl ?_)); exact ⟨_, [], Hp.le.refl _, hs, rfl, rfl⟩, ?_⟩
    refine ⟨MF.eq _, by intro Mx H w hle hs; refine forVals_eq rfl rfl rfl ?_; refine forVals_nil (ORg.yes rfl (decide_eq_false (by omega : ¬ ((r.1.length : Int) ≠ (g : Int)))) rfl (OR.fieldAddr FA45_1 rfl ?_)); exact ⟨_, [], Hp.le.refl _, hs, rfl, rfl⟩, ?_⟩
    refine ⟨MF.eq _, by intro Mx H w hle hs; refine forVals_eq rfl rfl rfl ?_; refine forVals_eq rfl rfl rfl ?_; refine forVals_nil (ORg.yes rfl (decide_eq_false (by omega : ¬ ((r.1.length : Int) ≠ (g : Int)))) rfl (OR.load T43 rfl rfl (hs.right.cellM (i := 0) rfl rfl) ?_)); exact ⟨_, [], Hp.le.refl _, hs, rfl, rfl⟩, ?_⟩
    refine ⟨MF.eq _, by intro Mx H w hle hs; refine forVals_eq rfl rfl rfl ?_; refine forVals_eq rfl rfl rfl ?_; refine forVals_nil (ORg.yes rfl (decide_eq_false (by omega : ¬ ((r.1.length : Int) ≠ (g : Int)))) rfl (OR.lenSlice T43.und rfl ?_)); exact ⟨_, [], Hp.le.refl _, hs, rfl, rfl⟩, ?_⟩
    refine ⟨MF.eq _, by intro Mx H w hle hs; refine forVals_eq rfl rfl rfl ?_; refine forVals_nil (ORg.yes rfl (decide_eq_false (by omega : ¬ ((r.1.length : Int) ≠ (g : Int)))) rfl (OR.move rfl ?_)); exact ⟨_, [], Hp.le.refl _, hs, rfl, rfl⟩, ?_⟩
    refine ⟨MF.eq _, by intro Mx H w hle hs; refine forVals_eq rfl rfl rfl ?_; refine forVals_eq rfl rfl rfl ?_; refine forVals_nil (ORg.yes rfl (decide_eq_false (by omega : ¬ ((r.1.length : Int) ≠ (g : Int)))) rfl (OR.nilCheck rfl ?_)); exact ⟨_, [], Hp.le.refl _, hs, rfl, rfl⟩, ?_⟩
    refine ⟨MF.eq _, by intro Mx H w hle hs; refine forVals_eq rfl rfl rfl ?_; refine forVals_eq rfl rfl rfl ?_; refine forVals_nil (ORg.yes rfl (decide_eq_false (by omega : ¬ ((r.1.length : Int) ≠ (g : Int)))) rfl (OR.fieldAddr FA194_1 rfl ?_)); exact ⟨_, [], Hp.le.refl _, hs, rfl, rfl⟩, ?_⟩
    refine ⟨MF.eq _, by intro Mx H w hle hs; refine forVals_eq rfl rfl rfl ?_; refine forVals_eq rfl rfl rfl ?_; refine forVals_nil (ORg.yes rfl (decide_eq_false (by omega : ¬ ((r.1.length : Int) ≠ (g : Int)))) rfl (OR.load T3 rfl rfl (hs.right.cellM (i := 1) rfl rfl) ?_)); exact ⟨_, [], Hp.le.refl _, hs, rfl, rfl⟩, ?_⟩
    refine ⟨MF.eq _, by intro Mx H w hle hs; refine forVals_eq rfl rfl rfl ?_; refine forVals_eq rfl rfl rfl ?_; refine forVals_eq rfl rfl rfl ?_; refine forVals_nil (ORg.yes rfl (decide_eq_false (by omega : ¬ ((r.1.length : Int) ≠ (g : Int)))) rfl (OR.neq rfl rfl ?_)); exact ⟨_, [], Hp.le.refl _, hs, rfl, rfl⟩, ?_⟩
    refine ⟨MF.eq _, by intro Mx H w hle hs; refine forVals_eq rfl rfl rfl ?_; refine forVals_eq rfl rfl rfl ?_; refine forVals_nil (ORg.plain (OR.pickF rfl (decide_eq_false (by omega : ¬ ((r.1.length : Int) ≠ (g : Int)))) rfl ?_)); exact ⟨_, [], Hp.le.refl _, hs, rfl, rfl⟩, ?_⟩
    refine ⟨MF.eq _, by intro Mx H w hle hs; refine forVals_eq rfl rfl rfl ?_; refine forVals_nil (ORg.plain (OR.assign rfl ?_)); exact ⟨_, [], Hp.le.refl _, hs, rfl, rfl⟩, ?_⟩
    intro H w hle2; (try replace hle := hle.trans hle2); (try replace hlb := hlb.trans hle2)
    refine forAllVals_eq rfl ?_
    refine forAllVals_eq rfl ?_
    refine forAllVals_eq rfl ?_
    refine forAllVals_eq rfl ?_
    refine forAllVals_eq rfl ?_
    refine forAllVals_eq rfl ?_
    refine forAllVals_eq rfl ?_
    refine forAllVals_eq rfl ?_
    refine forAllVals_eq rfl ?_
    refine forAllVals_eq rfl ?_
    refine forAllVals_eq rfl ?_
    refine forAllVals_eq rfl ?_
    refine forAllVals_eq rfl ?_
    refine forAllVals_eq rfl ?_
    refine forAllVals_eq rfl ?_
    refine forAllVals_eq rfl ?_
    refine forAllVals_eq rfl ?_
    refine forAllVals_eq rfl ?_
    refine forAllVals_eq rfl ?_
    refine forAllVals_nil ?_; (try clear hs); intro hs
    refine WO.done (WX.seq ?_)
    refine WC.no rfl (decide_eq_false (by omega)) ?_
    refine WC.skip (WX.block (WX.seq (WC.seq (WC.region (WO.step rfl (OR.move rfl (WO.step rfl ?_)))))))
    refine OR.loadAll T45 rfl rfl (hs.blk (i := 0) rfl) rfl ?_
    refine WO.step rfl (OR.call hs body121 rfl rfl (own_ok r _ _ _ _ hs.toSub (hrc.mono hle) (hrp.mono hle) (by omega) (by omega)) ?_)
    clear hs; rintro _ H w hs hle1 ⟨q1, q2, rfl, hq1, hq2⟩; replace hle := hle.trans hle1; (try replace hlb := hlb.trans hle1)
    have hbw := hs.blk (i := 1) rfl
    refine WO.step rfl (OR.call hs body120 rfl rfl (reduced_ok r rows _ _ _ b g s _ _ hs.toSub hbw (hs.mem b _ true (List.mem_cons_of_mem _ (List.mem_cons_self ..))).2.1 (hv.mono hle) hq1 hq2 hdim hrs hg hsm hlen) ?_)
    clear hs; rintro _ H w hs hle1 ⟨q3, q4, rfl, hq3, hq4⟩; replace hle := hle.trans hle1; (try replace hlb := hlb.trans hle1)
    have hq := redR_gs rows r hdim (fun x hx => (hrs x hx).1)
    generalize hqd : redR rows r = q at hq hq3 hq4 ⊢
    obtain ⟨b3, c3, rfl⟩ := hq3.form
    obtain ⟨b4, c4, rfl⟩ := hq4.form
    have hlb := Hp.le.refl H
    refine WO.stepN (OR.storeAll hs T45 rfl rfl rfl rfl rfl ?_)
    clear hs; intro w hs
    refine WO.done (WX.seq (WC.seq (WC.seq (WC.region (WO.step rfl (OR.fieldAddr FA45_0 rfl (WO.step rfl ?_)))))))
    refine OR.load T43 rfl rfl (hs.cellM (i := 0) rfl rfl) ?_
    refine WO.step rfl (OR.call hs body50 rfl rfl (isZero_ok _ _ _ _ hs.toSub hq3 (by rw [hq.1]; omega)) ?_)
    clear hs; rintro _ H w hs hle1 rfl; replace hle := hle.trans hle1; (try replace hlb := hlb.trans hle1)
    refine WO.done (WX.seq ?_)
    refine WC.condD rfl (fun hz => ?_) (fun hz => ?_)
    · refine WC.seq (WC.region (WO.step rfl (OR.assign rfl (WO.step rfl (OR.assign rfl (WO.done (WX.seq ?_)))))))
      refine WC.ret (WX.seq_ret ?_)
      replace hs := hs.drop (i := 0)
      refine WX.ret2 rfl rfl rfl ?_
      simp only [if_pos hz]
      exact ⟨_, H, _, rfl, hs, by simp, _, rfl, hv.mono hle, rfl, (fun h => by cases h), fun _ => rfl⟩
    · simp only [if_neg hz]
      have hld : 0 ≤ lead q.1 := by omega
      obtain ⟨L, hL⟩ := Int.eq_ofNat_of_zero_le hld
      obtain ⟨hLt, hne, _⟩ := lead_some hL
      have hcoef : q.1.getD (lead q.1).toNat 0 = q.1[L] := by rw [hL]; simp [hLt]
      obtain ⟨xb, xo, rfl, hcr⟩ := hq3.pos (by omega)
      refine WC.skip (WX.seq (WC.seq (WC.region (WO.step rfl (OR.fieldAddr FA45_0 rfl (WO.step rfl (OR.load T43 rfl rfl (hs.cellM (i := 0) rfl rfl) ?_)))))))
      refine WO.step rfl (OR.call hs body110 rfl rfl (lead_ok _ _ _ _ hs.toSub (hq3.mono hlb) (by rw [hq.1]; omega)) ?_)
      clear hs; rintro _ H w hs hle1 rfl; replace hle := hle.trans hle1; (try replace hlb := hlb.trans hle1)
      refine WO.step rfl (OR.assign rfl (WO.done (WX.seq (WC.seq (WC.region (WO.step rfl (OR.fieldAddr FA45_0 rfl ?_)))))))
      refine WO.step rfl (OR.load T43 rfl rfl (hs.cellM (i := 0) rfl rfl) (WO.step rfl (OR.move rfl ?_)))
      refine WO.step rfl (OR.idx L T43.und T5 rfl rfl hL hLt ?_)
      refine WO.step rfl (OR.load T5 rfl rfl (hs.cell (hcell.mono hlb (hcr L hLt))) ?_)
      refine WO.step rfl (OR.call hs body122 rfl rfl (inv_ok q.1[L] _ _ hs.toSub) ?_)
      clear hs; rintro _ H w hs hle1 rfl; replace hle := hle.trans hle1; (try replace hlb := hlb.trans hle1)
      rw [if_neg hne]
      refine WO.step rfl (OR.move rfl (WO.step rfl (OR.extract rfl rfl (WO.step rfl (OR.extract rfl rfl (WO.step rfl (OR.assign rfl ?_)))))))
      refine WO.step rfl (OR.assign rfl (WO.done (WX.seq (WC.seq ?_))))
      have hnorm : normR q = (q.1.map (fun x => mul x (pw ((255 - lg q.1[L]) % 255))), q.2.map (fun x => mul x (pw ((255 - lg q.1[L]) % 255)))) := by rw [normR, hcoef]
      refine WC.draw 9 mixed hs (by kernel_rfl) ?_
      refine ⟨MF.eq _, by intro Mx H w hle hs; refine forVals_nil (ORg.plain (OR.fieldAddr FA45_0 rfl ?_)); exact ⟨_, [], Hp.le.refl _, hs, rfl, rfl⟩, ?_⟩
      refine ⟨MF.eq _, by intro Mx H w hle hs; refine forVals_eq rfl rfl rfl ?_; refine forVals_nil (ORg.plain (OR.load T43 rfl rfl (hs.right.cellM (i := 0) rfl rfl) ?_)); exact ⟨_, [], Hp.le.refl _, hs, rfl, rfl⟩, ?_⟩
      refine ⟨MF.eq _, by intro Mx H w hle hs; refine forVals_nil (ORg.plain (OR.move rfl ?_)); exact ⟨_, [], Hp.le.refl _, hs, rfl, rfl⟩, ?_⟩
      refine ⟨MF.bytesN w0 (normR q).1, ?_, ?_⟩
      · intro Mx H w hle2 hs; (try replace hle := hle.trans hle2); (try replace hlb := hlb.trans hle2); refine forVals_eq rfl rfl rfl ?_; refine forVals_eq rfl rfl rfl ?_
        have hz := hs.size
        refine forVals_nil (ORg.plain (OR.call hs body123 rfl rfl (scale_new _ q.1 (pw ((255 - lg q.1[L]) % 255)) _ _ hs.toSub (hq3.mono hlb) (by rw [hq.1]; omega)) ?_))
        clear hs; rintro _ H w hs hle1 hr
        exact ⟨_, [], hle1, hs, (by rw [hnorm]; exact hr.mono (Hp.nu_sub hz)), rfl⟩
      refine ⟨MF.eq _, by intro Mx H w hle hs; refine forVals_nil (ORg.plain (OR.fieldAddr FA45_1 rfl ?_)); exact ⟨_, [], Hp.le.refl _, hs, rfl, rfl⟩, ?_⟩
      refine ⟨MF.eq _, by intro Mx H w hle hs; refine forVals_eq rfl rfl rfl ?_; refine forVals_nil (ORg.plain (OR.load T43 rfl rfl (hs.right.cellM (i := 0) rfl rfl) ?_)); exact ⟨_, [], Hp.le.refl _, hs, rfl, rfl⟩, ?_⟩
      refine ⟨MF.eq _, by intro Mx H w hle hs; refine forVals_nil (ORg.plain (OR.move rfl ?_)); exact ⟨_, [], Hp.le.refl _, hs, rfl, rfl⟩, ?_⟩
      refine ⟨MF.bytesN w0 (normR q).2, ?_, ?_⟩
      · intro Mx H w hle2 hs; (try replace hle := hle.trans hle2); (try replace hlb := hlb.trans hle2); refine forVals_eq rfl rfl rfl ?_; refine forVals_eq rfl rfl rfl ?_
        have hz := hs.size
        refine forVals_nil (ORg.plain (OR.call hs body123 rfl rfl (scale_new _ q.2 (pw ((255 - lg q.1[L]) % 255)) _ _ hs.toSub (hq4.mono hlb) (by rw [hq.2]; omega)) ?_))
        clear hs; rintro _ H w hs hle1 hr
        exact ⟨_, [], hle1, hs, (by rw [hnorm]; exact hr.mono (Hp.nu_sub hz)), rfl⟩
      refine ⟨MF.rowN w0 (normR q), ?_, ?_⟩
      · intro Mx H w hle2 hs; (try replace hle := hle.trans hle2); (try replace hlb := hlb.trans hle2); refine forVals_of rfl rfl rfl ?_; intro v3 h3; refine forVals_of rfl rfl rfl ?_; intro v7 h7
        obtain ⟨_, _, rfl⟩ := h3.form
        obtain ⟨_, _, rfl⟩ := h7.form
        refine forVals_nil (ORg.plain (OR.buildAll T45 rfl rfl PL45 rfl rfl ?_))
        exact ⟨_, [], Hp.le.refl _, hs, ⟨_, _, rfl, h3, h7⟩, rfl⟩
      intro H w hle2; (try replace hle := hle.trans hle2); (try replace hlb := hlb.trans hle2)
      refine forAllVals_eq rfl ?_
      refine forAllVals_eq rfl ?_
      refine forAllVals_eq rfl ?_
      refine forAllVals_of rfl ?_; intro v3 h3
      refine forAllVals_eq rfl ?_
      refine forAllVals_eq rfl ?_
      refine forAllVals_eq rfl ?_
      refine forAllVals_of rfl ?_; intro v7 h7
      refine forAllVals_of rfl ?_; intro v8 h8
      refine forAllVals_nil ?_; (try clear hs); intro hs
      obtain ⟨nc, np, rfl, hnc, hnp⟩ := h8
      obtain ⟨b5, c5, rfl⟩ := hnc.form
      obtain ⟨b6, c6, rfl⟩ := hnp.form
      have hngs : RowGS g s (normR q) := by rw [hnorm]; exact ⟨by simpa using hq.1, by simpa using hq.2⟩
      clear hlb; have hlb := Hp.le.refl H
      obtain ⟨cs, hsl, hok⟩ := hv0
      refine WO.stepN (OR.storeAll hs T45 rfl rfl rfl rfl rfl ?_)
      clear hs; intro w hs
      refine WO.done (WX.seq (WC.seq (WC.region (WO.step rfl (OR.move rfl (WO.step rfl (OR.nilCheck rfl ?_)))))))
      refine WO.step rfl (OR.fieldAddr FA194_2 rfl (WO.step rfl (OR.load T97 rfl rfl (hs.cellM (i := 1) rfl rfl) ?_)))
      have hsz := hs.size
      refine WO.step rfl (OR.callX (Mx := []) hs body124 rfl rfl (cloneRows_ok _ rows.length (rowCells cs) _ _ hs.toSub (hsl.mono hle) (rows_one hok) (by omega)) rfl rfl ?_)
      clear hs; rintro _ H M' w hs hle1 hnew ⟨rfl, ho⟩; replace hle := hle.trans hle1; (try replace hlb := hlb.trans hle1)
      replace hs := hs.perm (List.perm_append_comm (l₁ := [_, _]) (l₂ := _))
      replace ho := ho
      obtain ⟨bo, co, rfl⟩ := ho.form
      refine WO.step rfl (OR.assign rfl (WO.done (WX.seq (WC.seq (WC.seq (WC.region (WO.step rfl ?_)))))))
      refine OR.move rfl (WO.step rfl (OR.lenSlice T97.und rfl (WO.step rfl (OR.move rfl (WO.done (WX.seq (WC.block ?_)))))))
      refine WC.loop (ι := Nat) (fun k => [(0, ptr b), (3, ptr g1), (6, .int .i64 (lead q.1)), (9, .slice bo rows.length co), (68, .slice bo rows.length co), (69, .int .i64 (rows.length : Int)), (70, .int .i64 (k : Int))]) (fun k w => (k ≤ rows.length ∧ ∃ H2 cs Mo, Hp.le H0 H2 ∧ Hp.le H H2 ∧ RowsOk H2 cs (updR (freeR q) rows k) ∧ RowsTo (H2.nu w0) cs (rows.map (freeR q)) k ∧ Own w0.heap.size 45 2 (.slice bo rows.length co) rows.length (rowCells cs) Mo ∧ HS [b] H0 w0 H2 ((g1, .cells #[.slice b5 (normR q).1.length c5, .slice b6 (normR q).2.length c6] 45, true) :: (b, basisObj g s (.slice br rows.length cr), true) :: Mo) w)) (fun k => rows.length - k) 0 ⟨rfl, rfl, rfl, rfl, rfl, rfl, rfl,  trivial⟩ ?_ (fun k w hW => ?_)
      · refine ⟨by omega, H, cs, _, hle, Hp.le.refl H, ?_, ⟨by rw [List.length_map]; exact hok.1, fun j hj => by omega⟩, ho.mono hsz, hs⟩
        have : updR (freeR q) rows 0 = rows := by simp [updR]
        rw [this]; exact hok.mono hle
      obtain ⟨hk, H2, cs2, Mo, hle', hlb2, hok2, hto, ho2, hs⟩ := hW
      clear hle; have hle := hle'
      refine WC.seq (WC.region (WO.step rfl (OR.lss rfl rfl (WO.done (WX.seq (WC.seq ?_))))))
      refine WC.condD rfl (fun hlt => ?_) (fun hlt => ?_)
      · have hk' : k < rows.length := by omega
        obtain ⟨hcl, ⟨rfl, hq9, h09⟩ | ⟨g3, cc, cap, rfl, hveq, hnc9, hcc, hxx, hg3⟩⟩ := ho2
        · omega
        cases hveq
        obtain ⟨ec, ep, hec0, hep0, hec, hep⟩ := hok2.get k (by rw [updR_len]; exact hk')
        rw [updR_at _ _ _ hk'] at hec hep
        have hgs := (hrs rows[k] (List.getElem_mem _)).1
        obtain ⟨be, ce, rfl⟩ := hec.form
        obtain ⟨bp, cp, rfl⟩ := hep.form
        obtain ⟨yb, yo, rfl, hcy⟩ := hec.pos (by rw [hgs.1]; omega)
        have hb3 := hs.blk (i := 2) rfl
        rw [← hxx] at hec0 hep0
        have hlb := Hp.le.refl H2
        refine WC.skip (WX.seq (WC.seq (WC.block (WC.seq (WC.region (WO.step rfl (OR.move rfl ?_)))))))
        refine WO.step rfl (OR.idxN k T97.und T45 rfl rfl rfl hk' ?_)
        refine WO.step rfl (OR.loadN (cs := [.slice (some ⟨yb, yo, none⟩) rows[k].1.length ce, .slice bp rows[k].2.length cp]) T45 rfl rfl rfl (two_cells hb3 (by rw [Nat.zero_add]; exact get_take hec0) (by rw [Nat.zero_add]; exact get_take hep0)) ?_)
        refine WO.step rfl (OR.alloc hs T45 ?_)
        clear hs; intro g2 w hg2 hs
        refine WO.step rfl (OR.assign rfl (WO.stepN (OR.storeAll hs T45 rfl rfl rfl rfl rfl ?_)))
        clear hs; intro w hs
        refine WO.done (WX.seq ?_)
        refine WC.draw 10 mixed hs (by kernel_rfl) ?_
        refine ⟨MF.eq _, by intro Mx H w hle hs; refine forVals_nil (ORg.plain (OR.move rfl ?_)); exact ⟨_, [], Hp.le.refl _, hs, rfl, rfl⟩, ?_⟩
        refine ⟨MF.eq _, by intro Mx H w hle hs; refine forVals_nil (ORg.plain (OR.move rfl ?_)); exact ⟨_, [], Hp.le.refl _, hs, rfl, rfl⟩, ?_⟩
        refine ⟨MF.eq _, by intro Mx H w hle hs; refine forVals_nil (ORg.plain (OR.loadAll T45 rfl rfl (hs.right.blk (i := 0) rfl) rfl ?_)); exact ⟨_, [], Hp.le.refl _, hs, rfl, rfl⟩, ?_⟩
        refine ⟨MF.eq _, by intro Mx H w hle hs; refine forVals_nil (ORg.plain (OR.loadAll T45 rfl rfl (hs.right.blk (i := 1) rfl) rfl ?_)); exact ⟨_, [], Hp.le.refl _, hs, rfl, rfl⟩, ?_⟩
        refine ⟨MF.eq _, by intro Mx H w hle hs; refine forVals_nil (ORg.plain (OR.fieldAddr FA45_0 rfl ?_)); exact ⟨_, [], Hp.le.refl _, hs, rfl, rfl⟩, ?_⟩
        refine ⟨MF.eq _, by intro Mx H w hle hs; refine forVals_eq rfl rfl rfl ?_; refine forVals_nil (ORg.plain (OR.load T43 rfl rfl (hs.right.cellM (i := 0) rfl rfl) ?_)); exact ⟨_, [], Hp.le.refl _, hs, rfl, rfl⟩, ?_⟩
        refine ⟨MF.eq _, by intro Mx H w hle hs; refine forVals_nil (ORg.plain (OR.move rfl ?_)); exact ⟨_, [], Hp.le.refl _, hs, rfl, rfl⟩, ?_⟩
        refine ⟨MF.eq (.pointer (some ⟨yb, yo + L, none⟩)), ?_, ?_⟩
        · intro Mx H w hle2 hs; (try replace hle := hle.trans hle2); (try replace hlb := hlb.trans hle2); refine forVals_eq rfl rfl rfl ?_; refine forVals_eq rfl rfl rfl ?_
          refine forVals_nil (ORg.plain (OR.idx L T43.und T5 rfl rfl hL (by rw [hgs.1, ← hq.1]; exact hLt) ?_))
          exact ⟨_, [], Hp.le.refl _, hs, rfl, rfl⟩
        refine ⟨MF.eq (B (rows[k].1[L]'(by rw [hgs.1, ← hq.1]; exact hLt))), ?_, ?_⟩
        · intro Mx H w hle2 hs; (try replace hle := hle.trans hle2); (try replace hlb := hlb.trans hle2); refine forVals_eq rfl rfl rfl ?_
          refine forVals_nil (ORg.plain (OR.load T5 rfl rfl (hs.cell (hcell.mono hlb (hcy L (by rw [hgs.1, ← hq.1]; exact hLt)))) ?_))
          exact ⟨_, [], Hp.le.refl _, hs, rfl, rfl⟩
        refine ⟨MF.rowN w0 (freeR q rows[k]), ?_, ?_⟩
        · intro Mx H w hle2 hs; (try replace hle := hle.trans hle2); (try replace hlb := hlb.trans hle2); refine forVals_eq rfl rfl rfl ?_; refine forVals_eq rfl rfl rfl ?_; refine forVals_eq rfl rfl rfl ?_
          have hz := hs.size
          refine forVals_nil (ORg.plain (OR.call hs body125 rfl rfl (plus_new rows[k] (normR q) _ _ _ _ _ _ _ hs.toSub (hec.mono hlb) (hep.mono hlb) ((hnc.mono (Hp.nu_le _ _)).mono (hlb2.trans hlb)) ((hnp.mono (Hp.nu_le _ _)).mono (hlb2.trans hlb)) (by rw [hgs.1]; omega) (by rw [hgs.2]; omega)) ?_))
          clear hs; rintro _ H w hs hle1 hr
          exact ⟨_, [], hle1, hs, (by rw [freeR, hL]; simpa [hgs.1, ← hq.1, hLt] using hr.mono (Hp.nu_sub hz)), rfl⟩
        intro H w hle2; (try replace hle := hle.trans hle2); (try replace hlb := hlb.trans hle2)
        refine forAllVals_eq rfl ?_
        refine forAllVals_eq rfl ?_
        refine forAllVals_eq rfl ?_
        refine forAllVals_eq rfl ?_
        refine forAllVals_eq rfl ?_
        refine forAllVals_eq rfl ?_
        refine forAllVals_eq rfl ?_
        refine forAllVals_eq rfl ?_
        refine forAllVals_eq rfl ?_
        refine forAllVals_of rfl ?_; intro v9 h9
        refine forAllVals_nil ?_; (try clear hs); intro hs
        obtain ⟨wc, wp, rfl, hwc, hwp⟩ := h9
        obtain ⟨b7, c7, rfl⟩ := hwc.form
        obtain ⟨b8, c8, rfl⟩ := hwp.form
        refine WO.step rfl (OR.idxN k T97.und T45 rfl rfl rfl hk' ?_)
        replace hs := hs.front (i := 3) rfl
        refine WO.stepN (OR.store hs T45 rfl rfl rfl (by rw [hcc]; omega) rfl ?_)
        clear hs; intro w hs
        refine WO.done (WX.block (WX.seq (WC.region (WO.step rfl (OR.addI rfl rfl (by omega) (by omega) (WO.step rfl (OR.move rfl ?_)))))))
        refine WO.done ?_
        replace hs := hs.drop (i := 1)
        replace hs := hs.front (i := 2) rfl
        replace hs := hs.front (i := 2) rfl
        refine WX.again (k + 1) ⟨rfl, rfl, rfl, rfl, rfl, rfl, rfl,  trivial⟩ ?_ ?_
        · refine ⟨hk', _, cs2.set k (.slice b7 (freeR q rows[k]).1.length c7, .slice b8 (freeR q rows[k]).2.length c8), _, hle, hlb2.trans hlb, ?_, (hto.mono (Hp.nu_mono hlb)).set (by rw [List.length_map]; exact hk') (by rw [List.getElem_map]; exact hwc) (by rw [List.getElem_map]; exact hwp), Own.block hnc9 ?_ ?_ hg3, hs⟩
          · rw [← updR_step _ _ _ hk']
            exact (hok2.mono hlb).set k (hwc.mono (Hp.nu_le _ _)) (hwp.mono (Hp.nu_le _ _))
          · simp [setL_length, hcc]
          · rw [Nat.zero_add, ← rowCells_set, ← hxx]
            exact take_setL _ _ _ _ (by show k * 2 + 2 ≤ rows.length * 2; omega) (Nat.le_trans (Nat.mul_le_mul_right 2 hnc9) (Nat.le_of_eq hcc.symm))
        · omega
      · have e : k = rows.length := by omega
        subst e
        have hup : updR (freeR q) rows rows.length = rows.map (freeR q) := by simp [updR]
        rw [hup] at hok2
        have hbw := hs.blk (i := 1) rfl
        have hnw := (hs.mem b _ true (List.mem_cons_of_mem _ (List.mem_cons_self ..))).2.1
        have hlb := Hp.le.refl H2
        refine WC.exit (WX.seq_exit (WX.loop_exit (WX.block_hit (WX.seq (WC.seq ?_)))))
        refine WC.drawF 7 [0] mixed hs (by kernel_rfl) ?_
        refine ⟨MF.eq _, by intro Mx H w hle hs; refine forVals_nil (ORg.plain (OR.move rfl ?_)); exact ⟨_, [], Hp.le.refl _, hs, rfl, rfl⟩, ?_⟩
        refine ⟨MF.eq _, by intro Mx H w hle hs; refine forVals_nil (ORg.plain (OR.move rfl ?_)); exact ⟨_, [], Hp.le.refl _, hs, rfl, rfl⟩, ?_⟩
        refine ⟨MF.eq _, by intro Mx H w hle hs; refine forVals_nil (ORg.plain (OR.move rfl ?_)); exact ⟨_, [], Hp.le.refl _, hs, rfl, rfl⟩, ?_⟩
        refine ⟨MF.eq _, by intro Mx H w hle hs; refine forVals_nil (ORg.plain (OR.move rfl ?_)); exact ⟨_, [], Hp.le.refl _, hs, rfl, rfl⟩, ?_⟩
        refine ⟨MF.eq (.int .i64 (placeOf rows (lead q.1) : Int)), ?_, ?_⟩
        · intro Mx H w hle2 hs; (try replace hle := hle.trans hle2); (try replace hlb := hlb.trans hle2); refine forVals_eq rfl rfl rfl ?_; refine forVals_eq rfl rfl rfl ?_
          have hbw := hs.right.blk (i := 1) rfl
          have hnw := (hs.right.mem b _ true (List.mem_cons_of_mem _ (List.mem_cons_self ..))).2.1
          refine forVals_nil (ORg.plain (OR.call hs body127 rfl rfl (place_ok rows _ (lead q.1) b g s _ _ hs.toSub hbw hnw (hv.mono hle) (fun x hx => (hrs x hx).1) hg hlen) ?_))
          clear hs; rintro _ H w hs hle1 rfl
          exact ⟨_, [], hle1, hs, rfl, rfl⟩
        refine ⟨MF.eq _, by intro Mx H w hle hs; refine forVals_nil (ORg.plain (OR.loadAll T45 rfl rfl (hs.right.blk (i := 0) rfl) rfl ?_)); exact ⟨_, [], Hp.le.refl _, hs, rfl, rfl⟩, ?_⟩
        refine ⟨MF.sl w0.heap.size 1 (.cells #[.slice b5 (normR q).1.length c5, .slice b6 (normR q).2.length c6] 45), ?_, ?_⟩
        · intro Mx H w hle2 hs; (try replace hle := hle.trans hle2); (try replace hlb := hlb.trans hle2); refine forVals_eq rfl rfl rfl ?_
          refine forVals_nil (ORg.plain (OR.buildSlice (vs := [_]) hs T97.und T45 rfl rfl rfl rfl (by simp) ?_))
          intro g w hg hs; exact ⟨_, [_], Hp.le.refl _, hs, g, hg, rfl, rfl⟩
        intro H w hle2; (try replace hle := hle.trans hle2); (try replace hlb := hlb.trans hle2)
        refine forAllVals_eq rfl ?_
        refine forAllVals_eq rfl ?_
        refine forAllVals_eq rfl ?_
        refine forAllVals_eq rfl ?_
        refine forAllVals_eq rfl ?_
        refine forAllVals_eq rfl ?_
        refine forAllVals_sl rfl ?_; intro g9 hg9
        refine forAllVals_nil ?_; (try clear hs); intro hs
        replace hs := hs.perm (List.perm_append_comm (l₁ := Mo) (l₂ := [_, _, _]))
        refine WO.step rfl (OR.callX (Mx := Mo) hs body126 rfl rfl (insRows_ok w0.heap.size rows.length (placeOf rows (lead q.1)) _ _ _ _ Mo g9 _ _ hs.toSub (placeOf_le _ _) ho2 hs.size hs.known (hs.mem g9 _ true (List.mem_append_right _ (List.mem_cons_self ..))).1 (hs.mem g9 _ true (List.mem_append_right _ (List.mem_cons_self ..))).2.1 hs.apart rfl rfl (rows_one hok2) hlen) rfl (List.all_eq_true.2 ho2.tt) ?_)
        clear hs; rintro v H3 M3 w hs hle1 hnew ho3; replace hle := hle.trans hle1; replace hlb := hlb.trans hle1
        obtain ⟨H4, hle4, hs, hsl4⟩ := HS.pubN hs ho3
        obtain ⟨bf, cf, rfl⟩ := ho3.form
        refine WO.step rfl (OR.nilCheck rfl (WO.step rfl (OR.fieldAddr FA194_2 rfl ?_)))
        replace hs := hs.front (i := 2) rfl
        refine WO.stepN (OR.store hs T97 rfl rfl rfl (Nat.le_of_ble_eq_true rfl) rfl ?_)
        clear hs; intro w hs
        refine WO.done (WX.seq (WC.seq (WC.region (WO.step rfl (OR.assign rfl (WO.step rfl (OR.assign rfl ?_)))))))
        refine WO.done (WX.seq (WC.ret ?_))
        refine WX.ret2 rfl rfl rfl ?_
        have hpl := placeOf_le rows (lead q.1)
        have hall : RowsOk (H2.nu w0) cs2 (rows.map (freeR q)) := by
          have e : rows.length = (rows.map (freeR q)).length := (List.length_map ..).symm
          rw [e] at hto
          exact hto.all
        have hfin : Rws (H4.nu w0) (.slice bf (rows.length + 1) cf) (insAt (rows.map (freeR q)) (placeOf rows (lead q.1)) (normR q)) := by
          refine ⟨insAt cs2 (placeOf rows (lead q.1)) (.slice b5 (normR q).1.length c5, .slice b6 (normR q).2.length c6), ?_, ?_⟩
          · have e1 : (insAt (rows.map (freeR q)) (placeOf rows (lead q.1)) (normR q)).length = rows.length + 1 := by simp [insAt]; omega
            rw [e1]
            have e2 : rowCells (insAt cs2 (placeOf rows (lead q.1)) (.slice b5 (normR q).1.length c5, .slice b6 (normR q).2.length c6)) = (rowCells cs2).take (placeOf rows (lead q.1) * 2) ++ [.slice b5 (normR q).1.length c5, .slice b6 (normR q).2.length c6] ++ (rowCells cs2).drop (placeOf rows (lead q.1) * 2) := by
              rw [insAt, rowCells_append, rowCells_append, rowCells_take, rowCells_drop]; rfl
            rw [e2]
            exact hsl4
          · exact RowsOk.ins (hall.mono (Hp.nu_mono (hlb.trans hle4))) _ (by simpa using hpl) (hnc.mono (Hp.nu_mono (hlb2.trans (hlb.trans hle4)))) (hnp.mono (Hp.nu_mono (hlb2.trans (hlb.trans hle4))))
        exact ⟨_, H4, _, rfl, (hs.drop 1).drop 1, by simp [dropAt], _, rfl, hfin.mono (Hp.nu_le _ _), rfl, fun _ => hfin, fun h => by cases h⟩
  · have hone : insR g s rows r = (false, rows) := by rw [insR, if_neg hdim]
    rw [hone]
    simp only [if_neg hdim]
    by_cases hd1 : r.1.length = g
    · have hd2 : ¬ r.2.length = s := fun h => hdim ⟨hd1, h⟩
      refine WC.seq ?_
      refine WC.draw 19 mixed hs (by kernel_rfl) ?_
      refine ⟨MF.eq _, by intro Mx H w hle hs; refine forVals_nil (ORg.plain (OR.fieldAddr FA45_0 rfl ?_)); exact ⟨_, [], Hp.le.refl _, hs, rfl, rfl⟩, ?_⟩
      refine ⟨MF.eq _, by intro Mx H w hle hs; refine forVals_eq rfl rfl rfl ?_; refine forVals_nil (ORg.plain (OR.load T43 rfl rfl (hs.right.cellM (i := 0) rfl rfl) ?_)); exact ⟨_, [], Hp.le.refl _, hs, rfl, rfl⟩, ?_⟩
      refine ⟨MF.eq _, by intro Mx H w hle hs; refine forVals_eq rfl rfl rfl ?_; refine forVals_nil (ORg.plain (OR.lenSlice T43.und rfl ?_)); exact ⟨_, [], Hp.le.refl _, hs, rfl, rfl⟩, ?_⟩
      refine ⟨MF.eq _, by intro Mx H w hle hs; refine forVals_nil (ORg.plain (OR.move rfl ?_)); exact ⟨_, [], Hp.le.refl _, hs, rfl, rfl⟩, ?_⟩
      refine ⟨MF.eq _, by intro Mx H w hle hs; refine forVals_eq rfl rfl rfl ?_; refine forVals_nil (ORg.plain (OR.nilCheck rfl ?_)); exact ⟨_, [], Hp.le.refl _, hs, rfl, rfl⟩, ?_⟩
      refine ⟨MF.eq _, by intro Mx H w hle hs; refine forVals_eq rfl rfl rfl ?_; refine forVals_nil (ORg.plain (OR.fieldAddr FA194_0 rfl ?_)); exact ⟨_, [], Hp.le.refl _, hs, rfl, rfl⟩, ?_⟩
      refine ⟨MF.eq _, by intro Mx H w hle hs; refine forVals_eq rfl rfl rfl ?_; refine forVals_nil (ORg.plain (OR.load T3 rfl rfl (hs.right.cellM (i := 1) rfl rfl) ?_)); exact ⟨_, [], Hp.le.refl _, hs, rfl, rfl⟩, ?_⟩
      refine ⟨MF.eq _, by intro Mx H w hle hs; refine forVals_eq rfl rfl rfl ?_; refine forVals_eq rfl rfl rfl ?_; refine forVals_nil (ORg.plain (OR.neq rfl rfl ?_)); exact ⟨_, [], Hp.le.refl _, hs, rfl, rfl⟩, ?_⟩
      refine ⟨MF.eq _, by intro Mx H w hle hs; refine forVals_eq rfl rfl rfl ?_; refine forVals_nil (ORg.plain (OR.move rfl ?_)); exact ⟨_, [], Hp.le.refl _, hs, rfl, rfl⟩, ?_⟩
      refine ⟨MF.eq _, by intro Mx H w hle hs; refine forVals_eq rfl rfl rfl ?_; refine forVals_nil (ORg.yes rfl (decide_eq_false (by omega : ¬ ((r.1.length : Int) ≠ (g : Int)))) rfl (OR.fieldAddr FA45_1 rfl ?_)); exact ⟨_, [], Hp.le.refl _, hs, rfl, rfl⟩, ?_⟩
      refine ⟨MF.eq _, by intro Mx H w hle hs; refine forVals_eq rfl rfl rfl ?_; refine forVals_eq rfl rfl rfl ?_; refine forVals_nil (ORg.yes rfl (decide_eq_false (by omega : ¬ ((r.1.length : Int) ≠ (g : Int)))) rfl (OR.load T43 rfl rfl (hs.right.cellM (i := 0) rfl rfl) ?_)); exact ⟨_, [], Hp.le.refl _, hs, rfl, rfl⟩, ?_⟩
      refine ⟨MF.eq _, by intro Mx H w hle hs; refine forVals_eq rfl rfl rfl ?_; refine forVals_eq rfl rfl rfl ?_; refine forVals_nil (ORg.yes rfl (decide_eq_false (by omega : ¬ ((r.1.length : Int) ≠ (g : Int)))) rfl (OR.lenSlice T43.und rfl ?_)); exact ⟨_, [], Hp.le.refl _, hs, rfl, rfl⟩, ?_⟩
      refine ⟨MF.eq _, by intro Mx H w hle hs; refine forVals_eq rfl rfl rfl ?_; refine forVals_nil (ORg.yes rfl (decide_eq_false (by omega : ¬ ((r.1.length : Int) ≠ (g : Int)))) rfl (OR.move rfl ?_)); exact ⟨_, [], Hp.le.refl _, hs, rfl, rfl⟩, ?_⟩
      refine ⟨MF.eq _, by intro Mx H w hle hs; refine forVals_eq rfl rfl rfl ?_; refine forVals_eq rfl rfl rfl ?_; refine forVals_nil (ORg.yes rfl (decide_eq_false (by omega : ¬ ((r.1.length : Int) ≠ (g : Int)))) rfl (OR.nilCheck rfl ?_)); exact ⟨_, [], Hp.le.refl _, hs, rfl, rfl⟩, ?_⟩
      refine ⟨MF.eq _, by intro Mx H w hle hs; refine forVals_eq rfl rfl rfl ?_; refine forVals_eq rfl rfl rfl ?_; refine forVals_nil (ORg.yes rfl (decide_eq_false (by omega : ¬ ((r.1.length : Int) ≠ (g : Int)))) rfl (OR.fieldAddr FA194_1 rfl ?_)); exact ⟨_, [], Hp.le.refl _, hs, rfl, rfl⟩, ?_⟩
      refine ⟨MF.eq _, by intro Mx H w hle hs; refine forVals_eq rfl rfl rfl ?_; refine forVals_eq rfl rfl rfl ?_; refine forVals_nil (ORg.yes rfl (decide_eq_false (by omega : ¬ ((r.1.length : Int) ≠ (g : Int)))) rfl (OR.load T3 rfl rfl (hs.right.cellM (i := 1) rfl rfl) ?_)); exact ⟨_, [], Hp.le.refl _, hs, rfl, rfl⟩, ?_⟩
      refine ⟨MF.eq _, by intro Mx H w hle hs; refine forVals_eq rfl rfl rfl ?_; refine forVals_eq rfl rfl rfl ?_; refine forVals_eq rfl rfl rfl ?_; refine forVals_nil (ORg.yes rfl (decide_eq_false (by omega : ¬ ((r.1.length : Int) ≠ (g : Int)))) rfl (OR.neq rfl rfl ?_)); exact ⟨_, [], Hp.le.refl _, hs, rfl, rfl⟩, ?_⟩
      refine ⟨MF.eq _, by intro Mx H w hle hs; refine forVals_eq rfl rfl rfl ?_; refine forVals_eq rfl rfl rfl ?_; refine forVals_nil (ORg.plain (OR.pickF rfl (decide_eq_false (by omega : ¬ ((r.1.length : Int) ≠ (g : Int)))) rfl ?_)); exact ⟨_, [], Hp.le.refl _, hs, rfl, rfl⟩, ?_⟩
      refine ⟨MF.eq _, by intro Mx H w hle hs; refine forVals_eq rfl rfl rfl ?_; refine forVals_nil (ORg.plain (OR.assign rfl ?_)); exact ⟨_, [], Hp.le.refl _, hs, rfl, rfl⟩, ?_⟩
      intro H w hle2; (try replace hle := hle.trans hle2); (try replace hlb := hlb.trans hle2)
      refine forAllVals_eq rfl ?_
      refine forAllVals_eq rfl ?_
      refine forAllVals_eq rfl ?_
      refine forAllVals_eq rfl ?_
      refine forAllVals_eq rfl ?_
      refine forAllVals_eq rfl ?_
      refine forAllVals_eq rfl ?_
      refine forAllVals_eq rfl ?_
      refine forAllVals_eq rfl ?_
      refine forAllVals_eq rfl ?_
      refine forAllVals_eq rfl ?_
      refine forAllVals_eq rfl ?_
      refine forAllVals_eq rfl ?_
      refine forAllVals_eq rfl ?_
      refine forAllVals_eq rfl ?_
      refine forAllVals_eq rfl ?_
      refine forAllVals_eq rfl ?_
      refine forAllVals_eq rfl ?_
      refine forAllVals_eq rfl ?_
      refine forAllVals_nil ?_; (try clear hs); intro hs
      refine WO.done (WX.seq ?_)
      refine WC.yes rfl (decide_eq_true (by omega)) ?_
      refine WC.seq (WC.region (WO.step rfl (OR.assign rfl (WO.step rfl (OR.assign rfl (WO.done (WX.seq ?_)))))))
      refine WC.ret (WX.block_ret (WX.seq_ret ?_))
      replace hs := hs.drop (i := 0)
      refine WX.ret2 rfl rfl rfl ?_
      exact ⟨_, H, _, rfl, hs, by simp, _, rfl, hv.mono hle, rfl, (fun h => by cases h), fun _ => rfl⟩
    · have hd2 : True := trivial
      refine WC.seq ?_
      refine WC.draw 19 mixed hs (by kernel_rfl) ?_
      refine ⟨MF.eq _, by intro Mx H w hle hs; refine forVals_nil (ORg.plain (OR.fieldAddr FA45_0 rfl ?_)); exact ⟨_, [], Hp.le.refl _, hs, rfl, rfl⟩, ?_⟩
      refine ⟨MF.eq _, by intro Mx H w hle hs; refine forVals_eq rfl rfl rfl ?_; refine forVals_nil (ORg.plain (OR.load T43 rfl rfl (hs.right.cellM (i := 0) rfl rfl) ?_)); exact ⟨_, [], Hp.le.refl _, hs, rfl, rfl⟩, ?_⟩
      refine ⟨MF.eq _, by intro Mx H w hle hs; refine forVals_eq rfl rfl rfl ?_; refine forVals_nil (ORg.plain (OR.lenSlice T43.und rfl ?_)); exact ⟨_, [], Hp.le.refl _, hs, rfl, rfl⟩, ?_⟩
      refine ⟨MF.eq _, by intro Mx H w hle hs; refine forVals_nil (ORg.plain (OR.move rfl ?_)); exact ⟨_, [], Hp.le.refl _, hs, rfl, rfl⟩, ?_⟩
      refine ⟨MF.eq _, by intro Mx H w hle hs; refine forVals_eq rfl rfl rfl ?_; refine forVals_nil (ORg.plain (OR.nilCheck rfl ?_)); exact ⟨_, [], Hp.le.refl _, hs, rfl, rfl⟩, ?_⟩
      refine ⟨MF.eq _, by intro Mx H w hle hs; refine forVals_eq rfl rfl rfl ?_; refine forVals_nil (ORg.plain (OR.fieldAddr FA194_0 rfl ?_)); exact ⟨_, [], Hp.le.refl _, hs, rfl, rfl⟩, ?_⟩
      refine ⟨MF.eq _, by intro Mx H w hle hs; refine forVals_eq rfl rfl rfl ?_; refine forVals_nil (ORg.plain (OR.load T3 rfl rfl (hs.right.cellM (i := 1) rfl rfl) ?_)); exact ⟨_, [], Hp.le.refl _, hs, rfl, rfl⟩, ?_⟩
      refine ⟨MF.eq _, by intro Mx H w hle hs; refine forVals_eq rfl rfl rfl ?_; refine forVals_eq rfl rfl rfl ?_; refine forVals_nil (ORg.plain (OR.neq rfl rfl ?_)); exact ⟨_, [], Hp.le.refl _, hs, rfl, rfl⟩, ?_⟩
      refine ⟨MF.eq _, by intro Mx H w hle hs; refine forVals_eq rfl rfl rfl ?_; refine forVals_nil (ORg.plain (OR.move rfl ?_)); exact ⟨_, [], Hp.le.refl _, hs, rfl, rfl⟩, ?_⟩
      refine ⟨MF.eq undef, by intro Mx H w hle hs; refine forVals_eq rfl rfl rfl ?_; refine forVals_nil (ORg.no rfl (decide_eq_true (by omega : ((r.1.length : Int) ≠ (g : Int)))) rfl ?_); exact ⟨_, [], Hp.le.refl _, hs, rfl, rfl⟩, ?_⟩
      refine ⟨MF.eq undef, by intro Mx H w hle hs; refine forVals_eq rfl rfl rfl ?_; refine forVals_eq rfl rfl rfl ?_; refine forVals_nil (ORg.no rfl (decide_eq_true (by omega : ((r.1.length : Int) ≠ (g : Int)))) rfl ?_); exact ⟨_, [], Hp.le.refl _, hs, rfl, rfl⟩, ?_⟩
      refine ⟨MF.eq undef, by intro Mx H w hle hs; refine forVals_eq rfl rfl rfl ?_; refine forVals_eq rfl rfl rfl ?_; refine forVals_nil (ORg.no rfl (decide_eq_true (by omega : ((r.1.length : Int) ≠ (g : Int)))) rfl ?_); exact ⟨_, [], Hp.le.refl _, hs, rfl, rfl⟩, ?_⟩
      refine ⟨MF.eq undef, by intro Mx H w hle hs; refine forVals_eq rfl rfl rfl ?_; refine forVals_nil (ORg.no rfl (decide_eq_true (by omega : ((r.1.length : Int) ≠ (g : Int)))) rfl ?_); exact ⟨_, [], Hp.le.refl _, hs, rfl, rfl⟩, ?_⟩
      refine ⟨MF.eq undef, by intro Mx H w hle hs; refine forVals_eq rfl rfl rfl ?_; refine forVals_eq rfl rfl rfl ?_; refine forVals_nil (ORg.no rfl (decide_eq_true (by omega : ((r.1.length : Int) ≠ (g : Int)))) rfl ?_); exact ⟨_, [], Hp.le.refl _, hs, rfl, rfl⟩, ?_⟩
      refine ⟨MF.eq undef, by intro Mx H w hle hs; refine forVals_eq rfl rfl rfl ?_; refine forVals_eq rfl rfl rfl ?_; refine forVals_nil (ORg.no rfl (decide_eq_true (by omega : ((r.1.length : Int) ≠ (g : Int)))) rfl ?_); exact ⟨_, [], Hp.le.refl _, hs, rfl, rfl⟩, ?_⟩
      refine ⟨MF.eq undef, by intro Mx H w hle hs; refine forVals_eq rfl rfl rfl ?_; refine forVals_eq rfl rfl rfl ?_; refine forVals_nil (ORg.no rfl (decide_eq_true (by omega : ((r.1.length : Int) ≠ (g : Int)))) rfl ?_); exact ⟨_, [], Hp.le.refl _, hs, rfl, rfl⟩, ?_⟩
      refine ⟨MF.eq undef, by intro Mx H w hle hs; refine forVals_eq rfl rfl rfl ?_; refine forVals_eq rfl rfl rfl ?_; refine forVals_eq rfl rfl rfl ?_; refine forVals_nil (ORg.no rfl (decide_eq_true (by omega : ((r.1.length : Int) ≠ (g : Int)))) rfl ?_); exact ⟨_, [], Hp.le.refl _, hs, rfl, rfl⟩, ?_⟩
      refine ⟨MF.eq _, by intro Mx H w hle hs; refine forVals_eq rfl rfl rfl ?_; refine forVals_eq rfl rfl rfl ?_; refine forVals_nil (ORg.plain (OR.pickT rfl (decide_eq_true (by omega : ((r.1.length : Int) ≠ (g : Int)))) rfl ?_)); exact ⟨_, [], Hp.le.refl _, hs, rfl, rfl⟩, ?_⟩
      refine ⟨MF.eq _, by intro Mx H w hle hs; refine forVals_eq rfl rfl rfl ?_; refine forVals_nil (ORg.plain (OR.assign rfl ?_)); exact ⟨_, [], Hp.le.refl _, hs, rfl, rfl⟩, ?_⟩
      intro H w hle2; (try replace hle := hle.trans hle2); (try replace hlb := hlb.trans hle2)
      refine forAllVals_eq rfl ?_
      refine forAllVals_eq rfl ?_
      refine forAllVals_eq rfl ?_
      refine forAllVals_eq rfl ?_
      refine forAllVals_eq rfl ?_
      refine forAllVals_eq rfl ?_
      refine forAllVals_eq rfl ?_
      refine forAllVals_eq rfl ?_
      refine forAllVals_eq rfl ?_
      refine forAllVals_eq rfl ?_
      refine forAllVals_eq rfl ?_
      refine forAllVals_eq rfl ?_
      refine forAllVals_eq rfl ?_
      refine forAllVals_eq rfl ?_
      refine forAllVals_eq rfl ?_
      refine forAllVals_eq rfl ?_
      refine forAllVals_eq rfl ?_
      refine forAllVals_eq rfl ?_
      refine forAllVals_eq rfl ?_
      refine forAllVals_nil ?_; (try clear hs); intro hs
      refine WO.done (WX.seq (WC.yes rfl rfl (WC.seq (WC.region (WO.step rfl (OR.assign rfl (WO.step rfl ?_)))))))
      refine OR.assign rfl (WO.done (WX.seq (WC.ret (WX.block_ret (WX.seq_ret ?_)))))
      replace hs := hs.drop (i := 0)
      refine WX.ret2 rfl rfl rfl ?_
      exact ⟨_, H, _, rfl, hs, by simp, _, rfl, hv.mono hle, rfl, (fun h => by cases h), fun _ => rfl⟩

end Go.Bw
