/- What was a generation stays it: the plain law; and small contracts that its statement asks. -/
import Derived.Test.YtdibepkfgemddaaGreatTake
namespace Go.Bw
set_option linter.unusedVariables false
set_option linter.unusedSimpArgs false
open Go.Proofs

theorem whole_prefix {room : Nat} {st l : List UInt8} {a n m : Nat} (h1 : a + n * room ≤ st.length) (h2 : n ≤ m) : wholeL room st a n <+: wholeL room (st ++ l) a m := by
  refine ⟨(List.range' n (m - n)).map fun k => ((st ++ l).drop (a + k * room)).take room, ?_⟩
  unfold wholeL
  have e : (List.range n).map (fun k => (st.drop (a + k * room)).take room) = (List.range n).map (fun k => ((st ++ l).drop (a + k * room)).take room) := by
    refine List.map_congr_left fun k hk => ?_
    have hk' := List.mem_range.1 hk
    have : (k + 1) * room ≤ n * room := Nat.mul_le_mul_right _ hk'
    rw [Nat.add_mul, Nat.one_mul] at this
    rw [List.drop_append_of_le_length (by omega), List.take_append_of_le_length (by rw [List.length_drop]; omega)]
  rw [e, ← List.map_append, List.range_eq_range', List.range_eq_range']
  congr 1
  have := List.range'_append (s := 0) (m := n) (n := m - n) (step := 1)
  rw [Nat.zero_add, Nat.one_mul, Nat.add_sub_cancel' h2] at this
  exact this
theorem step_app {room : Nat} {st l : List UInt8} {p : List (List UInt8) × Nat} {cut : Nat} (h1 : p.2 ≤ cut) (h2 : cut ≤ st.length) : chunkStep room (st ++ l) p ((cut : Nat) : Int) = chunkStep room st p ((cut : Nat) : Int) := by
  have hd : (cut - p.2) / room * room ≤ cut - p.2 := Nat.div_mul_le_self _ _
  have e1 : wholeL room (st ++ l) p.2 ((cut - p.2) / room) = wholeL room st p.2 ((cut - p.2) / room) := by
    have h := whole_prefix (room := room) (st := st) (l := l) (a := p.2) (n := (cut - p.2) / room) (m := (cut - p.2) / room) (by omega) (Nat.le_refl _)
    exact (h.eq_of_length (by simp [wholeL])).symm
  simp only [chunkStep, Int.toNat_natCast]
  rw [e1]
  congr 2
  unfold cutPiece
  split
  · rw [List.drop_append_of_le_length (by omega), List.take_append_of_le_length (by rw [List.length_drop]; omega)]
  · rfl
theorem chunkP_app {room : Nat} {st l : List UInt8} : ∀ (cuts : List Int) (p : List (List UInt8) × Nat), p.2 ≤ st.length → cutsOk st.length (p.2 : Int) cuts = true →
    cuts.foldl (chunkStep room (st ++ l)) p = cuts.foldl (chunkStep room st) p
  | [], p, _, _ => rfl
  | c :: cs, p, h2, h => by
    simp only [cutsOk, Bool.and_eq_true, decide_eq_true_eq] at h
    obtain ⟨⟨h3, h4⟩, h5⟩ := h
    obtain ⟨k, rfl⟩ := Int.eq_ofNat_of_zero_le (show 0 ≤ c by omega)
    have hk : (chunkStep room st p ((k : Nat) : Int)).2 = k := rfl
    rw [List.foldl_cons, List.foldl_cons, step_app (by omega) (by omega)]
    exact chunkP_app cs _ (by rw [hk]; omega) (by rw [hk]; exact h5)
theorem chunks_app {room : Nat} {st l : List UInt8} {cuts : List Int} (hr : 1 ≤ room) (h : cutsOk st.length 0 cuts = true) : chunksF room st cuts <+: chunksF room (st ++ l) cuts := by
  have e : chunkP room (st ++ l) cuts = chunkP room st cuts := chunkP_app cuts ([], 0) (Nat.zero_le _) h
  have h3 : (chunkP room st cuts).2 ≤ st.length := (chunkP_mem (st := st) hr cuts ([], 0) (by simp) (Nat.zero_le _) h).2
  have hd : (st.length - (chunkP room st cuts).2) / room * room ≤ st.length - (chunkP room st cuts).2 := Nat.div_mul_le_self _ _
  rw [chunksF, chunksF, e]
  refine (List.prefix_append_right_inj _).2 (whole_prefix (by omega) (Nat.div_le_div_right (by rw [List.length_append]; omega)))
theorem chunks_cut {room : Nat} {st : List UInt8} {cuts : List Int} (hr : 1 ≤ room) : chunksF room st cuts <+: chunksF room st (cuts ++ [(st.length : Int)]) := by
  have e : (chunkP room st (cuts ++ [(st.length : Int)])).1 = (chunkP room st cuts).1 ++ wholeL room st (chunkP room st cuts).2 ((st.length - (chunkP room st cuts).2) / room) ++ cutPiece st ((chunkP room st cuts).2 + (st.length - (chunkP room st cuts).2) / room * room) st.length := by
    unfold chunkP
    rw [List.foldl_append]
    rfl
  rw [chunksF, chunksF, e, List.append_assoc]
  exact List.prefix_append _ _
theorem SrcOk.sub_prefix {x : SrcD} (h : SrcOk x) (l : List UInt8) (most : Nat) : x.chunks <+: (subD x l most).chunks := by
  unfold subD
  split
  · exact List.prefix_refl _
  · split
    · rw [h.ch]; exact chunks_app h.room h.cuts
    · exact List.prefix_refl _
theorem SrcOk.cut_prefix {x : SrcD} (h : SrcOk x) : x.chunks <+: (cutD x).chunks := by
  unfold cutD
  split
  · exact List.prefix_refl _
  · rw [h.ch]; exact chunks_cut h.room
theorem SrcOk.flush_prefix {x : SrcD} (h : SrcOk x) : x.chunks <+: (flushD x).chunks := by
  unfold flushD
  split
  · exact List.prefix_refl _
  · exact h.cut_prefix
theorem SrcOk.close_prefix {x : SrcD} (h : SrcOk x) : x.chunks <+: (closeD x).chunks := by
  unfold closeD
  split
  · exact List.prefix_refl _
  · exact h.cut_prefix
theorem symF_prefix {x y : SrcD} (h : x.chunks <+: y.chunks) (hg : y.g = x.g) (hs : y.s = x.s) {k : Nat} (hk : k < x.chunks.length) : symF y k = symF x k := by
  obtain ⟨t, ht⟩ := h
  rw [symF, symF, ← ht, List.getElem?_append_left hk, hg, hs]

set_option maxRecDepth 20000 in
set_option maxHeartbeats 2000000 in
theorem hasPrefix_ok (va vb : Value) (a b : List UInt8) (H0 : Hp) (w0 : World) (h0 : Sub H0 w0) (ha : Bytes H0 va a) (hb : Bytes H0 vb b) :
    Calls Tryz.prog 33 #[va, vb] w0 (Pure H0 w0 fun v _ => v = .bool (decide (b <+: a))) := by
  have hs := HS.init h0
  have hle := Hp.le.refl H0
  obtain ⟨b1, c1, rfl⟩ := ha.form
  obtain ⟨b2, c2, rfl⟩ := hb.form
  refine Calls.enter (args := [.slice b1 a.length c1, .slice b2 b.length c2]) Tryz.func33 rfl Tryz.ntmps33 rfl ?_
  have hcap := ha.cap_le
  refine WC.seq (WC.region (WO.step rfl (OR.assign rfl (WO.done (WX.seq (WC.seq (WC.region ?_)))))))
  refine WO.step rfl (OR.move rfl (WO.step rfl (OR.lenSlice T43.und rfl (WO.step rfl (OR.move rfl (WO.step rfl (OR.lenSlice T43.und rfl ?_)))))))
  refine WO.step rfl (OR.geq rfl rfl (WO.step rfl (OR.move rfl ?_)))
  refine WO.guardSplit (j := 5) rfl (fun q => ?_) (fun q => ?_)
  · refine WO.guardYes rfl (decide_eq_true q) rfl rfl (OR.move rfl (WO.guardYes rfl (decide_eq_true q) rfl rfl (OR.move rfl (WO.guardYes rfl (decide_eq_true q) rfl rfl (OR.lenSlice T43.und rfl ?_)))))
    refine WO.guardYes rfl (decide_eq_true q) rfl rfl (OR.sliceHiG b.length T43.und T5 rfl rfl rfl (by omega) ?_)
    have htk : Bytes H0 (.slice b1 b.length c1) (a.take b.length) := by
      have := Sl.takeS ha b.length (by omega)
      unfold Bytes
      rw [Nat.mul_one] at this
      rw [List.length_take, Nat.min_eq_left (by omega), List.map_take]
      exact this
    refine WO.guardYes rfl (decide_eq_true q) rfl rfl (OR.move rfl ?_)
    refine WO.guardYes rfl (decide_eq_true q) rfl rfl (OR.call hs body51 rfl rfl (equal_ok _ _ _ _ _ _ hs.toSub htk hb) ?_)
    clear hs; rintro _ H w hs hle1 rfl; replace hle := hle.trans hle1; (try replace hlb := hlb.trans hle1)
    refine WO.step rfl (OR.pickT rfl (decide_eq_true q) rfl (WO.step rfl (OR.assign rfl (WO.done (WX.seq (WC.ret ?_))))))
    refine WX.ret1 rfl rfl ?_
    refine .mk hs ?_
    congr 1
    rw [decide_eq_decide, List.prefix_iff_eq_take]
    exact ⟨fun h => h.symm, fun h => h.symm⟩
  · refine WO.guardNo rfl (decide_eq_false q) rfl rfl (WO.guardNo rfl (decide_eq_false q) rfl rfl (WO.guardNo rfl (decide_eq_false q) rfl rfl (WO.guardNo rfl (decide_eq_false q) rfl rfl (WO.guardNo rfl (decide_eq_false q) rfl rfl (WO.guardNo rfl (decide_eq_false q) rfl rfl (WO.step rfl (OR.pickF rfl (decide_eq_false q) rfl ?_)))))))
    refine WO.step rfl (OR.assign rfl (WO.done (WX.seq (WC.ret ?_))))
    refine WX.ret1 rfl rfl ?_
    refine .mk hs ?_
    congr 1
    rw [eq_comm, decide_eq_false_iff_not]
    intro h
    have := h.length_le
    omega

set_option maxRecDepth 20000 in
set_option maxHeartbeats 2000000 in
theorem same05_ok (va vb : Value) (a b : List (List UInt8)) (H0 : Hp) (w0 : World) (h0 : Sub H0 w0) (ha : BytesL H0 va a) (hb : BytesL H0 vb b) (he : a = b) (hl : a.length < 1000000000) :
    Calls Tryz.prog 18 #[va, vb] w0 (Pure H0 w0 fun v _ => v = .bool true) := by
  have hs := HS.init h0
  subst he
  have ha0 := ha
  have hb0 := hb
  obtain ⟨b1, c1, rfl⟩ := ha0.form
  obtain ⟨b2, c2, rfl⟩ := hb0.form
  refine Calls.enter (args := [.slice b1 a.length c1, .slice b2 a.length c2]) Tryz.func18 rfl Tryz.ntmps18 rfl ?_
  refine WC.seq (WC.region (WO.step rfl (OR.assign rfl (WO.done (WX.seq (WC.seq (WC.seq ?_)))))))
  refine WC.region (WO.step rfl (OR.move rfl (WO.step rfl (OR.lenSlice T40.und rfl (WO.step rfl (OR.move rfl (WO.step rfl ?_)))))))
  refine OR.lenSlice T40.und rfl (WO.step rfl (OR.neq rfl rfl (WO.done (WX.seq ?_))))
  refine WC.no rfl (decide_eq_false (by omega)) ?_
  refine WC.skip (WX.seq (WC.seq (WC.seq (WC.region (WO.step rfl (OR.assign rfl (WO.done ?_)))))))
  refine WX.seq (WC.block ?_)
  refine WC.loop (ι := Nat) (fun k => [(0, .slice b1 a.length c1), (1, .slice b2 a.length c2), (5, .int .i64 (k : Int))]) (fun k w => (k ≤ a.length ∧ ∃ H, Hp.le H0 H ∧ HS [] H0 w0 H [] w)) (fun k => a.length - k) 0 ⟨rfl, rfl, rfl,  trivial⟩ ?_ (fun k w hW => ?_)
  · exact ⟨by omega, H0, .refl H0, hs⟩
  clear hs
  obtain ⟨hk, H, hle, hs⟩ := hW
  refine WC.seq (WC.seq (WC.region (WO.step rfl (OR.move rfl (WO.step rfl (OR.move rfl (WO.step rfl ?_)))))))
  refine OR.lenSlice T40.und rfl (WO.step rfl (OR.lss rfl rfl (WO.done (WX.seq ?_))))
  refine WC.condD rfl (fun hlt => ?_) (fun hlt => ?_)
  · have hk' : k < a.length := by omega
    obtain ⟨ob1, oo1, rfl, hc1⟩ := ha.pos (by omega)
    obtain ⟨ob2, oo2, rfl, hc2⟩ := hb.pos (by omega)
    obtain ⟨e1, he1, hbe1⟩ := hc1 k hk'
    obtain ⟨e2, he2, hbe2⟩ := hc2 k hk'
    have hlb := Hp.le.refl H
    refine WC.skip (WX.seq (WC.seq (WC.block (WC.seq ?_))))
    refine WC.draw 11 mixed hs (by kernel_rfl) ?_
    refine ⟨MF.eq _, by intro Mx H w hle hs; refine forVals_nil (ORg.plain (OR.move rfl ?_)); exact ⟨_, [], Hp.le.refl _, hs, rfl, rfl⟩, ?_⟩
    refine ⟨MF.eq _, by intro Mx H w hle hs; refine forVals_nil (ORg.plain (OR.move rfl ?_)); exact ⟨_, [], Hp.le.refl _, hs, rfl, rfl⟩, ?_⟩
    refine ⟨MF.eq (.pointer (some ⟨ob1, oo1 + k, none⟩)), ?_, ?_⟩
    · intro Mx H w hle2 hs; (try replace hle := hle.trans hle2); (try replace hlb := hlb.trans hle2); refine forVals_eq rfl rfl rfl ?_; refine forVals_eq rfl rfl rfl ?_
      refine forVals_nil (ORg.plain (OR.idx k T40.und T43 rfl rfl rfl hk' ?_))
      exact ⟨_, [], Hp.le.refl _, hs, rfl, rfl⟩
    refine ⟨MF.eq e1, ?_, ?_⟩
    · intro Mx H w hle2 hs; (try replace hle := hle.trans hle2); (try replace hlb := hlb.trans hle2); refine forVals_eq rfl rfl rfl ?_
      refine forVals_nil (ORg.plain (OR.load T43 rfl rfl (hs.cell (hcell.mono hle he1)) ?_))
      exact ⟨_, [], Hp.le.refl _, hs, rfl, rfl⟩
    refine ⟨MF.eq (.string (str a[k])), ?_, ?_⟩
    · intro Mx H w hle2 hs; (try replace hle := hle.trans hle2); (try replace hlb := hlb.trans hle2); refine forVals_eq rfl rfl rfl ?_
      refine forVals_nil (ORg.plain (OR.toStr hs T43.und T9.und T5.und rfl (hbe1.mono hle) ?_))
      exact ⟨_, [], Hp.le.refl _, hs, rfl, rfl⟩
    refine ⟨MF.eq _, by intro Mx H w hle hs; refine forVals_nil (ORg.plain (OR.move rfl ?_)); exact ⟨_, [], Hp.le.refl _, hs, rfl, rfl⟩, ?_⟩
    refine ⟨MF.eq _, by intro Mx H w hle hs; refine forVals_nil (ORg.plain (OR.move rfl ?_)); exact ⟨_, [], Hp.le.refl _, hs, rfl, rfl⟩, ?_⟩
    refine ⟨MF.eq (.pointer (some ⟨ob2, oo2 + k, none⟩)), ?_, ?_⟩
    · intro Mx H w hle2 hs; (try replace hle := hle.trans hle2); (try replace hlb := hlb.trans hle2); refine forVals_eq rfl rfl rfl ?_; refine forVals_eq rfl rfl rfl ?_
      refine forVals_nil (ORg.plain (OR.idx k T40.und T43 rfl rfl rfl hk' ?_))
      exact ⟨_, [], Hp.le.refl _, hs, rfl, rfl⟩
    refine ⟨MF.eq e2, ?_, ?_⟩
    · intro Mx H w hle2 hs; (try replace hle := hle.trans hle2); (try replace hlb := hlb.trans hle2); refine forVals_eq rfl rfl rfl ?_
      refine forVals_nil (ORg.plain (OR.load T43 rfl rfl (hs.cell (hcell.mono hle he2)) ?_))
      exact ⟨_, [], Hp.le.refl _, hs, rfl, rfl⟩
    refine ⟨MF.eq (.string (str a[k])), ?_, ?_⟩
    · intro Mx H w hle2 hs; (try replace hle := hle.trans hle2); (try replace hlb := hlb.trans hle2); refine forVals_eq rfl rfl rfl ?_
      refine forVals_nil (ORg.plain (OR.toStr hs T43.und T9.und T5.und rfl (hbe2.mono hle) ?_))
      exact ⟨_, [], Hp.le.refl _, hs, rfl, rfl⟩
    refine ⟨MF.eq _, by intro Mx H w hle hs; refine forVals_eq rfl rfl rfl ?_; refine forVals_eq rfl rfl rfl ?_; refine forVals_nil (ORg.plain (OR.neqStr rfl rfl ?_)); exact ⟨_, [], Hp.le.refl _, hs, rfl, rfl⟩, ?_⟩
    intro H w hle2; (try replace hle := hle.trans hle2); (try replace hlb := hlb.trans hle2)
    refine forAllVals_eq rfl ?_
    refine forAllVals_eq rfl ?_
    refine forAllVals_eq rfl ?_
    refine forAllVals_eq rfl ?_
    refine forAllVals_eq rfl ?_
    refine forAllVals_eq rfl ?_
    refine forAllVals_eq rfl ?_
    refine forAllVals_eq rfl ?_
    refine forAllVals_eq rfl ?_
    refine forAllVals_eq rfl ?_
    refine forAllVals_eq rfl ?_
    refine forAllVals_nil ?_; (try clear hs); intro hs
    refine WO.done (WX.seq ?_)
    refine WC.no rfl (by simp) ?_
    refine WC.skip (WX.block (WX.seq (WC.region (WO.step rfl (OR.move rfl (WO.step rfl (OR.addI rfl rfl (by omega) (by omega) ?_)))))))
    refine WO.step rfl (OR.assign rfl (WO.done ?_))
    refine WX.again (k + 1) ⟨rfl, rfl, rfl,  trivial⟩ ?_ ?_
    · exact ⟨hk', H, hle, hs⟩
    · omega
  · refine WC.exit (WX.seq_exit (WX.loop_exit (WX.block_hit (WX.seq (WC.seq (WC.region (WO.step rfl ?_)))))))
    refine OR.assign rfl (WO.done (WX.seq (WC.ret ?_)))
    refine WX.ret1 rfl rfl ?_
    exact .mk hs rfl

/-- A call that reads what is owned. -/
theorem OR.callOwn {P : Program} {n : Nat} {ds : List Deferred} {env : Env} {w w0 : World} {dst : Option Nat} {ty : TypeId} {pos : String} {aft : Array Edge} {gd : Option (Nat × Bool)} {R : Value → World → Prop} {xs : List Nat} {H0 H : Hp} {M Mo : Mem}
    {f : FuncId} {args : List Operand} {vs : List Value} {tys : Array TypeId} {x : Operand} {cap first : List Value} {C : Value → Prop} {N k : Nat} {e : TypeId} {vo : Value} {l : List UInt8}
    (hs : HS xs H0 w0 H (Mo ++ M) w) (ho : Own N e 1 vo k (l.map B) Mo) (hb : Body P f) (hx : look env x = some (.func (.func f) first.toArray cap.toArray)) (ha : lookAll env args = some vs)
    (hc : ∀ Hx, Hp.le H Hx → Sub Hx w → Bytes Hx vo l → Calls P f (first ++ vs ++ cap).toArray w (Pure Hx w fun v _ => C v))
    (hR : ∀ v H' w', HS xs H0 w0 H' (Mo ++ M) w' → H.le H' → C v → R v w') :
    OR P n ds ⟨dst, .call { callee := .value x, args := args.toArray, argTypes := tys }, ty, pos, aft, gd⟩ env w R := by
  obtain ⟨hl, ⟨rfl, ⟨b9, rfl⟩, rfl⟩ | ⟨g, c, cp, rfl, rfl, hn, hcs, hxs, hg⟩⟩ := ho
  · have : l = [] := List.eq_nil_of_length_eq_zero (by simpa using hl)
    subst this
    exact .call hs hb hx ha (hc H (.refl H) hs.toSub (Sl.empty _ _ _)) hR
  · have hgm := hs.mem g (.cells c e) true (by simp)
    have hlk : l.length = k := by simpa using hl
    refine .callL (o := .cells c e) (t := true) (M := M) hs hb hx ha (hc _ (Hp.le_put hgm.2.1 _) (hs.toSub.put hgm.1) ?_) hR
    have := Bytes.block (c := c) (l := l) (cap := cp) (Hp.put_same H g (.cells c e)) (by rw [hlk]; rw [Nat.mul_one] at hxs; exact hxs) (by omega)
    rw [hlk] at this
    exact this
end Go.Bw
