/- Lists of lists, one behind the other. -/
import Derived.Test.YtdibepkfgemddaaRel14
import Derived.Test.YtdibepkfgemddaaMatrix
namespace Go.Bw
set_option linter.unusedVariables false
set_option linter.unusedSimpArgs false
open Go.Proofs

set_option maxRecDepth 20000 in
set_option maxHeartbeats 2000000 in
theorem growL_ok (m : Nat) (hm : m ≤ 1000000) (H0 : Hp) (w0 : World) (h0 : Sub H0 w0) :
    Calls Try.prog 108 #[.slice none 0 0, .int .i64 (m : Int)] w0 (Ret [] H0 w0 fun v H' M' => H' = H0 ∧ Own w0.heap.size 37 1 v 0 [] M') := by
  have hs := HS.init h0
  have hle := Hp.le.refl H0
  refine Calls.enter (args := [.slice none 0 0, .int .i64 (m : Int)]) Try.func108 rfl Try.ntmps108 rfl ?_
  refine WC.seq (WC.region (WO.step rfl (OR.assign rfl (WO.done (WX.seq (WC.seq (WC.seq ?_)))))))
  refine WC.region (WO.step rfl (OR.move rfl (WO.step rfl (OR.lss rfl rfl (WO.done (WX.seq ?_))))))
  refine WC.no rfl (decide_eq_false (by omega)) ?_
  refine WC.skip (WX.seq (WC.seq (WC.seq (WC.region (WO.step rfl (OR.move rfl (WO.step rfl ?_)))))))
  refine OR.move rfl (WO.step rfl (OR.capSlice T31.und rfl (WO.step rfl (OR.move rfl (WO.step rfl (OR.lenSlice T31.und rfl (WO.step rfl ?_)))))))
  refine OR.subI rfl rfl (by omega) (by omega) (WO.step rfl (OR.subI rfl rfl (by omega) (by omega) (WO.step rfl (OR.assign rfl (WO.done (WX.seq (WC.seq ?_)))))))
  refine WC.region (WO.step rfl (OR.move rfl (WO.step rfl (OR.gtr rfl rfl (WO.done (WX.seq ?_))))))
  refine WC.condD rfl (fun hpos => ?_) (fun hpos => ?_)
  · refine WC.region (WO.step rfl (OR.move rfl (WO.step rfl (OR.move rfl (WO.step rfl (OR.capSlice T31.und rfl ?_))))))
    refine WO.step rfl (OR.sliceHiG 0 T31.und T37 rfl rfl rfl (by omega) ?_)
    refine WO.step rfl (OR.move rfl ?_)
    refine WO.step rfl (OR.appendZ (n := 0) (cs := []) (m := m) (Mo := []) (M := []) (Nat.le_refl _) hs (Own.nil _ _ _) T31.und T37 rfl T3.und rfl rfl (by omega) (by omega) (by omega) ?_)
    clear hs; intro v w Mo hs ho
    obtain ⟨hl, ⟨hn0, _⟩ | ⟨g, c, cp, rfl, rfl, hn, hcs, hxs, hg⟩⟩ := ho
    · omega
    refine WO.step rfl (OR.move rfl (WO.step rfl (OR.lenSlice T31.und rfl ?_)))
    refine WO.step rfl (OR.sliceHiG 0 T31.und T37 rfl rfl rfl (by omega) ?_)
    refine WO.step rfl (OR.assign rfl (WO.done (WX.seq (WC.seq (WC.region (WO.step rfl (OR.move rfl ?_)))))))
    refine WO.step rfl (OR.assign rfl (WO.done (WX.seq (WC.ret ?_))))
    refine WX.ret1 rfl rfl ?_
    exact ⟨_, H0, _, rfl, hs, by simp, rfl, Own.block (by omega) hcs (by simp) hg⟩
  · refine WC.skip (WX.seq (WC.seq (WC.region (WO.step rfl (OR.move rfl (WO.step rfl (OR.assign rfl ?_)))))))
    refine WO.done (WX.seq (WC.ret ?_))
    refine WX.ret1 rfl rfl ?_
    exact ⟨_, H0, [], rfl, hs, by simp, rfl, Own.nil _ _ _⟩
/-- A list of lists of values. -/
def ValsL (H : Hp) (v : Value) (ll : List (List Value)) : Prop := ∃ cs : List Value, Sl H 1 v ll.length cs ∧ cs.length = ll.length ∧ ∀ i (h : i < ll.length) (h' : i < cs.length), Sl H 1 cs[i] ll[i].length ll[i]
theorem ValsL.mono {H H' : Hp} {v : Value} {ll : List (List Value)} (h : ValsL H v ll) (hle : Hp.le H H') : ValsL H' v ll := by
  obtain ⟨cs, h1, h2, h3⟩ := h
  exact ⟨cs, h1.mono hle, h2, fun i a b => (h3 i a b).mono hle⟩
theorem ValsL.form {H : Hp} {v : Value} {ll : List (List Value)} (h : ValsL H v ll) : ∃ base cap, v = .slice base ll.length cap := by
  obtain ⟨cs, h1, _⟩ := h
  exact h1.form
theorem ValsL.pos {H : Hp} {base : Option Addr} {cap : Nat} {ll : List (List Value)} (h : ValsL H (.slice base ll.length cap) ll) (hn : 0 < ll.length) :
    ∃ b o, base = some ⟨b, o, none⟩ ∧ ∀ i (hi : i < ll.length), ∃ e, hcell H ⟨b, o + i, none⟩ = some e ∧ Sl H 1 e ll[i].length ll[i] := by
  obtain ⟨cs, h1, h2, h3⟩ := h
  obtain ⟨b, o, hb, hc⟩ := h1.pos hn
  exact ⟨b, o, hb, fun i hi => ⟨cs[i]'(by omega), hc i _ (List.getElem?_eq_getElem (by omega)), h3 i hi _⟩⟩
theorem flattenV_take_len (ll : List (List Value)) (k : Nat) (hk : k < ll.length) : (ll.take (k + 1)).flatten = (ll.take k).flatten ++ ll[k] := by
  rw [List.take_add_one, List.getElem?_eq_getElem hk, List.flatten_append]
  simp
theorem flattenV_le (ll : List (List Value)) (k : Nat) : (ll.take k).flatten.length ≤ ll.flatten.length := by
  have h : (ll.take k ++ ll.drop k).flatten.length = ll.flatten.length := by rw [List.take_append_drop]
  rw [List.flatten_append, List.length_append] at h
  omega
set_option maxRecDepth 20000 in
set_option maxHeartbeats 2000000 in
theorem concatL_ok (v : Value) (ll : List (List Value)) (H0 : Hp) (w0 : World) (h0 : Sub H0 w0) (hv : ValsL H0 v ll) (h1c : ∀ l ∈ ll, l.all (·.oneCell') = true) (hl : ll.flatten.length ≤ 1000000) (hn : ll.length ≤ 1000000) :
    Calls Try.prog 80 #[v] w0 (Pure H0 w0 fun v H' => Sl H' 1 v ll.flatten.length ll.flatten) := by
  have hs := HS.init h0
  have hle := Hp.le.refl H0
  have hv0 := hv
  obtain ⟨b1, c1, rfl⟩ := hv0.form
  refine Calls.enter (args := [.slice b1 ll.length c1]) Try.func80 rfl Try.ntmps80 rfl ?_
  refine WC.seq (WC.region (WO.step rfl (OR.assign rfl (WO.done (WX.seq (WC.seq (WC.region ?_)))))))
  refine WO.step rfl (OR.assign rfl (WO.done (WX.seq (WC.seq (WC.seq (WC.region (WO.step rfl ?_)))))))
  refine OR.move rfl (WO.step rfl (OR.lenSlice T122.und rfl (WO.step rfl (OR.move rfl (WO.done (WX.seq (WC.block ?_)))))))
  refine WC.loop (ι := Nat × Nat) (fun ix => [(0, .slice b1 ll.length c1), (3, .int .i64 (ix.2 : Int)), (9, .slice b1 ll.length c1), (10, .int .i64 (ll.length : Int)), (11, .int .i64 (ix.1 : Int))]) (fun ix w => (ix.1 ≤ ll.length ∧ ix.2 = (ll.take ix.1).flatten.length ∧ ∃ H, Hp.le H0 H ∧ HS [] H0 w0 H [] w)) (fun ix => ll.length - ix.1) (0, 0) ⟨rfl, rfl, rfl, rfl, rfl,  trivial⟩ ?_ (fun ix w hW => ?_)
  · exact ⟨Nat.zero_le _, rfl, H0, hle, hs⟩
  clear hs hle
  obtain ⟨k, sum⟩ := ix
  obtain ⟨hk, hsum, H, hle, hs⟩ := hW
  simp only at hk hsum
  have hfl := flattenV_le ll k
  refine WC.seq (WC.region (WO.step rfl (OR.lss rfl rfl (WO.done (WX.seq (WC.seq ?_))))))
  refine WC.condD rfl (fun hlt => ?_) (fun hlt => ?_)
  · have hk' : k < ll.length := by omega
    obtain ⟨xb, xo, rfl, hcx⟩ := hv.pos (by omega)
    obtain ⟨e1, he1, hbe1⟩ := hcx k hk'
    obtain ⟨b2, c2, rfl⟩ := hbe1.form
    have hft := flattenV_take_len ll k hk'
    have hft2 : (ll.take (k + 1)).flatten.length = sum + ll[k].length := by rw [hft, List.length_append, hsum]
    have hfl2 := flattenV_le ll (k + 1)
    refine WC.skip (WX.seq (WC.seq (WC.block (WC.seq (WC.region ?_)))))
    refine WO.step rfl (OR.idx k T122.und T31 rfl rfl rfl hk' ?_)
    refine WO.step rfl (OR.load T31 rfl rfl (hs.cell (hcell.mono hle he1)) ?_)
    refine WO.step rfl (OR.assign rfl (WO.done (WX.seq (WC.seq (WC.region (WO.step rfl (OR.move rfl ?_)))))))
    refine WO.step rfl (OR.move rfl (WO.step rfl (OR.lenSlice T31.und rfl (WO.step rfl (OR.addI rfl rfl (by omega) (by omega) (WO.step rfl (OR.assign rfl ?_)))))))
    refine WO.done (WX.seq (WC.seq (WC.region (WO.step rfl (OR.move rfl (WO.step rfl (OR.lss rfl rfl ?_)))))))
    refine WO.done (WX.seq ?_)
    refine WC.no rfl (decide_eq_false (by omega)) ?_
    refine WC.skip (WX.block (WX.seq (WC.region (WO.step rfl (OR.addI rfl rfl (by omega) (by omega) (WO.step rfl (OR.move rfl ?_)))))))
    refine WO.done ?_
    refine WX.again ((k + 1, sum + ll[k].length)) ⟨rfl, rfl, rfl, rfl, rfl,  trivial⟩ ?_ ?_
    · exact ⟨hk', hft2.symm, H, hle, hs⟩
    · simp only; omega
  · have e : k = ll.length := by omega
    subst e
    rw [List.take_length] at hsum
    have hs0 := hs.size
    refine WC.exit (WX.seq_exit (WX.loop_exit (WX.block_hit (WX.seq (WC.seq (WC.region (WO.step rfl ?_)))))))
    refine OR.move rfl ?_
    refine WO.step rfl (OR.callX (Mx := []) hs body108 rfl rfl (growL_ok sum (by omega) _ _ hs.toSub) rfl rfl ?_)
    clear hs; rintro _ H1 Mo w hs hle1 hnew ⟨hHH, ho⟩; replace hle := hle.trans hle1; (try replace hlb := hlb.trans hle1)
    subst hHH
    replace ho := ho.mono (show w0.heap.size ≤ _ from hs0)
    obtain ⟨b9, c9, rfl⟩ := ho.form
    have hso : HS [] H0 w0 H1 (Mo ++ []) w := hs
    clear hs
    refine WO.step rfl (OR.assign rfl (WO.done (WX.seq (WC.seq (WC.seq (WC.region (WO.step rfl ?_)))))))
    refine OR.move rfl (WO.step rfl (OR.lenSlice T122.und rfl (WO.step rfl (OR.move rfl (WO.done (WX.seq (WC.block ?_)))))))
    refine WC.loop (ι := Nat × Value) (fun ix => [(0, .slice b1 ll.length c1), (6, ix.2), (25, .slice b1 ll.length c1), (26, .int .i64 (ll.length : Int)), (27, .int .i64 (ix.1 : Int))]) (fun ix w => (ix.1 ≤ ll.length ∧ ∃ Mo, Own w0.heap.size 37 1 ix.2 (ll.take ix.1).flatten.length ((ll.take ix.1).flatten) Mo ∧ HS [] H0 w0 H1 (Mo ++ []) w)) (fun ix => ll.length - ix.1) (0, .slice b9 0 c9) ⟨rfl, rfl, rfl, rfl, rfl,  trivial⟩ ?_ (fun ix w hW => ?_)
    · exact ⟨Nat.zero_le _, Mo, ho, hso⟩
    clear hso ho
    obtain ⟨k, vo⟩ := ix
    obtain ⟨hk, Mo, ho, hs⟩ := hW
    simp only at hk ho
    refine WC.seq (WC.region (WO.step rfl (OR.lss rfl rfl (WO.done (WX.seq (WC.seq ?_))))))
    refine WC.condD rfl (fun hlt2 => ?_) (fun hlt2 => ?_)
    · have hk' : k < ll.length := by omega
      obtain ⟨xb, xo, rfl, hcx⟩ := hv.pos (by omega)
      obtain ⟨e1, he1, hbe1⟩ := hcx k hk'
      obtain ⟨b2, c2, rfl⟩ := hbe1.form
      have hft := flattenV_take_len ll k hk'
      have hft2 : (ll.take (k + 1)).flatten.length = (ll.take k).flatten.length + ll[k].length := by rw [hft, List.length_append]
      have hfl2 := flattenV_le ll (k + 1)
      refine WC.skip (WX.seq (WC.seq (WC.block (WC.seq (WC.region ?_)))))
      refine WO.step rfl (OR.idx k T122.und T31 rfl rfl rfl hk' ?_)
      refine WO.step rfl (OR.load T31 rfl rfl (hs.cell (hcell.mono hle he1)) ?_)
      refine WO.step rfl (OR.assign rfl (WO.done (WX.seq (WC.region (WO.step rfl (OR.move rfl (WO.step rfl ?_)))))))
      refine OR.move rfl ?_
      refine WO.step rfl (OR.append (m := ll[k].length) (news := ll[k]) hs ho T31.und T37 rfl (by omega) rfl rfl (by simp) (Sl.src (hbe1.mono hle) hs) (Sl.src0 hbe1) (h1c _ (List.getElem_mem _)) (by omega) (by omega) ?_)
      clear hs ho; intro vo' w Mo' hs ho hge
      refine WO.step rfl (OR.assign rfl (WO.done (WX.block (WX.seq (WC.region (WO.step rfl (OR.addI rfl rfl (by omega) (by omega) ?_)))))))
      refine WO.step rfl (OR.move rfl (WO.done ?_))
      refine WX.again ((k + 1, vo')) ⟨rfl, rfl, rfl, rfl, rfl,  trivial⟩ ?_ ?_
      · refine ⟨hk', Mo', ?_, hs⟩
        rw [hft2, hft]
        exact ho
      · simp only; omega
    · have e : k = ll.length := by omega
      subst e
      rw [List.take_length] at ho
      obtain ⟨b8, c8, rfl⟩ := ho.form
      refine WC.exit (WX.seq_exit (WX.loop_exit (WX.block_hit (WX.seq (WC.seq (WC.region (WO.step rfl ?_)))))))
      refine OR.move rfl (WO.step rfl (OR.assign rfl (WO.done (WX.seq (WC.ret ?_)))))
      refine WX.ret1 rfl rfl ?_
      obtain ⟨H4, hle4, hs4, hsl4, _⟩ := HS.pub hs ho
      exact .mk hs4 hsl4
end Go.Bw
namespace Go.Bw
set_option linter.unusedVariables false
set_option linter.unusedSimpArgs false
open Go.Proofs

theorem cells_all {H : Hp} {cs : List Value} {ll : List (List UInt8)} (h2 : cs.length = ll.length) (h : ∀ i (h : i < ll.length) (h' : i < cs.length), Bytes H cs[i] ll[i]) : cs.all (·.oneCell') = true := by
  rw [List.all_eq_true]
  intro u hu
  obtain ⟨i, hi, rfl⟩ := List.getElem_of_mem hu
  obtain ⟨b, c, hf⟩ := (h i (by omega) hi).form
  rw [hf]
  rfl
set_option maxRecDepth 20000 in
set_option maxHeartbeats 2000000 in
theorem beside_ok (v va vb : Value) (a b : List (List UInt8)) (cols : Nat) (H0 : Hp) (w0 : World) (h0 : Sub H0 w0) (hv : Sl H0 1 v 2 [va, vb]) (ha : BytesL H0 va a) (hb : BytesL H0 vb b) (h1 : 0 < (a ++ b).length) (h2 : (a ++ b).length ≤ 1000000) (hR : ∀ r ∈ a ++ b, r.length = cols) (hcols : cols ≤ 255) :
    Calls Try.prog 55 #[v] w0 (Pure H0 w0 fun v H' => ∃ r, v = .tuple #[r, .int .i64 0] ∧ BytesL H' r (gauss cols (a ++ b))) := by
  have hs := HS.init h0
  have hle := Hp.le.refl H0
  obtain ⟨ca, ha1, ha2, ha3⟩ := ha
  obtain ⟨cb, hb1, hb2, hb3⟩ := hb
  have hvl : ValsL H0 v [ca, cb] := ⟨[va, vb], hv, rfl, fun i hi hi' => by
    match i, hi with
    | 0, _ => exact ha2 ▸ ha1
    | 1, _ => exact hb2 ▸ hb1⟩
  have hall : ∀ l ∈ [ca, cb], l.all (·.oneCell') = true := by
    intro l hl
    rcases List.mem_cons.1 hl with rfl | hl
    · exact cells_all ha2 ha3
    · rw [List.mem_singleton.1 hl]; exact cells_all hb2 hb3
  have hfl : [ca, cb].flatten = ca ++ cb := by simp
  obtain ⟨b1, c1, rfl⟩ := hv.form
  refine Calls.enter (args := [.slice b1 2 c1]) Try.func55 rfl Try.ntmps55 rfl ?_
  refine WC.seq (WC.region (WO.step rfl (OR.assign rfl (WO.step rfl (OR.assign rfl (WO.done (WX.seq ?_)))))))
  refine WC.seq (WC.region (WO.step rfl (OR.move rfl ?_)))
  refine WO.step rfl (OR.call hs body80 rfl rfl (concatL_ok _ [ca, cb] _ _ hs.toSub hvl hall (by rw [hfl, List.length_append, ha2, hb2, ← List.length_append]; exact h2) (by simp)) ?_)
  clear hs; rintro vr H w hs hle1 hr
  rw [hfl] at hr
  have hrl : BytesL H vr (a ++ b) := ⟨ca ++ cb, by rw [List.length_append, ← ha2, ← hb2, ← List.length_append]; exact hr, by rw [List.length_append, List.length_append, ha2, hb2], fun i hi hi' => by
    by_cases e : i < a.length
    · rw [List.getElem_append_left (by omega), List.getElem_append_left e]
      exact (ha3 i e (by omega)).mono hle1
    · rw [List.getElem_append_right (by omega), List.getElem_append_right (by omega)]
      have h9 := hb3 (i - a.length) (by rw [List.length_append] at hi; omega) (by rw [List.length_append] at hi; omega)
      simp only [ha2]
      exact h9.mono hle1⟩
  replace hle := hle.trans hle1
  refine WO.step rfl (OR.call hs body56 rfl rfl (reduceM_ok vr (a ++ b) cols _ _ hs.toSub hrl h1 h2 hR hcols) ?_)
  clear hs; rintro _ H w hs hle1 ⟨r, rfl, hr2⟩
  refine WO.step rfl (OR.extract rfl rfl (WO.step rfl (OR.extract rfl rfl (WO.step rfl (OR.assign rfl (WO.step rfl (OR.assign rfl ?_)))))))
  refine WO.done (WX.seq (WC.ret ?_))
  refine WX.ret2 rfl rfl rfl ?_
  exact .mk hs ⟨r, rfl, hr2⟩
end Go.Bw
