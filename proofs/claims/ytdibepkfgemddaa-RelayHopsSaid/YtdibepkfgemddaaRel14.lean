/- The statements on relays: what their own small functions do. -/
import Derived.Test.YtdibepkfgemddaaRel1
import Derived.Test.YtdibepkfgemddaaRel6
namespace Go.Bw
set_option linter.unusedVariables false
set_option linter.unusedSimpArgs false
open Go.Proofs

set_option maxRecDepth 20000 in
set_option maxHeartbeats 2000000 in
theorem isTrue_ok (rc rp vl : Value) (ll : List (List UInt8)) (r : RowD) (s : Nat) (H0 : Hp) (w0 : World) (h0 : Sub H0 w0) (hc : Bytes H0 rc r.1) (hp : Bytes H0 rp r.2) (hl : BytesL H0 vl ll) (hne : 0 < ll.length) (hrow : ∀ y ∈ ll, y.length = s) (hs1 : s ≤ 65535) (hs2 : ll.length ≤ 255)
    (hlen : ll.length = r.1.length) (ht : r.2 = comb s ll r.1) :
    Calls Try.prog 21 #[.agg #[rc, rp], vl] w0 (Pure H0 w0 fun v _ => v = .bool true) := by
  have hs := HS.init h0
  have hle := Hp.le.refl H0
  obtain ⟨b1, c1, hf1⟩ := hc.form
  obtain ⟨b2, c2, hf2⟩ := hp.form
  subst hf1 hf2
  refine Calls.enter (args := [.agg #[.slice b1 r.1.length c1, .slice b2 r.2.length c2], vl]) Try.func21 rfl Try.ntmps21 rfl ?_
  refine WC.seq (WC.region (WO.step rfl (OR.box hs rfl ?_)))
  clear hs; intro g1 w hg1 hs
  refine WO.step rfl (OR.assign rfl (WO.done (WX.seq (WC.seq (WC.region (WO.step rfl (OR.move rfl ?_)))))))
  refine WO.step rfl (OR.fieldAddr FA39_0 rfl (WO.step rfl (OR.load T37 rfl rfl (hs.cellM (i := 0) rfl rfl) ?_)))
  refine WO.step rfl (OR.call hs body38 rfl rfl (combine_ok _ _ ll r.1 s _ _ hs.toSub hl hc hne hrow (by omega) (by omega)) ?_)
  clear hs; rintro _ H w hs hle1 ⟨p, rfl, hpb⟩
  rw [if_pos hlen] at hpb
  rw [if_pos hlen]
  obtain ⟨b3, c3, hf3⟩ := hpb.form
  subst hf3
  refine WO.step rfl (OR.move rfl (WO.step rfl (OR.extract rfl rfl (WO.step rfl (OR.extract rfl rfl (WO.step rfl (OR.assign rfl ?_)))))))
  refine WO.step rfl (OR.assign rfl (WO.done (WX.seq (WC.seq (WC.region (WO.step rfl (OR.move rfl ?_)))))))
  refine WO.step rfl (OR.eql rfl rfl (WO.step rfl (OR.move rfl ?_)))
  refine WO.guardYes rfl rfl rfl rfl (OR.move rfl ?_)
  refine WO.guardYes rfl rfl rfl rfl (OR.toStr hs T37.und T9.und T5.und rfl hpb ?_)
  refine WO.guardYes rfl rfl rfl rfl (OR.fieldAddr FA39_1 rfl (WO.guardYes rfl rfl rfl rfl (OR.load T37 rfl rfl (hs.cellM (i := 0) rfl rfl) ?_)))
  refine WO.guardYes rfl rfl rfl rfl (OR.toStr hs T37.und T9.und T5.und rfl (hp.mono hle1) ?_)
  refine WO.guardYes rfl rfl rfl rfl (OR.eqlStr rfl rfl (WO.step rfl (OR.pickT rfl rfl rfl (WO.step rfl (OR.assign rfl (WO.done (WX.seq ?_)))))))
  refine WC.ret ?_
  refine WX.ret1 rfl rfl ?_
  refine .mk (hs.drop 0) ?_
  rw [ht]
  exact congrArg _ (decide_eq_true rfl)
set_option maxRecDepth 20000 in
set_option maxHeartbeats 2000000 in
theorem coefs14_ok (vl : Value) (rows : List RowD) (H0 : Hp) (w0 : World) (h0 : Sub H0 w0) (hv : Rws H0 vl rows) (hlen : rows.length ≤ 100000) :
    Calls Try.prog 23 #[vl] w0 (Pure H0 w0 fun v H' => BytesL H' v (rows.map (·.1))) := by
  have hs := HS.init h0
  obtain ⟨cs, hsl, hro⟩ := hv
  obtain ⟨b1, c1, rfl⟩ := hsl.form
  refine Calls.enter (args := [.slice b1 rows.length c1]) Try.func23 rfl Try.ntmps23 rfl ?_
  have hv : Rws H0 (.slice b1 rows.length c1) rows := ⟨cs, hsl, hro⟩
  clear hro hsl
  refine WC.seq (WC.region (WO.step rfl (OR.assign rfl (WO.done (WX.seq (WC.seq (WC.region ?_)))))))
  refine WO.step rfl (OR.assign rfl (WO.done (WX.seq (WC.seq (WC.seq (WC.region (WO.step rfl ?_)))))))
  refine OR.assign rfl (WO.done (WX.seq (WC.block ?_)))
  refine WC.loop (ι := Nat × Value) (fun ix => [(0, .slice b1 rows.length c1), (3, ix.2), (4, .int .i64 (ix.1 : Int))]) (fun ix w => (ix.1 ≤ rows.length ∧ ∃ H cs Mo, Hp.le H0 H ∧ BLOk H cs ((rows.take ix.1).map (·.1)) ∧ Own w0.heap.size 37 1 ix.2 ix.1 cs Mo ∧ HS [] H0 w0 H Mo w)) (fun ix => rows.length - ix.1) (0, .slice none 0 0) ⟨rfl, rfl, rfl,  trivial⟩ ?_ (fun ix w hW => ?_)
  · exact ⟨by omega, H0, [], [], Hp.le.refl _, BLOk.nil _, Own.nil _ _ _, hs⟩
  clear hs
  obtain ⟨k, vo⟩ := ix
  obtain ⟨hk, H, cs, Mo, hle, hok, ho, hs⟩ := hW
  simp only at hk hok ho
  refine WC.seq (WC.seq (WC.region (WO.step rfl (OR.move rfl (WO.step rfl (OR.move rfl (WO.step rfl ?_)))))))
  refine OR.lenSlice T50.und rfl (WO.step rfl (OR.lss rfl rfl (WO.done (WX.seq ?_))))
  refine WC.condD rfl (fun hlt => ?_) (fun hlt => ?_)
  · have hk' : k < rows.length := by omega
    obtain ⟨xb, xo, rfl, hcr⟩ := hv.pos (by omega)
    obtain ⟨ec, ep, hcc, hec, hep⟩ := hcr k hk'
    obtain ⟨b2, c2, rfl⟩ := hec.form
    refine WC.skip (WX.seq (WC.seq (WC.block (WC.region (WO.step rfl (OR.move rfl (WO.step rfl ?_)))))))
    refine OR.move rfl (WO.step rfl (OR.move rfl ?_))
    refine WO.step rfl (OR.idxN k T50.und T39 rfl rfl rfl hk' ?_)
    refine WO.step rfl (OR.fieldAddr FA39_0 rfl ?_)
    refine WO.step rfl (OR.load T37 rfl rfl (hs.cell (hcell.mono hle (hcc 0 _ rfl))) ?_)
    refine WO.step rfl (OR.buildSlice (vs := [_]) hs T31.und T37 rfl rfl rfl rfl (by simp) ?_)
    clear hs; intro g2 w hg2 hs
    obtain ⟨H, hle1, hp_g2, hs9⟩ := hs.pub1 hg2; clear hs; have hs := hs9; clear hs9; replace hle := hle.trans hle1; (try replace hlb := hlb.trans hle1)
    have hone : Sl H 1 (.slice (some ⟨g2, 0, none⟩) 1 1) 1 [.slice b2 rows[k].1.length c2] := Sl.block hp_g2 rfl rfl (by simp)
    have hs9 : HS [] H0 w0 H (Mo ++ []) w := by rw [List.append_nil]; exact hs
    refine WO.step rfl (OR.append (m := 1) (news := [_]) (Mo := Mo) (M := []) hs9 ho T31.und T37 rfl (by omega) rfl rfl rfl (Sl.src hone hs) (Sl.src0 hone) rfl (by omega) (by omega) ?_)
    clear hs hs9 ho; intro vo' w Mo' hs ho hge
    rw [List.append_nil] at hs
    refine WO.step rfl (OR.assign rfl (WO.done (WX.block (WX.seq (WC.region (WO.step rfl (OR.move rfl ?_)))))))
    refine WO.step rfl (OR.addI rfl rfl (by omega) (by omega) (WO.step rfl (OR.assign rfl (WO.done ?_))))
    refine WX.again ((k + 1, vo')) ⟨rfl, rfl, rfl,  trivial⟩ ?_ ?_
    · refine ⟨hk', H, cs ++ [_], Mo', hle, ?_, ho, hs⟩
      rw [List.take_succ_eq_append_getElem hk', List.map_append]
      exact (hok.mono hle1).snoc (hec.mono hle)
    · simp only; omega
  · have e : k = rows.length := by omega
    subst e
    refine WC.exit (WX.seq_exit (WX.loop_exit (WX.block_hit (WX.seq (WC.seq (WC.region (WO.step rfl ?_)))))))
    refine OR.move rfl (WO.step rfl (OR.assign rfl (WO.done (WX.seq (WC.ret ?_)))))
    refine WX.ret1 rfl rfl ?_
    obtain ⟨H2, hle2, hs2, hsl, _⟩ := HS.pub (M := []) (by rw [List.append_nil]; exact hs) ho
    rw [List.take_of_length_le (Nat.le_refl _)] at hok
    exact .mk hs2 ((hok.mono hle2).bytesL (by simpa using hsl))
set_option maxRecDepth 20000 in
set_option maxHeartbeats 2000000 in
theorem truth14_ok (vb vl : Value) (b : List UInt8) (ll : List (List UInt8)) (s : Nat) (H0 : Hp) (w0 : World) (h0 : Sub H0 w0) (hb : Bytes H0 vb b) (hl : BytesL H0 vl ll) (hne : 0 < ll.length) (hrow : ∀ y ∈ ll, y.length = s) (hs1 : s ≤ 65535) (hs2 : ll.length ≤ 255) (hbl : b.length ≤ 9223372036854775807) :
    Calls Try.prog 17 #[vb, vl] w0 (Pure H0 w0 fun v H' => RowV H' v (padTo ll.length b, comb s ll (padTo ll.length b))) := by
  have hs := HS.init h0
  have hle := Hp.le.refl H0
  obtain ⟨b1, c1, hf1⟩ := hb.form
  obtain ⟨b2, c2, hf2⟩ := hl.form
  subst hf1 hf2
  refine Calls.enter (args := [.slice b1 b.length c1, .slice b2 ll.length c2]) Try.func17 rfl Try.ntmps17 rfl ?_
  refine WC.seq (WC.region (WO.step rfl (OR.alloc hs T39 ?_)))
  clear hs; intro g1 w hg1 hs
  refine WO.done (WX.seq (WC.seq (WC.region (WO.step rfl (OR.move rfl (WO.step rfl (OR.lenSlice T31.und rfl ?_)))))))
  refine WO.step rfl (OR.make1 hs T37.und T5 rfl rfl rfl (by omega) (by omega) ?_)
  clear hs; intro g2 w hg2 hs
  refine WO.step rfl (OR.assign rfl (WO.done (WX.seq (WC.seq (WC.region (WO.step rfl (OR.move rfl ?_)))))))
  refine WO.step rfl (OR.move rfl ?_)
  refine WO.step rfl (OR.copyO hs ((b.take ll.length).map B) T37.und T5 rfl rfl (by rw [List.length_map, List.length_take, natmin (c := min ll.length b.length) (by omega)]; omega) (Sl.src0 hb) (fun q hq j u hj => Sl.src hb hs q hq j u (by rw [List.map_take] at hj; exact get_take hj)) (by simp; omega) (bytes_one _) ?_)
  clear hs; intro w hs
  replace hs : HS [] H0 w0 H0 ((g2, .cells ((padTo ll.length b).map B).toArray 5, true) :: [(g1, .cells #[.slice none 0 0, .slice none 0 0] 39, true)]) w := by rw [← padTo_cells]; exact hs
  refine WO.done (WX.seq (WC.seq (WC.region (WO.step rfl (OR.move rfl (WO.step rfl (OR.move rfl ?_)))))))
  obtain ⟨H, hle1, hp_g2, hs9⟩ := hs.pub1 hg2; clear hs; have hs := hs9; clear hs9; replace hle := hle.trans hle1; (try replace hlb := hlb.trans hle1)
  have hx2 := Bytes.block (l := padTo ll.length b) (cap := ll.length) hp_g2 (by rw [padTo_length]; exact List.take_of_length_le (by simp [padTo_length])) (by simp [padTo_length])
  rw [padTo_length] at hx2
  refine WO.step rfl (OR.call hs body38 rfl rfl (combine_ok _ _ ll (padTo ll.length b) s _ _ hs.toSub (hl.mono hle) hx2 hne hrow (by omega) (by omega)) ?_)
  clear hs; rintro _ H w hs hle1 ⟨p, rfl, hpb⟩
  rw [if_pos (padTo_length _ _).symm] at hpb
  obtain ⟨b3, c3, hf3⟩ := hpb.form
  subst hf3
  refine WO.step rfl (OR.move rfl (WO.step rfl (OR.extract rfl rfl (WO.step rfl (OR.extract rfl rfl (WO.step rfl (OR.assign rfl ?_)))))))
  refine WO.step rfl (OR.assign rfl (WO.done (WX.seq (WC.seq (WC.region (WO.step rfl (OR.move rfl ?_)))))))
  refine WO.step rfl (OR.move rfl (WO.step rfl (OR.buildAll T39 rfl rfl PL39 rfl rfl (WO.stepN (OR.storeAll hs T39 rfl rfl rfl rfl rfl ?_)))))
  clear hs; intro w hs
  refine WO.done (WX.seq (WC.ret ?_))
  refine WX.retCell T39 rfl rfl rfl rfl (hs.blk (i := 0) rfl) ?_
  exact .mk (hs.drop 0) ⟨_, _, rfl, hx2.mono hle1, hpb⟩
end Go.Bw
namespace Go.Bw
set_option linter.unusedVariables false
set_option linter.unusedSimpArgs false
open Go.Proofs

theorem padTo_takeS {n k : Nat} {l : List UInt8} (hk : k < n) (hl : k < l.length) : (padTo n (l.take k)).set k l[k] = padTo n (l.take (k + 1)) := by
  have h0 : (l.take k).length = k := by rw [List.length_take]; omega
  have h1 : padTo n (l.take k) = l.take k ++ (0 :: List.replicate (n - k - 1) 0) := by
    unfold padTo
    rw [List.take_of_length_le (by omega), h0, ← List.replicate_succ, show n - k - 1 + 1 = n - k by omega]
  have h2 : padTo n (l.take (k + 1)) = l.take (k + 1) ++ List.replicate (n - k - 1) 0 := by
    unfold padTo
    have h3 : (l.take (k + 1)).length = k + 1 := by rw [List.length_take]; omega
    rw [List.take_of_length_le (by omega), h3, show n - k - 1 = n - (k + 1) by omega]
  rw [h1, h2, List.set_append_right _ _ (by omega), h0, Nat.sub_self, List.set_cons_zero, List.take_add_one, List.getElem?_eq_getElem hl, List.append_assoc]
  rfl
theorem setL_one2 (l : List Value) (k : Nat) (v : Value) : setL l k [v] = l.set k v := by rw [setL_step, setL_nil]
def symsF (g s : Nat) (b : List UInt8) : List (List UInt8) := (List.range g).map fun i => padTo s (b.drop (i * s))
theorem symsF_len (g s : Nat) (b : List UInt8) : (symsF g s b).length = g := by simp [symsF]
theorem symsF_row (g s : Nat) (b : List UInt8) : ∀ r ∈ symsF g s b, r.length = s := by
  intro r hr
  obtain ⟨i, _, rfl⟩ := List.mem_map.1 hr
  exact padTo_length _ _
set_option maxRecDepth 20000 in
set_option maxHeartbeats 2000000 in
theorem symbols14_ok (vb : Value) (b : List UInt8) (g s : Nat) (H0 : Hp) (w0 : World) (h0 : Sub H0 w0) (hb : Bytes H0 vb b) (hg : g ≤ 5) (hs1 : s ≤ 5) :
    Calls Try.prog 16 #[vb, .int .i64 (g : Int), .int .i64 (s : Int)] w0 (Pure H0 w0 fun v H' => BytesL H' v (symsF g s b)) := by
  have hs := HS.init h0
  have hle := Hp.le.refl H0
  obtain ⟨b1, c1, hf1⟩ := hb.form
  subst hf1
  refine Calls.enter (args := [.slice b1 b.length c1, .int .i64 (g : Int), .int .i64 (s : Int)]) Try.func16 rfl Try.ntmps16 rfl ?_
  refine WC.seq (WC.region (WO.step rfl (OR.assign rfl (WO.done (WX.seq (WC.seq (WC.region ?_)))))))
  refine WO.step rfl (OR.assign rfl (WO.done (WX.seq (WC.seq (WC.seq (WC.region (WO.step rfl ?_)))))))
  refine OR.assign rfl (WO.done (WX.seq (WC.block ?_)))
  refine WC.loop (ι := Nat × Value) (fun ix => [(0, .slice b1 b.length c1), (1, .int .i64 (g : Int)), (2, .int .i64 (s : Int)), (7, ix.2), (8, .int .i64 (ix.1 : Int))]) (fun ix w => (ix.1 ≤ g ∧ ∃ H cs Mo, Hp.le H0 H ∧ BLOk H cs (symsF ix.1 s b) ∧ Own w0.heap.size 37 1 ix.2 ix.1 cs Mo ∧ HS [] H0 w0 H Mo w)) (fun ix => g - ix.1) (0, .slice none 0 0) ⟨rfl, rfl, rfl, rfl, rfl,  trivial⟩ ?_ (fun ix w hW => ?_)
  · exact ⟨by omega, H0, [], [], Hp.le.refl _, BLOk.nil _, Own.nil _ _ _, hs⟩
  clear hs hle
  obtain ⟨i, vo⟩ := ix
  obtain ⟨hi, H, cs, Mo, hle, hok, ho, hs⟩ := hW
  simp only at hi hok ho
  refine WC.seq (WC.seq (WC.region (WO.step rfl (OR.move rfl (WO.step rfl (OR.move rfl (WO.step rfl ?_)))))))
  refine OR.lss rfl rfl (WO.done (WX.seq ?_))
  refine WC.condD rfl (fun hlt => ?_) (fun hlt => ?_)
  · have hi' : i < g := by omega
    have his : i * s ≤ 4 * 5 := Nat.mul_le_mul (by omega) hs1
    have hmi : (i : Int) * (s : Int) = ((i * s : Nat) : Int) := by simp
    generalize hD : i * s = d at *
    refine WC.skip (WX.seq (WC.seq (WC.block (WC.seq (WC.region (WO.step rfl (OR.move rfl ?_)))))))
    refine WO.step rfl (OR.make1 hs T37.und T5 rfl rfl rfl (by omega) (by omega) ?_)
    clear hs; intro g2 w hg2 hs
    refine WO.step rfl (OR.assign rfl (WO.done (WX.seq (WC.seq (WC.seq (WC.region (WO.step rfl ?_)))))))
    refine OR.assign rfl (WO.done (WX.seq (WC.block ?_)))
    refine WC.loop (ι := Nat) (fun k => [(0, .slice b1 b.length c1), (1, .int .i64 (g : Int)), (2, .int .i64 (s : Int)), (7, vo), (8, .int .i64 (i : Int)), (9, .slice (some ⟨g2, 0, none⟩) s s), (10, .int .i64 (k : Int))]) (fun k w => (k ≤ s ∧ (k = 0 ∨ d + k ≤ b.length) ∧ HS [] H0 w0 H ((g2, .cells ((padTo s ((b.drop d).take k)).map B).toArray 5, true) :: Mo) w)) (fun k => s - k) 0 ⟨rfl, rfl, rfl, rfl, rfl, rfl, rfl,  trivial⟩ ?_ (fun k w hW => ?_)
    · exact ⟨by omega, .inl rfl, by rw [List.take_zero, padTo_nil, List.map_replicate]; exact hs⟩
    clear hs
    obtain ⟨hk, hkd, hs⟩ := hW
    have fin : ∀ w, (k = s ∨ b.length ≤ d + k) → HS [] H0 w0 H ((g2, .cells ((padTo s ((b.drop d).take k)).map B).toArray 5, true) :: Mo) w → HS [] H0 w0 H ((g2, .cells ((padTo s (b.drop d)).map B).toArray 5, true) :: Mo) w := by
      intro w h hs
      have e : padTo s ((b.drop d).take k) = padTo s (b.drop d) := by
        rcases h with rfl | h
        · unfold padTo
          rw [List.take_take, Nat.min_self, List.length_take]
          congr 2
          omega
        · rw [List.take_of_length_le (by rw [List.length_drop]; omega)]
      rw [← e]
      exact hs
    refine WC.seq (WC.seq (WC.region (WO.step rfl (OR.move rfl (WO.step rfl (OR.move rfl (WO.step rfl ?_)))))))
    refine OR.lss rfl rfl (WO.step rfl (OR.move rfl ?_))
    refine WO.guardSplit (j := 3) rfl (fun hks => ?_) (fun hks => ?_)
    · refine WO.guardYes rfl (decide_eq_true hks) rfl rfl (OR.move rfl (WO.guardYes rfl (decide_eq_true hks) rfl rfl (OR.move rfl (WO.guardYes rfl (decide_eq_true hks) rfl rfl (OR.mulI rfl rfl (by omega) (by omega) (WO.guardYes rfl (decide_eq_true hks) rfl rfl (OR.move rfl ?_)))))))
      refine WO.guardYes rfl (decide_eq_true hks) rfl rfl (OR.addI rfl rfl (by omega) (by omega) (WO.guardYes rfl (decide_eq_true hks) rfl rfl (OR.move rfl (WO.guardYes rfl (decide_eq_true hks) rfl rfl (OR.lenSlice T37.und rfl (WO.guardYes rfl (decide_eq_true hks) rfl rfl (OR.lss rfl rfl ?_)))))))
      refine WO.step rfl (OR.pickT rfl (decide_eq_true hks) rfl (WO.done (WX.seq ?_)))
      refine WC.condD rfl (fun hin => ?_) (fun hin => ?_)
      · have hin' : d + k < b.length := by omega
        obtain ⟨xb, xo, rfl, hcb⟩ := hb.pos (by omega)
        refine WC.skip (WX.seq (WC.seq (WC.block (WC.region (WO.step rfl (OR.move rfl (WO.step rfl ?_)))))))
        refine OR.move rfl (WO.step rfl (OR.move rfl (WO.step rfl (OR.move rfl (WO.step rfl (OR.move rfl (WO.step rfl ?_)))))))
        refine OR.mulI rfl rfl (by omega) (by omega) (WO.step rfl (OR.move rfl (WO.step rfl (OR.addI rfl rfl (by omega) (by omega) ?_))))
        rw [show (i : Int) * (s : Int) + (k : Int) = ((d + k : Nat) : Int) by omega]
        refine WO.step rfl (OR.idx (d + k) T37.und T5 rfl rfl rfl hin' ?_)
        refine WO.step rfl (OR.load T5 rfl rfl (hs.cell (hcell.mono hle (hcb (d + k) hin'))) ?_)
        refine WO.step rfl (OR.idx k T37.und T5 rfl rfl rfl (by omega) ?_)
        refine WO.stepN (OR.store hs T5 rfl rfl rfl (by simp [padTo_length]; omega) rfl ?_)
        clear hs; intro w hs
        refine WO.done (WX.block (WX.seq (WC.region (WO.step rfl (OR.move rfl (WO.step rfl (OR.addI rfl rfl (by omega) (by omega) ?_)))))))
        refine WO.step rfl (OR.assign rfl (WO.done ?_))
        refine WX.again (k + 1) ⟨rfl, rfl, rfl, rfl, rfl, rfl, rfl,  trivial⟩ ?_ ?_
        · refine ⟨by omega, .inr (by omega), ?_⟩
          have hkd2 : k < (b.drop d).length := by rw [List.length_drop]; omega
          have e9 := padTo_takeS (n := s) (l := b.drop d) (by omega) hkd2
          rw [← e9, List.map_set]
          have e8 : (b.drop d)[k] = b[d + k] := by simp
          rw [e8, ← setL_one2]
          rw [Nat.zero_add] at hs
          exact hs
        · omega
      · replace hs := fin _ (.inr (by omega)) hs
        refine WC.exit (WX.seq_exit (WX.loop_exit (WX.block_hit (WX.seq (WC.region (WO.step rfl (OR.move rfl ?_)))))))
        refine WO.step rfl (OR.move rfl ?_)
        obtain ⟨H, hle1, hp_g2, hs9⟩ := hs.pub1 hg2; clear hs; have hs := hs9; clear hs9; replace hle := hle.trans hle1; (try replace hlb := hlb.trans hle1)
        have hx2 := Bytes.block (l := padTo s (b.drop d)) (cap := s) hp_g2 (by rw [padTo_length]; exact List.take_of_length_le (by simp [padTo_length])) (by simp [padTo_length])
        rw [padTo_length] at hx2
        refine WO.step rfl (OR.buildSlice (vs := [_]) hs T31.und T37 rfl rfl rfl rfl (by simp) ?_)
        clear hs; intro g3 w hg3 hs
        have hll := hle1
        obtain ⟨H, hle1, hp_g3, hs9⟩ := hs.pub1 hg3; clear hs; have hs := hs9; clear hs9; replace hle := hle.trans hle1; (try replace hlb := hlb.trans hle1)
        have hone : Sl H 1 (.slice (some ⟨g3, 0, none⟩) 1 1) 1 [.slice (some ⟨g2, 0, none⟩) s s] := Sl.block hp_g3 rfl rfl (by simp)
        have hs9 : HS [] H0 w0 H (Mo ++ []) w := by rw [List.append_nil]; exact hs
        refine WO.step rfl (OR.append (m := 1) (news := [_]) (Mo := Mo) (M := []) hs9 ho T31.und T37 rfl (by omega) rfl rfl rfl (Sl.src hone hs) (Sl.src0 hone) rfl (by omega) (by omega) ?_)
        clear hs hs9 ho; intro vo' w Mo' hs ho hge
        rw [List.append_nil] at hs
        refine WO.step rfl (OR.assign rfl (WO.done (WX.block (WX.seq (WC.region (WO.step rfl (OR.move rfl ?_)))))))
        refine WO.step rfl (OR.addI rfl rfl (by omega) (by omega) (WO.step rfl (OR.assign rfl (WO.done ?_))))
        refine WX.again ((i + 1, vo')) ⟨rfl, rfl, rfl, rfl, rfl,  trivial⟩ ?_ ?_
        · refine ⟨hi', H, cs ++ [_], Mo', hle, ?_, ho, hs⟩
          have e9 : symsF (i + 1) s b = symsF i s b ++ [padTo s (b.drop d)] := by rw [symsF, List.range_succ, List.map_append, List.map_cons, List.map_nil, hD]; rfl
          rw [e9]
          exact (hok.mono (hll.trans hle1)).snoc (hx2.mono hle1)
        · simp only; omega
    · replace hs := fin _ (.inl (by omega)) hs
      refine WO.guardNo rfl (decide_eq_false hks) rfl rfl (WO.guardNo rfl (decide_eq_false hks) rfl rfl (WO.guardNo rfl (decide_eq_false hks) rfl rfl (WO.guardNo rfl (decide_eq_false hks) rfl rfl (WO.guardNo rfl (decide_eq_false hks) rfl rfl (WO.guardNo rfl (decide_eq_false hks) rfl rfl (WO.guardNo rfl (decide_eq_false hks) rfl rfl (WO.guardNo rfl (decide_eq_false hks) rfl rfl ?_)))))))
      refine WO.step rfl (OR.pickF rfl (decide_eq_false hks) rfl (WO.done (WX.seq (WC.no rfl rfl (WC.exit (WX.seq_exit (WX.loop_exit ?_)))))))
      refine WX.block_hit (WX.seq (WC.region (WO.step rfl (OR.move rfl (WO.step rfl (OR.move rfl ?_))))))
      obtain ⟨H, hle1, hp_g2, hs9⟩ := hs.pub1 hg2; clear hs; have hs := hs9; clear hs9; replace hle := hle.trans hle1; (try replace hlb := hlb.trans hle1)
      have hx2 := Bytes.block (l := padTo s (b.drop d)) (cap := s) hp_g2 (by rw [padTo_length]; exact List.take_of_length_le (by simp [padTo_length])) (by simp [padTo_length])
      rw [padTo_length] at hx2
      refine WO.step rfl (OR.buildSlice (vs := [_]) hs T31.und T37 rfl rfl rfl rfl (by simp) ?_)
      clear hs; intro g3 w hg3 hs
      have hll := hle1
      obtain ⟨H, hle1, hp_g3, hs9⟩ := hs.pub1 hg3; clear hs; have hs := hs9; clear hs9; replace hle := hle.trans hle1; (try replace hlb := hlb.trans hle1)
      have hone : Sl H 1 (.slice (some ⟨g3, 0, none⟩) 1 1) 1 [.slice (some ⟨g2, 0, none⟩) s s] := Sl.block hp_g3 rfl rfl (by simp)
      have hs9 : HS [] H0 w0 H (Mo ++ []) w := by rw [List.append_nil]; exact hs
      refine WO.step rfl (OR.append (m := 1) (news := [_]) (Mo := Mo) (M := []) hs9 ho T31.und T37 rfl (by omega) rfl rfl rfl (Sl.src hone hs) (Sl.src0 hone) rfl (by omega) (by omega) ?_)
      clear hs hs9 ho; intro vo' w Mo' hs ho hge
      rw [List.append_nil] at hs
      refine WO.step rfl (OR.assign rfl (WO.done (WX.block (WX.seq (WC.region (WO.step rfl (OR.move rfl ?_)))))))
      refine WO.step rfl (OR.addI rfl rfl (by omega) (by omega) (WO.step rfl (OR.assign rfl (WO.done ?_))))
      refine WX.again ((i + 1, vo')) ⟨rfl, rfl, rfl, rfl, rfl,  trivial⟩ ?_ ?_
      · refine ⟨hi', H, cs ++ [_], Mo', hle, ?_, ho, hs⟩
        have e9 : symsF (i + 1) s b = symsF i s b ++ [padTo s (b.drop d)] := by rw [symsF, List.range_succ, List.map_append, List.map_cons, List.map_nil, hD]; rfl
        rw [e9]
        exact (hok.mono (hll.trans hle1)).snoc (hx2.mono hle1)
      · simp only; omega
  · have e : i = g := by omega
    subst e
    refine WC.exit (WX.seq_exit (WX.loop_exit (WX.block_hit (WX.seq (WC.seq (WC.region (WO.step rfl ?_)))))))
    refine OR.move rfl (WO.step rfl (OR.assign rfl (WO.done (WX.seq (WC.ret ?_)))))
    refine WX.ret1 rfl rfl ?_
    obtain ⟨H2, hle2, hs2, hsl, _⟩ := HS.pub (M := []) (by rw [List.append_nil]; exact hs) ho
    exact .mk hs2 ((hok.mono hle2).bytesL (by simpa [symsF] using hsl))
end Go.Bw
namespace Go.Bw
set_option linter.unusedVariables false
set_option linter.unusedSimpArgs false
open Go.Proofs

set_option maxRecDepth 20000 in
set_option maxHeartbeats 2000000 in
theorem row14_ok (p : UInt8) (vc : Value) (c : List UInt8) (H0 : Hp) (w0 : World) (h0 : Sub H0 w0) (hc : Bytes H0 vc c) :
    Calls Try.prog 50 #[B p, vc] w0 (Pure H0 w0 fun v H' => RowV H' v (c, [p])) := by
  have hs := HS.init h0
  have hle := Hp.le.refl H0
  obtain ⟨b1, c1, hf1⟩ := hc.form
  subst hf1
  refine Calls.enter (args := [B p, .slice b1 c.length c1]) Try.func50 rfl Try.ntmps50 rfl ?_
  refine WC.seq (WC.region (WO.step rfl (OR.alloc hs T39 ?_)))
  clear hs; intro g1 w hg1 hs
  refine WO.done (WX.seq (WC.seq (WC.region (WO.step rfl (OR.move rfl (WO.step rfl (OR.move rfl ?_)))))))
  refine WO.step rfl (OR.buildSlice (vs := [B p]) hs T37.und T5 rfl rfl rfl rfl (by simp) ?_)
  clear hs; intro g2 w hg2 hs
  refine WO.step rfl (OR.buildAll T39 rfl rfl PL39 rfl rfl ?_)
  replace hs := hs.front (i := 1) rfl
  refine WO.stepN (OR.storeAll hs T39 rfl rfl rfl rfl rfl ?_)
  clear hs; intro w hs
  refine WO.done (WX.seq (WC.ret ?_))
  replace hs := hs.front (i := 1) rfl
  obtain ⟨H, hle1, hp_g2, hs9⟩ := hs.pub1 hg2; clear hs; have hs := hs9; clear hs9; replace hle := hle.trans hle1; (try replace hlb := hlb.trans hle1)
  have hp : Bytes H (.slice (some ⟨g2, 0, none⟩) 1 1) [p] := Bytes.block (l := [p]) (cap := 1) hp_g2 rfl (by simp)
  refine WX.retCell T39 rfl rfl rfl rfl (hs.blk (i := 0) rfl) ?_
  exact .mk (hs.drop 0) ⟨_, _, rfl, hc.mono hle, hp⟩
set_option maxRecDepth 20000 in
set_option maxHeartbeats 2000000 in
theorem is14_ok (rc rp : Value) (r : RowD) (p : UInt8) (c : List UInt8) (H0 : Hp) (w0 : World) (h0 : Sub H0 w0) (hc : Bytes H0 rc r.1) (hp : Bytes H0 rp r.2) (h1 : r.1 = c) (h2 : r.2 = [p]) :
    Calls Try.prog 51 #[.agg #[rc, rp], .int .i64 0, B p, .string (str c)] w0 (Pure H0 w0 fun v _ => v = .bool true) := by
  have hs := HS.init h0
  have hle := Hp.le.refl H0
  obtain ⟨r1, r2⟩ := r
  simp only at h1 h2 hc hp
  subst h1 h2
  obtain ⟨b1, c1, hf1⟩ := hc.form
  subst hf1
  obtain ⟨b2, c2, hf2⟩ := hp.form
  subst hf2
  obtain ⟨xb, xo, rfl, hcp⟩ := hp.pos (by simp)
  have hcp0 := hcp 0 (by simp)
  refine Calls.enter (args := [.agg #[.slice b1 r1.length c1, .slice (some ⟨xb, xo, none⟩) [p].length c2], .int .i64 0, B p, .string (str r1)]) Try.func51 rfl Try.ntmps51 rfl ?_
  refine WC.seq (WC.region (WO.step rfl (OR.box hs rfl ?_)))
  clear hs; intro g1 w hg1 hs
  refine WO.step rfl (OR.assign rfl (WO.done (WX.seq (WC.seq (WC.region (WO.step rfl (OR.move rfl ?_)))))))
  refine WO.step rfl (OR.eql rfl rfl (WO.step rfl (OR.move rfl ?_)))
  refine WO.guardYes rfl rfl rfl rfl (OR.fieldAddr FA39_0 rfl (WO.guardYes rfl rfl rfl rfl (OR.load T37 rfl rfl (hs.cellM (i := 0) rfl rfl) ?_)))
  refine WO.guardYes rfl rfl rfl rfl (OR.toStr hs T37.und T9.und T5.und rfl hc ?_)
  refine WO.guardYes rfl rfl rfl rfl (OR.move rfl (WO.guardYes rfl rfl rfl rfl (OR.eqlStr rfl rfl (WO.step rfl (OR.pickT rfl rfl rfl (WO.step rfl (OR.move rfl ?_)))))))
  refine WO.guardYes rfl (decide_eq_true rfl) rfl rfl (OR.fieldAddr FA39_1 rfl (WO.guardYes rfl (decide_eq_true rfl) rfl rfl (OR.load T37 rfl rfl (hs.cellM (i := 0) rfl rfl) (WO.guardYes rfl (decide_eq_true rfl) rfl rfl (OR.lenSlice T37.und rfl (WO.guardYes rfl (decide_eq_true rfl) rfl rfl (OR.eql rfl rfl ?_)))))))
  refine WO.step rfl (OR.pickT rfl (decide_eq_true rfl) rfl (WO.step rfl (OR.move rfl ?_)))
  refine WO.guardYes rfl rfl rfl rfl (OR.fieldAddr FA39_1 rfl (WO.guardYes rfl rfl rfl rfl (OR.load T37 rfl rfl (hs.cellM (i := 0) rfl rfl) ?_)))
  refine WO.guardYes rfl rfl rfl rfl (OR.idxN 0 T37.und T5 rfl rfl rfl (by simp) ?_)
  refine WO.guardYes rfl rfl rfl rfl (OR.load T5 rfl rfl (hs.cell (hcell.mono hle hcp0)) ?_)
  refine WO.guardYes rfl rfl rfl rfl (OR.move rfl (WO.guardYes rfl rfl rfl rfl (OR.eql rfl rfl (WO.step rfl (OR.pickT rfl rfl rfl (WO.step rfl (OR.assign rfl ?_)))))))
  refine WO.done (WX.seq (WC.ret ?_))
  refine WX.ret1 rfl rfl ?_
  exact .mk (hs.drop 0) (congrArg _ (decide_eq_true rfl))
end Go.Bw
namespace Go.Bw
set_option linter.unusedVariables false
set_option linter.unusedSimpArgs false
open Go.Proofs

theorem slots_newR (H : Hp) (g s width : Nat) : SlotsOk H (newR g s width) (List.replicate 16 none) := by
  refine ⟨by simp, fun i y hy => ?_⟩
  rw [List.getElem?_replicate] at hy
  split at hy
  · cases hy; rfl
  · cases hy
def wkA : RelD := (newR 2 1 4).take 0 ([1, 0], [5])
def wkB : RelD := wkA.take 0 ([2, 0], [10])
def wkC : RelD := wkB.take 4 ([1, 1], [9])
def wkD : RelD := wkC.moveTo 2
def wkE : RelD := wkD.take 4 ([1, 1], [9])
theorem wk_1 : (newR 2 1 4).takeI 0 ([1, 0], [5]) = true ∧ (newR 2 1 4).takeE 0 ([1, 0], [5]) = 0 ∧ wkA.takeI 0 ([2, 0], [10]) = false ∧ wkA.takeE 0 ([2, 0], [10]) = 0 ∧ wkB.takeE 4 ([1, 1], [9]) = 23 := by decide +kernel
theorem wk_2 : wkC.sndE 0 = 0 ∧ wkC.sndF 0 0 [] = ([1, 0], [5]) ∧ wkC.sndF 0 0 [3] = ([3, 0], [15]) ∧ wkC.sndE 1 = 6 := by decide +kernel
theorem wk_3 : wkD.takeI 4 ([1, 1], [9]) = true ∧ wkD.takeE 4 ([1, 1], [9]) = 0 ∧ (wkE.rk 0).length = 0 ∧ wkE.rks = [(4, 1)] := by decide +kernel
set_option maxRecDepth 20000 in
set_option maxHeartbeats 2000000 in
theorem wakes14_ok (H0 : Hp) (w0 : World) (h0 : Sub H0 w0) :
    Calls Try.prog 25 #[] w0 (Pure H0 w0 fun v _ => v = .bool true) := by
  have hs := HS.init h0
  have hle := Hp.le.refl H0
  have hok0 := newR_ok (g := 2) (s := 1) (width := 4) (by omega) (by omega)
  have hokA : RelOk wkA := hok0.take _ _
  have hokB : RelOk wkB := hokA.take _ _
  have hokC : RelOk wkC := hokB.take _ _
  have hokD : RelOk wkD := hokC.moveTo _
  have hokE : RelOk wkE := hokD.take _ _
  refine Calls.enter (args := []) Try.func25 rfl Try.ntmps25 rfl ?_
  refine WC.seq (WC.region (WO.step rfl (OR.assign rfl (WO.done (WX.seq (WC.seq (WC.region ?_)))))))
  refine WO.step rfl (OR.callX (Mx := []) (Mr := []) hs body8 rfl rfl (rnew_ok 2 1 4 _ _ hs.toSub (by omega) (by omega)) rfl rfl ?_)
  clear hs; rintro v H M w hs hle1 hnew ⟨hH, rb, wb, rfl, rfl⟩
  replace hs : HS [] H0 w0 H (relMem true (newR 2 1 4) rb wb (List.replicate 16 none)) w := by rw [List.append_nil] at hs; exact hs
  replace hle := hle.trans hle1
  refine WO.step rfl (OR.move rfl (WO.step rfl (OR.extract rfl rfl (WO.step rfl (OR.extract rfl rfl (WO.step rfl (OR.assign rfl ?_)))))))
  refine WO.step rfl (OR.assign rfl (WO.done (WX.seq (WC.seq (WC.region (WO.step rfl (OR.move rfl ?_)))))))
  refine WO.step rfl (OR.buildSlice (vs := [B 1, B 0]) hs T37.und T5 rfl rfl rfl rfl (by simp) ?_)
  clear hs; intro qa w hqa hs
  obtain ⟨H, hle1, hp_qa, hs9⟩ := hs.pub1 hqa; clear hs; have hs := hs9; clear hs9; replace hle := hle.trans hle1; (try replace hlb := hlb.trans hle1)
  have ha : Bytes H (.slice (some ⟨qa, 0, none⟩) 2 2) [1, 0] := Bytes.block (l := [1, 0]) hp_qa rfl (by simp)
  refine WO.step rfl (OR.call hs body50 rfl rfl (row14_ok 5 _ [1, 0] _ _ hs.toSub ha) ?_)
  clear hs; rintro _ H w hs hle1 ⟨rc1, rp1, rfl, hrc1, hrp1⟩
  replace hle := hle.trans hle1
  refine WO.step rfl (OR.callX (Mx := relMem true (newR 2 1 4) rb wb (List.replicate 16 none)) (Mr := ([] : Mem)) (HS.mtail (A := ([] : Mem)) hs) body12 rfl rfl (rtake_ok' rb wb 0 _ _ (newR 2 1 4) (List.replicate 16 none) ([1, 0], [5]) _ _ (HS.relRW (Mr := ([] : Mem)) (HS.mtail (A := ([] : Mem)) hs)) (slots_newR _ 2 1 4) hok0 (by omega) hrc1 hrp1) rfl (relMem_flags _ _ _ _) ?_)
  clear hs; rintro v H M w hs hle1 hnew ⟨rfl, l1, rfl, hx1⟩
  replace hs := HS.mtail (A := relMem true _ rb wb l1) (B := ([] : Mem)) hs
  replace hle := hle.trans hle1
  have hlb := Hp.le.refl H
  rw [wk_1.1, wk_1.2.1]
  refine WO.step rfl (OR.move rfl (WO.step rfl (OR.extract rfl rfl (WO.step rfl (OR.extract rfl rfl (WO.step rfl (OR.assign rfl ?_)))))))
  refine WO.step rfl (OR.assign rfl (WO.done (WX.seq (WC.seq (WC.region (WO.step rfl (OR.move rfl ?_)))))))
  refine WO.step rfl (OR.buildSlice (vs := [B 2, B 0]) hs T37.und T5 rfl rfl rfl rfl (by simp) ?_)
  clear hs; intro qb w hqb hs
  obtain ⟨H, hle1, hp_qb, hs9⟩ := hs.pub1 hqb; clear hs; have hs := hs9; clear hs9; replace hle := hle.trans hle1; (try replace hlb := hlb.trans hle1)
  have hb : Bytes H (.slice (some ⟨qb, 0, none⟩) 2 2) [2, 0] := Bytes.block (l := [2, 0]) hp_qb rfl (by simp)
  refine WO.step rfl (OR.call hs body50 rfl rfl (row14_ok 10 _ [2, 0] _ _ hs.toSub hb) ?_)
  clear hs; rintro _ H w hs hle1 ⟨rc2, rp2, rfl, hrc2, hrp2⟩
  replace hle := hle.trans hle1
  replace hlb := hlb.trans hle1
  refine WO.step rfl (OR.callX (Mx := relMem true wkA rb wb l1) (Mr := ([] : Mem)) (HS.mtail (A := ([] : Mem)) hs) body12 rfl rfl (rtake_ok' rb wb 0 _ _ wkA l1 ([2, 0], [10]) _ _ (HS.relRW (Mr := ([] : Mem)) (HS.mtail (A := ([] : Mem)) hs)) (hx1.mono hlb) hokA (by omega) hrc2 hrp2) rfl (relMem_flags _ _ _ _) ?_)
  clear hs; rintro v H M w hs hle1 hnew ⟨rfl, l2, rfl, hx2⟩
  replace hs := HS.mtail (A := relMem true _ rb wb l2) (B := ([] : Mem)) hs
  replace hle := hle.trans hle1
  have hlb := Hp.le.refl H
  rw [wk_1.2.2.1, wk_1.2.2.2.1]
  refine WO.step rfl (OR.move rfl (WO.step rfl (OR.extract rfl rfl (WO.step rfl (OR.extract rfl rfl (WO.step rfl (OR.assign rfl ?_)))))))
  refine WO.step rfl (OR.assign rfl (WO.done (WX.seq (WC.seq (WC.region (WO.step rfl (OR.move rfl ?_)))))))
  refine WO.step rfl (OR.buildSlice (vs := [B 1, B 1]) hs T37.und T5 rfl rfl rfl rfl (by simp) ?_)
  clear hs; intro qc w hqc hs
  obtain ⟨H, hle1, hp_qc, hs9⟩ := hs.pub1 hqc; clear hs; have hs := hs9; clear hs9; replace hle := hle.trans hle1; (try replace hlb := hlb.trans hle1)
  have hc : Bytes H (.slice (some ⟨qc, 0, none⟩) 2 2) [1, 1] := Bytes.block (l := [1, 1]) hp_qc rfl (by simp)
  refine WO.step rfl (OR.call hs body50 rfl rfl (row14_ok 9 _ [1, 1] _ _ hs.toSub hc) ?_)
  clear hs; rintro _ H w hs hle1 ⟨rc3, rp3, rfl, hrc3, hrp3⟩
  replace hle := hle.trans hle1
  replace hlb := hlb.trans hle1
  refine WO.step rfl (OR.callX (Mx := relMem true wkB rb wb l2) (Mr := ([] : Mem)) (HS.mtail (A := ([] : Mem)) hs) body12 rfl rfl (rtake_ok' rb wb 4 _ _ wkB l2 ([1, 1], [9]) _ _ (HS.relRW (Mr := ([] : Mem)) (HS.mtail (A := ([] : Mem)) hs)) (hx2.mono hlb) hokB (by omega) hrc3 hrp3) rfl (relMem_flags _ _ _ _) ?_)
  clear hs; rintro v H M w hs hle1 hnew ⟨rfl, l3, rfl, hx3⟩
  replace hs := HS.mtail (A := relMem true _ rb wb l3) (B := ([] : Mem)) hs
  replace hle := hle.trans hle1
  have hlb := Hp.le.refl H
  rw [wk_1.2.2.2.2]
  refine WO.step rfl (OR.move rfl (WO.step rfl (OR.extract rfl rfl (WO.step rfl (OR.extract rfl rfl (WO.step rfl (OR.assign rfl ?_)))))))
  refine WO.step rfl (OR.assign rfl (WO.done (WX.seq (WC.seq (WC.seq (WC.region (WO.step rfl ?_)))))))
  refine OR.move rfl (WO.step rfl (OR.neq rfl rfl (WO.step rfl (OR.move rfl ?_))))
  refine WO.guardYes rfl rfl rfl rfl (OR.move rfl (WO.guardYes rfl rfl rfl rfl (OR.neq rfl rfl (WO.step rfl (OR.pickF rfl rfl rfl (WO.step rfl (OR.move rfl ?_)))))))
  refine WO.guardYes rfl rfl rfl rfl (OR.move rfl (WO.guardYes rfl rfl rfl rfl (OR.not rfl (WO.step rfl (OR.pickF rfl rfl rfl (WO.step rfl (OR.move rfl ?_)))))))
  refine WO.guardYes rfl rfl rfl rfl (OR.move rfl (WO.guardYes rfl rfl rfl rfl (OR.neq rfl rfl (WO.step rfl (OR.pickF rfl rfl rfl (WO.step rfl (OR.move rfl ?_)))))))
  refine WO.guardYes rfl rfl rfl rfl (OR.move rfl (WO.step rfl (OR.pickF rfl rfl rfl (WO.step rfl (OR.move rfl (WO.guardYes rfl rfl rfl rfl (OR.move rfl ?_)))))))
  refine WO.guardYes rfl rfl rfl rfl (OR.neq rfl rfl (WO.step rfl (OR.pickF rfl rfl rfl (WO.done (WX.seq ?_)))))
  refine WC.no rfl rfl ?_
  refine WC.skip (WX.seq (WC.seq (WC.region (WO.step rfl (OR.move rfl ?_)))))
  refine WO.step rfl (OR.call hs body18 rfl rfl (rsend_ok rb wb 0 0 _ [] wkC l3 _ _ (HS.relRO (Mr := ([] : Mem)) (HS.mtail (A := ([] : Mem)) hs)) (hx3.mono hlb) hokC (by omega) (Sl.nil _ _) (by omega)) ?_)
  clear hs; rintro _ H w hs hle1 ⟨sa1, sa2, rfl, hsa1, hsa2⟩
  replace hle := hle.trans hle1
  replace hlb := hlb.trans hle1
  rw [wk_2.1]
  rw [wk_2.2.1] at hsa1 hsa2
  obtain ⟨zb1, zc1, hf1⟩ := hsa1.form
  obtain ⟨zb2, zc2, hf2⟩ := hsa2.form
  subst hf1 hf2
  have hlc := Hp.le.refl H
  refine WO.step rfl (OR.move rfl (WO.step rfl (OR.extract rfl rfl (WO.step rfl (OR.extract rfl rfl (WO.step rfl (OR.alloc hs T39 ?_)))))))
  clear hs; intro g1 w hg1 hs
  refine WO.stepN (OR.storeAll hs T39 rfl rfl rfl rfl rfl ?_)
  clear hs; intro w hs
  refine WO.step rfl (OR.assign rfl (WO.done (WX.seq (WC.seq (WC.region (WO.step rfl (OR.move rfl ?_)))))))
  refine WO.step rfl (OR.buildSlice (vs := [B 3]) hs T37.und T5 rfl rfl rfl rfl (by simp) ?_)
  clear hs; intro qd w hqd hs
  obtain ⟨H, hle1, hp_qd, hs9⟩ := hs.pub1 hqd; clear hs; have hs := hs9; clear hs9; replace hle := hle.trans hle1; (try replace hlb := hlb.trans hle1)
  have hd : Bytes H (.slice (some ⟨qd, 0, none⟩) 1 1) [3] := Bytes.block (l := [3]) hp_qd rfl (by simp)
  replace hlc := hlc.trans hle1
  replace hs : HS [] H0 w0 H ([_] ++ relMem true wkC rb wb l3) w := hs
  refine WO.step rfl (OR.call hs body18 rfl rfl (rsend_ok rb wb 0 0 _ [3] wkC l3 _ _ (HS.relRO (Mr := [_]) (HS.mtail (A := [_]) hs)) (hx3.mono hlb) hokC (by omega) hd (by omega)) ?_)
  clear hs; rintro _ H w hs hle1 ⟨sb1, sb2, rfl, hsb1, hsb2⟩
  replace hle := hle.trans hle1
  replace hlb := hlb.trans hle1
  replace hlc := hlc.trans hle1
  rw [wk_2.1]
  rw [wk_2.2.2.1] at hsb1 hsb2
  obtain ⟨zb3, zc3, hf3⟩ := hsb1.form
  obtain ⟨zb4, zc4, hf4⟩ := hsb2.form
  subst hf3 hf4
  have hld := Hp.le.refl H
  refine WO.step rfl (OR.move rfl (WO.step rfl (OR.extract rfl rfl (WO.step rfl (OR.extract rfl rfl (WO.step rfl (OR.alloc hs T39 ?_)))))))
  clear hs; intro g2 w hg2 hs
  refine WO.stepN (OR.storeAll hs T39 rfl rfl rfl rfl rfl ?_)
  clear hs; intro w hs
  refine WO.step rfl (OR.assign rfl (WO.done (WX.seq (WC.seq (WC.region (WO.step rfl (OR.move rfl ?_)))))))
  replace hs : HS [] H0 w0 H ([_, _] ++ relMem true wkC rb wb l3) w := hs
  refine WO.step rfl (OR.call hs body18 rfl rfl (rsend_ok rb wb 1 0 _ [] wkC l3 _ _ (HS.relRO (Mr := [_, _]) (HS.mtail (A := [_, _]) hs)) (hx3.mono hlb) hokC (by omega) (Sl.nil _ _) (by omega)) ?_)
  clear hs; rintro _ H w hs hle1 ⟨sc1, sc2, rfl, hsc1, hsc2⟩
  replace hle := hle.trans hle1
  replace hlb := hlb.trans hle1
  replace hlc := hlc.trans hle1
  replace hld := hld.trans hle1
  rw [wk_2.2.2.2]
  obtain ⟨zb5, zc5, hf5⟩ := hsc1.form
  obtain ⟨zb6, zc6, hf6⟩ := hsc2.form
  subst hf5 hf6
  refine WO.step rfl (OR.move rfl (WO.step rfl (OR.extract rfl rfl (WO.step rfl (OR.extract rfl rfl (WO.step rfl (OR.alloc hs T39 ?_)))))))
  clear hs; intro g3 w hg3 hs
  refine WO.stepN (OR.storeAll hs T39 rfl rfl rfl rfl rfl ?_)
  clear hs; intro w hs
  refine WO.step rfl (OR.assign rfl (WO.done (WX.seq (WC.seq (WC.seq (WC.region (WO.step rfl ?_)))))))
  refine OR.loadAll T39 rfl rfl (hs.blk (i := 2) rfl) rfl (WO.step rfl (OR.move rfl ?_))
  refine WO.step rfl (OR.call hs body51 rfl rfl (is14_ok _ _ ([1, 0], [5]) 5 [1, 0] _ _ hs.toSub (hsa1.mono hlc) (hsa2.mono hlc) rfl rfl) ?_)
  clear hs; rintro _ H w hs hle1 rfl
  replace hle := hle.trans hle1
  replace hlb := hlb.trans hle1
  replace hld := hld.trans hle1
  refine WO.step rfl (OR.not rfl (WO.step rfl (OR.move rfl ?_)))
  refine WO.guardYes rfl rfl rfl rfl (OR.loadAll T39 rfl rfl (hs.blk (i := 1) rfl) rfl (WO.guardYes rfl rfl rfl rfl (OR.move rfl ?_)))
  refine WO.guardYes rfl rfl rfl rfl (OR.call hs body51 rfl rfl (is14_ok _ _ ([3, 0], [15]) 15 [3, 0] _ _ hs.toSub (hsb1.mono hld) (hsb2.mono hld) rfl rfl) ?_)
  clear hs; rintro _ H w hs hle1 rfl
  replace hle := hle.trans hle1
  replace hlb := hlb.trans hle1
  refine WO.guardYes rfl rfl rfl rfl (OR.not rfl (WO.step rfl (OR.pickF rfl rfl rfl (WO.step rfl (OR.move rfl ?_)))))
  refine WO.guardYes rfl rfl rfl rfl (OR.move rfl (WO.guardYes rfl rfl rfl rfl (OR.neq rfl rfl (WO.step rfl (OR.pickF rfl rfl rfl (WO.done (WX.seq ?_)))))))
  refine WC.no rfl rfl ?_
  replace hs : HS [] H0 w0 H (relMem true wkC rb wb l3) w := ((hs.drop 0).drop 0).drop 0
  refine WC.skip (WX.seq (WC.seq (WC.region (WO.step rfl (OR.move rfl ?_)))))
  refine WO.step rfl (OR.callX (Mx := relMem true wkC rb wb l3) (Mr := ([] : Mem)) (HS.mtail (A := ([] : Mem)) hs) body52 rfl rfl (rmove_ok rb wb 2 wkC l3 _ _ (HS.relRW (Mr := ([] : Mem)) (HS.mtail (A := ([] : Mem)) hs)) (hx3.mono hlb) hokC (by omega)) rfl (relMem_flags _ _ _ _) ?_)
  clear hs; rintro v H M w hs hle1 hnew ⟨rfl, l4, rfl, hx4⟩
  replace hs := HS.mtail (A := relMem true _ rb wb l4) (B := ([] : Mem)) hs
  replace hle := hle.trans hle1
  have hlb := Hp.le.refl H
  refine WO.step rfl (OR.assign rfl (WO.done (WX.seq (WC.seq (WC.region (WO.step rfl (OR.move rfl ?_)))))))
  refine WO.step rfl (OR.buildSlice (vs := [B 1, B 1]) hs T37.und T5 rfl rfl rfl rfl (by simp) ?_)
  clear hs; intro qe w hqe hs
  obtain ⟨H, hle1, hp_qe, hs9⟩ := hs.pub1 hqe; clear hs; have hs := hs9; clear hs9; replace hle := hle.trans hle1; (try replace hlb := hlb.trans hle1)
  have he : Bytes H (.slice (some ⟨qe, 0, none⟩) 2 2) [1, 1] := Bytes.block (l := [1, 1]) hp_qe rfl (by simp)
  refine WO.step rfl (OR.call hs body50 rfl rfl (row14_ok 9 _ [1, 1] _ _ hs.toSub he) ?_)
  clear hs; rintro _ H w hs hle1 ⟨rc5, rp5, rfl, hrc5, hrp5⟩
  replace hle := hle.trans hle1
  replace hlb := hlb.trans hle1
  refine WO.step rfl (OR.callX (Mx := relMem true wkD rb wb l4) (Mr := ([] : Mem)) (HS.mtail (A := ([] : Mem)) hs) body12 rfl rfl (rtake_ok' rb wb 4 _ _ wkD l4 ([1, 1], [9]) _ _ (HS.relRW (Mr := ([] : Mem)) (HS.mtail (A := ([] : Mem)) hs)) (hx4.mono hlb) hokD (by omega) hrc5 hrp5) rfl (relMem_flags _ _ _ _) ?_)
  clear hs; rintro v H M w hs hle1 hnew ⟨rfl, l5, rfl, hx5⟩
  replace hs := HS.mtail (A := relMem true _ rb wb l5) (B := ([] : Mem)) hs
  replace hle := hle.trans hle1
  have hlb := Hp.le.refl H
  rw [wk_3.1, wk_3.2.1]
  refine WO.step rfl (OR.move rfl (WO.step rfl (OR.extract rfl rfl (WO.step rfl (OR.extract rfl rfl (WO.step rfl (OR.assign rfl ?_)))))))
  refine WO.step rfl (OR.assign rfl (WO.done (WX.seq (WC.seq (WC.region (WO.step rfl (OR.move rfl ?_)))))))
  refine WO.step rfl (OR.eql rfl rfl (WO.step rfl (OR.move rfl ?_)))
  refine WO.guardYes rfl rfl rfl rfl (OR.move rfl ?_)
  refine WO.guardYes rfl rfl rfl rfl (OR.call hs body19 rfl rfl (rrank_ok rb wb 0 wkE l5 _ _ (HS.relRO (Mr := ([] : Mem)) (HS.mtail (A := ([] : Mem)) hs)) (hx5.mono hlb) hokE (by omega)) ?_)
  clear hs; rintro _ H w hs hle1 rfl
  replace hle := hle.trans hle1
  replace hlb := hlb.trans hle1
  rw [wk_3.2.2.1]
  refine WO.guardYes rfl rfl rfl rfl (OR.eql rfl rfl (WO.step rfl (OR.pickT rfl rfl rfl (WO.step rfl (OR.move rfl ?_)))))
  refine WO.guardYes rfl rfl rfl rfl (OR.move rfl (WO.step rfl (OR.pickT rfl rfl rfl (WO.step rfl (OR.move rfl (WO.guardYes rfl rfl rfl rfl (OR.move rfl ?_)))))))
  refine WO.guardYes rfl rfl rfl rfl (OR.eql rfl rfl (WO.step rfl (OR.pickT rfl rfl rfl (WO.step rfl (OR.move rfl (WO.guardYes rfl rfl rfl rfl (OR.move rfl ?_)))))))
  refine WO.guardYes rfl rfl rfl rfl (OR.call hs body54 rfl rfl (rranks_ok rb wb wkE l5 _ _ (HS.relRO (Mr := ([] : Mem)) (HS.mtail (A := ([] : Mem)) hs)) (hx5.mono hlb) hokE) ?_)
  clear hs; rintro vr H w hs hle1 hvr
  replace hle := hle.trans hle1
  replace hlb := hlb.trans hle1
  rw [wk_3.2.2.2] at hvr
  obtain ⟨zb7, zc7, hf7⟩ := Sl.form hvr
  subst hf7
  refine WO.guardYes rfl rfl rfl rfl (OR.buildAll T95 rfl rfl PL95 rfl rfl ?_)
  refine WO.guardYes rfl rfl rfl rfl (OR.buildSlice (vs := [_]) hs T92.und T95 rfl rfl rfl rfl (by simp) ?_)
  clear hs; intro qf w hqf hs
  obtain ⟨H, hle1, hp_qf, hs9⟩ := hs.pub1 hqf; clear hs; have hs := hs9; clear hs9; replace hle := hle.trans hle1; (try replace hlb := hlb.trans hle1)
  have hone : RkL H (.slice (some ⟨qf, 0, none⟩) 1 1) [(4, 1)] := Sl.block hp_qf rfl rfl (by simp)
  refine WO.guardYes rfl rfl rfl rfl (OR.call hs body53 rfl rfl (sameRanks_ok _ _ [(4, 1)] _ _ hs.toSub (hvr.mono hle1) hone (by simp)) ?_)
  clear hs; rintro _ H w hs hle1 rfl
  refine WO.step rfl (OR.pickT rfl rfl rfl (WO.step rfl (OR.assign rfl (WO.done (WX.seq (WC.ret ?_))))))
  refine WX.ret1 rfl rfl ?_
  exact .mk (hs.sublist (List.nil_sublist _)) rfl
end Go.Bw
