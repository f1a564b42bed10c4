/- The document's window. -/
import Derived.Test.YtdibepkfgemddaaGreatRel6
import Derived.Test.YtdibepkfgemddaaGreatRefB
import Derived.Test.YtdibepkfgemddaaGreatSinkB
namespace Go.Bw
set_option linter.unusedVariables false
set_option linter.unusedSimpArgs false
open Go.Proofs

def w10Obj (base width : Nat) : Obj := .cells #[.int .u64 (base : Int), .int .i64 (width : Int)] 196
section
variable (wb base width : Nat) (H0 : Hp) (w0 : World)
/-- How many of the first numbers lie below the last one. -/
theorem wn_step (hB : base ≤ 1099511627776) (i : Nat) (hi : i < width) : winNums base (min (i + 1) (winEnd base width - base)) = winNums base (min i (winEnd base width - base)) ++ (if base + i < 1099511627776 then [base + i] else []) := by
  have h9 : winEnd base width - base = min width (1099511627776 - base) := by unfold winEnd; omega
  rw [h9]
  by_cases h : base + i < 1099511627776
  · rw [if_pos h, show min (i + 1) (min width (1099511627776 - base)) = i + 1 by omega, show min i (min width (1099511627776 - base)) = i by omega, winNums_succ]
  · rw [if_neg h, List.append_nil, show min (i + 1) (min width (1099511627776 - base)) = min i (min width (1099511627776 - base)) by omega]
set_option maxRecDepth 20000 in
set_option maxHeartbeats 2000000 in
theorem w10All_ok (h0 : Sub H0 w0) (hb : w0.heap[wb]? = some (w10Obj base width)) (hn : H0 wb = none) (hB : base ≤ 1099511627776) (hW : width ≤ 16) :
    Calls Tryz.prog 136 #[ptr wb] w0 (Pure H0 w0 fun v H' => Nums H' v (winNums base (winEnd base width - base))) := by
  have hs := HS.startR h0 hb hn
  have hle := Hp.le.refl H0
  refine Calls.enter (args := [ptr wb]) Tryz.func136 rfl Tryz.ntmps136 rfl ?_
  refine WC.seq (WC.region (WO.step rfl (OR.assign rfl (WO.done (WX.seq (WC.seq (WC.region ?_)))))))
  refine WO.step rfl (OR.assign rfl (WO.done (WX.seq (WC.seq (WC.seq (WC.region (WO.step rfl ?_)))))))
  refine OR.assign rfl (WO.done (WX.seq (WC.block ?_)))
  refine WC.loop (ι := Nat × Value) (fun ix => [(0, ptr wb), (3, ix.2), (4, .int .i64 (ix.1 : Int))]) (fun ix w => (ix.1 ≤ width ∧ ∃ H Mo, Hp.le H0 H ∧ Own w0.heap.size 22 1 ix.2 (winNums base (min ix.1 (winEnd base width - base))).length (numsC (winNums base (min ix.1 (winEnd base width - base)))) Mo ∧ HS [] H0 w0 H ((wb, w10Obj base width, false) :: Mo) w)) (fun ix => width - ix.1) (0, .slice none 0 0) ⟨rfl, rfl, rfl,  trivial⟩ ?_ (fun ix w hW => ?_)
  · exact ⟨by omega, H0, [], hle, by simp [winNums, numsC]; exact Own.nil _ _ _, hs⟩
  clear hs hle
  obtain ⟨i, vo⟩ := ix
  obtain ⟨hi, H, Mo, hle, ho, hs⟩ := hW
  simp only at hi ho
  refine WC.seq (WC.seq (WC.region (WO.step rfl (OR.move rfl (WO.step rfl (OR.move rfl (WO.step rfl ?_)))))))
  refine OR.nilCheck rfl (WO.step rfl (OR.fieldAddr FA196_1 rfl (WO.step rfl (OR.load T3 rfl rfl (hs.cellM (i := 0) rfl rfl) (WO.step rfl (OR.lss rfl rfl (WO.done ?_)))))))
  refine WX.seq ?_
  refine WC.condD rfl (fun hlt => ?_) (fun hlt => ?_)
  · have hi' : i < width := by omega
    have hst := wn_step base width hB i hi'
    have hlen : (winNums base (min i (winEnd base width - base))).length ≤ 16 := by simp [winNums]; omega
    refine WC.skip (WX.seq (WC.seq (WC.block (WC.seq (WC.region (WO.step rfl (OR.move rfl ?_)))))))
    refine WO.step rfl (OR.nilCheck rfl (WO.step rfl (OR.fieldAddr FA196_0 rfl (WO.step rfl (OR.load T22 rfl rfl (hs.cellM (i := 0) rfl rfl) (WO.step rfl (OR.move rfl ?_)))))))
    refine WO.step rfl (OR.convI T3.und T22.und rfl ?_)
    rw [u64_wrap i (by omega)]
    refine WO.step rfl (OR.add rfl rfl ?_)
    rw [show IntKind.u64.wrap ((base : Int) + (i : Int)) = ((base + i : Nat) : Int) from u64_wrap (base + i) (by omega)]
    refine WO.step rfl (OR.lss rfl rfl (WO.done (WX.seq ?_)))
    refine WC.condD rfl (fun hmx => ?_) (fun hmx => ?_)
    · rw [if_pos (by omega)] at hst
      obtain ⟨bo, co, rfl⟩ := ho.form
      refine WC.region (WO.step rfl (OR.move rfl (WO.step rfl (OR.move rfl (WO.step rfl (OR.nilCheck rfl (WO.step rfl ?_)))))))
      refine OR.fieldAddr FA196_0 rfl (WO.step rfl (OR.load T22 rfl rfl (hs.cellM (i := 0) rfl rfl) (WO.step rfl (OR.move rfl ?_))))
      refine WO.step rfl (OR.convI T3.und T22.und rfl ?_)
      rw [u64_wrap i (by omega)]
      refine WO.step rfl (OR.add rfl rfl ?_)
      rw [show IntKind.u64.wrap ((base : Int) + (i : Int)) = ((base + i : Nat) : Int) from u64_wrap (base + i) (by omega)]
      refine WO.step rfl (OR.buildSlice (vs := [_]) hs T152.und T22 rfl rfl rfl rfl (by simp) ?_)
      clear hs; intro q1 w hq1 hs
      obtain ⟨H, hle1, hp_q1, hs9⟩ := hs.pub1 hq1; clear hs; have hs := hs9; clear hs9; replace hle := hle.trans hle1; (try replace hlb := hlb.trans hle1)
      have hone : Nums H (.slice (some ⟨q1, 0, none⟩) 1 1) [base + i] := Sl.block hp_q1 rfl rfl (by simp)
      refine WO.step rfl (OR.append (m := 1) (news := numsC [base + i]) (Mo := Mo) (M := [_]) (HS.mtail (A := [_]) hs) ho T152.und T22 rfl (by omega) rfl rfl rfl (Sl.src hone hs) (Sl.src0 hone) (nums_one _) (by omega) (by omega) ?_)
      clear hs ho; intro v' w Mo' hs ho hge
      replace hs := HS.mtail (B := [_]) hs
      refine WO.step rfl (OR.assign rfl (WO.done (WX.block (WX.seq (WC.region (WO.step rfl (OR.move rfl ?_)))))))
      refine WO.step rfl (OR.addI rfl rfl (by omega) (by omega) (WO.step rfl (OR.assign rfl (WO.done ?_))))
      refine WX.again ((i + 1, v')) ⟨rfl, rfl, rfl,  trivial⟩ ?_ ?_
      · refine ⟨hi', H, Mo', hle, ?_, hs⟩
        simp only
        rw [hst, List.length_append, show numsC (winNums base (min i (winEnd base width - base)) ++ [base + i]) = numsC (winNums base (min i (winEnd base width - base))) ++ numsC [base + i] by simp [numsC]]
        exact ho
      · simp only; omega
    · rw [if_neg (by omega), List.append_nil] at hst
      refine WC.skip (WX.block (WX.seq (WC.region (WO.step rfl (OR.move rfl (WO.step rfl (OR.addI rfl rfl (by omega) (by omega) ?_)))))))
      refine WO.step rfl (OR.assign rfl (WO.done ?_))
      refine WX.again ((i + 1, vo)) ⟨rfl, rfl, rfl,  trivial⟩ ?_ ?_
      · refine ⟨hi', H, Mo, hle, ?_, hs⟩
        simp only
        rw [hst]
        exact ho
      · simp only; omega
  · have e : i = width := by omega
    subst e
    refine WC.exit (WX.seq_exit (WX.loop_exit (WX.block_hit (WX.seq (WC.seq (WC.region (WO.step rfl ?_)))))))
    refine OR.move rfl (WO.step rfl (OR.assign rfl (WO.done (WX.seq (WC.ret ?_)))))
    refine WX.ret1 rfl rfl ?_
    have hE : min i (winEnd base i - base) = winEnd base i - base := by unfold winEnd; omega
    rw [hE] at ho
    obtain ⟨H4, hle4, hs4, hsl, _⟩ := HS.pub (HS.mtail (A := [_]) hs) ho
    exact .mk (hs4.sublist (List.nil_sublist _)) hsl
theorem mem_winNums (n k : Nat) : n ∈ winNums base k ↔ base ≤ n ∧ n < base + k := by
  unfold winNums
  rw [List.mem_map]
  constructor
  · rintro ⟨j, hj, rfl⟩
    have := List.mem_range.1 hj
    omega
  · rintro ⟨h1, h2⟩
    exact ⟨n - base, List.mem_range.2 (by omega), by omega⟩
set_option maxRecDepth 20000 in
set_option maxHeartbeats 2000000 in
theorem w10In_ok (gen : Nat) (h0 : Sub H0 w0) (hb : w0.heap[wb]? = some (w10Obj base width)) (hn : H0 wb = none) (hB : base ≤ 1099511627776) (hW : width ≤ 16) :
    Calls Tryz.prog 81 #[ptr wb, .int .u64 (gen : Int)] w0 (Pure H0 w0 fun v _ => v = .bool (decide (inWin base width gen))) := by
  have hs := HS.startR h0 hb hn
  have hle := Hp.le.refl H0
  refine Calls.enter (args := [ptr wb, .int .u64 (gen : Int)]) Tryz.func81 rfl Tryz.ntmps81 rfl ?_
  refine WC.seq (WC.region (WO.step rfl (OR.assign rfl (WO.done (WX.seq (WC.seq (WC.region ?_)))))))
  refine WO.step rfl (OR.move rfl ?_)
  refine WO.step rfl (OR.call hs body136 rfl rfl (w10All_ok wb base width _ _ hs.toSub (hs.blk (i := 0) rfl) (hs.nh (i := 0) rfl) hB hW) ?_)
  clear hs; rintro _ H w hs hle1 hr; replace hle := hle.trans hle1; (try replace hlb := hlb.trans hle1)
  have hin : inWin base width gen ↔ gen ∈ winNums base (winEnd base width - base) := by
    rw [mem_winNums]
    unfold inWin winEnd
    omega
  have hnl : (winNums base (winEnd base width - base)).length ≤ 16 := by
    have h6 : winEnd base width ≤ base + width := Nat.min_le_left _ _
    simp [winNums]
    omega
  generalize winNums base (winEnd base width - base) = L at *
  obtain ⟨b1, c1, rfl⟩ := Sl.form hr
  obtain ⟨H9, hH9⟩ : ∃ X, X = H := ⟨_, rfl⟩
  subst hH9
  refine WO.step rfl (OR.assign rfl (WO.done (WX.seq (WC.seq (WC.seq (WC.region (WO.step rfl ?_)))))))
  refine OR.assign rfl (WO.done (WX.seq (WC.block ?_)))
  refine WC.loop (ι := Nat) (fun k => [(1, .int .u64 (gen : Int)), (5, .slice b1 L.length c1), (6, .int .i64 (k : Int))]) (fun k w => (k ≤ L.length ∧ (∀ j (h : j < L.length), j < k → L[j] ≠ gen) ∧ ∃ H, Hp.le H0 H ∧ Hp.le H9 H ∧ HS [] H0 w0 H [(wb, w10Obj base width, false)] w)) (fun k => L.length - k) 0 ⟨rfl, rfl, rfl,  trivial⟩ ?_ (fun k w hW => ?_)
  · exact ⟨by omega, fun j _ h => absurd h (by omega), H9, hle, Hp.le.refl _, hs⟩
  clear hs hle
  obtain ⟨hk, hno, H, hle, hlb, hs⟩ := hW
  refine WC.seq (WC.seq (WC.region (WO.step rfl (OR.move rfl (WO.step rfl (OR.move rfl (WO.step rfl ?_)))))))
  refine OR.lenSlice T152.und rfl (WO.step rfl (OR.lss rfl rfl (WO.done (WX.seq ?_))))
  refine WC.condD rfl (fun hlt => ?_) (fun hlt => ?_)
  · have hk' : k < L.length := by omega
    obtain ⟨yb, yo, rfl, hcy⟩ := Sl.pos hr (by omega)
    have hcy2 := hcy k _ (by rw [List.getElem?_map, List.getElem?_eq_getElem hk']; rfl)
    refine WC.skip (WX.seq (WC.seq (WC.block (WC.seq (WC.region (WO.step rfl (OR.move rfl ?_)))))))
    refine WO.step rfl (OR.move rfl ?_)
    refine WO.step rfl (OR.idx k T152.und T22 rfl rfl rfl hk' ?_)
    refine WO.step rfl (OR.load T22 rfl rfl (hs.cell (hcell.mono hlb hcy2)) ?_)
    refine WO.step rfl (OR.move rfl (WO.step rfl (OR.eql rfl rfl (WO.done (WX.seq ?_)))))
    refine WC.condD rfl (fun heq => ?_) (fun heq => ?_)
    · refine WC.seq (WC.region (WO.step rfl (OR.assign rfl (WO.done (WX.seq (WC.ret (WX.block_ret ?_)))))))
      refine WX.seq_ret (WX.loop_ret (WX.block_ret (WX.seq_ret ?_)))
      refine WX.ret1 rfl rfl ?_
      refine .mk (hs.drop 0) ?_
      rw [decide_eq_true (hin.2 (by rw [show gen = L[k] by omega]; exact List.getElem_mem _))]
    · refine WC.skip (WX.block (WX.seq (WC.region (WO.step rfl (OR.move rfl (WO.step rfl (OR.addI rfl rfl (by omega) (by omega) ?_)))))))
      refine WO.step rfl (OR.assign rfl (WO.done ?_))
      refine WX.again (k + 1) ⟨rfl, rfl, rfl,  trivial⟩ ?_ ?_
      · refine ⟨hk', fun j hj hjk => ?_, H, hle, hlb, hs⟩
        by_cases e : j = k
        · subst e; omega
        · exact hno j hj (by omega)
      · omega
  · refine WC.exit (WX.seq_exit (WX.loop_exit (WX.block_hit (WX.seq (WC.seq (WC.region (WO.step rfl ?_)))))))
    refine OR.assign rfl (WO.done (WX.seq (WC.ret ?_)))
    refine WX.ret1 rfl rfl ?_
    refine .mk (hs.drop 0) ?_
    rw [decide_eq_false]
    intro h
    obtain ⟨j, hj, hjg⟩ := List.getElem_of_mem (hin.1 h)
    exact hno j hj (by omega) hjg
end
set_option maxRecDepth 20000 in
set_option maxHeartbeats 2000000 in
theorem w10Move_ok (wb base width nb : Nat) (H0 : Hp) (w0 : World) (h0 : Sub H0 w0) (hb : w0.heap[wb]? = some (w10Obj base width)) (hn : H0 wb = none) (hB : base ≤ 1099511627776) (hW : width ≤ 16) (hnb : nb < 18446744073709551616) :
    Calls Tryz.prog 80 #[ptr wb, .int .u64 (nb : Int)] w0 (Ret [wb] H0 w0 fun v H' M' => ∃ r, v = .tuple #[r, .int .i64 (if nb ≤ 1099511627776 then 0 else 1)] ∧ M' = [(wb, w10Obj (if nb ≤ 1099511627776 then nb else base) width, true)]) := by
  have hs := HS.start1 h0 hb hn
  have hle := Hp.le.refl H0
  refine Calls.enter (args := [ptr wb, .int .u64 (nb : Int)]) Tryz.func80 rfl Tryz.ntmps80 rfl ?_
  refine WC.seq (WC.region (WO.step rfl (OR.assign rfl (WO.step rfl (OR.assign rfl (WO.done (WX.seq ?_)))))))
  refine WC.seq (WC.seq (WC.region (WO.step rfl (OR.move rfl (WO.step rfl (OR.gtr rfl rfl (WO.done ?_)))))))
  refine WX.seq ?_
  refine WC.condD rfl (fun hbig => ?_) (fun hbig => ?_)
  · refine WC.seq (WC.region (WO.step rfl (OR.assign rfl (WO.step rfl (OR.assign rfl (WO.done (WX.seq ?_)))))))
    refine WC.ret (WX.seq_ret ?_)
    refine WX.ret2 rfl rfl rfl ?_
    refine ⟨_, _, _, rfl, hs, by simp, _, by rw [if_neg (by omega)], by rw [if_neg (by omega)]⟩
  · have hnb2 : nb ≤ 1099511627776 := by omega
    rw [if_pos hnb2, if_pos hnb2]
    refine WC.skip (WX.seq (WC.seq (WC.region (WO.step rfl (OR.move rfl ?_)))))
    refine WO.step rfl (OR.call hs body136 rfl rfl (w10All_ok wb base width _ _ hs.toSub (hs.blk (i := 0) rfl) (hs.nh (i := 0) rfl) hB hW) ?_)
    clear hs; rintro _ H w hs hle1 hr; replace hle := hle.trans hle1; (try replace hlb := hlb.trans hle1)
    have hnl : (winNums base (winEnd base width - base)).length ≤ 16 := by
      have h6 : winEnd base width ≤ base + width := Nat.min_le_left _ _
      simp [winNums]
      omega
    generalize winNums base (winEnd base width - base) = L at *
    obtain ⟨b1, c1, rfl⟩ := Sl.form hr
    refine WO.step rfl (OR.assign rfl (WO.done (WX.seq (WC.seq (WC.region (WO.step rfl (OR.move rfl ?_)))))))
    refine WO.step rfl (OR.move rfl (WO.step rfl (OR.nilCheck rfl (WO.step rfl (OR.fieldAddr FA196_0 rfl (WO.stepN (OR.store hs T22 rfl rfl rfl (Nat.le_of_ble_eq_true rfl) rfl ?_)))))))
    clear hs; intro w hs
    refine WO.done (WX.seq (WC.seq (WC.region (WO.step rfl (OR.assign rfl (WO.done (WX.seq ?_)))))))
    refine WC.seq (WC.seq (WC.region (WO.step rfl (OR.assign rfl (WO.done (WX.seq (WC.block ?_)))))))
    replace hs : HS [wb] H0 w0 H [(wb, w10Obj nb width, true)] w := hs
    obtain ⟨H9, hH9⟩ : ∃ X, X = H := ⟨_, rfl⟩
    subst hH9
    refine WC.loop (ι := Nat × Value × Nat) (fun ix => [(0, ptr wb), (6, .slice b1 L.length c1), (7, ix.2.1), (8, .int .i64 (ix.1 : Int))]) (fun ix w => (ix.1 ≤ L.length ∧ ix.2.2 ≤ ix.1 ∧ ∃ H cs Mo, Hp.le H0 H ∧ Hp.le H9 H ∧ Own w0.heap.size 22 1 ix.2.1 ix.2.2 cs Mo ∧ HS [wb] H0 w0 H ((wb, w10Obj nb width, true) :: Mo) w)) (fun ix => L.length - ix.1) (0, .slice none 0 0, 0) ⟨rfl, rfl, rfl, rfl,  trivial⟩ ?_ (fun ix w hW => ?_)
    · exact ⟨by omega, by simp, H9, [], [], hle, Hp.le.refl _, Own.nil _ _ _, hs⟩
    clear hs hle
    obtain ⟨k, vo, n⟩ := ix
    obtain ⟨hk, hn', H, cs, Mo, hle, hlb, ho, hs⟩ := hW
    simp only at hk hn' ho
    refine WC.seq (WC.seq (WC.region (WO.step rfl (OR.move rfl (WO.step rfl (OR.move rfl (WO.step rfl ?_)))))))
    refine OR.lenSlice T152.und rfl (WO.step rfl (OR.lss rfl rfl (WO.done (WX.seq ?_))))
    refine WC.condD rfl (fun hlt => ?_) (fun hlt => ?_)
    · have hk' : k < L.length := by omega
      obtain ⟨yb, yo, rfl, hcy⟩ := Sl.pos hr (by omega)
      have hcy2 := hcy k _ (by rw [List.getElem?_map, List.getElem?_eq_getElem hk']; rfl)
      refine WC.skip (WX.seq (WC.seq (WC.block (WC.seq (WC.region (WO.step rfl (OR.move rfl ?_)))))))
      refine WO.step rfl (OR.move rfl (WO.step rfl (OR.move rfl ?_)))
      refine WO.step rfl (OR.idx k T152.und T22 rfl rfl rfl hk' ?_)
      refine WO.step rfl (OR.load T22 rfl rfl (hs.cell (hcell.mono hlb hcy2)) ?_)
      refine WO.step rfl (OR.call hs body81 rfl rfl (w10In_ok wb nb width _ _ L[k] hs.toSub (hs.blk (i := 0) rfl) (hs.nh (i := 0) rfl) hnb2 hW) ?_)
      clear hs; rintro _ H w hs hle1 rfl; replace hle := hle.trans hle1; (try replace hlb := hlb.trans hle1)
      refine WO.step rfl (OR.not rfl (WO.done (WX.seq ?_)))
      refine WC.cond rfl (fun hin => ?_) (fun hin => ?_)
      · obtain ⟨bo, co, rfl⟩ := ho.form
        refine WC.region (WO.step rfl (OR.move rfl (WO.step rfl (OR.move rfl (WO.step rfl (OR.move rfl ?_))))))
        refine WO.step rfl (OR.idx k T152.und T22 rfl rfl rfl hk' ?_)
        refine WO.step rfl (OR.load T22 rfl rfl (hs.cell (hcell.mono hlb hcy2)) ?_)
        refine WO.step rfl (OR.buildSlice (vs := [_]) hs T152.und T22 rfl rfl rfl rfl (by simp) ?_)
        clear hs; intro q1 w hq1 hs
        obtain ⟨H, hle1, hp_q1, hs9⟩ := hs.pub1 hq1; clear hs; have hs := hs9; clear hs9; replace hle := hle.trans hle1; (try replace hlb := hlb.trans hle1)
        have hone : Nums H (.slice (some ⟨q1, 0, none⟩) 1 1) [L[k]] := Sl.block hp_q1 rfl rfl (by simp)
        refine WO.step rfl (OR.append (m := 1) (news := numsC [L[k]]) (Mo := Mo) (M := [_]) (HS.mtail (A := [_]) hs) ho T152.und T22 rfl (by omega) rfl rfl rfl (Sl.src hone hs) (Sl.src0 hone) (nums_one _) (by omega) (by omega) ?_)
        clear hs ho; intro v' w Mo' hs ho hge
        replace hs := HS.mtail (B := [_]) hs
        refine WO.step rfl (OR.assign rfl (WO.done (WX.block (WX.seq (WC.region (WO.step rfl (OR.move rfl ?_)))))))
        refine WO.step rfl (OR.addI rfl rfl (by omega) (by omega) (WO.step rfl (OR.assign rfl (WO.done ?_))))
        refine WX.again ((k + 1, v', n + 1)) ⟨rfl, rfl, rfl, rfl,  trivial⟩ ?_ ?_
        · exact ⟨hk', by simp only; omega, H, _, Mo', hle, hlb, ho, hs⟩
        · simp only; omega
      · refine WC.skip (WX.block (WX.seq (WC.region (WO.step rfl (OR.move rfl (WO.step rfl (OR.addI rfl rfl (by omega) (by omega) ?_)))))))
        refine WO.step rfl (OR.assign rfl (WO.done ?_))
        refine WX.again ((k + 1, vo, n)) ⟨rfl, rfl, rfl, rfl,  trivial⟩ ?_ ?_
        · exact ⟨hk', by simp only; omega, H, cs, Mo, hle, hlb, ho, hs⟩
        · simp only; omega
    · refine WC.exit (WX.seq_exit (WX.loop_exit (WX.block_hit (WX.seq (WC.seq (WC.region (WO.step rfl ?_)))))))
      refine OR.move rfl (WO.step rfl (OR.assign rfl (WO.step rfl (OR.assign rfl (WO.done (WX.seq (WC.ret ?_)))))))
      refine WX.ret2 rfl rfl rfl ?_
      refine ⟨_, H, [(wb, w10Obj nb width, true)], rfl, hs.sublist ((List.nil_sublist _).cons_cons _), by simp, _, rfl, rfl⟩
end Go.Bw
namespace Go.Bw
set_option linter.unusedVariables false
set_option linter.unusedSimpArgs false
open Go.Proofs

theorem win_mod {base width a b : Nat} (ha : inWin base width a) (hb : inWin base width b) (e : a % width = b % width) : a = b := by
  have h1 : a < base + width := Nat.lt_of_lt_of_le ha.2 (Nat.min_le_left _ _)
  have h2 : b < base + width := Nat.lt_of_lt_of_le hb.2 (Nat.min_le_left _ _)
  have h3 := ha.1
  have h4 := hb.1
  rcases Nat.lt_trichotomy a b with h | h | h
  · have h5 := Nat.sub_mod_eq_zero_of_mod_eq e.symm
    rw [Nat.mod_eq_of_lt (by omega)] at h5
    omega
  · exact h
  · have h5 := Nat.sub_mod_eq_zero_of_mod_eq e
    rw [Nat.mod_eq_of_lt (by omega)] at h5
    omega
/-- A slot of no generation of the window is empty. -/
def Tidy (y : RelD) : Prop := ∀ i, (∀ gen, inWin y.base y.width gen → gen % y.width ≠ i) → y.rows i = []
theorem Tidy.new (g s width : Nat) : Tidy (newR g s width) := fun _ _ => rfl
theorem take_same (y : RelD) (gen : Nat) (r : RowD) : (y.take gen r).g = y.g ∧ (y.take gen r).s = y.s ∧ (y.take gen r).base = y.base ∧ (y.take gen r).width = y.width := by
  unfold RelD.take
  split <;> exact ⟨rfl, rfl, rfl, rfl⟩
theorem rk_take (y : RelD) (gen : Nat) (r : RowD) (n : Nat) : (y.take gen r).rk n = if n = gen ∧ inWin y.base y.width gen then (insR y.g y.s (y.rk gen) r).2 else y.rk n := by
  unfold RelD.take
  by_cases hin : inWin y.base y.width gen
  · rw [if_pos hin]
    unfold RelD.rk
    show (if inWin y.base y.width n then (if n % y.width = gen % y.width then (insR y.g y.s (y.rows (gen % y.width)) r).2 else y.rows (n % y.width)) else []) = _
    rw [if_pos hin]
    by_cases e : n = gen
    · subst e
      rw [if_pos hin, if_pos rfl, if_pos ⟨rfl, hin⟩]
    · rw [if_neg (show ¬ (n = gen ∧ inWin y.base y.width gen) from fun h => e h.1)]
      by_cases hn : inWin y.base y.width n
      · rw [if_pos hn, if_pos hn, if_neg (fun q => e (win_mod hn hin q))]
      · rw [if_neg hn, if_neg hn]
  · rw [if_neg hin, if_neg (fun h => hin h.2)]
theorem Tidy.take {y : RelD} (h : Tidy y) (gen : Nat) (r : RowD) : Tidy (y.take gen r) := by
  unfold RelD.take
  by_cases hin : inWin y.base y.width gen
  · rw [if_pos hin]
    intro i hi
    show (if i = gen % y.width then (insR y.g y.s (y.rows (gen % y.width)) r).2 else y.rows i) = []
    rw [if_neg (fun q => hi gen hin q.symm)]
    exact h i hi
  · rw [if_neg hin]
    exact h
theorem drops_rowsR : ∀ (gs : List Nat) (x : RelD) (i : Nat), ((∃ k ∈ gs, k % x.width = i) → (x.drops gs).rows i = []) ∧ ((¬ ∃ k ∈ gs, k % x.width = i) → (x.drops gs).rows i = x.rows i)
  | [], x, i => ⟨fun h => by obtain ⟨k, hk, _⟩ := h; exact absurd hk (List.not_mem_nil), fun _ => rfl⟩
  | gen :: gs, x, i => by
    obtain ⟨h1, h2⟩ := drops_rowsR gs (x.put gen []) i
    have e : (x.drops (gen :: gs)) = (x.put gen []).drops gs := rfl
    rw [e]
    have hp : (x.put gen []).rows i = if i = gen % x.width then [] else x.rows i := rfl
    refine ⟨fun hh => ?_, fun hno => ?_⟩
    · obtain ⟨k, hk, hki⟩ := hh
      by_cases hc : ∃ k ∈ gs, k % x.width = i
      · exact h1 hc
      · rw [h2 hc, hp]
        rcases List.mem_cons.1 hk with rfl | hk
        · rw [if_pos hki.symm]
        · exact absurd ⟨k, hk, hki⟩ hc
    · rw [h2 (fun ⟨k, hk, hki⟩ => hno ⟨k, List.mem_cons_of_mem _ hk, hki⟩), hp, if_neg (fun q => hno ⟨gen, List.mem_cons_self .., q.symm⟩)]
theorem goneR {base width nb n : Nat} : n ∈ winGone base width nb (winEnd base width - base) ↔ inWin base width n ∧ ¬ inWin nb width n := by
  unfold winGone winNums
  rw [List.mem_filter, List.mem_map]
  constructor
  · rintro ⟨⟨j, hj, rfl⟩, h⟩
    have := List.mem_range.1 hj
    exact ⟨⟨by omega, by omega⟩, by simpa using h⟩
  · rintro ⟨⟨h1, h2⟩, h3⟩
    exact ⟨⟨n - base, List.mem_range.2 (by omega), by omega⟩, by simpa using h3⟩
theorem move_same (y : RelD) (nb : Nat) : (y.moveTo nb).g = y.g ∧ (y.moveTo nb).s = y.s ∧ (y.moveTo nb).width = y.width ∧ (y.moveTo nb).base = if nb ≤ 1099511627776 then nb else y.base := by
  unfold RelD.moveTo
  split
  · obtain ⟨h1, h2, h3, h4⟩ := drops_same (winGone y.base y.width nb (winEnd y.base y.width - y.base)) y
    exact ⟨h1, h2, h4, rfl⟩
  · exact ⟨rfl, rfl, rfl, rfl⟩
theorem rk_move {y : RelD} (h : Tidy y) {nb : Nat} (hnb : nb ≤ 1099511627776) (n : Nat) : (y.moveTo nb).rk n = if inWin nb y.width n then y.rk n else [] := by
  obtain ⟨e1, e2, e3, e4⟩ := move_same y nb
  rw [if_pos hnb] at e4
  have hr : ∀ i, (y.moveTo nb).rows i = (y.drops (winGone y.base y.width nb (winEnd y.base y.width - y.base))).rows i := fun i => by rw [RelD.moveTo, if_pos hnb]
  unfold RelD.rk
  rw [e3, e4, hr]
  by_cases hn : inWin nb y.width n
  · rw [if_pos hn, if_pos hn]
    obtain ⟨h1, h2⟩ := drops_rowsR (winGone y.base y.width nb (winEnd y.base y.width - y.base)) y (n % y.width)
    by_cases hb : inWin y.base y.width n
    · rw [if_pos hb, h2]
      rintro ⟨k, hk, hki⟩
      obtain ⟨k1, k2⟩ := goneR.1 hk
      exact k2 (win_mod k1 hb hki ▸ hn)
    · rw [if_neg hb]
      by_cases hc : ∃ k ∈ winGone y.base y.width nb (winEnd y.base y.width - y.base), k % y.width = n % y.width
      · exact h1 hc
      · rw [h2 hc]
        refine h _ fun k hk hki => hc ⟨k, goneR.2 ⟨hk, fun q => ?_⟩, hki⟩
        exact hb (win_mod q hn hki ▸ hk)
  · rw [if_neg hn, if_neg hn]
theorem Tidy.move {y : RelD} (h : Tidy y) (nb : Nat) : Tidy (y.moveTo nb) := by
  by_cases hnb : nb ≤ 1099511627776
  · obtain ⟨e1, e2, e3, e4⟩ := move_same y nb
    rw [if_pos hnb] at e4
    intro i hi
    rw [e3, e4] at hi
    rw [RelD.moveTo, if_pos hnb]
    show (y.drops (winGone y.base y.width nb (winEnd y.base y.width - y.base))).rows i = []
    obtain ⟨h1, h2⟩ := drops_rowsR (winGone y.base y.width nb (winEnd y.base y.width - y.base)) y i
    by_cases hc : ∃ k ∈ winGone y.base y.width nb (winEnd y.base y.width - y.base), k % y.width = i
    · exact h1 hc
    · rw [h2 hc]
      exact h _ fun k hk hki => hc ⟨k, goneR.2 ⟨hk, fun q => hi k q hki⟩, hki⟩
  · rw [RelD.moveTo, if_neg hnb]
    exact h

structure GenD where
  n : Nat
  rb : Nat
  gi : Nat
  gr : Nat
  ci : Array Value
  cr : Array Value
  f : Nat → Option RowD
def genMem (g s : Nat) (x : GenD) : Mem := [(x.rb, refObj g s x.gi x.gr, true), (x.gi, .cells x.ci 4, true), (x.gr, .cells x.cr 45, true)]
def gensMem (g s : Nat) (L : List GenD) : Mem := L.flatMap (genMem g s)
def genC (L : List GenD) : List (Value × Value) := L.map fun x => (.int .u64 (x.n : Int), ptr x.rb)
def lookL (g : Nat) (L : List GenD) (n : Nat) : List RowD := match L.find? (fun x => x.n == n) with
  | some x => upto x.f g
  | none => []
def r14Obj (g s wb : Nat) (vL : Value) : Obj := .cells #[.int .i64 (g : Int), .int .i64 (s : Int), ptr wb, vL] 140
structure R14 (H : Hp) (y : RelD) (vL : Value) (L : List GenD) : Prop where
  cells : Sl H 2 vL L.length (rowCells (genC L))
  mem : ∀ x ∈ L, RefC H y.g x.f x.ci x.cr ∧ Leads y.g y.s x.f ∧ Red y.g y.s (upto x.f y.g)
  asc : L.Pairwise fun a b => a.n < b.n
  win : ∀ x ∈ L, inWin y.base y.width x.n
  look : ∀ n, lookL y.g L n = y.rk n
  tidy : Tidy y
def r14Mem (y : RelD) (ob wb : Nat) (vL : Value) (L : List GenD) : Mem := (ob, r14Obj y.g y.s wb vL, true) :: (wb, w10Obj y.base y.width, true) :: gensMem y.g y.s L
theorem r14_flags (y : RelD) (ob wb : Nat) (vL : Value) (L : List GenD) : (r14Mem y ob wb vL L).all (·.2.2) = true := by
  rw [List.all_eq_true]
  intro p hp
  rcases List.mem_cons.1 hp with rfl | hp
  · rfl
  · rcases List.mem_cons.1 hp with rfl | hp
    · rfl
    · obtain ⟨x, _, hx⟩ := List.mem_flatMap.1 hp
      simp only [genMem, List.mem_cons, List.not_mem_nil, or_false] at hx
      rcases hx with rfl | rfl | rfl <;> rfl
theorem R14.mono {H H' : Hp} {y : RelD} {vL : Value} {L : List GenD} (h : R14 H y vL L) (hle : Hp.le H H') : R14 H' y vL L :=
  ⟨Sl.mono h.cells hle, fun x hx => ⟨(h.mem x hx).1.mono hle, (h.mem x hx).2⟩, h.asc, h.win, h.look, h.tidy⟩
theorem R14.len {H : Hp} {y : RelD} {vL : Value} {L : List GenD} (h : R14 H y vL L) (hok : RelOk y) : L.length ≤ 16 := by
  have h1 := asc_len (L.map fun x => (x.n : Int)) (y.base : Int) ((y.base + y.width : Nat) : Int) (by
    rw [List.pairwise_map]
    exact h.asc.imp (fun h => by omega)) (fun z hz => by
    obtain ⟨x, hx, rfl⟩ := List.mem_map.1 hz
    have h2 := h.win x hx
    have h3 : x.n < y.base + y.width := Nat.lt_of_lt_of_le h2.2 (Nat.min_le_left _ _)
    have h4 := h2.1
    omega)
  rw [List.length_map] at h1
  have := hok.w2
  omega
/-- Part of a memory that may be written. -/
theorem HS.partRW {xs : List Nat} {H0 H : Hp} {w0 w : World} {M Mr : Mem} (hs : HS xs H0 w0 H (M ++ Mr) w) : HS (Mem.keys M) H w H M w := by
  refine HS.start _ hs.sub (fun b o t h => ?_) ?_
  · have h1 := hs.mem b o t (List.mem_append_left _ h)
    exact ⟨h1.1, h1.2.1, fun _ => List.mem_map.2 ⟨_, h, rfl⟩⟩
  · have h1 := hs.nd
    simp only [Mem.keys, List.map_append, List.nodup_append] at h1
    exact h1.1
theorem gens_perm (g s : Nat) {L : List GenD} {k : Nat} (h : k < L.length) : (gensMem g s L).Perm (genMem g s L[k] ++ gensMem g s (L.take k ++ L.drop (k + 1))) := by
  have e : L = L.take k ++ L[k] :: L.drop (k + 1) := by rw [← List.drop_eq_getElem_cons h, List.take_append_drop]
  have e2 : gensMem g s L = gensMem g s (L.take k) ++ (genMem g s L[k] ++ gensMem g s (L.drop (k + 1))) := by
    conv => lhs; rw [e]
    simp only [gensMem, List.flatMap_append, List.flatMap_cons]
  have e3 : gensMem g s (L.take k ++ L.drop (k + 1)) = gensMem g s (L.take k) ++ gensMem g s (L.drop (k + 1)) := by simp only [gensMem, List.flatMap_append]
  rw [e2, e3, ← List.append_assoc, ← List.append_assoc]
  exact List.perm_append_comm.append_right _
theorem gens_perm_set (g s : Nat) {L : List GenD} {k : Nat} (h : k < L.length) (x : GenD) : (gensMem g s (L.set k x)).Perm (genMem g s x ++ gensMem g s (L.take k ++ L.drop (k + 1))) := by
  have e2 : gensMem g s (L.set k x) = gensMem g s (L.take k) ++ (genMem g s x ++ gensMem g s (L.drop (k + 1))) := by
    rw [List.set_eq_take_append_cons_drop, if_pos h]
    simp only [gensMem, List.flatMap_append, List.flatMap_cons]
  have e3 : gensMem g s (L.take k ++ L.drop (k + 1)) = gensMem g s (L.take k) ++ gensMem g s (L.drop (k + 1)) := by simp only [gensMem, List.flatMap_append]
  rw [e2, e3, ← List.append_assoc, ← List.append_assoc]
  exact List.perm_append_comm.append_right _
theorem gens_perm_ins (g s : Nat) (L : List GenD) (i : Nat) (x : GenD) : (gensMem g s (L.take i ++ x :: L.drop i)).Perm (genMem g s x ++ gensMem g s L) := by
  have e2 : gensMem g s (L.take i ++ x :: L.drop i) = gensMem g s (L.take i) ++ (genMem g s x ++ gensMem g s (L.drop i)) := by
    simp only [gensMem, List.flatMap_append, List.flatMap_cons]
  have e3 : gensMem g s L = gensMem g s (L.take i) ++ gensMem g s (L.drop i) := by
    conv => lhs; rw [← List.take_append_drop i L]
    simp only [gensMem, List.flatMap_append]
  rw [e2, e3, ← List.append_assoc, ← List.append_assoc]
  exact List.perm_append_comm.append_right _
end Go.Bw
namespace Go.Bw
set_option linter.unusedVariables false
set_option linter.unusedSimpArgs false
open Go.Proofs

theorem find_none {L : List GenD} {n : Nat} (h : ∀ a ∈ L, a.n ≠ n) : L.find? (fun x => x.n == n) = none := by
  rw [List.find?_eq_none]
  intro a ha
  simpa using h a ha
theorem R14.ins {H : Hp} {y : RelD} {vL : Value} {L : List GenD} (h : R14 H y vL L) {i : Nat} {x : GenD} (h1 : ∀ a ∈ L.take i, a.n < x.n) (h2 : ∀ a ∈ L.drop i, x.n < a.n) (hf : x.f = fun _ => none) (hc : RefC H y.g x.f x.ci x.cr) (hin : inWin y.base y.width x.n) {v : Value}
    (hv : Sl H 2 v (L.take i ++ x :: L.drop i).length (rowCells (genC (L.take i ++ x :: L.drop i)))) : R14 H y v (L.take i ++ x :: L.drop i) := by
  have hmem : ∀ a ∈ L.take i ++ x :: L.drop i, a = x ∨ a ∈ L := by
    intro a ha
    rcases List.mem_append.1 ha with ha | ha
    · exact .inr (List.mem_of_mem_take ha)
    · rcases List.mem_cons.1 ha with ha | ha
      · exact .inl ha
      · exact .inr (List.mem_of_mem_drop ha)
  refine ⟨hv, fun a ha => ?_, ?_, fun a ha => ?_, fun n => ?_, h.tidy⟩
  · rcases hmem a ha with rfl | ha
    · refine ⟨hc, ?_, ?_⟩
      · rw [hf]; intro j r hr; cases hr
      · rw [hf, upto_zero]; exact Red.nil _ _
    · exact h.mem a ha
  · rw [List.pairwise_append]
    refine ⟨h.asc.sublist (List.take_sublist _ _), List.pairwise_cons.2 ⟨h2, h.asc.sublist (List.drop_sublist _ _)⟩, fun a ha b hb => ?_⟩
    have ha1 := h1 a ha
    rcases List.mem_cons.1 hb with rfl | hb
    · exact ha1
    · have := h2 b hb; omega
  · rcases hmem a ha with rfl | ha
    · exact hin
    · exact h.win a ha
  · rw [← h.look n]
    unfold lookL
    have e : L.find? (fun x => x.n == n) = ((L.take i).find? (fun x => x.n == n)).or ((L.drop i).find? (fun x => x.n == n)) := by
      rw [← List.find?_append, List.take_append_drop]
    rw [e, List.find?_append, List.find?_cons]
    by_cases hn : x.n = n
    · have hb : (x.n == n) = true := by simpa using hn
      rw [hb, find_none (L := L.take i) (fun a ha => by have := h1 a ha; omega), find_none (L := L.drop i) (fun a ha => by have := h2 a ha; omega)]
      simp only [Option.none_or]
      rw [hf, upto_zero]
    · have hb : (x.n == n) = false := by simpa using hn
      rw [hb]
theorem RefC.anyH {H H' : Hp} {g : Nat} {ci cr : Array Value} (h : RefC H g (fun _ => none) ci cr) : RefC H' g (fun _ => none) ci cr :=
  ⟨h.1, h.2.1, fun i hi => by
    obtain ⟨h1, c, p, h2, h3, _⟩ := h.2.2 i hi
    exact ⟨h1, c, p, h2, h3, fun r hr => by cases hr⟩⟩
def MF.newRef (N : Nat) (Hb : Hp) (g s : Nat) (f : Value → Value) : MF := MF.of (fun v H => ∃ rb gi gr ci cr, (N ≤ rb ∧ Hb rb = none) ∧ (N ≤ gi ∧ Hb gi = none) ∧ (N ≤ gr ∧ Hb gr = none) ∧ rb ≠ gi ∧ rb ≠ gr ∧ gi ≠ gr ∧ v = f (.pointer (some ⟨rb, 0, none⟩)) ∧ H rb = some (refObj g s gi gr) ∧ H gi = some (.cells ci 4) ∧ H gr = some (.cells cr 45) ∧ RefC Hb g (fun _ => none) ci cr)
  fun _ _ _ hle ⟨rb, gi, gr, ci, cr, h1, h2, h3, n1, n2, n3, h4, h5, h6, h7, h8⟩ => ⟨rb, gi, gr, ci, cr, h1, h2, h3, n1, n2, n3, h4, hle _ _ h5, hle _ _ h6, hle _ _ h7, h8⟩
theorem genC_one (L : List GenD) : (rowCells (genC L)).all (·.oneCell') = true := by
  induction L with
  | nil => rfl
  | cons x L ih =>
    show (Value.oneCell' (.int .u64 (x.n : Int)) && (Value.oneCell' (ptr x.rb) && (rowCells (genC L)).all (·.oneCell'))) = true
    rw [ih]
    rfl
theorem Hp.del_ne {H : Hp} {g b : Nat} {o : Obj} (h : H b = some o) (hne : b ≠ g) : (H.del g) b = some o := by
  unfold Hp.del
  rw [if_neg hne]
  exact h
set_option maxRecDepth 20000 in
set_option maxHeartbeats 2000000 in
theorem at14_ok (ob wb gen : Nat) (y : RelD) (vL : Value) (L : List GenD) (H0 : Hp) (w0 : World) (hs : HS (Mem.keys (r14Mem y ob wb vL L)) H0 w0 H0 (r14Mem y ob wb vL L) w0) (hx : R14 H0 y vL L) (hok : RelOk y) (hg : gen < 18446744073709551616) :
    Calls Tryz.prog 73 #[ptr ob, .int .u64 (gen : Int)] w0 (Ret (Mem.keys (r14Mem y ob wb vL L)) H0 w0 fun v H' M' => ∃ vL' L', M' = r14Mem y ob wb vL' L' ∧ R14 H' y vL' L' ∧ if inWin y.base y.width gen then ∃ k, ∃ h : k < L'.length, L'[k].n = gen ∧ v = ptr L'[k].rb else v = .pointer none) := by
  have hle := Hp.le.refl H0
  have h00 := hs.toSub
  have hl16 := hx.len hok
  obtain ⟨xs, hxs⟩ : ∃ xs, xs = Mem.keys (r14Mem y ob wb vL L) := ⟨_, rfl⟩
  rw [← hxs] at hs ⊢
  clear hxs
  obtain ⟨bL, cL, hfL⟩ := hx.cells.form
  subst hfL
  refine Calls.enter (args := [ptr ob, .int .u64 (gen : Int)]) Tryz.func73 rfl Tryz.ntmps73 rfl ?_
  refine WC.seq (WC.region (WO.step rfl (OR.assign rfl (WO.done (WX.seq (WC.seq (WC.seq ?_)))))))
  refine WC.region (WO.step rfl (OR.move rfl (WO.step rfl (OR.nilCheck rfl (WO.step rfl (OR.fieldAddr FA140_2 rfl (WO.step rfl ?_)))))))
  refine OR.load T132 rfl rfl (hs.cellM (i := 0) rfl rfl) (WO.step rfl (OR.move rfl ?_))
  refine WO.step rfl (OR.call hs body81 rfl rfl (w10In_ok wb y.base y.width _ _ gen hs.toSub (hs.blk (i := 1) rfl) (hs.nh (i := 1) rfl) hok.b hok.w2) ?_)
  clear hs; rintro _ H w hs hle1 rfl; replace hle := hle.trans hle1; (try replace hlb := hlb.trans hle1)
  refine WO.step rfl (OR.not rfl (WO.done (WX.seq ?_)))
  by_cases hin : inWin y.base y.width gen
  · rw [decide_eq_true hin]
    refine WC.no rfl rfl ?_
    refine WC.skip (WX.seq (WC.seq (WC.region (WO.step rfl (OR.assign rfl (WO.done (WX.seq ?_)))))))
    refine WC.seq ?_
    refine WC.joinK (ι := Nat) (fun i => [(0, ptr ob), (1, .int .u64 (gen : Int)), (5, .int .i64 (i : Int))]) (fun i w => (i ≤ L.length ∧ (∀ j (h : j < L.length), j < i → L[j].n < gen) ∧ (∀ (h : i < L.length), gen ≤ L[i].n) ∧ ∃ H, Hp.le H0 H ∧ HS xs H0 w0 H (r14Mem y ob wb (.slice bL L.length cL) L) w)) ?_ (fun i w hW => ?_)
    · refine WC.block ?_
      refine WC.loop (ι := Nat) (fun i => [(0, ptr ob), (1, .int .u64 (gen : Int)), (5, .int .i64 (i : Int))]) (fun i w => (i ≤ L.length ∧ (∀ j (h : j < L.length), j < i → L[j].n < gen) ∧ ∃ H, Hp.le H0 H ∧ HS xs H0 w0 H (r14Mem y ob wb (.slice bL L.length cL) L) w)) (fun i => L.length - i) 0 ⟨rfl, rfl, rfl,  trivial⟩ ?_ (fun i w hW => ?_)
      · exact ⟨by omega, fun j _ h => absurd h (by omega), H, hle, hs⟩
      clear hs hle
      obtain ⟨hi, hlo, H, hle, hs⟩ := hW
      refine WC.seq (WC.seq (WC.region (WO.step rfl (OR.move rfl (WO.step rfl (OR.move rfl (WO.step rfl ?_)))))))
      refine OR.nilCheck rfl (WO.step rfl (OR.fieldAddr FA140_3 rfl (WO.step rfl (OR.load T138 rfl rfl (hs.cellM (i := 0) rfl rfl) (WO.step rfl (OR.lenSlice T138.und rfl (WO.step rfl ?_)))))))
      refine OR.lss rfl rfl (WO.step rfl (OR.move rfl ?_))
      refine WO.guardSplit (j := 7) rfl (fun hlt => ?_) (fun hlt => ?_)
      · have hi' : i < L.length := by omega
        obtain ⟨yb, yo, rfl, hcy⟩ := Sl.pos hx.cells (by omega)
        have hcr := (rowCells_get (genC L) i (by simpa [genC] using hi')).1
        have he9 : (genC L)[i]'(by simpa [genC] using hi') = (.int .u64 (L[i].n : Int), ptr L[i].rb) := by simp [genC]
        rw [he9] at hcr
        have hc1 := hcy _ _ hcr
        refine WO.guardYes rfl (decide_eq_true hlt) rfl rfl (OR.move rfl (WO.guardYes rfl (decide_eq_true hlt) rfl rfl (OR.nilCheck rfl (WO.guardYes rfl (decide_eq_true hlt) rfl rfl (OR.fieldAddr FA140_3 rfl (WO.guardYes rfl (decide_eq_true hlt) rfl rfl (OR.load T138 rfl rfl (hs.cellM (i := 0) rfl rfl) ?_)))))))
        refine WO.guardYes rfl (decide_eq_true hlt) rfl rfl (OR.move rfl ?_)
        refine WO.guardYes rfl (decide_eq_true hlt) rfl rfl (OR.idxN i T138.und T159 rfl rfl rfl hi' ?_)
        refine WO.guardYes rfl (decide_eq_true hlt) rfl rfl (OR.fieldAddr FA159_0 rfl ?_)
        refine WO.guardYes rfl (decide_eq_true hlt) rfl rfl (OR.load T22 rfl rfl (hs.cell (hcell.mono hle hc1)) ?_)
        refine WO.guardYes rfl (decide_eq_true hlt) rfl rfl (OR.move rfl (WO.guardYes rfl (decide_eq_true hlt) rfl rfl (OR.lss rfl rfl (WO.step rfl (OR.pickT rfl (decide_eq_true hlt) rfl (WO.done (WX.seq ?_)))))))
        refine WC.condD rfl (fun hng => ?_) (fun hng => ?_)
        · refine WC.skip (WX.seq (WC.block (WC.region (WO.step rfl (OR.move rfl (WO.step rfl (OR.addI rfl rfl (by omega) (by omega) ?_)))))))
          refine WO.step rfl (OR.assign rfl (WO.done (WX.block ?_)))
          refine WX.again (i + 1) ⟨rfl, rfl, rfl,  trivial⟩ ?_ ?_
          · refine ⟨hi', fun j hj hji => ?_, H, hle, hs⟩
            by_cases e : j = i
            · subst e; omega
            · exact hlo j hj (by omega)
          · omega
        · refine WC.exit (WX.seq_exit (WX.loop_exit (WX.block_hit ?_)))
          refine WX.arrive (i) ⟨rfl, rfl, rfl,  trivial⟩ ?_
          · exact ⟨hi, hlo, fun h => by omega, H, hle, hs⟩
      · refine WO.guardNo rfl (decide_eq_false hlt) rfl rfl (WO.guardNo rfl (decide_eq_false hlt) rfl rfl (WO.guardNo rfl (decide_eq_false hlt) rfl rfl (WO.guardNo rfl (decide_eq_false hlt) rfl rfl (WO.guardNo rfl (decide_eq_false hlt) rfl rfl (WO.guardNo rfl (decide_eq_false hlt) rfl rfl (WO.guardNo rfl (decide_eq_false hlt) rfl rfl (WO.guardNo rfl (decide_eq_false hlt) rfl rfl ?_)))))))
        refine WO.guardNo rfl (decide_eq_false hlt) rfl rfl (WO.guardNo rfl (decide_eq_false hlt) rfl rfl (WO.step rfl (OR.pickF rfl (decide_eq_false hlt) rfl (WO.done (WX.seq (WC.no rfl rfl (WC.exit ?_)))))))
        refine WX.seq_exit (WX.loop_exit (WX.block_hit ?_))
        refine WX.arrive (i) ⟨rfl, rfl, rfl,  trivial⟩ ?_
        · exact ⟨hi, hlo, fun h => absurd h (by omega), H, hle, hs⟩
    · clear hs hle
      obtain ⟨hi, hlo, hhi, H, hle, hs⟩ := hW
      by_cases he : ∃ h : i < L.length, L[i].n = gen
      · obtain ⟨hi', he2⟩ := he
        refine WC.seq (WC.seq (WC.region (WO.step rfl (OR.move rfl (WO.step rfl (OR.move rfl (WO.step rfl ?_)))))))
        refine OR.nilCheck rfl (WO.step rfl (OR.fieldAddr FA140_3 rfl (WO.step rfl (OR.load T138 rfl rfl (hs.cellM (i := 0) rfl rfl) (WO.step rfl (OR.lenSlice T138.und rfl (WO.step rfl ?_)))))))
        refine OR.lss rfl rfl (WO.step rfl (OR.move rfl ?_))
        obtain ⟨yb, yo, rfl, hcy⟩ := Sl.pos hx.cells (by omega)
        have hcr := rowCells_get (genC L) i (by simpa [genC] using hi')
        have he9 : (genC L)[i]'(by simpa [genC] using hi') = (.int .u64 (L[i].n : Int), ptr L[i].rb) := by simp [genC]
        rw [he9] at hcr
        have hc1 := hcy _ _ hcr.1
        have hc2 := hcy _ _ hcr.2
        refine WO.guardYes rfl (decide_eq_true (by omega : (i : Int) < (L.length : Int))) rfl rfl (OR.move rfl (WO.guardYes rfl (decide_eq_true (by omega : (i : Int) < (L.length : Int))) rfl rfl (OR.nilCheck rfl (WO.guardYes rfl (decide_eq_true (by omega : (i : Int) < (L.length : Int))) rfl rfl (OR.fieldAddr FA140_3 rfl (WO.guardYes rfl (decide_eq_true (by omega : (i : Int) < (L.length : Int))) rfl rfl (OR.load T138 rfl rfl (hs.cellM (i := 0) rfl rfl) ?_)))))))
        refine WO.guardYes rfl (decide_eq_true (by omega : (i : Int) < (L.length : Int))) rfl rfl (OR.move rfl ?_)
        refine WO.guardYes rfl (decide_eq_true (by omega : (i : Int) < (L.length : Int))) rfl rfl (OR.idxN i T138.und T159 rfl rfl rfl hi' ?_)
        refine WO.guardYes rfl (decide_eq_true (by omega : (i : Int) < (L.length : Int))) rfl rfl (OR.fieldAddr FA159_0 rfl ?_)
        refine WO.guardYes rfl (decide_eq_true (by omega : (i : Int) < (L.length : Int))) rfl rfl (OR.load T22 rfl rfl (hs.cell (hcell.mono hle hc1)) ?_)
        refine WO.guardYes rfl (decide_eq_true (by omega : (i : Int) < (L.length : Int))) rfl rfl (OR.move rfl (WO.guardYes rfl (decide_eq_true (by omega : (i : Int) < (L.length : Int))) rfl rfl (OR.eql rfl rfl (WO.step rfl (OR.pickT rfl (decide_eq_true (by omega : (i : Int) < (L.length : Int))) rfl (WO.done (WX.seq ?_)))))))
        refine WC.yes rfl (decide_eq_true (by omega)) ?_
        refine WC.seq (WC.region (WO.step rfl (OR.move rfl (WO.step rfl (OR.nilCheck rfl (WO.step rfl (OR.fieldAddr FA140_3 rfl ?_)))))))
        refine WO.step rfl (OR.load T138 rfl rfl (hs.cellM (i := 0) rfl rfl) (WO.step rfl (OR.move rfl ?_)))
        refine WO.step rfl (OR.idxN i T138.und T159 rfl rfl rfl hi' ?_)
        refine WO.step rfl (OR.fieldAddr FA159_1 rfl ?_)
        refine WO.step rfl (OR.load T135 rfl rfl (hs.cell (hcell.mono hle hc2)) ?_)
        refine WO.step rfl (OR.assign rfl (WO.done (WX.seq (WC.ret (WX.seq_ret ?_)))))
        refine WX.ret1 rfl rfl ?_
        refine ⟨_, H, _, rfl, hs, List.all_eq_true.1 (r14_flags _ _ _ _ _), _, L, rfl, hx.mono hle, ?_⟩
        rw [if_pos hin]
        exact ⟨i, hi', by omega, rfl⟩
      · have hne : ∀ (h : i < L.length), gen < L[i].n := fun h => by
          have h1 := hhi h
          rcases Nat.lt_or_ge gen L[i].n with h2 | h2
          · exact h2
          · exact absurd ⟨h, by omega⟩ he
        refine WC.seq ?_
        refine WC.joinK (ι := Unit) (fun iu => [(0, ptr ob), (1, .int .u64 (gen : Int)), (5, .int .i64 (i : Int))]) (fun iu w => (∃ H, Hp.le H0 H ∧ HS xs H0 w0 H (r14Mem y ob wb (.slice bL L.length cL) L) w)) ?_ (fun iu w hW => ?_)
        · refine WC.seq (WC.region (WO.step rfl (OR.move rfl (WO.step rfl (OR.move rfl (WO.step rfl (OR.nilCheck rfl ?_)))))))
          refine WO.step rfl (OR.fieldAddr FA140_3 rfl (WO.step rfl (OR.load T138 rfl rfl (hs.cellM (i := 0) rfl rfl) (WO.step rfl (OR.lenSlice T138.und rfl (WO.step rfl (OR.lss rfl rfl ?_)))))))
          refine WO.step rfl (OR.move rfl ?_)
          refine WO.guardSplit (j := 7) rfl (fun hlt => ?_) (fun hlt => ?_)
          · have hi' : i < L.length := by omega
            have hge := hne hi'
            obtain ⟨yb, yo, rfl, hcy⟩ := Sl.pos hx.cells (by omega)
            have hcr := rowCells_get (genC L) i (by simpa [genC] using hi')
            have he9 : (genC L)[i]'(by simpa [genC] using hi') = (.int .u64 (L[i].n : Int), ptr L[i].rb) := by simp [genC]
            rw [he9] at hcr
            have hc1 := hcy _ _ hcr.1
            refine WO.guardYes rfl (decide_eq_true hlt) rfl rfl (OR.move rfl (WO.guardYes rfl (decide_eq_true hlt) rfl rfl (OR.nilCheck rfl (WO.guardYes rfl (decide_eq_true hlt) rfl rfl (OR.fieldAddr FA140_3 rfl (WO.guardYes rfl (decide_eq_true hlt) rfl rfl (OR.load T138 rfl rfl (hs.cellM (i := 0) rfl rfl) ?_)))))))
            refine WO.guardYes rfl (decide_eq_true hlt) rfl rfl (OR.move rfl ?_)
            refine WO.guardYes rfl (decide_eq_true hlt) rfl rfl (OR.idxN i T138.und T159 rfl rfl rfl hi' ?_)
            refine WO.guardYes rfl (decide_eq_true hlt) rfl rfl (OR.fieldAddr FA159_0 rfl ?_)
            refine WO.guardYes rfl (decide_eq_true hlt) rfl rfl (OR.load T22 rfl rfl (hs.cell (hcell.mono hle hc1)) ?_)
            refine WO.guardYes rfl (decide_eq_true hlt) rfl rfl (OR.move rfl (WO.guardYes rfl (decide_eq_true hlt) rfl rfl (OR.eql rfl rfl (WO.step rfl (OR.pickT rfl (decide_eq_true hlt) rfl (WO.done (WX.seq ?_)))))))
            refine WC.no rfl (decide_eq_false (by omega)) ?_
            refine WC.skip ?_
            refine WX.arrive (()) ⟨rfl, rfl, rfl,  trivial⟩ ?_
            · exact ⟨H, hle, hs⟩
          · refine WO.guardNo rfl (decide_eq_false hlt) rfl rfl (WO.guardNo rfl (decide_eq_false hlt) rfl rfl (WO.guardNo rfl (decide_eq_false hlt) rfl rfl (WO.guardNo rfl (decide_eq_false hlt) rfl rfl (WO.guardNo rfl (decide_eq_false hlt) rfl rfl (WO.guardNo rfl (decide_eq_false hlt) rfl rfl (WO.guardNo rfl (decide_eq_false hlt) rfl rfl (WO.guardNo rfl (decide_eq_false hlt) rfl rfl ?_)))))))
            refine WO.guardNo rfl (decide_eq_false hlt) rfl rfl (WO.guardNo rfl (decide_eq_false hlt) rfl rfl (WO.step rfl (OR.pickF rfl (decide_eq_false hlt) rfl (WO.done (WX.seq (WC.no rfl rfl (WC.skip ?_)))))))
            refine WX.arrive (()) ⟨rfl, rfl, rfl,  trivial⟩ ?_
            · exact ⟨H, hle, hs⟩
        · clear hs hle hhi
          obtain ⟨H, hle, hs⟩ := hW
          have hlb := Hp.le.refl H
          have hgp := hok.g1
          obtain ⟨HJ, hHJ⟩ : ∃ X, X = H := ⟨_, rfl⟩
          subst hHJ
          refine WC.seq ?_
          refine WC.drawL 12 11 mixed hs (by kernel_rfl) ?_
          refine ⟨MF.eq _, by intro Mx H w hle hs; refine forVals_nil (ORg.plain (OR.move rfl ?_)); exact ⟨_, [], Hp.le.refl _, hs, rfl, rfl⟩, ?_⟩
          refine ⟨MF.eq _, by intro Mx H w hle hs; refine forVals_eq rfl rfl rfl ?_; refine forVals_nil (ORg.plain (OR.nilCheck rfl ?_)); exact ⟨_, [], Hp.le.refl _, hs, rfl, rfl⟩, ?_⟩
          refine ⟨MF.eq _, by intro Mx H w hle hs; refine forVals_eq rfl rfl rfl ?_; refine forVals_nil (ORg.plain (OR.fieldAddr FA140_0 rfl ?_)); exact ⟨_, [], Hp.le.refl _, hs, rfl, rfl⟩, ?_⟩
          refine ⟨MF.eq _, by intro Mx H w hle hs; refine forVals_eq rfl rfl rfl ?_; refine forVals_nil (ORg.plain (OR.load T3 rfl rfl (hs.right.cellM (i := 0) rfl rfl) ?_)); exact ⟨_, [], Hp.le.refl _, hs, rfl, rfl⟩, ?_⟩
          refine ⟨MF.eq _, by intro Mx H w hle hs; refine forVals_nil (ORg.plain (OR.move rfl ?_)); exact ⟨_, [], Hp.le.refl _, hs, rfl, rfl⟩, ?_⟩
          refine ⟨MF.eq _, by intro Mx H w hle hs; refine forVals_eq rfl rfl rfl ?_; refine forVals_nil (ORg.plain (OR.nilCheck rfl ?_)); exact ⟨_, [], Hp.le.refl _, hs, rfl, rfl⟩, ?_⟩
          refine ⟨MF.eq _, by intro Mx H w hle hs; refine forVals_eq rfl rfl rfl ?_; refine forVals_nil (ORg.plain (OR.fieldAddr FA140_1 rfl ?_)); exact ⟨_, [], Hp.le.refl _, hs, rfl, rfl⟩, ?_⟩
          refine ⟨MF.eq _, by intro Mx H w hle hs; refine forVals_eq rfl rfl rfl ?_; refine forVals_nil (ORg.plain (OR.load T3 rfl rfl (hs.right.cellM (i := 0) rfl rfl) ?_)); exact ⟨_, [], Hp.le.refl _, hs, rfl, rfl⟩, ?_⟩
          refine ⟨MF.newRef w0.heap.size HJ y.g y.s (fun v => .tuple #[v, .int .i64 0]), ?_, ?_⟩
          · intro Mx H w hle2 hs; (try replace hle := hle.trans hle2); (try replace hlb := hlb.trans hle2); refine forVals_eq rfl rfl rfl ?_; refine forVals_eq rfl rfl rfl ?_
            have hsz := hs.size
            have hdom : ∀ q, w.heap.size ≤ q → HJ q = none := fun q hq => by
              cases hh : HJ q with
              | none => rfl
              | some u => have := lt_of_heap (hs.sub q u (hlb _ _ hh)); omega
            refine forVals_nil (ORg.plain (OR.callX (Mx := []) hs body67 rfl rfl (refNew_ok (y.g : Int) (y.s : Int) _ _ hs.toSub) rfl rfl ?_))
            clear hs; rintro v H3 M3 w hs hle3 hnew hc
            have hcond : 1 ≤ (y.g : Int) ∧ (y.g : Int) ≤ 255 ∧ 1 ≤ (y.s : Int) ∧ (y.s : Int) ≤ 65535 := by have h1 := hok.g1; have h2 := hok.g2; have h3 := hok.s1; have h4 := hok.s2; omega
            rw [if_pos hcond] at hc
            simp only [Int.toNat_natCast] at hc
            obtain ⟨nrb, ngi, ngr, ci, cr, rfl, hb1, hb2, hb3, rfl, hRC, _⟩ := hc
            have hnd := hs.nd
            simp only [Mem.keys, List.map_cons, List.cons_append, List.nodup_cons, List.mem_cons, not_or] at hnd
            have n1 : nrb ≠ ngi := hnd.1.1
            have n2 : nrb ≠ ngr := hnd.1.2.1
            have n3 : ngi ≠ ngr := hnd.2.1.1
            obtain ⟨H4, hle4, hp4, hs⟩ := HS.pub1 hs (Nat.le_trans hsz hb1)
            obtain ⟨H5, hle5, hp5, hs⟩ := HS.pub1 hs (Nat.le_trans hsz hb2)
            obtain ⟨H6, hle6, hp6, hs⟩ := HS.pub1 hs (Nat.le_trans hsz hb3)
            exact ⟨_, [], (hle3.trans (hle4.trans (hle5.trans hle6))), hs, ⟨nrb, ngi, ngr, ci, cr, ⟨Nat.le_trans hsz hb1, hdom _ hb1⟩, ⟨Nat.le_trans hsz hb2, hdom _ hb2⟩, ⟨Nat.le_trans hsz hb3, hdom _ hb3⟩, n1, n2, n3, rfl, hle6 _ _ (hle5 _ _ hp4), hle6 _ _ hp5, hp6, hRC.anyH⟩, rfl⟩
          refine ⟨MF.newRef w0.heap.size HJ y.g y.s (fun v => .tuple #[v, .int .i64 0]), ?_, ?_⟩
          · intro Mx H w hle2 hs; (try replace hle := hle.trans hle2); (try replace hlb := hlb.trans hle2); refine forVals_of rfl rfl rfl ?_; intro v8 h8
            refine forVals_nil (ORg.plain (OR.move rfl ?_))
            exact ⟨_, [], Hp.le.refl _, hs, h8, rfl⟩
          refine ⟨MF.newRef w0.heap.size HJ y.g y.s (fun v => v), ?_, ?_⟩
          · intro Mx H w hle2 hs; (try replace hle := hle.trans hle2); (try replace hlb := hlb.trans hle2); refine forVals_of rfl rfl rfl ?_; intro v9 h9
            obtain ⟨nrb, ngi, ngr, ci, cr, m1, m2, m3, n1, n2, n3, rfl, p1, p2, p3, hRC⟩ := h9
            refine forVals_nil (ORg.plain (OR.extract rfl rfl ?_))
            exact ⟨_, [], Hp.le.refl _, hs, ⟨nrb, ngi, ngr, ci, cr, m1, m2, m3, n1, n2, n3, rfl, p1, p2, p3, hRC⟩, rfl⟩
          refine ⟨MF.eq (.int .i64 0), ?_, ?_⟩
          · intro Mx H w hle2 hs; (try replace hle := hle.trans hle2); (try replace hlb := hlb.trans hle2); refine forVals_of rfl rfl rfl ?_; intro v9 h9
            obtain ⟨nrb, ngi, ngr, ci, cr, m1, m2, m3, n1, n2, n3, rfl, p1, p2, p3, hRC⟩ := h9
            refine forVals_nil (ORg.plain (OR.extract rfl rfl ?_))
            exact ⟨_, [], Hp.le.refl _, hs, rfl, rfl⟩
          intro H w hle2; (try replace hle := hle.trans hle2); (try replace hlb := hlb.trans hle2)
          refine forAllVals_eq rfl ?_
          refine forAllVals_eq rfl ?_
          refine forAllVals_eq rfl ?_
          refine forAllVals_eq rfl ?_
          refine forAllVals_eq rfl ?_
          refine forAllVals_eq rfl ?_
          refine forAllVals_eq rfl ?_
          refine forAllVals_eq rfl ?_
          refine forAllVals_of rfl ?_; intro v8 h8
          refine forAllVals_of rfl ?_; intro v9 h9
          refine forAllVals_of rfl ?_; intro v10 h10
          refine forAllVals_eq rfl ?_
          refine forAllVals_nil ?_; (try clear hs); intro hs
          obtain ⟨nrb, ngi, ngr, ci, cr, m1, m2, m3, n1, n2, n3, rfl, p1, p2, p3, hRC⟩ := h10
          have hsA := HS.unpub h00 hs p3 m3.1
          have hsB := HS.unpub h00 hsA (Hp.del_ne p2 n3) m2.1
          have hsC := HS.unpub h00 hsB (Hp.del_ne (Hp.del_ne p1 n2) n1) m1.1
          clear hs hsA hsB
          have hlJ := Hp.le_del (Hp.le_del (Hp.le_del hlb m3.2) m2.2) m1.2
          have hle := hsC.le
          generalize ((H.del ngr).del ngi).del nrb = HK at *
          have hs : HS xs H0 w0 HK ((nrb, refObj y.g y.s ngi ngr, true) :: (ngi, .cells ci 4, true) :: (ngr, .cells cr 45, true) :: (ob, r14Obj y.g y.s wb (.slice bL L.length cL), true) :: (wb, w10Obj y.base y.width, true) :: gensMem y.g y.s L) w := hsC
          clear hsC p1 p2 p3 m1 m2 m3 hlb
          have hcap : L.length ≤ cL := by obtain ⟨_, _, _, hh, h1, _⟩ := hx.cells; cases hh; exact h1
          have hcells := Sl.mono hx.cells hle
          have hgl : (genC L).length = L.length := by simp [genC]
          refine WO.step rfl (OR.assign rfl (WO.step rfl (OR.assign rfl (WO.done (WX.seq (WC.seq (WC.region ?_)))))))
          refine WO.step rfl (OR.assign rfl (WO.done (WX.seq (WC.seq (WC.region (WO.step rfl (OR.move rfl ?_)))))))
          refine WO.step rfl (OR.move rfl (WO.step rfl (OR.nilCheck rfl (WO.step rfl (OR.fieldAddr FA140_3 rfl (WO.step rfl (OR.load T138 rfl rfl (hs.cellM (i := 3) rfl rfl) ?_)))))))
          refine WO.step rfl (OR.move rfl ?_)
          refine WO.step rfl (OR.sliceHiG i T138.und T159 rfl rfl rfl (by omega) ?_)
          have hsrc1 := Sl.takeS hcells i hi
          rw [rowCells_take, show (genC L).take i = genC (L.take i) by simp [genC]] at hsrc1
          have hln1 : (rowCells (genC (L.take i))).length = i * 2 := by rw [rowCells_length]; simp [genC]; omega
          refine WO.step rfl (OR.append (n := 0) (cs := []) (m := i) (news := rowCells (genC (L.take i))) (Mo := []) (M := _ :: _ :: _ :: _ :: _ :: gensMem y.g y.s L) hs (Own.nil w0.heap.size 159 2) T138.und T159 rfl (by omega) rfl rfl hln1 (Sl.src hsrc1 hs) (Sl.src0 hsrc1) (genC_one _) (by omega) (by omega) ?_)
          clear hs; intro v1 w Mo1 hs ho1 hge1
          rw [Nat.zero_add, List.nil_append] at ho1
          obtain ⟨bo1, co1, hfo1⟩ := ho1.form
          subst hfo1
          replace hs := HS.mtail (A := Mo1) hs
          refine WO.step rfl (OR.assign rfl (WO.done (WX.seq (WC.seq (WC.region (WO.step rfl (OR.move rfl ?_)))))))
          refine WO.step rfl (OR.move rfl (WO.step rfl (OR.move rfl (WO.step rfl (OR.buildAll T159 rfl rfl PL159 rfl rfl ?_)))))
          refine WO.step rfl (OR.buildSlice (vs := [_]) hs T138.und T159 rfl rfl rfl rfl (by simp) ?_)
          clear hs; intro q1 w hq1 hs
          have hb9 := hs.blk (i := 0) rfl
          refine WO.step rfl (OR.append (m := 1) (news := [.int .u64 (gen : Int), ptr nrb]) (Mo := Mo1) (M := _ :: _ :: _ :: _ :: _ :: _ :: gensMem y.g y.s L) (HS.mtail (A := _ :: _ :: _ :: _ :: _ :: _ :: gensMem y.g y.s L) hs) ho1 T138.und T159 rfl (by omega) rfl rfl rfl (cells_of hb9) (fun h => by cases h) rfl (by omega) (by omega) ?_)
          clear hs ho1; intro v2 w Mo2 hs ho2 hge2
          replace hs := (HS.mtail (A := Mo2) hs).drop 0
          obtain ⟨bo2, co2, hfo2⟩ := ho2.form
          subst hfo2
          refine WO.step rfl (OR.assign rfl (WO.done (WX.seq (WC.seq (WC.region (WO.step rfl (OR.move rfl ?_)))))))
          refine WO.step rfl (OR.move rfl (WO.step rfl (OR.move rfl (WO.step rfl (OR.nilCheck rfl (WO.step rfl (OR.fieldAddr FA140_3 rfl ?_)))))))
          refine WO.step rfl (OR.load T138 rfl rfl (hs.cellM (i := 3) rfl rfl) (WO.step rfl (OR.move rfl ?_)))
          refine WO.step rfl (OR.sliceLoG i T138.und T159 rfl rfl rfl (by omega) ?_)
          have hsrc2 := Sl.dropS hcells i hi
          rw [rowCells_drop, show (genC L).drop i = genC (L.drop i) by simp [genC]] at hsrc2
          have hln2 : (rowCells (genC (L.drop i))).length = (L.length - i) * 2 := by rw [rowCells_length]; simp [genC]
          refine WO.step rfl (OR.append (m := L.length - i) (news := rowCells (genC (L.drop i))) (Mo := Mo2) (M := _ :: _ :: _ :: _ :: _ :: gensMem y.g y.s L) (HS.mtail (A := _ :: _ :: _ :: _ :: _ :: gensMem y.g y.s L) hs) ho2 T138.und T159 rfl (by omega) rfl rfl hln2 (Sl.src hsrc2 hs) (Sl.src0 hsrc2) (genC_one _) (by omega) (by omega) ?_)
          clear hs ho2; intro v3 w Mo3 hs ho3 hge3
          replace hs := HS.mtail (A := Mo3) hs
          obtain ⟨bo3, co3, hfo3⟩ := ho3.form
          subst hfo3
          refine WO.step rfl (OR.nilCheck rfl (WO.step rfl (OR.fieldAddr FA140_3 rfl ?_)))
          replace hs := hs.front (i := 3) rfl
          refine WO.stepN (OR.store hs T138 rfl rfl rfl (Nat.le_of_ble_eq_true rfl) rfl ?_)
          clear hs; intro w hs
          refine WO.done (WX.seq (WC.seq (WC.region (WO.step rfl (OR.move rfl (WO.step rfl (OR.assign rfl ?_)))))))
          refine WO.done (WX.seq (WC.ret ?_))
          refine WX.ret1 rfl rfl ?_
          have hs9 : HS xs H0 w0 HK (((ob, r14Obj y.g y.s wb (.slice bo3 (i + 1 + (L.length - i)) co3), true) :: (nrb, refObj y.g y.s ngi ngr, true) :: (ngi, .cells ci 4, true) :: (ngr, .cells cr 45, true) :: (wb, w10Obj y.base y.width, true) :: gensMem y.g y.s L) ++ Mo3) w := hs
          obtain ⟨H4, hle4, hs4, hsl, _⟩ := HS.pub (HS.mtail (A := (ob, r14Obj y.g y.s wb (.slice bo3 (i + 1 + (L.length - i)) co3), true) :: (nrb, refObj y.g y.s ngi ngr, true) :: (ngi, .cells ci 4, true) :: (ngr, .cells cr 45, true) :: (wb, w10Obj y.base y.width, true) :: gensMem y.g y.s L) hs9) ho3
          obtain ⟨x, hxd⟩ : ∃ x : GenD, x = ⟨gen, nrb, ngi, ngr, ci, cr, fun _ => none⟩ := ⟨_, rfl⟩
          have hL' : (L.take i ++ x :: L.drop i).length = i + 1 + (L.length - i) := by simp; omega
          have hcl : rowCells (genC (L.take i ++ x :: L.drop i)) = rowCells (genC (L.take i)) ++ [.int .u64 (gen : Int), ptr nrb] ++ rowCells (genC (L.drop i)) := by
            have e : genC (L.take i ++ x :: L.drop i) = genC (L.take i) ++ ((.int .u64 (gen : Int), ptr nrb) :: genC (L.drop i)) := by simp [genC, hxd]
            rw [e, rowCells_append]
            simp [rowCells]
          have hperm : List.Perm (r14Mem y ob wb (.slice bo3 (i + 1 + (L.length - i)) co3) (L.take i ++ x :: L.drop i)) ((ob, r14Obj y.g y.s wb (.slice bo3 (i + 1 + (L.length - i)) co3), true) :: (nrb, refObj y.g y.s ngi ngr, true) :: (ngi, .cells ci 4, true) :: (ngr, .cells cr 45, true) :: (wb, w10Obj y.base y.width, true) :: gensMem y.g y.s L) := by
            refine List.Perm.cons _ ?_
            have h1 := gens_perm_ins y.g y.s L i x
            have h2 : genMem y.g y.s x = [(nrb, refObj y.g y.s ngi ngr, true), (ngi, .cells ci 4, true), (ngr, .cells cr 45, true)] := by rw [hxd]; rfl
            rw [h2] at h1
            exact (List.Perm.cons _ h1).trans (List.perm_middle (l₁ := [(nrb, refObj y.g y.s ngi ngr, true), (ngi, .cells ci 4, true), (ngr, .cells cr 45, true)])).symm
          have hlow : ∀ a ∈ L.take i, a.n < x.n := by
            intro a ha
            obtain ⟨j, hj, rfl⟩ := List.getElem_of_mem ha
            rw [List.length_take] at hj
            rw [List.getElem_take, hxd]
            exact hlo j (by omega) (by omega)
          have hhig : ∀ a ∈ L.drop i, x.n < a.n := by
            intro a ha
            obtain ⟨j, hj, rfl⟩ := List.getElem_of_mem ha
            rw [List.length_drop] at hj
            rw [List.getElem_drop, hxd]
            have h1 := hne (by omega)
            rcases Nat.eq_zero_or_pos j with hj0 | hj0
            · subst hj0; exact h1
            · have h2 := List.pairwise_iff_getElem.1 hx.asc i (i + j) (by omega) (by omega) (by omega)
              show gen < _
              omega
          have hR := (hx.mono (hle.trans hle4)).ins (x := x) (v := .slice bo3 (i + 1 + (L.length - i)) co3) hlow hhig (by rw [hxd]) (by rw [hxd]; exact hRC.anyH) (by rw [hxd]; exact hin) (by rw [hL', hcl]; exact hsl)
          refine ⟨_, H4, _, rfl, hs4.perm hperm, List.all_eq_true.1 (r14_flags _ _ _ _ _), _, _, rfl, hR, ?_⟩
          rw [if_pos hin]
          have hil : (L.take i).length = i := by rw [List.length_take]; omega
          have hge : (L.take i ++ x :: L.drop i)[i]'(by omega) = x := by
            rw [List.getElem_append_right (by omega)]
            simp [hil]
          exact ⟨i, by omega, by rw [hge, hxd], by rw [hge, hxd]⟩
  · rw [decide_eq_false hin]
    refine WC.yes rfl rfl ?_
    refine WC.seq (WC.region (WO.step rfl (OR.assign rfl (WO.done (WX.seq (WC.ret (WX.seq_ret ?_)))))))
    refine WX.ret1 rfl rfl ?_
    refine ⟨_, H, _, rfl, hs, List.all_eq_true.1 (r14_flags _ _ _ _ _), _, L, rfl, hx.mono hle, ?_⟩
    rw [if_neg hin]
end Go.Bw
namespace Go.Bw
set_option linter.unusedVariables false
set_option linter.unusedSimpArgs false
open Go.Proofs

theorem look_at {g : Nat} {L : List GenD} (h : L.Pairwise fun a b => a.n < b.n) {k : Nat} (hk : k < L.length) : lookL g L L[k].n = upto L[k].f g := by
  unfold lookL
  have hf : L.find? (fun x => x.n == L[k].n) = some L[k] := by
    rw [List.find?_eq_some_iff_getElem]
    refine ⟨by simp, k, hk, rfl, fun j hj => ?_⟩
    have := List.pairwise_iff_getElem.1 h j k (by omega) hk hj
    have hne : L[j].n ≠ L[k].n := by omega
    simpa using hne
  rw [hf]
theorem look_none {g : Nat} {L : List GenD} {n : Nat} (h : ∀ a ∈ L, a.n ≠ n) : lookL g L n = [] := by
  unfold lookL
  rw [find_none h]
theorem set_n {L : List GenD} {k : Nat} (hk : k < L.length) {x : GenD} (hx : x.n = L[k].n) {j : Nat} (hj : j < (L.set k x).length) : (L.set k x)[j].n = (L[j]'(by simpa using hj)).n := by
  rw [List.getElem_set]
  split
  · rename_i e; subst e; exact hx
  · rfl
def GenD.upd (x : GenD) (ci cr : Array Value) (f : Nat → Option RowD) : GenD := ⟨x.n, x.rb, x.gi, x.gr, ci, cr, f⟩
theorem R14.upd {H : Hp} {y : RelD} {vL : Value} {L : List GenD} (h : R14 H y vL L) {k gen : Nat} (hk : k < L.length) (hn : L[k].n = gen) {r : RowD} {ci cr : Array Value} {f : Nat → Option RowD} (hc : RefC H y.g f ci cr) (hL : Leads y.g y.s f)
    (hu : upto f y.g = (insR y.g y.s (upto L[k].f y.g) r).2) : R14 H (y.take gen r) vL (L.set k (L[k].upd ci cr f)) := by
  obtain ⟨e1, e2, e3, e4⟩ := take_same y gen r
  have hin : inWin y.base y.width gen := hn ▸ h.win _ (List.getElem_mem hk)
  have hasc : (L.set k (L[k].upd ci cr f)).Pairwise fun a b => a.n < b.n := by
    rw [List.pairwise_iff_getElem]
    intro i j hi hj hij
    rw [set_n hk (x := L[k].upd ci cr f) rfl hi, set_n hk (x := L[k].upd ci cr f) rfl hj]
    exact List.pairwise_iff_getElem.1 h.asc i j _ _ hij
  refine ⟨?_, fun x hx => ?_, hasc, fun x hx => ?_, fun n => ?_, h.tidy.take gen r⟩
  · have e : genC (L.set k (L[k].upd ci cr f)) = genC L := by
      refine List.ext_getElem (by simp [genC]) fun j h1 h2 => ?_
      simp only [genC, List.getElem_map, List.getElem_set]
      split
      · rename_i e; subst e; rfl
      · rfl
    rw [e, List.length_set]
    exact h.cells
  · rw [e1, e2]
    rcases List.mem_or_eq_of_mem_set hx with hx | rfl
    · exact h.mem x hx
    · exact ⟨hc, hL, by show Red y.g y.s (upto f y.g); rw [hu]; exact insAny_red (h.mem _ (List.getElem_mem hk)).2.2 r⟩
  · rw [e3, e4]
    rcases List.mem_or_eq_of_mem_set hx with hx | rfl
    · exact h.win x hx
    · exact h.win L[k] (List.getElem_mem hk)
  · rw [e1, rk_take]
    by_cases hng : n = gen
    · subst hng
      rw [if_pos ⟨rfl, hin⟩, ← h.look n]
      have h1 := look_at (g := y.g) hasc (k := k) (by simpa using hk)
      rw [List.getElem_set_self] at h1
      have h2 := look_at (g := y.g) h.asc hk
      rw [hn] at h2
      have h3 : lookL y.g (L.set k (L[k].upd ci cr f)) n = upto f y.g := by rw [← hn]; exact h1
      rw [h3, h2, hu]
    · rw [if_neg (fun q => hng q.1), ← h.look n]
      by_cases hex : ∃ j, ∃ hj : j < L.length, L[j].n = n
      · obtain ⟨j, hj, hjn⟩ := hex
        have hjk : j ≠ k := fun e => by subst e; exact hng (hjn.symm.trans hn)
        have h1 := look_at (g := y.g) hasc (k := j) (by simpa using hj)
        have h2 := look_at (g := y.g) h.asc hj
        have h4 : (L.set k (L[k].upd ci cr f))[j]'(by simpa using hj) = L[j] := by rw [List.getElem_set_ne (Ne.symm hjk)]
        rw [h4, hjn] at h1
        rw [hjn] at h2
        rw [h1, h2]
      · rw [look_none, look_none]
        · intro a ha e
          obtain ⟨j, hj, rfl⟩ := List.getElem_of_mem ha
          exact hex ⟨j, hj, e⟩
        · intro a ha e
          obtain ⟨j, hj, rfl⟩ := List.getElem_of_mem ha
          rw [set_n hk (x := L[k].upd ci cr f) rfl hj] at e
          exact hex ⟨j, by simpa using hj, e⟩
theorem permG {g s : Nat} {L : List GenD} {k : Nat} (h : k < L.length) (A : Mem) : (genMem g s L[k] ++ (A ++ gensMem g s (L.take k ++ L.drop (k + 1)))).Perm (A ++ gensMem g s L) := by
  have h1 := (gens_perm g s h).append_left A
  refine List.Perm.trans ?_ h1.symm
  rw [← List.append_assoc, ← List.append_assoc]
  exact List.perm_append_comm.append_right _
theorem permGs {g s : Nat} {L : List GenD} {k : Nat} (h : k < L.length) (x : GenD) (A : Mem) : (A ++ gensMem g s (L.set k x)).Perm (genMem g s x ++ (A ++ gensMem g s (L.take k ++ L.drop (k + 1)))) := by
  have h1 := (gens_perm_set g s h x).append_left A
  refine h1.trans ?_
  rw [← List.append_assoc, ← List.append_assoc]
  exact List.perm_append_comm.append_right _
theorem perm3 {α : Type} {a b c : α} {l : List α} : (b :: c :: a :: l).Perm (a :: b :: c :: l) := (List.perm_middle (a := a) (l₁ := [b, c]) (l₂ := l))
theorem rk_in {y : RelD} {gen : Nat} (h : inWin y.base y.width gen) : y.rk gen = y.rows (gen % y.width) := by unfold RelD.rk; rw [if_pos h]
set_option maxRecDepth 20000 in
set_option maxHeartbeats 2000000 in
theorem take14_ok (ob wb gen : Nat) (rc rp : Value) (r : RowD) (y : RelD) (vL : Value) (L : List GenD) (H0 : Hp) (w0 : World) (hs : HS (Mem.keys (r14Mem y ob wb vL L)) H0 w0 H0 (r14Mem y ob wb vL L) w0) (hx : R14 H0 y vL L) (hok : RelOk y) (hg : gen < 18446744073709551616) (hrc : Bytes H0 rc r.1) (hrp : Bytes H0 rp r.2) :
    Calls Tryz.prog 16 #[ptr ob, .int .u64 (gen : Int), .agg #[rc, rp]] w0 (Ret (Mem.keys (r14Mem y ob wb vL L)) H0 w0 fun v H' M' => v = .tuple #[.bool (y.takeI gen r), .int .i64 (y.takeE gen r)] ∧ ∃ vL' L', M' = r14Mem (y.take gen r) ob wb vL' L' ∧ R14 H' (y.take gen r) vL' L') := by
  have hle := Hp.le.refl H0
  have h00 := hs.toSub
  obtain ⟨xs, hxs⟩ : ∃ xs, xs = Mem.keys (r14Mem y ob wb vL L) := ⟨_, rfl⟩
  rw [← hxs] at hs ⊢
  obtain ⟨e1, e2, e3, e4⟩ := take_same y gen r
  obtain ⟨b1, c1, hf1⟩ := hrc.form
  obtain ⟨b2, c2, hf2⟩ := hrp.form
  subst hf1 hf2
  refine Calls.enter (args := [ptr ob, .int .u64 (gen : Int), .agg #[.slice b1 r.1.length c1, .slice b2 r.2.length c2]]) Tryz.func16 rfl Tryz.ntmps16 rfl ?_
  refine WC.seq (WC.region (WO.step rfl (OR.box hs rfl ?_)))
  clear hs; intro g1 w hg1 hs
  refine WO.step rfl (OR.assign rfl (WO.step rfl (OR.assign rfl (WO.done (WX.seq (WC.seq (WC.region ?_)))))))
  refine WO.step rfl (OR.move rfl (WO.step rfl (OR.move rfl ?_)))
  have hs9 := HS.mtail (A := [_]) hs
  clear hs
  refine WO.step rfl (OR.callX (Mx := r14Mem y ob wb vL L) (Mr := [_]) hs9 body73 rfl rfl (at14_ok ob wb gen y vL L _ _ (HS.partRW (Mr := [_]) hs9) hx hok hg) rfl (r14_flags _ _ _ _ _) ?_)
  clear hs9; rintro v H M w hs hle1 hnew ⟨vL', L', rfl, hx2, hv⟩
  replace hs := HS.mtail (A := r14Mem y ob wb vL' L') (B := [_]) hs
  replace hle := hle.trans hle1
  by_cases hin : inWin y.base y.width gen
  · rw [if_pos hin] at hv
    obtain ⟨k, hk, hkn, rfl⟩ := hv
    have hkm := hx2.mem _ (List.getElem_mem hk)
    have hup : upto L'[k].f y.g = y.rows (gen % y.width) := by rw [← rk_in hin, ← hx2.look gen, ← hkn, look_at hx2.asc hk]
    refine WO.step rfl (OR.assign rfl (WO.done (WX.seq (WC.seq (WC.seq (WC.region (WO.step rfl ?_)))))))
    refine OR.move rfl (WO.step rfl (OR.eqlNilP T135.und rfl rfl (WO.done (WX.seq ?_))))
    refine WC.no rfl rfl ?_
    refine WC.skip (WX.seq (WC.seq (WC.region (WO.step rfl (OR.move rfl (WO.step rfl (OR.loadAll T45 rfl rfl (hs.blk (i := 0) rfl) rfl ?_)))))))
    have hsP : HS xs H0 w0 H ([(L'[k].gi, .cells L'[k].ci 4, true), (L'[k].gr, .cells L'[k].cr 45, true)] ++ ((L'[k].rb, refObj y.g y.s L'[k].gi L'[k].gr, true) :: ([(g1, _, true), (ob, r14Obj y.g y.s wb vL', true), (wb, w10Obj y.base y.width, true)] ++ gensMem y.g y.s (L'.take k ++ L'.drop (k + 1))))) w := hs.perm (perm3.trans (permG hk [_, _, _]))
    clear hs
    refine WO.step rfl (OR.callX (Mx := [(L'[k].gi, .cells L'[k].ci 4, true), (L'[k].gr, .cells L'[k].cr 45, true)]) (Mr := (L'[k].rb, refObj y.g y.s L'[k].gi L'[k].gr, true) :: ([(g1, _, true), (ob, r14Obj y.g y.s wb vL', true), (wb, w10Obj y.base y.width, true)] ++ gensMem y.g y.s (L'.take k ++ L'.drop (k + 1)))) hsP body74 rfl rfl (refInsert_ok r _ _ _ _ hsP.toSub (RefAt.of hsP (i := 2) (j := 0) (k := 1) rfl rfl rfl (by omega) (by omega) (by omega)) hkm.1 hkm.2.1 hkm.2.2 hok.g2 hok.s2 (hrc.mono hle) (hrp.mono hle)) rfl rfl ?_)
    clear hsP; rintro v H2 M w hs hle2 hnew ⟨ci', cr', f', rfl, hRC, hLd, hu, rfl⟩
    have hx3 := (hx2.mono hle2).upd hk hkn hRC hLd hu
    refine WO.step rfl (OR.extract rfl rfl (WO.step rfl (OR.extract rfl rfl (WO.step rfl (OR.assign rfl (WO.step rfl (OR.assign rfl ?_)))))))
    refine WO.done (WX.seq (WC.ret ?_))
    refine WX.ret2 rfl rfl rfl ?_
    refine ⟨_, H2, r14Mem (y.take gen r) ob wb vL' (L'.set k (L'[k].upd ci' cr' f')), rfl, ?_, List.all_eq_true.1 (r14_flags _ _ _ _ _), ?_, vL', _, rfl, hx3⟩
    · unfold r14Mem
      rw [e1, e2, e3, e4]
      have hsQ : HS xs H0 w0 H2 ([(g1, _, true), (ob, r14Obj y.g y.s wb vL', true), (wb, w10Obj y.base y.width, true)] ++ gensMem y.g y.s (L'.set k (L'[k].upd ci' cr' f'))) w := hs.perm ((permGs hk (L'[k].upd ci' cr' f') [_, _, _]).trans perm3.symm)
      exact hsQ.drop 0
    · rw [RelD.takeI, RelD.takeE, if_pos hin, decide_eq_true hin, Bool.true_and, hup]
  · rw [if_neg hin] at hv
    subst hv
    refine WO.step rfl (OR.assign rfl (WO.done (WX.seq (WC.seq (WC.seq (WC.region (WO.step rfl ?_)))))))
    refine OR.move rfl (WO.step rfl (OR.eqlNilP T135.und rfl rfl (WO.done (WX.seq ?_))))
    refine WC.yes rfl rfl ?_
    refine WC.seq (WC.region (WO.step rfl (OR.assign rfl (WO.step rfl (OR.assign rfl (WO.done (WX.seq ?_)))))))
    refine WC.ret (WX.seq_ret ?_)
    refine WX.ret2 rfl rfl rfl ?_
    have et : y.take gen r = y := by unfold RelD.take; rw [if_neg hin]
    refine ⟨_, H, r14Mem y ob wb vL' L', rfl, hs.drop 0, List.all_eq_true.1 (r14_flags _ _ _ _ _), ?_, vL', L', by rw [et], by rw [et]; exact hx2⟩
    rw [RelD.takeI, RelD.takeE, if_neg hin, decide_eq_false hin, Bool.false_and]
set_option maxRecDepth 20000 in
set_option maxHeartbeats 2000000 in
theorem solve14_ok (ob wb gen : Nat) (y : RelD) (vL : Value) (L : List GenD) (H0 : Hp) (w0 : World) (hs : HS (Mem.keys (r14Mem y ob wb vL L)) H0 w0 H0 (r14Mem y ob wb vL L) w0) (hx : R14 H0 y vL L) (hok : RelOk y) (hg : gen < 18446744073709551616) :
    Calls Tryz.prog 75 #[ptr ob, .int .u64 (gen : Int)] w0 (Ret (Mem.keys (r14Mem y ob wb vL L)) H0 w0 fun v H' M' => (∃ r, v = .tuple #[r, .int .i64 (y.solE gen)] ∧ BytesL H' r (y.solF gen)) ∧ ∃ vL' L', M' = r14Mem y ob wb vL' L' ∧ R14 H' y vL' L') := by
  have hle := Hp.le.refl H0
  have h00 := hs.toSub
  obtain ⟨xs, hxs⟩ : ∃ xs, xs = Mem.keys (r14Mem y ob wb vL L) := ⟨_, rfl⟩
  rw [← hxs] at hs ⊢
  refine Calls.enter (args := [ptr ob, .int .u64 (gen : Int)]) Tryz.func75 rfl Tryz.ntmps75 rfl ?_
  refine WC.seq (WC.region (WO.step rfl (OR.assign rfl (WO.step rfl (OR.assign rfl (WO.done (WX.seq ?_)))))))
  refine WC.seq (WC.region (WO.step rfl (OR.move rfl (WO.step rfl (OR.move rfl ?_)))))
  have hs9 : HS xs H0 w0 H0 (r14Mem y ob wb vL L ++ []) w0 := by rw [List.append_nil]; exact hs
  clear hs
  refine WO.step rfl (OR.callX (Mx := r14Mem y ob wb vL L) (Mr := []) hs9 body73 rfl rfl (at14_ok ob wb gen y vL L _ _ (HS.partRW (Mr := []) hs9) hx hok hg) rfl (r14_flags _ _ _ _ _) ?_)
  clear hs9; rintro v H M w hs hle1 hnew ⟨vL', L', rfl, hx2, hv⟩
  replace hs : HS xs H0 w0 H (r14Mem y ob wb vL' L') w := by rw [List.append_nil] at hs; exact hs
  replace hle := hle.trans hle1
  by_cases hin : inWin y.base y.width gen
  · rw [if_pos hin] at hv
    obtain ⟨k, hk, hkn, rfl⟩ := hv
    have hkm := hx2.mem _ (List.getElem_mem hk)
    have hup : upto L'[k].f y.g = y.rows (gen % y.width) := by rw [← rk_in hin, ← hx2.look gen, ← hkn, look_at hx2.asc hk]
    refine WO.step rfl (OR.assign rfl (WO.done (WX.seq (WC.seq (WC.seq (WC.region (WO.step rfl ?_)))))))
    refine OR.move rfl (WO.step rfl (OR.eqlNilP T135.und rfl rfl (WO.done (WX.seq ?_))))
    refine WC.no rfl rfl ?_
    refine WC.skip (WX.seq (WC.seq (WC.region (WO.step rfl (OR.move rfl ?_)))))
    have hsP : HS xs H0 w0 H (genMem y.g y.s L'[k] ++ ([(ob, r14Obj y.g y.s wb vL', true), (wb, w10Obj y.base y.width, true)] ++ gensMem y.g y.s (L'.take k ++ L'.drop (k + 1)))) w := hs.perm (permG hk [_, _])
    clear hs
    have hs := hsP
    clear hsP
    refine WO.step rfl (OR.call hs body132 rfl rfl (refSolveK H _ _ hs.toSub (RefAt.of hs (i := 0) (j := 1) (k := 2) rfl rfl rfl (by omega) (by omega) (by omega)) hkm.1 hok.g2) ?_)
    clear hs; rintro _ H2 w hs hle2 ⟨r, cs, rfl, hsl, hbl⟩
    rw [hup] at hsl hbl ⊢
    have hrB : BytesL H2 r (if (y.rows (gen % y.width)).length < y.g then [] else (y.rows (gen % y.width)).map (·.2)) := BLOk.bytesL (hbl.mono hle2) (Sl.mono hsl (Hp.nu_le _ _))
    obtain ⟨b1, c1, hf1⟩ := hrB.form
    subst hf1
    refine WO.step rfl (OR.extract rfl rfl (WO.step rfl (OR.extract rfl rfl (WO.step rfl (OR.assign rfl (WO.step rfl (OR.assign rfl ?_)))))))
    refine WO.done (WX.seq (WC.ret ?_))
    refine WX.ret2 rfl rfl rfl ?_
    refine ⟨_, H2, r14Mem y ob wb vL' L', rfl, hs.perm (permG hk [_, _]).symm, List.all_eq_true.1 (r14_flags _ _ _ _ _), ⟨.slice b1 (if (y.rows (gen % y.width)).length < y.g then [] else (y.rows (gen % y.width)).map (·.2)).length c1, ?_, ?_⟩, vL', L', rfl, hx2.mono hle2⟩
    · rw [RelD.solE, if_pos hin]
    · rw [RelD.solF, if_pos hin]; exact hrB
  · rw [if_neg hin] at hv
    subst hv
    refine WO.step rfl (OR.assign rfl (WO.done (WX.seq (WC.seq (WC.seq (WC.region (WO.step rfl ?_)))))))
    refine OR.move rfl (WO.step rfl (OR.eqlNilP T135.und rfl rfl (WO.done (WX.seq ?_))))
    refine WC.yes rfl rfl ?_
    refine WC.seq (WC.region (WO.step rfl (OR.assign rfl (WO.step rfl (OR.assign rfl (WO.done (WX.seq ?_)))))))
    refine WC.ret (WX.seq_ret ?_)
    refine WX.ret2 rfl rfl rfl ?_
    refine ⟨_, H, r14Mem y ob wb vL' L', rfl, hs, List.all_eq_true.1 (r14_flags _ _ _ _ _), ⟨.slice none 0 0, ?_, ?_⟩, vL', L', rfl, hx2⟩
    · rw [RelD.solE, if_neg hin]
    · rw [RelD.solF, if_neg hin]; exact ⟨[], Sl.nil _ _, rfl, fun i h => by simp at h⟩
end Go.Bw
namespace Go.Bw
set_option linter.unusedVariables false
set_option linter.unusedSimpArgs false
open Go.Proofs

theorem rk_move2 {y : RelD} (h : Tidy y) (nb n : Nat) : (y.moveTo nb).rk n = if inWin (if nb ≤ 1099511627776 then nb else y.base) y.width n then y.rk n else [] := by
  by_cases hnb : nb ≤ 1099511627776
  · rw [if_pos hnb]
    exact rk_move h hnb n
  · rw [if_neg hnb, RelD.moveTo, if_neg hnb]
    unfold RelD.rk
    by_cases hi : inWin y.base y.width n
    · rw [if_pos hi, if_pos hi]
    · rw [if_neg hi, if_neg hi]
def keepL (b w : Nat) (L : List GenD) : List GenD := L.filter fun x => decide (inWin b w x.n)
theorem look_keep {g b w n : Nat} {L : List GenD} (h : L.Pairwise fun a b => a.n < b.n) : lookL g (keepL b w L) n = if inWin b w n then lookL g L n else [] := by
  by_cases hex : ∃ j, ∃ hj : j < L.length, L[j].n = n
  · obtain ⟨j, hj, rfl⟩ := hex
    rw [look_at h hj]
    by_cases hin : inWin b w L[j].n
    · rw [if_pos hin]
      have hm : L[j] ∈ keepL b w L := List.mem_filter.2 ⟨List.getElem_mem hj, by simpa using hin⟩
      obtain ⟨k, hk, hke⟩ := List.getElem_of_mem hm
      have h1 := look_at (g := g) (L := keepL b w L) (h.sublist List.filter_sublist) hk
      rw [hke] at h1
      exact h1
    · rw [if_neg hin]
      refine look_none fun a ha e => hin ?_
      have := (List.mem_filter.1 ha).2
      rw [← e]
      simpa using this
  · have h1 : lookL g L n = [] := look_none fun a ha e => by
      obtain ⟨j, hj, rfl⟩ := List.getElem_of_mem ha
      exact hex ⟨j, hj, e⟩
    rw [h1, look_none fun a ha e => by
      obtain ⟨j, hj, rfl⟩ := List.getElem_of_mem (List.mem_filter.1 ha).1
      exact hex ⟨j, hj, e⟩]
    split <;> rfl
theorem gens_keep (g s : Nat) {L' L : List GenD} (h : List.Sublist L' L) : List.Sublist (gensMem g s L') (gensMem g s L) := by
  induction h with
  | slnil => exact List.Sublist.refl _
  | cons a _ ih => exact ih.trans (List.sublist_append_right _ _)
  | cons_cons a _ ih => exact List.Sublist.append (List.Sublist.refl _) ih
theorem R14.moved {H : Hp} {y : RelD} {vL : Value} {L : List GenD} (h : R14 H y vL L) (nb : Nat) {v : Value} (hv : Sl H 2 v (keepL (if nb ≤ 1099511627776 then nb else y.base) y.width L).length (rowCells (genC (keepL (if nb ≤ 1099511627776 then nb else y.base) y.width L)))) :
    R14 H (y.moveTo nb) v (keepL (if nb ≤ 1099511627776 then nb else y.base) y.width L) := by
  obtain ⟨e1, e2, e3, e4⟩ := move_same y nb
  refine ⟨hv, fun x hx => ?_, h.asc.sublist List.filter_sublist, fun x hx => ?_, fun n => ?_, h.tidy.move nb⟩
  · rw [e1, e2]
    exact h.mem x (List.mem_filter.1 hx).1
  · rw [e3, e4]
    simpa using (List.mem_filter.1 hx).2
  · rw [e1, look_keep h.asc, rk_move2 h.tidy, h.look n]
theorem keep_succ (b w : Nat) (L : List GenD) (k : Nat) (h : k < L.length) : keepL b w (L.take (k + 1)) = keepL b w (L.take k) ++ if inWin b w L[k].n then [L[k]] else [] := by
  unfold keepL
  rw [List.take_succ_eq_append_getElem h, List.filter_append]
  congr 1
  by_cases hi : inWin b w L[k].n
  · simp [hi]
  · simp [hi]
set_option maxRecDepth 20000 in
set_option maxHeartbeats 2000000 in
theorem move14_ok (ob wb nb : Nat) (y : RelD) (vL : Value) (L : List GenD) (H0 : Hp) (w0 : World) (hs : HS (Mem.keys (r14Mem y ob wb vL L)) H0 w0 H0 (r14Mem y ob wb vL L) w0) (hx : R14 H0 y vL L) (hok : RelOk y) (hnb : nb < 18446744073709551616) :
    Calls Tryz.prog 22 #[ptr ob, .int .u64 (nb : Int)] w0 (Ret (Mem.keys (r14Mem y ob wb vL L)) H0 w0 fun v H' M' => v = .int .i64 (if nb ≤ 1099511627776 then 0 else 1) ∧ ∃ vL' L', M' = r14Mem (y.moveTo nb) ob wb vL' L' ∧ R14 H' (y.moveTo nb) vL' L') := by
  have hle := Hp.le.refl H0
  have h00 := hs.toSub
  have hl16 := hx.len hok
  obtain ⟨xs, hxs⟩ : ∃ xs, xs = Mem.keys (r14Mem y ob wb vL L) := ⟨_, rfl⟩
  rw [← hxs] at hs ⊢
  clear hxs
  obtain ⟨e1, e2, e3, e4⟩ := move_same y nb
  obtain ⟨bL, cL, hfL⟩ := hx.cells.form
  subst hfL
  refine Calls.enter (args := [ptr ob, .int .u64 (nb : Int)]) Tryz.func22 rfl Tryz.ntmps22 rfl ?_
  refine WC.seq (WC.region (WO.step rfl (OR.assign rfl (WO.done (WX.seq (WC.seq (WC.region ?_)))))))
  refine WO.step rfl (OR.move rfl (WO.step rfl (OR.nilCheck rfl (WO.step rfl (OR.fieldAddr FA140_2 rfl (WO.step rfl (OR.load T132 rfl rfl (hs.cellM (i := 0) rfl rfl) ?_)))))))
  refine WO.step rfl (OR.move rfl ?_)
  replace hs := hs.front (i := 1) rfl
  refine WO.step rfl (OR.callX (Mx := [(wb, _, true)]) hs body80 rfl rfl (w10Move_ok wb y.base y.width nb _ _ hs.toSub (hs.blk (i := 0) rfl) (hs.nh (i := 0) rfl) hok.b hok.w2 hnb) rfl rfl ?_)
  clear hs; rintro _ H M' w hs hle1 hnew ⟨rg, rfl, rfl⟩; replace hle := hle.trans hle1; (try replace hlb := hlb.trans hle1)
  refine WO.step rfl (OR.move rfl (WO.step rfl (OR.extract rfl rfl (WO.step rfl (OR.extract rfl rfl (WO.step rfl (OR.assign rfl ?_)))))))
  refine WO.step rfl (OR.assign rfl (WO.done (WX.seq (WC.seq (WC.region (WO.step rfl (OR.assign rfl ?_)))))))
  refine WO.done (WX.seq (WC.seq (WC.seq (WC.region (WO.step rfl (OR.assign rfl (WO.done ?_)))))))
  refine WX.seq (WC.block ?_)
  replace hs := hs.front (i := 1) rfl
  have hbb : (if nb ≤ 1099511627776 then nb else y.base) ≤ 1099511627776 := by
    have := hok.b
    split <;> omega
  have hmvd := fun (H : Hp) (h : R14 H y (.slice bL L.length cL) L) (v : Value) => R14.moved h nb (v := v)
  generalize hbq : (if nb ≤ 1099511627776 then nb else y.base) = bb at *
  replace hs : HS xs H0 w0 H ((ob, r14Obj y.g y.s wb (.slice bL L.length cL), true) :: (wb, w10Obj bb y.width, true) :: (gensMem y.g y.s L ++ [])) w := by rw [List.append_nil]; exact hs
  refine WC.loop (ι := Nat × Value) (fun ix => [(0, ptr ob), (6, .int .i64 (if nb ≤ 1099511627776 then 0 else 1)), (7, ix.2), (8, .int .i64 (ix.1 : Int))]) (fun ix w => (ix.1 ≤ L.length ∧ ∃ H Mo, Hp.le H0 H ∧ Own w0.heap.size 159 2 ix.2 (keepL bb y.width (L.take ix.1)).length (rowCells (genC (keepL bb y.width (L.take ix.1)))) Mo ∧ HS xs H0 w0 H ((ob, r14Obj y.g y.s wb (.slice bL L.length cL), true) :: (wb, w10Obj bb y.width, true) :: (gensMem y.g y.s L ++ Mo)) w)) (fun ix => L.length - ix.1) (0, .slice none 0 0) ⟨rfl, rfl, rfl, rfl,  trivial⟩ ?_ (fun ix w hW => ?_)
  · exact ⟨by omega, H, [], hle, Own.nil _ _ _, hs⟩
  clear hs hle
  obtain ⟨k, vo⟩ := ix
  obtain ⟨hk, H, Mo, hle, ho, hs⟩ := hW
  simp only at hk ho
  refine WC.seq (WC.seq (WC.region (WO.step rfl (OR.move rfl (WO.step rfl (OR.move rfl (WO.step rfl ?_)))))))
  refine OR.nilCheck rfl (WO.step rfl (OR.fieldAddr FA140_3 rfl (WO.step rfl (OR.load T138 rfl rfl (hs.cellM (i := 0) rfl rfl) (WO.step rfl (OR.lenSlice T138.und rfl (WO.step rfl ?_)))))))
  refine OR.lss rfl rfl (WO.done (WX.seq ?_))
  refine WC.condD rfl (fun hlt => ?_) (fun hlt => ?_)
  · have hk' : k < L.length := by omega
    have hkl : (keepL bb y.width (L.take k)).length ≤ 16 := by
      have h1 : (keepL bb y.width (L.take k)).length ≤ (L.take k).length := List.length_filter_le _ _
      rw [List.length_take] at h1
      omega
    have hst := keep_succ bb y.width L k hk'
    obtain ⟨yb, yo, rfl, hcy⟩ := Sl.pos hx.cells (by omega)
    have hcr := rowCells_get (genC L) k (by simpa [genC] using hk')
    have he9 : (genC L)[k]'(by simpa [genC] using hk') = (.int .u64 (L[k].n : Int), ptr L[k].rb) := by simp [genC]
    rw [he9] at hcr
    have hc1 := hcy _ _ hcr.1
    have hc2 := hcy _ _ hcr.2
    have hrow : ∀ j u, [Value.int .u64 (L[k].n : Int), ptr L[k].rb][j]? = some u → hcell H0 ((⟨yb, yo + k * 2, none⟩ : Addr).add j) = some u := by
      intro j u hj
      rw [add_off]
      match j, hj with
      | 0, hj => cases hj; exact hc1
      | 1, hj =>
        cases hj
        rw [← Nat.add_assoc] at hc2
        exact hc2
    refine WC.skip (WX.seq (WC.seq (WC.block (WC.seq ?_))))
    refine WC.draw 12 mixed hs (by kernel_rfl) ?_
    refine ⟨MF.eq _, by intro Mx H w hle hs; refine forVals_nil (ORg.plain (OR.move rfl ?_)); exact ⟨_, [], Hp.le.refl _, hs, rfl, rfl⟩, ?_⟩
    refine ⟨MF.eq _, by intro Mx H w hle hs; refine forVals_eq rfl rfl rfl ?_; refine forVals_nil (ORg.plain (OR.nilCheck rfl ?_)); exact ⟨_, [], Hp.le.refl _, hs, rfl, rfl⟩, ?_⟩
    refine ⟨MF.eq _, by intro Mx H w hle hs; refine forVals_eq rfl rfl rfl ?_; refine forVals_nil (ORg.plain (OR.fieldAddr FA140_2 rfl ?_)); exact ⟨_, [], Hp.le.refl _, hs, rfl, rfl⟩, ?_⟩
    refine ⟨MF.eq _, by intro Mx H w hle hs; refine forVals_eq rfl rfl rfl ?_; refine forVals_nil (ORg.plain (OR.load T132 rfl rfl (hs.right.cellM (i := 0) rfl rfl) ?_)); exact ⟨_, [], Hp.le.refl _, hs, rfl, rfl⟩, ?_⟩
    refine ⟨MF.eq _, by intro Mx H w hle hs; refine forVals_nil (ORg.plain (OR.move rfl ?_)); exact ⟨_, [], Hp.le.refl _, hs, rfl, rfl⟩, ?_⟩
    refine ⟨MF.eq _, by intro Mx H w hle hs; refine forVals_eq rfl rfl rfl ?_; refine forVals_nil (ORg.plain (OR.nilCheck rfl ?_)); exact ⟨_, [], Hp.le.refl _, hs, rfl, rfl⟩, ?_⟩
    refine ⟨MF.eq _, by intro Mx H w hle hs; refine forVals_eq rfl rfl rfl ?_; refine forVals_nil (ORg.plain (OR.fieldAddr FA140_3 rfl ?_)); exact ⟨_, [], Hp.le.refl _, hs, rfl, rfl⟩, ?_⟩
    refine ⟨MF.eq _, by intro Mx H w hle hs; refine forVals_eq rfl rfl rfl ?_; refine forVals_nil (ORg.plain (OR.load T138 rfl rfl (hs.right.cellM (i := 0) rfl rfl) ?_)); exact ⟨_, [], Hp.le.refl _, hs, rfl, rfl⟩, ?_⟩
    refine ⟨MF.eq _, by intro Mx H w hle hs; refine forVals_nil (ORg.plain (OR.move rfl ?_)); exact ⟨_, [], Hp.le.refl _, hs, rfl, rfl⟩, ?_⟩
    refine ⟨MF.eq (.pointer (some ⟨yb, yo + k * 2, none⟩)), ?_, ?_⟩
    · intro Mx H w hle2 hs; (try replace hle := hle.trans hle2); (try replace hlb := hlb.trans hle2); refine forVals_eq rfl rfl rfl ?_; refine forVals_eq rfl rfl rfl ?_
      refine forVals_nil (ORg.plain (OR.idxN k T138.und T159 rfl rfl rfl hk' ?_))
      exact ⟨_, [], Hp.le.refl _, hs, rfl, rfl⟩
    refine ⟨MF.eq _, by intro Mx H w hle hs; refine forVals_eq rfl rfl rfl ?_; refine forVals_nil (ORg.plain (OR.fieldAddr FA159_0 rfl ?_)); exact ⟨_, [], Hp.le.refl _, hs, rfl, rfl⟩, ?_⟩
    refine ⟨MF.eq (.int .u64 (L[k].n : Int)), ?_, ?_⟩
    · intro Mx H w hle2 hs; (try replace hle := hle.trans hle2); (try replace hlb := hlb.trans hle2); refine forVals_eq rfl rfl rfl ?_
      refine forVals_nil (ORg.plain (OR.load T22 rfl rfl (hs.cell (hcell.mono hle hc1)) ?_))
      exact ⟨_, [], Hp.le.refl _, hs, rfl, rfl⟩
    intro H w hle2; (try replace hle := hle.trans hle2); (try replace hlb := hlb.trans hle2)
    refine forAllVals_eq rfl ?_
    refine forAllVals_eq rfl ?_
    refine forAllVals_eq rfl ?_
    refine forAllVals_eq rfl ?_
    refine forAllVals_eq rfl ?_
    refine forAllVals_eq rfl ?_
    refine forAllVals_eq rfl ?_
    refine forAllVals_eq rfl ?_
    refine forAllVals_eq rfl ?_
    refine forAllVals_eq rfl ?_
    refine forAllVals_eq rfl ?_
    refine forAllVals_eq rfl ?_
    refine forAllVals_nil ?_; (try clear hs); intro hs
    refine WO.step rfl (OR.call hs body81 rfl rfl (w10In_ok wb bb y.width _ _ L[k].n hs.toSub (hs.blk (i := 1) rfl) (hs.nh (i := 1) rfl) hbb hok.w2) ?_)
    clear hs; rintro _ H w hs hle1 rfl; replace hle := hle.trans hle1; (try replace hlb := hlb.trans hle1)
    refine WO.done (WX.seq ?_)
    refine WC.cond rfl (fun hin => ?_) (fun hin => ?_)
    · rw [if_pos (of_decide_eq_true hin)] at hst
      obtain ⟨bo, co, hfo⟩ := ho.form
      subst hfo
      refine WC.region (WO.step rfl (OR.move rfl (WO.step rfl (OR.move rfl (WO.step rfl (OR.nilCheck rfl (WO.step rfl ?_)))))))
      refine OR.fieldAddr FA140_3 rfl (WO.step rfl (OR.load T138 rfl rfl (hs.cellM (i := 0) rfl rfl) (WO.step rfl (OR.move rfl ?_))))
      refine WO.step rfl (OR.idxN k T138.und T159 rfl rfl rfl hk' ?_)
      refine WO.step rfl (OR.loadN (cs := [_, _]) T159 rfl rfl rfl (fun j u hj => hs.cell (hcell.mono hle (hrow j u hj))) ?_)
      refine WO.step rfl (OR.buildSlice (vs := [_]) hs T138.und T159 rfl rfl rfl rfl (by simp) ?_)
      clear hs; intro q1 w hq1 hs
      have hb9 := hs.blk (i := 0) rfl
      have hsM : HS xs H0 w0 H (Mo ++ ((q1, _, true) :: (ob, r14Obj y.g y.s wb (.slice (some ⟨yb, yo, none⟩) L.length cL), true) :: (wb, w10Obj bb y.width, true) :: gensMem y.g y.s L)) w := HS.mtail (A := _ :: _ :: _ :: gensMem y.g y.s L) (B := Mo) hs
      clear hs
      refine WO.step rfl (OR.append (m := 1) (news := [.int .u64 (L[k].n : Int), ptr L[k].rb]) (Mo := Mo) (M := _ :: _ :: _ :: gensMem y.g y.s L) hsM ho T138.und T159 rfl (by omega) rfl rfl rfl (cells_of hb9) (fun h => by cases h) rfl (by omega) (by omega) ?_)
      clear hsM ho; intro v2 w Mo2 hs ho hge2
      replace hs := (HS.mtail (A := Mo2) hs).drop 0
      refine WO.step rfl (OR.assign rfl (WO.done (WX.block (WX.seq (WC.region (WO.step rfl (OR.move rfl ?_)))))))
      refine WO.step rfl (OR.addI rfl rfl (by omega) (by omega) (WO.step rfl (OR.assign rfl (WO.done ?_))))
      refine WX.again ((k + 1, v2)) ⟨rfl, rfl, rfl, rfl,  trivial⟩ ?_ ?_
      · refine ⟨hk', H, Mo2, hle, ?_, hs⟩
        simp only
        rw [hst, List.length_append, show genC (keepL bb y.width (L.take k) ++ [L[k]]) = genC (keepL bb y.width (L.take k)) ++ [(.int .u64 (L[k].n : Int), ptr L[k].rb)] by simp [genC], rowCells_append]
        exact ho
      · simp only; omega
    · rw [if_neg (of_decide_eq_false hin), List.append_nil] at hst
      refine WC.skip (WX.block (WX.seq (WC.region (WO.step rfl (OR.move rfl (WO.step rfl (OR.addI rfl rfl (by omega) (by omega) ?_)))))))
      refine WO.step rfl (OR.assign rfl (WO.done ?_))
      refine WX.again ((k + 1, vo)) ⟨rfl, rfl, rfl, rfl,  trivial⟩ ?_ ?_
      · refine ⟨hk', H, Mo, hle, ?_, hs⟩
        simp only
        rw [hst]
        exact ho
      · simp only; omega
  · have e : k = L.length := by omega
    subst e
    rw [List.take_length] at ho
    obtain ⟨bo, co, hfo⟩ := ho.form
    subst hfo
    refine WC.exit (WX.seq_exit (WX.loop_exit (WX.block_hit (WX.seq (WC.seq (WC.region (WO.step rfl ?_)))))))
    refine OR.move rfl (WO.step rfl (OR.move rfl (WO.step rfl (OR.nilCheck rfl (WO.step rfl (OR.fieldAddr FA140_3 rfl (WO.stepN ?_)))))))
    refine OR.store hs T138 rfl rfl rfl (Nat.le_of_ble_eq_true rfl) rfl ?_
    clear hs; intro w hs
    refine WO.done (WX.seq (WC.seq (WC.region (WO.step rfl (OR.move rfl (WO.step rfl (OR.assign rfl ?_)))))))
    refine WO.done (WX.seq (WC.ret ?_))
    refine WX.ret1 rfl rfl ?_
    have hs9 : HS xs H0 w0 H (((ob, r14Obj y.g y.s wb (.slice bo (keepL bb y.width L).length co), true) :: (wb, w10Obj bb y.width, true) :: gensMem y.g y.s L) ++ Mo) w := hs
    obtain ⟨H4, hle4, hs4, hsl, _⟩ := HS.pub (HS.mtail (A := (ob, r14Obj y.g y.s wb (.slice bo (keepL bb y.width L).length co), true) :: (wb, w10Obj bb y.width, true) :: gensMem y.g y.s L) hs9) ho
    have hmem : r14Mem (y.moveTo nb) ob wb (.slice bo (keepL bb y.width L).length co) (keepL bb y.width L) = (ob, r14Obj y.g y.s wb (.slice bo (keepL bb y.width L).length co), true) :: (wb, w10Obj bb y.width, true) :: gensMem y.g y.s (keepL bb y.width L) := by
      unfold r14Mem
      rw [e1, e2, e3, e4]
    refine ⟨_, H4, _, rfl, ?_, List.all_eq_true.1 (r14_flags _ _ _ _ _), rfl, _, _, rfl, hmvd H4 (hx.mono (hle.trans hle4)) _ hsl⟩
    rw [hmem]
    exact hs4.sublist (((gens_keep y.g y.s List.filter_sublist).cons_cons _).cons_cons _)
end Go.Bw
