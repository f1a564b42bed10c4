/- bytes.Join with nothing between. -/
import Derived.Test.YtdibepkfgemddaaWire
namespace Go.Bw
set_option linter.unusedVariables false
set_option linter.unusedSimpArgs false
open Go.Proofs

theorem take_flat_succ (ll : List (List UInt8)) (k : Nat) (h : k < ll.length) : (ll.take (k + 1)).flatten = (ll.take k).flatten ++ ll[k] := by
  rw [List.take_succ_eq_append_getElem h, List.flatten_append]
  simp
theorem flat_take_le (ll : List (List UInt8)) (k : Nat) : (ll.take k).flatten.length ≤ ll.flatten.length := by
  have : ll.flatten = (ll.take k).flatten ++ (ll.drop k).flatten := by rw [← List.flatten_append, List.take_append_drop]
  rw [this, List.length_append]
  omega
theorem setL_take (c : List Value) (o : Nat) (news : List Value) (h : o + news.length ≤ c.length) : (setL c o news).take (o + news.length) = c.take o ++ news := by
  rw [setL_at _ _ _ h, List.take_append_of_le_length (by simp; omega), List.take_of_length_le (by simp; omega)]

set_option maxRecDepth 20000 in
set_option maxHeartbeats 2000000 in
theorem join_ok (vl : Value) (ll : List (List UInt8)) (H0 : Hp) (w0 : World) (h0 : Sub H0 w0) (hv : BytesL H0 vl ll) (hl : ll.flatten.length ≤ 1000000000000) (hll : ll.length ≤ 1000000000000) :
    Calls Try.prog 94 #[vl, .slice none 0 0] w0 (Pure H0 w0 fun v H' => Bytes H' v ll.flatten) := by
  have hs := HS.init h0
  have hle := Hp.le.refl H0
  have hv0 := hv
  obtain ⟨b1, c1, rfl⟩ := hv0.form
  obtain ⟨cs, hsl, hcl, hcs⟩ := hv
  have hcap1 : ll.length ≤ c1 := by
    obtain ⟨_, b', c', q1, q2, _⟩ := hsl
    cases q1
    exact q2
  refine Calls.enter (args := [.slice b1 ll.length c1, .slice none 0 0]) Try.func94 rfl Try.ntmps94 rfl ?_
  refine WC.seq (WC.region (WO.step rfl (OR.assign rfl (WO.done (WX.seq (WC.seq (WC.seq ?_)))))))
  refine WC.region (WO.step rfl (OR.move rfl (WO.step rfl (OR.lenSlice T31.und rfl (WO.step rfl (OR.eql rfl rfl (WO.done ?_)))))))
  refine WX.seq ?_
  refine WC.condD rfl (fun hz => ?_) (fun hz => ?_)
  · refine WC.seq (WC.region ?_)
    refine WO.step rfl (OR.buildSlice (vs := []) hs T37.und T5 rfl rfl rfl rfl (by simp) ?_)
    clear hs; intro g1 w hg1 hs
    refine WO.step rfl (OR.assign rfl (WO.done (WX.seq (WC.ret (WX.seq_ret ?_)))))
    refine WX.ret1 rfl rfl ?_
    have : ll = [] := List.eq_nil_of_length_eq_zero (by omega)
    subst this
    exact .mk (hs.drop 0) (Sl.empty _ _ _)
  · obtain ⟨ob, oo, rfl, hco⟩ := hsl.pos (by omega)
    have hget : ∀ k (h : k < ll.length), hcell H0 ⟨ob, oo + k, none⟩ = some (cs[k]'(by omega)) ∧ Bytes H0 (cs[k]'(by omega)) ll[k] := fun k h => ⟨hco k _ (List.getElem?_eq_getElem (by omega)), hcs k h (by omega)⟩
    obtain ⟨hc0, hb0⟩ := hget 0 (by omega)
    obtain ⟨be0, ce0, he0⟩ := hb0.form
    rw [he0] at hb0
    refine WC.skip (WX.seq (WC.seq (WC.seq (WC.region (WO.step rfl (OR.move rfl (WO.step rfl ?_)))))))
    refine OR.lenSlice T31.und rfl (WO.step rfl (OR.eql rfl rfl (WO.done (WX.seq ?_))))
    refine WC.condD rfl (fun h1 => ?_) (fun h1 => ?_)
    · refine WC.seq (WC.region (WO.step rfl (OR.move rfl ?_)))
      refine WO.step rfl (OR.idx 0 T31.und T37 rfl rfl rfl (by omega) ?_)
      refine WO.step rfl (OR.load T37 rfl rfl (hs.cell hc0) ?_)
      rw [he0]
      have hl1 := flat_take_le ll 1
      have hl2 : (ll.take 1).flatten = (ll.take 0).flatten ++ ll[0]'(by omega) := take_flat_succ ll 0 (by omega)
      have hl3 : ll.take 1 = ll := List.take_of_length_le (by omega)
      have hl4 : ll.flatten = ll[0]'(by omega) := by
        have h9 : (ll.take 1).flatten = ll.flatten := by rw [hl3]
        rw [List.take_zero, List.flatten_nil, List.nil_append] at hl2
        exact h9.symm.trans hl2
      have hl5 : (ll[0]'(by omega)).length ≤ 1000000000000 := by rw [← hl4]; exact hl
      refine WO.step rfl (OR.append (n := 0) (m := (ll[0]'(by omega)).length) (cs := []) (news := (ll[0]'(by omega)).map B) (Mo := []) (M := []) hs (Own.nil _ _ _) T37.und T5 rfl (by omega) rfl rfl (by simp) (Sl.src hb0 hs) (Sl.src0 hb0) (bytes_one _) (by omega) (by omega) ?_)
      clear hs; intro v' w Mo hs ho hge
      obtain ⟨H3, hle3, hs, hsl3, _⟩ := HS.pub hs ho
      refine WO.step rfl (OR.assign rfl (WO.done (WX.seq (WC.ret (WX.seq_ret ?_)))))
      refine WX.ret1 rfl rfl ?_
      refine .mk hs ?_
      unfold Bytes
      rw [hl4]
      rw [Nat.zero_add, List.nil_append] at hsl3
      exact hsl3
    · refine WC.skip (WX.seq (WC.seq (WC.region (WO.step rfl (OR.assign rfl (WO.done (WX.seq ?_)))))))
      refine WC.seq (WC.seq (WC.region (WO.step rfl (OR.move rfl (WO.step rfl (OR.lenSlice T37.und rfl (WO.step rfl ?_)))))))
      refine OR.gtr rfl rfl (WO.done (WX.seq ?_))
      refine WC.no rfl (decide_eq_false (by omega)) ?_
      refine WC.skip (WX.seq (WC.seq (WC.seq (WC.region (WO.step rfl (OR.move rfl (WO.step rfl ?_)))))))
      refine OR.lenSlice T31.und rfl (WO.step rfl (OR.move rfl (WO.done (WX.seq (WC.block ?_)))))
      refine WC.loop (ι := Nat) (fun k => [(0, .slice (some ⟨ob, oo, none⟩) ll.length c1), (1, .slice none 0 0), (5, .int .i64 ((ll.take k).flatten.length : Int)), (42, .slice (some ⟨ob, oo, none⟩) ll.length c1), (43, .int .i64 (ll.length : Int)), (44, .int .i64 (k : Int))]) (fun k w => (k ≤ ll.length ∧ HS [] H0 w0 H0 [] w)) (fun k => ll.length - k) 0 ⟨rfl, rfl, rfl, rfl, rfl, rfl,  trivial⟩ ?_ (fun k w hW => ?_)
      · exact ⟨by omega, hs⟩
      clear hs
      obtain ⟨hk, hs⟩ := hW
      refine WC.seq (WC.region (WO.step rfl (OR.lss rfl rfl (WO.done (WX.seq (WC.seq ?_))))))
      refine WC.condD rfl (fun hlt => ?_) (fun hlt => ?_)
      · have hk' : k < ll.length := by omega
        obtain ⟨hck, hbk⟩ := hget k hk'
        obtain ⟨be, ce, he⟩ := hbk.form
        refine WC.skip (WX.seq (WC.seq (WC.block (WC.seq (WC.region ?_)))))
        refine WO.step rfl (OR.idx k T31.und T37 rfl rfl rfl hk' ?_)
        refine WO.step rfl (OR.load T37 rfl rfl (hs.cell hck) ?_)
        rw [he]
        have hf1 := take_flat_succ ll k hk'
        have hf2 := flat_take_le ll (k + 1)
        have hf3 : (ll.take (k + 1)).flatten.length = (ll.take k).flatten.length + ll[k].length := by rw [hf1, List.length_append]
        refine WO.step rfl (OR.assign rfl (WO.done (WX.seq (WC.seq (WC.seq (WC.region (WO.step rfl ?_)))))))
        refine OR.move rfl (WO.step rfl (OR.lenSlice T37.und rfl (WO.step rfl (OR.move rfl (WO.step rfl (OR.subI rfl rfl (by omega) (by omega) (WO.step rfl ?_)))))))
        refine OR.gtr rfl rfl (WO.done (WX.seq ?_))
        refine WC.no rfl (decide_eq_false (by omega)) ?_
        have hf4 : ((ll.take k).flatten.length : Int) + (ll[k].length : Int) = ((ll.take (k + 1)).flatten.length : Int) := by omega
        refine WC.skip (WX.seq (WC.region (WO.step rfl (OR.move rfl (WO.step rfl (OR.move rfl (WO.step rfl ?_)))))))
        refine OR.lenSlice T37.und rfl (WO.step rfl (OR.addI rfl rfl (by omega) (by omega) (WO.step rfl (OR.assign rfl (WO.done (WX.block (WX.seq ?_)))))))
        refine WC.region (WO.step rfl (OR.addI rfl rfl (by omega) (by omega) (WO.step rfl (OR.move rfl (WO.done ?_)))))
        rw [hf4]
        refine WX.again (k + 1) ⟨rfl, rfl, rfl, rfl, rfl, rfl,  trivial⟩ ?_ ?_
        · exact ⟨by omega, hs⟩
        · omega
      · have e : k = ll.length := by omega
        subst e
        rw [List.take_length]
        obtain ⟨T, hT⟩ : ∃ T, ll.flatten.length = T := ⟨_, rfl⟩
        rw [hT] at hl ⊢
        refine WC.exit (WX.seq_exit (WX.loop_exit (WX.block_hit (WX.seq (WC.seq (WC.region (WO.step rfl ?_)))))))
        refine OR.move rfl ?_
        refine WO.step rfl (OR.makeNoZero (ps := #[3]) (t := 37) hs Try.func111 (by kernel_rfl) (by kernel_rfl) (by kernel_rfl) (by kernel_rfl) T37.und rfl rfl (by omega) ?_)
        clear hs; intro g c w hg hTc hs
        refine WO.step rfl (OR.move rfl (WO.step rfl (OR.move rfl ?_)))
        refine WO.step rfl (OR.sliceMax T T37.und T5 rfl rfl rfl rfl hTc ?_)
        refine WO.step rfl (OR.assign rfl (WO.done (WX.seq (WC.seq (WC.region (WO.step rfl (OR.move rfl ?_)))))))
        refine WO.step rfl (OR.move rfl ?_)
        refine WO.step rfl (OR.idx 0 T31.und T37 rfl rfl rfl (by omega) ?_)
        refine WO.step rfl (OR.load T37 rfl rfl (hs.cell hc0) ?_)
        rw [he0]
        have hl2 : (ll.take 1).flatten = (ll.take 0).flatten ++ ll[0]'(by omega) := take_flat_succ ll 0 (by omega)
        have hl6 := flat_take_le ll 1
        rw [List.take_zero, List.flatten_nil, List.nil_append] at hl2
        have hl7 : (ll[0]'(by omega)).length ≤ T := by rw [← hl2]; omega
        refine WO.step rfl (OR.copyO hs ((ll[0]'(by omega)).map B) T37.und T5 rfl rfl (by rw [List.length_map, natmin (c := (ll[0]'(by omega)).length) (by omega)]; omega) (Sl.src0 hb0) (Sl.src hb0 hs) (by simp; omega) (bytes_one _) ?_)
        clear hs; intro w hs
        rw [natmin (c := (ll[0]'(by omega)).length) (by omega)]
        refine WO.step rfl (OR.assign rfl (WO.done (WX.seq (WC.seq (WC.seq (WC.region (WO.step rfl ?_)))))))
        refine OR.move rfl ?_
        refine WO.step rfl (OR.sliceLoG 1 T31.und T37 rfl rfl rfl (by omega) ?_)
        rw [if_neg (by omega), Option.map_some, add_off, Nat.mul_one]
        have hci : (setL c.toList 0 ((ll[0]'(by omega)).map B)).take (ll[0]'(by omega)).length = ((ll.take 1).flatten).map B := by
          have := setL_take c.toList 0 ((ll[0]'(by omega)).map B) (by simp; omega)
          rw [List.length_map, Nat.zero_add, List.take_zero, List.nil_append] at this
          rw [this, hl2]
        have hcz : T ≤ (setL c.toList 0 ((ll[0]'(by omega)).map B)).toArray.size := by rw [List.size_toArray, setL_length]; simpa using hTc
        generalize hcg : (setL c.toList 0 ((ll[0]'(by omega)).map B)).toArray = cc at *
        have hcg2 : setL c.toList 0 ((ll[0]'(by omega)).map B) = cc.toList := by rw [← hcg]
        rw [hcg2] at hci
        have hp1 : (ll[0]'(by omega)).length = (ll.take 1).flatten.length := by rw [hl2]
        rw [hp1] at hci ⊢
        refine WO.step rfl (OR.lenSlice T31.und rfl (WO.step rfl (OR.move rfl (WO.done (WX.seq (WC.block ?_))))))
        refine WC.loop (ι := Nat) (fun j => [(1, .slice none 0 0), (8, .slice (some ⟨g, 0, none⟩) T T), (9, .int .i64 ((ll.take (j + 1)).flatten.length : Int)), (70, .slice (some ⟨ob, oo + 1, none⟩) (ll.length - 1) (c1 - 1)), (71, .int .i64 ((ll.length - 1 : Nat) : Int)), (72, .int .i64 (j : Int))]) (fun j w => (j ≤ ll.length - 1 ∧ ∃ c, T ≤ c.size ∧ c.toList.take (ll.take (j + 1)).flatten.length = ((ll.take (j + 1)).flatten).map B ∧ HS [] H0 w0 H0 [(g, .cells c 5, true)] w)) (fun j => ll.length - 1 - j) 0 ⟨rfl, rfl, rfl, rfl, rfl, rfl,  trivial⟩ ?_ (fun j w hW => ?_)
        · exact ⟨by omega, cc, hcz, hci, hs⟩
        clear hs hci hcz hcg hcg2 hTc
        obtain ⟨hj, c, hcz, hci, hs⟩ := hW
        refine WC.seq (WC.region (WO.step rfl (OR.lss rfl rfl (WO.done (WX.seq (WC.seq ?_))))))
        refine WC.condD rfl (fun hlt2 => ?_) (fun hlt2 => ?_)
        · have hj' : 1 + j < ll.length := by omega
          obtain ⟨hck, hbk⟩ := hget (1 + j) hj'
          rw [← Nat.add_assoc] at hck
          obtain ⟨be, ce, he⟩ := hbk.form
          rw [he] at hbk hck
          refine WC.skip (WX.seq (WC.seq (WC.block (WC.seq (WC.region ?_)))))
          refine WO.step rfl (OR.idx j T31.und T37 rfl rfl rfl (by omega) ?_)
          refine WO.step rfl (OR.load T37 rfl rfl (hs.cell hck) ?_)
          have hf1 := take_flat_succ ll (j + 1) (by omega)
          have hf2 := flat_take_le ll (j + 1 + 1)
          have hf3 : (ll.take (j + 1 + 1)).flatten.length = (ll.take (j + 1)).flatten.length + ll[1 + j].length := by
            rw [hf1, List.length_append]
            simp only [Nat.add_comm 1 j]
          have hf5 : (ll.take (j + 1 + 1)).flatten = (ll.take (j + 1)).flatten ++ ll[1 + j] := by rw [hf1]; simp only [Nat.add_comm 1 j]
          generalize hacc : (ll.take (j + 1)).flatten = acc at *
          have hsl2 : (if T = acc.length then some (⟨g, 0, none⟩ : Addr) else (some (⟨g, 0, none⟩ : Addr)).map (·.add (acc.length * 1))) = some ⟨g, if T = acc.length then 0 else acc.length, none⟩ := by
            split
            · rfl
            · rw [Option.map_some, add_off, Nat.mul_one, Nat.zero_add]
          have ho : (if T = acc.length then 0 else acc.length) + ll[1 + j].length ≤ c.size := by split <;> omega
          refine WO.step rfl (OR.assign rfl (WO.done (WX.seq (WC.seq (WC.region (WO.step rfl (OR.move rfl ?_)))))))
          refine WO.step rfl (OR.move rfl (WO.step rfl (OR.move rfl ?_)))
          refine WO.step rfl (OR.sliceLoG acc.length T37.und T5 rfl rfl rfl (by omega) ?_)
          rw [hsl2]
          refine WO.step rfl (OR.move rfl ?_)
          refine WO.step rfl (OR.copyO hs [] T37.und T5 rfl rfl (by rw [natmin (c := 0) (by omega)]; rfl) (fun _ => rfl) (fun q hq => by cases hq) (by simp; omega) rfl ?_)
          clear hs; intro w hs
          rw [natmin (c := 0) (by omega)]
          rw [setL_nil] at hs
          replace hs : HS [] H0 w0 H0 [(g, .cells c 5, true)] w := hs
          refine WO.step rfl (OR.addI rfl rfl (by omega) (by omega) ?_)
          rw [show (acc.length : Int) + ((0 : Nat) : Int) = (acc.length : Int) from by omega]
          refine WO.step rfl (OR.assign rfl (WO.done (WX.seq (WC.region (WO.step rfl (OR.move rfl (WO.step rfl ?_)))))))
          refine OR.move rfl (WO.step rfl (OR.move rfl ?_))
          refine WO.step rfl (OR.sliceLoG acc.length T37.und T5 rfl rfl rfl (by omega) ?_)
          rw [hsl2]
          refine WO.step rfl (OR.move rfl ?_)
          refine WO.step rfl (OR.copyO hs (ll[1 + j].map B) T37.und T5 rfl rfl (by rw [List.length_map, natmin (c := ll[1 + j].length) (by omega)]; omega) (Sl.src0 hbk) (Sl.src hbk hs) (by rw [List.length_map]; exact ho) (bytes_one _) ?_)
          clear hs; intro w hs
          rw [natmin (c := ll[1 + j].length) (by omega)]
          refine WO.step rfl (OR.addI rfl rfl (by omega) (by omega) (WO.step rfl (OR.assign rfl (WO.done (WX.block (WX.seq (WC.region ?_)))))))
          refine WO.step rfl (OR.addI rfl rfl (by omega) (by omega) (WO.step rfl (OR.move rfl (WO.done ?_))))
          rw [show (acc.length : Int) + (ll[1 + j].length : Int) = ((ll.take (j + 1 + 1)).flatten.length : Int) from by omega]
          refine WX.again (j + 1) ⟨rfl, rfl, rfl, rfl, rfl, rfl,  trivial⟩ ?_ ?_
          · refine ⟨by omega, _, ?_, ?_, hs⟩
            · rw [List.size_toArray, setL_length]; simpa using hcz
            · rw [hf5, List.length_append, List.map_append]
              by_cases hTe : T = acc.length
              · have hz0 : ll[1 + j] = [] := List.eq_nil_of_length_eq_zero (by omega)
                rw [hz0, List.map_nil, setL_nil, List.append_nil]
                exact hci
              · rw [if_neg hTe] at ho ⊢
                have := setL_take c.toList acc.length (ll[1 + j].map B) (by rw [List.length_map]; simpa using ho)
                rw [List.length_map] at this
                show (setL c.toList acc.length (ll[1 + j].map B)).take (acc.length + ll[1 + j].length) = _
                rw [this, hci]
          · omega
        · have e : j = ll.length - 1 := by omega
          have e2 : ll.take (j + 1) = ll := List.take_of_length_le (by omega)
          rw [e2, hT] at hci
          refine WC.exit (WX.seq_exit (WX.loop_exit (WX.block_hit (WX.seq (WC.seq (WC.region (WO.step rfl ?_)))))))
          refine OR.move rfl (WO.step rfl (OR.assign rfl (WO.done (WX.seq (WC.ret ?_)))))
          refine WX.ret1 rfl rfl ?_
          have hp := hs.publish hg
          refine .mk hp ?_
          have := Bytes.block (l := ll.flatten) (cap := T) (Hp.put_same H0 g (.cells c 5)) (by rw [hT]; exact hci) (by omega)
          rw [hT] at this
          exact this
end Go.Bw
