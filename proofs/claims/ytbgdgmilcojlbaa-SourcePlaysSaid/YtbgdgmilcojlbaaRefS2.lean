/- The document's own symbols, turns and draws, walked. -/
import Derived.Test.YtbgdgmilcojlbaaRefS1
namespace Go.Bw
set_option linter.unusedVariables false
set_option linter.unusedSimpArgs false
open Go.Proofs

set_option maxRecDepth 20000 in
set_option maxHeartbeats 2000000 in
theorem refTurn_ok (sent n : Nat) (H0 : Hp) (w0 : World) (h0 : Sub H0 w0) (hn : 1 ≤ n ∧ n ≤ 255) (hsent : sent < 18446744073709551616) : Calls Try.prog 121 #[.int .u64 (sent : Int), .int .i64 (n : Int)] w0 (Pure H0 w0 fun v _ => v = .tuple #[.int .i64 ((sent % n : Nat) : Int), .int .i64 0]) := by
  have hs := HS.init h0
  have hle := Hp.le.refl H0
  refine Calls.enter (args := [.int .u64 (sent : Int), .int .i64 (n : Int)]) Try.func121 rfl Try.ntmps121 rfl ?_
  refine WC.seq (WC.region (WO.step rfl (OR.assign rfl (WO.step rfl (OR.assign rfl (WO.done (WX.seq ?_)))))))
  refine WC.seq (WC.seq (WC.region (WO.step rfl (OR.move rfl (WO.step rfl (OR.lss rfl rfl (WO.step rfl ?_)))))))
  refine OR.move rfl ?_
  refine WO.guardYes rfl (decide_eq_false (by omega : ¬ (n : Int) < 1)) rfl rfl (OR.move rfl (WO.guardYes rfl (decide_eq_false (by omega : ¬ (n : Int) < 1)) rfl rfl (OR.gtr rfl rfl (WO.step rfl (OR.pickF rfl (decide_eq_false (by omega : ¬ (n : Int) < 1)) rfl (WO.done (WX.seq ?_)))))))
  refine WC.no rfl (decide_eq_false (by omega)) ?_
  refine WC.skip (WX.seq (WC.seq (WC.region (WO.step rfl (OR.move rfl (WO.step rfl (OR.move rfl ?_)))))))
  refine WO.step rfl (OR.convI T3.und T58.und rfl ?_)
  rw [IntWalk.u64_in (n : Int) (by omega)]
  refine WO.step rfl (OR.rem rfl rfl (by omega) ?_)
  have hmod : (sent : Int).tmod (n : Int) = ((sent % n : Nat) : Int) := rfl
  rw [hmod]
  refine WO.step rfl (OR.convI T58.und T3.und rfl ?_)
  have := Nat.mod_lt sent (show 0 < n by omega)
  rw [i64_small _ (by omega)]
  refine WO.step rfl (OR.assign rfl (WO.step rfl (OR.assign rfl (WO.done (WX.seq (WC.ret ?_))))))
  refine WX.ret2 rfl rfl rfl ?_
  exact .mk hs rfl

/-- The first bytes of a draw, and whether they are all nothing. -/
theorem padTo_take_succ {n k : Nat} {l : List UInt8} (hk : k < n) (hl : k < l.length) : (padTo n (l.take k)).set k l[k] = padTo n (l.take (k + 1)) := by
  have h0 : (l.take k).length = k := by rw [List.length_take]; omega
  have h1 : padTo n (l.take k) = l.take k ++ (0 :: List.replicate (n - k - 1) 0) := by
    unfold padTo
    rw [List.take_of_length_le (by omega), h0, ← List.replicate_succ, show n - k - 1 + 1 = n - k by omega]
  have h2 : padTo n (l.take (k + 1)) = l.take (k + 1) ++ List.replicate (n - k - 1) 0 := by
    unfold padTo
    have h3 : (l.take (k + 1)).length = k + 1 := by rw [List.length_take]; omega
    rw [List.take_of_length_le (by omega), h3, show n - k - 1 = n - (k + 1) by omega]
  rw [h1, h2, List.set_append_right _ _ (by omega), h0, Nat.sub_self, List.set_cons_zero, List.take_add_one, List.getElem?_eq_getElem hl, List.append_assoc]
  rfl
theorem allz_succ {l : List UInt8} {k : Nat} (hl : k < l.length) : (l.take (k + 1)).all (· == 0) = ((l.take k).all (· == 0) && (l[k] == 0)) := by
  rw [List.take_add_one, List.getElem?_eq_getElem hl, List.all_append]
  simp
theorem allz_lead (n : Nat) (l : List UInt8) : (l.take n).all (· == 0) = decide (lead (padTo n l) < 0) := by
  rw [Bool.eq_iff_iff, List.all_eq_true, decide_eq_true_iff, lead_none]
  constructor
  · intro h j
    unfold padTo
    rw [List.getD_eq_getElem?_getD, List.getElem?_append]
    split
    · rename_i hj
      rw [List.getElem?_eq_getElem hj]
      simpa using h _ (List.getElem_mem hj)
    · rw [List.getElem?_replicate]
      split <;> rfl
  · intro h x hx
    obtain ⟨j, hj, rfl⟩ := List.mem_iff_getElem.1 hx
    have h1 := h j
    unfold padTo at h1
    rw [List.getD_eq_getElem?_getD, List.getElem?_append_left hj, List.getElem?_eq_getElem hj] at h1
    simpa using h1

set_option maxRecDepth 20000 in
set_option maxHeartbeats 2000000 in
theorem refCoefs_ok (vd : Value) (l : List UInt8) (n turn : Nat) (H0 : Hp) (w0 : World) (h0 : Sub H0 w0) (hl : Bytes H0 vd l) (hn : 1 ≤ n ∧ n ≤ 255) (ht : turn < n) :
    Calls Try.prog 122 #[vd, .int .i64 (n : Int), .int .i64 (turn : Int)] w0 (Pure H0 w0 fun v H' => ∃ r, v = .tuple #[r, .int .i64 0] ∧ Bytes H' r (coefF n turn l)) := by
  have hs := HS.init h0
  have hle := Hp.le.refl H0
  obtain ⟨b1, c1, rfl⟩ := hl.form
  refine Calls.enter (args := [.slice b1 l.length c1, .int .i64 (n : Int), .int .i64 (turn : Int)]) Try.func122 rfl Try.ntmps122 rfl ?_
  refine WC.seq (WC.region (WO.step rfl (OR.assign rfl (WO.step rfl (OR.assign rfl (WO.done (WX.seq ?_)))))))
  refine WC.seq (WC.seq (WC.region (WO.step rfl (OR.move rfl (WO.step rfl (OR.lss rfl rfl (WO.step rfl ?_)))))))
  refine OR.move rfl ?_
  refine WO.guardYes rfl (decide_eq_false (by omega : ¬ (n : Int) < 1)) rfl rfl (OR.move rfl (WO.guardYes rfl (decide_eq_false (by omega : ¬ (n : Int) < 1)) rfl rfl (OR.gtr rfl rfl (WO.step rfl (OR.pickF rfl (decide_eq_false (by omega : ¬ (n : Int) < 1)) rfl (WO.step rfl (OR.move rfl ?_)))))))
  refine WO.guardYes rfl (decide_eq_false (by omega : ¬ (n : Int) > 255)) rfl rfl (OR.move rfl (WO.guardYes rfl (decide_eq_false (by omega : ¬ (n : Int) > 255)) rfl rfl (OR.lss rfl rfl (WO.step rfl (OR.pickF rfl (decide_eq_false (by omega : ¬ (n : Int) > 255)) rfl (WO.step rfl (OR.move rfl ?_)))))))
  refine WO.guardYes rfl (decide_eq_false (by omega : ¬ (turn : Int) < 0)) rfl rfl (OR.move rfl (WO.guardYes rfl (decide_eq_false (by omega : ¬ (turn : Int) < 0)) rfl rfl (OR.move rfl (WO.guardYes rfl (decide_eq_false (by omega : ¬ (turn : Int) < 0)) rfl rfl (OR.geq rfl rfl (WO.step rfl (OR.pickF rfl (decide_eq_false (by omega : ¬ (turn : Int) < 0)) rfl ?_)))))))
  refine WO.done (WX.seq ?_)
  refine WC.no rfl (decide_eq_false (by omega)) ?_
  refine WC.skip (WX.seq (WC.seq (WC.region (WO.step rfl (OR.move rfl ?_)))))
  refine WO.step rfl (OR.make1 (m := n) hs T23.und T5 rfl rfl rfl (by omega) (by omega) ?_)
  clear hs; intro gm w hgm hs
  replace hs : HS [] H0 w0 H0 [(gm, .cells ((padTo n (l.take 0)).map B).toArray 5, true)] w := by rw [List.take_zero, padTo_nil, List.map_replicate]; exact hs
  refine WO.step rfl (OR.assign rfl (WO.done (WX.seq (WC.seq (WC.region (WO.step rfl (OR.assign rfl ?_)))))))
  refine WO.done (WX.seq (WC.seq (WC.seq (WC.region (WO.step rfl (OR.assign rfl (WO.done ?_)))))))
  refine WX.seq (WC.block ?_)
  refine WC.loop (ι := Nat × Bool) (fun ix => [(0, .slice b1 l.length c1), (1, .int .i64 (n : Int)), (2, .int .i64 (turn : Int)), (8, .slice (some ⟨gm, 0, none⟩) n n), (9, .bool ix.2), (10, .int .i64 (ix.1 : Int))]) (fun ix w => (ix.1 ≤ n ∧ ix.1 ≤ l.length ∧ ix.2 = (l.take ix.1).all (· == 0) ∧ HS [] H0 w0 H0 [(gm, .cells ((padTo n (l.take ix.1)).map B).toArray 5, true)] w)) (fun ix => n - ix.1) (0, true) ⟨rfl, rfl, rfl, rfl, rfl, rfl,  trivial⟩ ?_ (fun ix w hW => ?_)
  · exact ⟨Nat.zero_le _, Nat.zero_le _, rfl, hs⟩
  clear hs
  obtain ⟨k, z⟩ := ix
  obtain ⟨hk, hkl, hz, hs⟩ := hW
  simp only at hk hkl hz hs
  by_cases hin : k < n ∧ k < l.length
  · obtain ⟨hk1, hk2⟩ := hin
    obtain ⟨xb, xo, rfl, hcx⟩ := hl.pos (by omega)
    refine WC.seq (WC.seq (WC.region (WO.step rfl (OR.move rfl (WO.step rfl (OR.move rfl (WO.step rfl ?_)))))))
    refine OR.lss rfl rfl (WO.step rfl (OR.move rfl ?_))
    refine WO.guardYes rfl (decide_eq_true (by omega : (k : Int) < (n : Int))) rfl rfl (OR.move rfl (WO.guardYes rfl (decide_eq_true (by omega : (k : Int) < (n : Int))) rfl rfl (OR.move rfl (WO.guardYes rfl (decide_eq_true (by omega : (k : Int) < (n : Int))) rfl rfl (OR.lenSlice T23.und rfl (WO.guardYes rfl (decide_eq_true (by omega : (k : Int) < (n : Int))) rfl rfl (OR.lss rfl rfl ?_)))))))
    refine WO.step rfl (OR.pickT rfl (decide_eq_true (by omega : (k : Int) < (n : Int))) rfl (WO.done (WX.seq ?_)))
    refine WC.yes rfl (decide_eq_true (by omega)) ?_
    refine WC.skip (WX.seq (WC.seq (WC.block (WC.seq (WC.region (WO.step rfl (OR.move rfl ?_)))))))
    refine WO.step rfl (OR.move rfl (WO.step rfl (OR.move rfl (WO.step rfl (OR.move rfl ?_)))))
    refine WO.step rfl (OR.idx k T23.und T5 rfl rfl rfl hk2 ?_)
    refine WO.step rfl (OR.load T5 rfl rfl (hs.cell (hcx k hk2)) ?_)
    refine WO.step rfl (OR.idx k T23.und T5 rfl rfl rfl hk1 ?_)
    refine WO.stepN (OR.store hs T5 rfl rfl rfl (by simp [padTo_length]; omega) rfl ?_)
    clear hs; intro w hs
    have hsum : (setL ((padTo n (l.take k)).map B).toArray.toList (0 + k) (B l[k]).cells.toList).toArray = ((padTo n (l.take (k + 1))).map B).toArray := by
      rw [← padTo_take_succ hk1 hk2, List.map_set, Nat.zero_add]
      show (setL _ k [B l[k]]).toArray = _
      rw [setL_one]
    rw [hsum] at hs
    have hz2 := allz_succ hk2
    rw [← hz] at hz2
    cases z with
    | true =>
      refine WO.done (WX.seq (WC.region (WO.step rfl (OR.move rfl (WO.step rfl (OR.move rfl ?_))))))
      refine WO.guardYes rfl rfl rfl rfl (OR.move rfl (WO.guardYes rfl rfl rfl rfl (OR.move rfl ?_)))
      refine WO.guardYes rfl rfl rfl rfl (OR.idx k T23.und T5 rfl rfl rfl hk2 ?_)
      refine WO.guardYes rfl rfl rfl rfl (OR.load T5 rfl rfl (hs.cell (hcx k hk2)) ?_)
      refine WO.guardYes rfl rfl rfl rfl (OR.eql rfl rfl (WO.step rfl (OR.pickT rfl rfl rfl (WO.step rfl (OR.assign rfl (WO.done (WX.block ?_)))))))
      refine WX.seq (WC.region (WO.step rfl (OR.move rfl (WO.step rfl (OR.addI rfl rfl (by omega) (by omega) (WO.step rfl (OR.assign rfl ?_)))))))
      refine WO.done ?_
      refine WX.again ((k + 1, decide ((l[k].toNat : Int) = 0))) ⟨rfl, rfl, rfl, rfl, rfl, rfl,  trivial⟩ ?_ ?_
      · refine ⟨hk1, hk2, ?_, hs⟩
        rw [hz2, Bool.true_and]
        show decide _ = (l[k] == 0)
        rw [Bool.eq_iff_iff]
        simp only [decide_eq_true_iff, beq_iff_eq]
        exact ⟨fun h => UInt8.toNat.inj (by simpa using h), fun h => by rw [h]; rfl⟩
      · simp only; omega
    | false =>
      refine WO.done (WX.seq (WC.region (WO.step rfl (OR.move rfl (WO.step rfl (OR.move rfl ?_))))))
      refine WO.guardNo rfl rfl rfl rfl (WO.guardNo rfl rfl rfl rfl (WO.guardNo rfl rfl rfl rfl (WO.guardNo rfl rfl rfl rfl (WO.guardNo rfl rfl rfl rfl (WO.step rfl (OR.pickF rfl rfl rfl (WO.step rfl ?_)))))))
      refine OR.assign rfl (WO.done (WX.block (WX.seq (WC.region (WO.step rfl (OR.move rfl (WO.step rfl ?_)))))))
      refine OR.addI rfl rfl (by omega) (by omega) (WO.step rfl (OR.assign rfl (WO.done ?_)))
      refine WX.again ((k + 1, false)) ⟨rfl, rfl, rfl, rfl, rfl, rfl,  trivial⟩ ?_ ?_
      · refine ⟨hk1, hk2, ?_, hs⟩
        rw [hz2]; rfl
      · simp only; omega
  · have hfin : padTo n (l.take k) = padTo n l := by
      unfold padTo
      rw [List.take_take, List.length_take]
      rcases Nat.lt_or_ge k n with h | h
      · have e : k = l.length := by omega
        rw [e, Nat.min_eq_right (by omega), List.take_length, List.take_of_length_le (by omega), Nat.min_self]
      · have e : k = n := by omega
        subst e
        rw [Nat.min_self]
        congr 1
        rcases Nat.lt_or_ge k l.length with h2 | h2
        · rw [Nat.min_eq_left (by omega), show k - k = 0 by omega, show k - l.length = 0 by omega]
        · rw [Nat.min_eq_right h2]
    have hzf : z = decide (lead (padTo n l) < 0) := by
      rw [hz, ← allz_lead]
      rcases Nat.lt_or_ge k n with h | h
      · rw [List.take_of_length_le (show l.length ≤ k by omega), List.take_of_length_le (show l.length ≤ n by omega)]
      · rw [show k = n by omega]
    rw [hfin] at hs
    have hend : ∀ (L : List UInt8) (w : World), L = coefF n turn l → HS [] H0 w0 H0 [(gm, .cells (L.map B).toArray 5, true)] w → Pure H0 w0 (fun v H' => ∃ r, v = .tuple #[r, .int .i64 0] ∧ Bytes H' r (coefF n turn l)) (.returned (.tuple #[.slice (some ⟨gm, 0, none⟩) n n, .int .i64 0])) w := by
      intro L w hL hs
      subst hL
      have hp := hs.publish hgm
      refine .mk hp ⟨_, rfl, ?_⟩
      have := Bytes.block (c := ((coefF n turn l).map B).toArray) (l := coefF n turn l) (cap := n) (Hp.put_same H0 gm (.cells ((coefF n turn l).map B).toArray 5)) (by rw [coefF_len, List.take_of_length_le (by simp [coefF_len])]) (by rw [coefF_len]; exact Nat.le_refl _)
      rw [coefF_len] at this
      exact this
    have hrest : ∀ w, HS [] H0 w0 H0 [(gm, .cells ((padTo n l).map B).toArray 5, true)] w → True := fun _ _ => trivial
    clear hrest
    by_cases h1 : k < n
    · have _ := 0
      refine WC.seq (WC.seq (WC.region (WO.step rfl (OR.move rfl (WO.step rfl (OR.move rfl (WO.step rfl ?_)))))))
      refine OR.lss rfl rfl (WO.step rfl (OR.move rfl ?_))
      refine WO.guardYes rfl (decide_eq_true (by omega : (k : Int) < (n : Int))) rfl rfl (OR.move rfl (WO.guardYes rfl (decide_eq_true (by omega : (k : Int) < (n : Int))) rfl rfl (OR.move rfl (WO.guardYes rfl (decide_eq_true (by omega : (k : Int) < (n : Int))) rfl rfl (OR.lenSlice T23.und rfl (WO.guardYes rfl (decide_eq_true (by omega : (k : Int) < (n : Int))) rfl rfl (OR.lss rfl rfl ?_)))))))
      refine WO.step rfl (OR.pickT rfl (decide_eq_true (by omega : (k : Int) < (n : Int))) rfl (WO.done (WX.seq ?_)))
      refine WC.no rfl (decide_eq_false (by omega)) ?_
      refine WC.exit (WX.seq_exit (WX.loop_exit (WX.block_hit (WX.seq (WC.seq (WC.seq (WC.region ?_)))))))
      refine WO.step rfl (OR.move rfl (WO.done (WX.seq ?_)))
      refine WC.cond rfl (fun hb => ?_) (fun hb => ?_)
      · have hle0 : lead (padTo n l) < 0 := by rw [hzf] at hb; simpa using hb
        refine WC.region (WO.step rfl (OR.move rfl (WO.step rfl (OR.move rfl ?_))))
        refine WO.step rfl (OR.idx turn T23.und T5 rfl rfl rfl ht ?_)
        refine WO.stepN (OR.store hs T5 rfl rfl rfl (by simp [padTo_length]; omega) rfl ?_)
        clear hs; intro w hs
        refine WO.done (WX.seq (WC.seq (WC.region (WO.step rfl (OR.move rfl (WO.step rfl (OR.assign rfl ?_)))))))
        refine WO.step rfl (OR.assign rfl (WO.done (WX.seq (WC.ret ?_))))
        refine WX.ret2 rfl rfl rfl ?_
        refine hend ((padTo n l).set turn 1) _ (by rw [coefF, if_pos hle0]) ?_
        rw [List.map_set, ← setL_one, ← Nat.zero_add turn]
        exact hs
      · have hle0 : ¬ lead (padTo n l) < 0 := by intro h; rw [hzf, decide_eq_true h] at hb; cases hb
        refine WC.skip (WX.seq (WC.seq (WC.region (WO.step rfl (OR.move rfl (WO.step rfl (OR.assign rfl ?_)))))))
        refine WO.step rfl (OR.assign rfl (WO.done (WX.seq (WC.ret ?_))))
        refine WX.ret2 rfl rfl rfl ?_
        exact hend (padTo n l) _ (by rw [coefF, if_neg hle0]) hs
    · have _ := 0
      refine WC.seq (WC.seq (WC.region (WO.step rfl (OR.move rfl (WO.step rfl (OR.move rfl (WO.step rfl ?_)))))))
      refine OR.lss rfl rfl (WO.step rfl (OR.move rfl ?_))
      refine WO.guardNo rfl (decide_eq_false (by omega : ¬ (k : Int) < (n : Int))) rfl rfl (WO.guardNo rfl (decide_eq_false (by omega : ¬ (k : Int) < (n : Int))) rfl rfl (WO.guardNo rfl (decide_eq_false (by omega : ¬ (k : Int) < (n : Int))) rfl rfl (WO.guardNo rfl (decide_eq_false (by omega : ¬ (k : Int) < (n : Int))) rfl rfl (WO.step rfl (OR.pickF rfl (decide_eq_false (by omega : ¬ (k : Int) < (n : Int))) rfl (WO.done (WX.seq ?_)))))))
      refine WC.no rfl rfl (WC.exit (WX.seq_exit (WX.loop_exit (WX.block_hit (WX.seq (WC.seq (WC.seq ?_)))))))
      refine WC.region (WO.step rfl (OR.move rfl (WO.done (WX.seq ?_))))
      refine WC.cond rfl (fun hb => ?_) (fun hb => ?_)
      · have hle0 : lead (padTo n l) < 0 := by rw [hzf] at hb; simpa using hb
        refine WC.region (WO.step rfl (OR.move rfl (WO.step rfl (OR.move rfl ?_))))
        refine WO.step rfl (OR.idx turn T23.und T5 rfl rfl rfl ht ?_)
        refine WO.stepN (OR.store hs T5 rfl rfl rfl (by simp [padTo_length]; omega) rfl ?_)
        clear hs; intro w hs
        refine WO.done (WX.seq (WC.seq (WC.region (WO.step rfl (OR.move rfl (WO.step rfl (OR.assign rfl ?_)))))))
        refine WO.step rfl (OR.assign rfl (WO.done (WX.seq (WC.ret ?_))))
        refine WX.ret2 rfl rfl rfl ?_
        refine hend ((padTo n l).set turn 1) _ (by rw [coefF, if_pos hle0]) ?_
        rw [List.map_set, ← setL_one, ← Nat.zero_add turn]
        exact hs
      · have hle0 : ¬ lead (padTo n l) < 0 := by intro h; rw [hzf, decide_eq_true h] at hb; cases hb
        refine WC.skip (WX.seq (WC.seq (WC.region (WO.step rfl (OR.move rfl (WO.step rfl (OR.assign rfl ?_)))))))
        refine WO.step rfl (OR.assign rfl (WO.done (WX.seq (WC.ret ?_))))
        refine WX.ret2 rfl rfl rfl ?_
        exact hend (padTo n l) _ (by rw [coefF, if_neg hle0]) hs
end Go.Bw
