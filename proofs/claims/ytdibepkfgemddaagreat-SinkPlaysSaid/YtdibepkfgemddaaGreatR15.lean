/- The document's Room and Take. -/
import Derived.Test.YtdibepkfgemddaaGreatTake2
import Derived.Test.YtdibepkfgemddaaGreatLaid
import Derived.Test.YtdibepkfgemddaaGreatR14
namespace Go.Bw
set_option linter.unusedVariables false
set_option linter.unusedSimpArgs false
open Go.Proofs

set_option maxRecDepth 20000 in
set_option maxHeartbeats 2000000 in
theorem room09_ok (g s : Int) (H0 : Hp) (w0 : World) (h0 : Sub H0 w0) :
    Calls Tryz.prog 63 #[.int .i64 g, .int .i64 s] w0 (Pure H0 w0 fun v _ => v = if 1 ≤ g ∧ g ≤ 255 ∧ 1 ≤ s ∧ s ≤ 65535 ∧ 4 < g * s then .tuple #[.int .i64 (g * s - 4), .int .i64 0] else .tuple #[.int .i64 0, .int .i64 1]) := by
  have hs := HS.init h0
  refine Calls.enter (args := [.int .i64 g, .int .i64 s]) Tryz.func63 rfl Tryz.ntmps63 rfl ?_
  refine WC.seq (WC.region (WO.step rfl (OR.assign rfl (WO.step rfl (OR.assign rfl (WO.done (WX.seq ?_)))))))
  refine WC.seq (WC.seq (WC.region (WO.step rfl (OR.move rfl (WO.step rfl (OR.lss rfl rfl (WO.step rfl ?_)))))))
  refine OR.move rfl ?_
  refine WO.guardSplit (j := 2) rfl (fun q1 => ?_) (fun q1 => ?_)
  · refine WO.guardNo rfl (decide_eq_true q1) rfl rfl (WO.guardNo rfl (decide_eq_true q1) rfl rfl (WO.step rfl (OR.pickT rfl (decide_eq_true q1) rfl (WO.step rfl (OR.move rfl (WO.guardNo rfl rfl rfl rfl (WO.guardNo rfl rfl rfl rfl ?_)))))))
    refine WO.step rfl (OR.pickT rfl rfl rfl (WO.step rfl (OR.move rfl (WO.guardNo rfl rfl rfl rfl (WO.guardNo rfl rfl rfl rfl (WO.step rfl (OR.pickT rfl rfl rfl ?_)))))))
    refine WO.step rfl (OR.move rfl (WO.guardNo rfl rfl rfl rfl (WO.guardNo rfl rfl rfl rfl (WO.guardNo rfl rfl rfl rfl (WO.guardNo rfl rfl rfl rfl (WO.step rfl (OR.pickT rfl rfl rfl ?_)))))))
    refine WO.done (WX.seq (WC.yes rfl rfl (WC.seq (WC.region (WO.step rfl (OR.assign rfl (WO.step rfl ?_)))))))
    refine OR.assign rfl (WO.done (WX.seq (WC.ret (WX.seq_ret ?_))))
    refine WX.ret2 rfl rfl rfl ?_
    exact .mk hs (by rw [if_neg (by omega)])
  · refine WO.guardYes rfl (decide_eq_false q1) rfl rfl (OR.move rfl (WO.guardYes rfl (decide_eq_false q1) rfl rfl (OR.gtr rfl rfl (WO.step rfl (OR.pickF rfl (decide_eq_false q1) rfl (WO.step rfl (OR.move rfl ?_)))))))
    refine WO.guardSplit (j := 6) rfl (fun q2 => ?_) (fun q2 => ?_)
    · refine WO.guardNo rfl (decide_eq_true q2) rfl rfl (WO.guardNo rfl (decide_eq_true q2) rfl rfl (WO.step rfl (OR.pickT rfl (decide_eq_true q2) rfl (WO.step rfl (OR.move rfl (WO.guardNo rfl rfl rfl rfl (WO.guardNo rfl rfl rfl rfl ?_)))))))
      refine WO.step rfl (OR.pickT rfl rfl rfl (WO.step rfl (OR.move rfl (WO.guardNo rfl rfl rfl rfl (WO.guardNo rfl rfl rfl rfl (WO.guardNo rfl rfl rfl rfl (WO.guardNo rfl rfl rfl rfl ?_)))))))
      refine WO.step rfl (OR.pickT rfl rfl rfl (WO.done (WX.seq (WC.yes rfl rfl (WC.seq (WC.region (WO.step rfl ?_)))))))
      refine OR.assign rfl (WO.step rfl (OR.assign rfl (WO.done (WX.seq (WC.ret (WX.seq_ret ?_))))))
      refine WX.ret2 rfl rfl rfl ?_
      exact .mk hs (by rw [if_neg (by omega)])
    · refine WO.guardYes rfl (decide_eq_false q2) rfl rfl (OR.move rfl (WO.guardYes rfl (decide_eq_false q2) rfl rfl (OR.lss rfl rfl (WO.step rfl (OR.pickF rfl (decide_eq_false q2) rfl (WO.step rfl (OR.move rfl ?_)))))))
      refine WO.guardSplit (j := 10) rfl (fun q3 => ?_) (fun q3 => ?_)
      · refine WO.guardNo rfl (decide_eq_true q3) rfl rfl (WO.guardNo rfl (decide_eq_true q3) rfl rfl (WO.step rfl (OR.pickT rfl (decide_eq_true q3) rfl (WO.step rfl (OR.move rfl (WO.guardNo rfl rfl rfl rfl (WO.guardNo rfl rfl rfl rfl ?_)))))))
        refine WO.guardNo rfl rfl rfl rfl (WO.guardNo rfl rfl rfl rfl (WO.step rfl (OR.pickT rfl rfl rfl (WO.done (WX.seq (WC.yes rfl rfl (WC.seq ?_)))))))
        refine WC.region (WO.step rfl (OR.assign rfl (WO.step rfl (OR.assign rfl (WO.done (WX.seq (WC.ret ?_)))))))
        refine WX.seq_ret ?_
        refine WX.ret2 rfl rfl rfl ?_
        exact .mk hs (by rw [if_neg (by omega)])
      · refine WO.guardYes rfl (decide_eq_false q3) rfl rfl (OR.move rfl (WO.guardYes rfl (decide_eq_false q3) rfl rfl (OR.gtr rfl rfl (WO.step rfl (OR.pickF rfl (decide_eq_false q3) rfl (WO.step rfl (OR.move rfl ?_)))))))
        refine WO.guardSplit (j := 14) rfl (fun q4 => ?_) (fun q4 => ?_)
        · refine WO.guardNo rfl (decide_eq_true q4) rfl rfl (WO.guardNo rfl (decide_eq_true q4) rfl rfl (WO.guardNo rfl (decide_eq_true q4) rfl rfl (WO.guardNo rfl (decide_eq_true q4) rfl rfl (WO.step rfl (OR.pickT rfl (decide_eq_true q4) rfl (WO.done (WX.seq ?_)))))))
          refine WC.yes rfl rfl (WC.seq (WC.region (WO.step rfl (OR.assign rfl (WO.step rfl (OR.assign rfl (WO.done ?_)))))))
          refine WX.seq (WC.ret (WX.seq_ret ?_))
          refine WX.ret2 rfl rfl rfl ?_
          exact .mk hs (by rw [if_neg (by omega)])
        · have hb1 : 0 ≤ g * s := Int.mul_nonneg (by omega) (by omega)
          have hb2 : g * s ≤ 255 * 65535 := Int.mul_le_mul (by omega) (by omega) (by omega) (by omega)
          refine WO.guardYes rfl (decide_eq_false q4) rfl rfl (OR.move rfl (WO.guardYes rfl (decide_eq_false q4) rfl rfl (OR.move rfl (WO.guardYes rfl (decide_eq_false q4) rfl rfl (OR.mulI rfl rfl (by omega) (by omega) (WO.guardYes rfl (decide_eq_false q4) rfl rfl (OR.lss rfl rfl ?_)))))))
          refine WO.step rfl (OR.pickF rfl (decide_eq_false q4) rfl (WO.done (WX.seq ?_)))
          refine WC.condD rfl (fun q5 => ?_) (fun q5 => ?_)
          · refine WC.seq (WC.region (WO.step rfl (OR.assign rfl (WO.step rfl (OR.assign rfl (WO.done (WX.seq ?_)))))))
            refine WC.ret (WX.seq_ret ?_)
            refine WX.ret2 rfl rfl rfl ?_
            exact .mk hs (by rw [if_neg (fun h => by have := h.2.2.2.2; omega)])
          · refine WC.skip (WX.seq (WC.seq (WC.region (WO.step rfl (OR.move rfl (WO.step rfl (OR.move rfl ?_)))))))
            refine WO.step rfl (OR.mulI rfl rfl (by omega) (by omega) (WO.step rfl (OR.subI rfl rfl (by omega) (by omega) (WO.step rfl (OR.assign rfl (WO.step rfl (OR.assign rfl ?_)))))))
            refine WO.done (WX.seq (WC.ret ?_))
            refine WX.ret2 rfl rfl rfl ?_
            exact .mk hs (by rw [if_pos ⟨by omega, by omega, by omega, by omega, by omega⟩])
theorem own03_p (v : Value) (l : List UInt8) (H0 : Hp) (w0 : World) (h0 : Sub H0 w0) (hv : Bytes H0 v l) (hl : l.length ≤ 140737488355328) :
    Calls Tryz.prog 133 #[v] w0 (Pure H0 w0 fun v H' => Bytes H' v l) :=
  (refOwn_ok v l H0 w0 h0 hv hl).mono fun _ _ h => own_pure h fun _ _ _ h => h
set_option maxRecDepth 20000 in
set_option maxHeartbeats 2000000 in
theorem take09_ok (g s : Nat) (vl : Value) (ll : List (List UInt8)) (H0 : Hp) (w0 : World) (h0 : Sub H0 w0) (hgs : 1 ≤ g ∧ g ≤ 255 ∧ 1 ≤ s ∧ s ≤ 65535 ∧ 4 < g * s) (hv : BytesL H0 vl ll) (hlen : ll.length = g) (hrow : ∀ r ∈ ll, r.length = s) :
    Calls Tryz.prog 76 #[vl, .int .i64 (g : Int), .int .i64 (s : Int)] w0 (Pure H0 w0 fun v H' => TupB H' v (padF (g * s - 4) ll.flatten) (padE (g * s - 4) ll.flatten)) := by
  have hs := HS.init h0
  have hle := Hp.le.refl H0
  obtain ⟨hg1, hg2, hs1, hs2, hgs4⟩ := hgs
  have hmul : g * s ≤ 255 * 65535 := Nat.mul_le_mul hg2 hs2
  have hmc : (g : Int) * (s : Int) = ((g * s : Nat) : Int) := by rw [Int.natCast_mul]
  have hal := flat_len ll s hrow
  rw [hlen] at hal
  obtain ⟨b1, c1, rfl⟩ := hv.form
  refine Calls.enter (args := [.slice b1 ll.length c1, .int .i64 (g : Int), .int .i64 (s : Int)]) Tryz.func76 rfl Tryz.ntmps76 rfl ?_
  refine WC.seq (WC.region (WO.step rfl (OR.assign rfl (WO.step rfl (OR.assign rfl (WO.done (WX.seq ?_)))))))
  refine WC.seq (WC.region (WO.step rfl (OR.move rfl (WO.step rfl (OR.move rfl ?_)))))
  refine WO.step rfl (OR.call hs body63 rfl rfl (room09_ok (g : Int) (s : Int) _ _ hs.toSub) ?_)
  clear hs; rintro _ H w hs hle1 rfl; replace hle := hle.trans hle1; (try replace hlb := hlb.trans hle1)
  rw [if_pos (by rw [hmc]; omega)]
  rw [show (g : Int) * (s : Int) - 4 = ((g * s - 4 : Nat) : Int) by rw [hmc]; omega]
  refine WO.step rfl (OR.move rfl (WO.step rfl (OR.extract rfl rfl (WO.step rfl (OR.extract rfl rfl (WO.step rfl (OR.assign rfl ?_)))))))
  refine WO.step rfl (OR.assign rfl (WO.done (WX.seq (WC.seq (WC.seq (WC.region (WO.step rfl ?_)))))))
  refine OR.move rfl (WO.step rfl (OR.neq rfl rfl (WO.done (WX.seq ?_))))
  refine WC.no rfl rfl ?_
  refine WC.skip (WX.seq (WC.seq (WC.seq (WC.region (WO.step rfl (OR.move rfl (WO.step rfl ?_)))))))
  refine OR.lenSlice T40.und rfl (WO.step rfl (OR.move rfl (WO.step rfl (OR.neq rfl rfl (WO.done (WX.seq ?_))))))
  refine WC.no rfl (decide_eq_false (by omega)) ?_
  refine WC.skip (WX.seq (WC.seq (WC.region (WO.step rfl (OR.assign rfl (WO.done (WX.seq ?_)))))))
  refine WC.seq (WC.seq (WC.region (WO.step rfl (OR.assign rfl (WO.done (WX.seq (WC.block ?_)))))))
  refine WC.loop (ι := Nat × Value) (fun ix => [(0, .slice b1 ll.length c1), (1, .int .i64 (g : Int)), (2, .int .i64 (s : Int)), (8, .int .i64 ((g * s - 4 : Nat) : Int)), (10, ix.2), (11, .int .i64 (ix.1 : Int))]) (fun ix w => (ix.1 ≤ g ∧ ∃ H Mo, Hp.le H0 H ∧ Own w0.heap.size 5 1 ix.2 (ll.take ix.1).flatten.length ((ll.take ix.1).flatten.map B) Mo ∧ HS [] H0 w0 H Mo w)) (fun ix => g - ix.1) (0, .slice none 0 0) ⟨rfl, rfl, rfl, rfl, rfl, rfl,  trivial⟩ ?_ (fun ix w hW => ?_)
  · exact ⟨by omega, H, [], hle, Own.nil _ _ _, hs⟩
  clear hs hle hle1
  obtain ⟨k, vo⟩ := ix
  obtain ⟨hk, H, Mo, hle, ho, hs⟩ := hW
  simp only at hk ho
  have hfl : ∀ j, (ll.take j).flatten.length ≤ g * s := by
    intro j
    have : (ll.take j).flatten.length ≤ ll.flatten.length := by
      have e : ll.flatten = (ll.take j).flatten ++ (ll.drop j).flatten := by rw [← List.flatten_append, List.take_append_drop]
      rw [e, List.length_append]; omega
    omega
  refine WC.seq (WC.seq (WC.region (WO.step rfl (OR.move rfl (WO.step rfl (OR.move rfl (WO.step rfl ?_)))))))
  refine OR.lss rfl rfl (WO.done (WX.seq ?_))
  refine WC.condD rfl (fun hlt => ?_) (fun hlt => ?_)
  · have hk' : k < ll.length := by omega
    have hrl := hrow _ (List.getElem_mem hk')
    obtain ⟨xb, xo, rfl, hcr⟩ := hv.pos (by omega)
    obtain ⟨e1, he1, hb1⟩ := hcr k hk'
    obtain ⟨b2, c2, rfl⟩ := hb1.form
    refine WC.skip (WX.seq (WC.seq (WC.block (WC.seq (WC.seq (WC.region (WO.step rfl ?_)))))))
    refine OR.move rfl (WO.step rfl (OR.move rfl ?_))
    refine WO.step rfl (OR.idx k T40.und T43 rfl rfl rfl hk' ?_)
    refine WO.step rfl (OR.load T43 rfl rfl (hs.cell (hcell.mono hle he1)) ?_)
    refine WO.step rfl (OR.lenSlice T43.und rfl (WO.step rfl (OR.move rfl (WO.step rfl (OR.neq rfl rfl (WO.done (WX.seq ?_)))))))
    refine WC.no rfl (decide_eq_false (by omega)) ?_
    refine WC.skip (WX.seq (WC.region (WO.step rfl (OR.move rfl (WO.step rfl (OR.move rfl (WO.step rfl ?_)))))))
    refine OR.move rfl ?_
    refine WO.step rfl (OR.idx k T40.und T43 rfl rfl rfl hk' ?_)
    refine WO.step rfl (OR.load T43 rfl rfl (hs.cell (hcell.mono hle he1)) ?_)
    have hst : (ll.take (k + 1)).flatten = (ll.take k).flatten ++ ll[k] := by rw [List.take_succ_eq_append_getElem hk', List.flatten_append]; simp
    have hf1 := hfl (k + 1)
    rw [hst, List.length_append] at hf1
    have hb1' := hb1.mono hle
    obtain ⟨bo, co, hfo⟩ := ho.form
    subst hfo
    have hs9 : HS [] H0 w0 H (Mo ++ []) w := by rw [List.append_nil]; exact hs
    refine WO.step rfl (OR.append (m := ll[k].length) (news := ll[k].map B) (Mo := Mo) (M := []) hs9 ho T43.und T5 rfl (by omega) rfl rfl (by simp) (fun q hq j u hj => Sl.src hb1' hs q hq j u hj) (fun q => Sl.src0 hb1' q) (bytes_one _) (by omega) (by omega) ?_)
    clear hs hs9 ho; intro v9 w Mo3 hs ho hge9
    rw [List.append_nil] at hs
    refine WO.step rfl (OR.assign rfl (WO.done (WX.block (WX.seq (WC.region (WO.step rfl (OR.move rfl ?_)))))))
    refine WO.step rfl (OR.addI rfl rfl (by omega) (by omega) (WO.step rfl (OR.assign rfl (WO.done ?_))))
    refine WX.again ((k + 1, v9)) ⟨rfl, rfl, rfl, rfl, rfl, rfl,  trivial⟩ ?_ ?_
    · refine ⟨by omega, H, Mo3, hle, ?_, hs⟩
      simp only
      rw [hst, List.length_append, List.map_append]
      exact ho
    · simp only; omega
  · have e : k = g := by omega
    subst e
    rw [List.take_of_length_le (by omega)] at ho
    obtain ⟨H2, hle2, hs2', hsl, _⟩ := HS.pub (M := []) (by rw [List.append_nil]; exact hs) ho
    clear hs
    have hs := hs2'
    clear hs2' ho
    replace hle := hle.trans hle2
    have hB : Bytes H2 vo ll.flatten := hsl
    clear hsl hfl
    generalize hA : ll.flatten = all at *
    obtain ⟨bo, co, hfo⟩ := hB.form
    subst hfo
    refine WC.exit (WX.seq_exit (WX.loop_exit (WX.block_hit (WX.seq (WC.seq (WC.region (WO.step rfl ?_)))))))
    refine OR.assign rfl (WO.done (WX.seq (WC.seq (WC.seq (WC.region (WO.step rfl (OR.assign rfl ?_)))))))
    refine WO.done (WX.seq (WC.block ?_))
    refine WC.loop (ι := Nat) (fun j => [(8, .int .i64 ((k * s - 4 : Nat) : Int)), (10, .slice bo all.length co), (12, .int .i64 (beVal (all.take j) : Int)), (13, .int .i64 (j : Int))]) (fun j w => (j ≤ 4 ∧ beVal (all.take j) < 256 ^ j ∧ HS [] H0 w0 H2 [] w)) (fun j => 4 - j) 0 ⟨rfl, rfl, rfl, rfl,  trivial⟩ ?_ (fun j w hW => ?_)
    · exact ⟨by omega, by simp [beVal], hs⟩
    clear hs
    obtain ⟨hj, hbv, hs⟩ := hW
    have hb4 : beVal (all.take j) < 4294967296 := Nat.lt_of_lt_of_le hbv (by have : 256 ^ j ≤ 256 ^ 4 := Nat.pow_le_pow_right (by omega) hj; omega)
    refine WC.seq (WC.seq (WC.region (WO.step rfl (OR.move rfl (WO.step rfl (OR.lss rfl rfl (WO.done ?_)))))))
    refine WX.seq ?_
    refine WC.condD rfl (fun hj4 => ?_) (fun hj4 => ?_)
    · have hj' : j < all.length := by omega
      obtain ⟨xb, xo, rfl, hcb⟩ := hB.pos (by omega)
      have hu := all[j].toNat_lt
      have hst := beVal_take all j hj'
      refine WC.skip (WX.seq (WC.seq (WC.block (WC.region (WO.step rfl (OR.move rfl (WO.step rfl ?_)))))))
      refine OR.mulI rfl rfl (by omega) (by omega) (WO.step rfl (OR.move rfl (WO.step rfl (OR.move rfl ?_))))
      refine WO.step rfl (OR.idx j T43.und T5 rfl rfl rfl hj' ?_)
      refine WO.step rfl (OR.load T5 rfl rfl (hs.cell (hcb j hj')) ?_)
      refine WO.step rfl (OR.convB T5.und T3.und rfl ?_)
      refine WO.step rfl (OR.addI rfl rfl (by omega) (by omega) (WO.step rfl (OR.assign rfl (WO.done (WX.block (WX.seq (WC.region ?_)))))))
      refine WO.step rfl (OR.move rfl (WO.step rfl (OR.addI rfl rfl (by omega) (by omega) (WO.step rfl (OR.assign rfl (WO.done ?_))))))
      rw [show (256 : Int) * (beVal (all.take j) : Int) + (all[j].toNat : Int) = ((beVal (all.take (j + 1)) : Nat) : Int) by rw [hst]; omega]
      refine WX.again (j + 1) ⟨rfl, rfl, rfl, rfl,  trivial⟩ ?_ ?_
      · refine ⟨by omega, ?_, hs⟩
        rw [hst, Nat.pow_succ]
        omega
      · omega
    · have e : j = 4 := by omega
      subst e
      have hpN : padN all = beVal (all.take 4) := rfl
      rw [← hpN] at hb4 ⊢
      clear hbv hj
      refine WC.exit (WX.seq_exit (WX.loop_exit (WX.block_hit (WX.seq (WC.seq (WC.seq (WC.region ?_)))))))
      refine WO.step rfl (OR.move rfl (WO.step rfl (OR.lss rfl rfl (WO.step rfl (OR.move rfl ?_)))))
      refine WO.guardSplit (j := 2) rfl (fun hn1 => ?_) (fun hn1 => ?_)
      · refine WO.guardNo rfl (decide_eq_true hn1) rfl rfl (WO.guardNo rfl (decide_eq_true hn1) rfl rfl (WO.guardNo rfl (decide_eq_true hn1) rfl rfl (WO.step rfl (OR.pickT rfl (decide_eq_true hn1) rfl (WO.done (WX.seq (WC.yes rfl rfl ?_)))))))
        refine WC.seq (WC.region (WO.step rfl (OR.assign rfl (WO.step rfl (OR.assign rfl (WO.done (WX.seq ?_)))))))
        refine WC.ret (WX.seq_ret ?_)
        refine WX.ret2 rfl rfl rfl ?_
        refine .mk hs ⟨.slice none 0 0, ?_, ?_⟩
        · rw [padE, if_neg (fun h => by have := h.1; omega)]
        · rw [padF, if_neg (fun h => by have := h.1; omega)]; exact Sl.empty _ _ _
      · refine WO.guardYes rfl (decide_eq_false hn1) rfl rfl (OR.move rfl (WO.guardYes rfl (decide_eq_false hn1) rfl rfl (OR.move rfl (WO.guardYes rfl (decide_eq_false hn1) rfl rfl (OR.gtr rfl rfl (WO.step rfl (OR.pickF rfl (decide_eq_false hn1) rfl ?_)))))))
        refine WO.done (WX.seq ?_)
        refine WC.condD rfl (fun hn2 => ?_) (fun hn2 => ?_)
        · refine WC.seq (WC.region (WO.step rfl (OR.assign rfl (WO.step rfl (OR.assign rfl (WO.done (WX.seq ?_)))))))
          refine WC.ret (WX.seq_ret ?_)
          refine WX.ret2 rfl rfl rfl ?_
          refine .mk hs ⟨.slice none 0 0, ?_, ?_⟩
          · rw [padE, if_neg (fun h => by have := h.2.1; omega)]
          · rw [padF, if_neg (fun h => by have := h.2.1; omega)]; exact Sl.empty _ _ _
        · have hn3 : 1 ≤ padN all ∧ padN all ≤ k * s - 4 := ⟨by omega, by omega⟩
          refine WC.skip (WX.seq (WC.seq (WC.seq (WC.region (WO.step rfl (OR.move rfl (WO.step rfl ?_)))))))
          refine OR.addI rfl rfl (by omega) (by omega) (WO.step rfl (OR.assign rfl (WO.done (WX.seq (WC.block ?_)))))
          rw [show (4 : Int) + (padN all : Int) = ((4 + padN all : Nat) : Int) by omega]
          refine WC.loop (ι := Nat) (fun i => [(10, .slice bo all.length co), (12, .int .i64 (padN all : Int)), (14, .int .i64 (i : Int))]) (fun i w => (4 + padN all ≤ i ∧ i ≤ all.length ∧ (∀ j (h : j < all.length), 4 + padN all ≤ j → j < i → all[j] = 0) ∧ HS [] H0 w0 H2 [] w)) (fun i => all.length - i) (4 + padN all) ⟨rfl, rfl, rfl,  trivial⟩ ?_ (fun i w hW => ?_)
          · exact ⟨by omega, by omega, fun j _ h1 h2 => absurd h2 (by omega), hs⟩
          clear hs
          obtain ⟨hi1, hi2, hz, hs⟩ := hW
          refine WC.seq (WC.seq (WC.region (WO.step rfl (OR.move rfl (WO.step rfl (OR.move rfl (WO.step rfl ?_)))))))
          refine OR.lenSlice T43.und rfl (WO.step rfl (OR.lss rfl rfl (WO.done (WX.seq ?_))))
          refine WC.condD rfl (fun hia => ?_) (fun hia => ?_)
          · have hi' : i < all.length := by omega
            obtain ⟨xb, xo, rfl, hcb⟩ := hB.pos (by omega)
            refine WC.skip (WX.seq (WC.seq (WC.block (WC.seq (WC.region (WO.step rfl (OR.move rfl ?_)))))))
            refine WO.step rfl (OR.move rfl ?_)
            refine WO.step rfl (OR.idx i T43.und T5 rfl rfl rfl hi' ?_)
            refine WO.step rfl (OR.load T5 rfl rfl (hs.cell (hcb i hi')) ?_)
            refine WO.step rfl (OR.neq rfl rfl (WO.done (WX.seq ?_)))
            refine WC.condD rfl (fun hnz => ?_) (fun hnz => ?_)
            · have hno : ¬ padOk (k * s - 4) all := by
                intro h
                have h9 := lead_none.1 h.2.2 (i - (4 + padN all))
                rw [List.drop_drop, List.getD_eq_getElem?_getD, List.getElem?_drop, show 4 + padN all + (i - (4 + padN all)) = i by omega, List.getElem?_eq_getElem hi'] at h9
                simp only [Option.getD_some] at h9
                rw [h9] at hnz
                exact hnz rfl
              refine WC.seq (WC.region (WO.step rfl (OR.assign rfl (WO.step rfl (OR.assign rfl (WO.done (WX.seq ?_)))))))
              refine WC.ret (WX.block_ret (WX.seq_ret (WX.loop_ret (WX.block_ret (WX.seq_ret ?_)))))
              refine WX.ret2 rfl rfl rfl ?_
              refine .mk hs ⟨.slice none 0 0, ?_, ?_⟩
              · rw [padE, if_neg hno]
              · rw [padF, if_neg hno]; exact Sl.empty _ _ _
            · refine WC.skip (WX.block (WX.seq (WC.region (WO.step rfl (OR.move rfl (WO.step rfl (OR.addI rfl rfl (by omega) (by omega) ?_)))))))
              refine WO.step rfl (OR.assign rfl (WO.done ?_))
              refine WX.again (i + 1) ⟨rfl, rfl, rfl,  trivial⟩ ?_ ?_
              · refine ⟨by omega, hi', fun j hj h1 h2 => ?_, hs⟩
                by_cases e : j = i
                · subst e
                  have h9 : (all[j].toNat : Int) = 0 := Classical.byContradiction fun q => hnz q
                  exact UInt8.toNat_inj.1 (by have : (0 : UInt8).toNat = 0 := rfl; omega)
                · exact hz j hj h1 (by omega)
              · omega
          · have hok : padOk (k * s - 4) all := by
              refine ⟨hn3.1, hn3.2, lead_none.2 fun j => ?_⟩
              rw [List.drop_drop, List.getD_eq_getElem?_getD, List.getElem?_drop]
              rcases Nat.lt_or_ge (4 + padN all + j) all.length with h | h
              · rw [List.getElem?_eq_getElem h]
                exact hz _ h (by omega) (by omega)
              · rw [List.getElem?_eq_none h]; rfl
            have hpart := hB.part 4 (4 + padN all) (by omega) (by omega)
            refine WC.exit (WX.seq_exit (WX.loop_exit (WX.block_hit (WX.seq (WC.seq (WC.region (WO.step rfl ?_)))))))
            refine OR.move rfl (WO.step rfl (OR.move rfl (WO.step rfl (OR.addI rfl rfl (by omega) (by omega) ?_))))
            refine WO.step rfl (OR.slice2G 4 (4 + padN all) T43.und T5 rfl rfl rfl rfl (by omega) (by omega) (by have := hB.cap_le; omega) ?_)
            refine WO.step rfl (OR.call hs body133 rfl rfl (own03_p _ ((all.drop 4).take (4 + padN all - 4)) _ _ hs.toSub hpart (by rw [List.length_take, List.length_drop]; omega)) ?_)
            clear hs; rintro vr H w hs hle1 hvr; replace hle := hle.trans hle1; (try replace hlb := hlb.trans hle1)
            refine WO.step rfl (OR.assign rfl (WO.step rfl (OR.assign rfl (WO.done (WX.seq (WC.ret ?_))))))
            refine WX.ret2 rfl rfl rfl ?_
            rw [show 4 + padN all - 4 = padN all by omega] at hvr
            refine .mk hs ⟨vr, ?_, ?_⟩
            · rw [padE, if_pos hok]
            · rw [padF, if_pos hok]; exact hvr
end Go.Bw
namespace Go.Bw
set_option linter.unusedVariables false
set_option linter.unusedSimpArgs false
open Go.Proofs

def goodR (g s w : Int) : Prop := (1 ≤ g ∧ g ≤ 255 ∧ 1 ≤ s ∧ s ≤ 65535) ∧ 1 ≤ w ∧ w ≤ 16
instance (g s w : Int) : Decidable (goodR g s w) := inferInstanceAs (Decidable (_ ∧ _))
set_option maxRecDepth 20000 in
set_option maxHeartbeats 2000000 in
theorem rnewI_ok (g s width : Int) (H0 : Hp) (w0 : World) (h0 : Sub H0 w0) :
    Calls Tryz.prog 12 #[.int .i64 g, .int .i64 s, .int .i64 width] w0 (Ret [] H0 w0 fun v H' M' => H' = H0 ∧ if goodR g s width then ∃ rb wb, v = .tuple #[ptr rb, .int .i64 0] ∧ M' = relMem true (newR g.toNat s.toNat width.toNat) rb wb (List.replicate 16 none) else v = .tuple #[.pointer none, .int .i64 1] ∧ M' = []) := by
  by_cases hgd : goodR g s width
  · obtain ⟨⟨h1, h2, h3, h4⟩, h5, h6⟩ := hgd
    obtain ⟨a, rfl⟩ := Int.eq_ofNat_of_zero_le (show 0 ≤ g by omega)
    obtain ⟨b, rfl⟩ := Int.eq_ofNat_of_zero_le (show 0 ≤ s by omega)
    obtain ⟨c, rfl⟩ := Int.eq_ofNat_of_zero_le (show 0 ≤ width by omega)
    refine (rnew_ok a b c H0 w0 h0 ⟨by omega, by omega, by omega, by omega⟩ ⟨by omega, by omega⟩).mono ?_
    rintro e w' ⟨v, H', M', q1, q2, q3, q4, q5⟩
    refine ⟨v, H', M', q1, q2, q3, q4, ?_⟩
    rw [if_pos (show goodR (a : Int) (b : Int) (c : Int) from ⟨⟨h1, h2, h3, h4⟩, h5, h6⟩)]
    exact q5
  · have hs := HS.init h0
    have hle := Hp.le.refl H0
    refine Calls.enter (args := [.int .i64 g, .int .i64 s, .int .i64 width]) Tryz.func12 rfl Tryz.ntmps12 rfl ?_
    refine WC.seq (WC.region (WO.step rfl (OR.assign rfl (WO.step rfl (OR.assign rfl (WO.done (WX.seq ?_)))))))
    refine WC.seq (WC.region (WO.step rfl (OR.move rfl ?_)))
    refine WO.step rfl (OR.callX (Mx := []) (Mr := []) hs body64 rfl rfl (wnewW_ok width _ _ hs.toSub) rfl rfl ?_)
    clear hs; rintro v H M w hs hle1 hnew ⟨rfl, hres⟩
    by_cases hw : 1 ≤ width ∧ width ≤ 16
    · rw [if_pos hw] at hres
      obtain ⟨wb, rfl, rfl⟩ := hres
      refine WO.step rfl (OR.move rfl (WO.step rfl (OR.extract rfl rfl (WO.step rfl (OR.extract rfl rfl (WO.step rfl (OR.assign rfl ?_)))))))
      refine WO.step rfl (OR.assign rfl (WO.done (WX.seq (WC.seq (WC.seq (WC.region (WO.step rfl ?_)))))))
      refine OR.move rfl (WO.step rfl (OR.move rfl ?_))
      refine WO.step rfl (OR.callX (Mx := []) (Mr := [(wb, winObj 0 width.toNat, true)]) hs body65 rfl rfl (new_ok g s _ _ hs.toSub) rfl rfl ?_)
      clear hs; rintro v H M w hs hle1 hnew ⟨rfl, hres⟩
      rw [if_neg (fun h => hgd ⟨h, hw⟩)] at hres
      obtain ⟨rfl, rfl⟩ := hres
      refine WO.step rfl (OR.move rfl (WO.step rfl (OR.extract rfl rfl (WO.step rfl (OR.extract rfl rfl (WO.step rfl (OR.assign rfl ?_)))))))
      refine WO.step rfl (OR.assign rfl (WO.done (WX.seq (WC.seq (WC.region (WO.step rfl (OR.move rfl ?_)))))))
      refine WO.step rfl (OR.neq rfl rfl (WO.step rfl (OR.move rfl ?_)))
      refine WO.guardYes rfl rfl rfl rfl (OR.move rfl (WO.guardYes rfl rfl rfl rfl (OR.neq rfl rfl (WO.step rfl (OR.pickF rfl rfl rfl (WO.done (WX.seq ?_)))))))
      refine WC.yes rfl rfl ?_
      refine WC.seq (WC.region (WO.step rfl (OR.assign rfl (WO.step rfl (OR.assign rfl (WO.done (WX.seq ?_)))))))
      refine WC.ret (WX.seq_ret ?_)
      refine WX.ret2 rfl rfl rfl ?_
      refine ⟨_, _, [], rfl, hs.sublist (List.nil_sublist _), by simp, rfl, ?_⟩
      rw [if_neg hgd]
      exact ⟨rfl, rfl⟩
    · rw [if_neg hw] at hres
      obtain ⟨rfl, rfl⟩ := hres
      refine WO.step rfl (OR.move rfl (WO.step rfl (OR.extract rfl rfl (WO.step rfl (OR.extract rfl rfl (WO.step rfl (OR.assign rfl ?_)))))))
      refine WO.step rfl (OR.assign rfl (WO.done (WX.seq (WC.seq (WC.seq (WC.region (WO.step rfl ?_)))))))
      refine OR.move rfl (WO.step rfl (OR.move rfl ?_))
      refine WO.step rfl (OR.callX (Mx := []) (Mr := []) hs body65 rfl rfl (new_ok g s _ _ hs.toSub) rfl rfl ?_)
      clear hs; rintro v H M w hs hle1 hnew ⟨rfl, hres⟩
      by_cases hg : 1 ≤ g ∧ g ≤ 255 ∧ 1 ≤ s ∧ s ≤ 65535
      · rw [if_pos hg] at hres
        obtain ⟨bb, hbb, rfl, rfl⟩ := hres
        refine WO.step rfl (OR.move rfl (WO.step rfl (OR.extract rfl rfl (WO.step rfl (OR.extract rfl rfl (WO.step rfl (OR.assign rfl ?_)))))))
        refine WO.step rfl (OR.assign rfl (WO.done (WX.seq (WC.seq (WC.region (WO.step rfl (OR.move rfl ?_)))))))
        refine WO.step rfl (OR.neq rfl rfl (WO.step rfl (OR.move rfl ?_)))
        refine WO.guardNo rfl rfl rfl rfl (WO.guardNo rfl rfl rfl rfl (WO.step rfl (OR.pickT rfl rfl rfl (WO.done (WX.seq (WC.yes rfl rfl (WC.seq ?_)))))))
        refine WC.region (WO.step rfl (OR.assign rfl (WO.step rfl (OR.assign rfl (WO.done (WX.seq (WC.ret ?_)))))))
        refine WX.seq_ret ?_
        refine WX.ret2 rfl rfl rfl ?_
        refine ⟨_, _, [], rfl, hs.sublist (List.nil_sublist _), by simp, rfl, ?_⟩
        rw [if_neg hgd]
        exact ⟨rfl, rfl⟩
      · rw [if_neg hg] at hres
        obtain ⟨rfl, rfl⟩ := hres
        refine WO.step rfl (OR.move rfl (WO.step rfl (OR.extract rfl rfl (WO.step rfl (OR.extract rfl rfl (WO.step rfl (OR.assign rfl ?_)))))))
        refine WO.step rfl (OR.assign rfl (WO.done (WX.seq (WC.seq (WC.region (WO.step rfl (OR.move rfl ?_)))))))
        refine WO.step rfl (OR.neq rfl rfl (WO.step rfl (OR.move rfl ?_)))
        refine WO.guardNo rfl rfl rfl rfl (WO.guardNo rfl rfl rfl rfl (WO.step rfl (OR.pickT rfl rfl rfl (WO.done (WX.seq (WC.yes rfl rfl (WC.seq ?_)))))))
        refine WC.region (WO.step rfl (OR.assign rfl (WO.step rfl (OR.assign rfl (WO.done (WX.seq (WC.ret ?_)))))))
        refine WX.seq_ret ?_
        refine WX.ret2 rfl rfl rfl ?_
        refine ⟨_, _, [], rfl, hs.sublist (List.nil_sublist _), by simp, rfl, ?_⟩
        rw [if_neg hgd]
        exact ⟨rfl, rfl⟩
set_option maxRecDepth 20000 in
set_option maxHeartbeats 2000000 in
theorem w10New_ok (width : Int) (H0 : Hp) (w0 : World) (h0 : Sub H0 w0) :
    Calls Tryz.prog 66 #[.int .i64 width] w0 (Ret [] H0 w0 fun v H' M' => H' = H0 ∧ if 1 ≤ width ∧ width ≤ 16 then ∃ b, v = .tuple #[ptr b, .int .i64 0] ∧ M' = [(b, w10Obj 0 width.toNat, true)] else v = .tuple #[.pointer none, .int .i64 1] ∧ M' = []) := by
  have hs := HS.init h0
  have hle := Hp.le.refl H0
  refine Calls.enter (args := [.int .i64 width]) Tryz.func66 rfl Tryz.ntmps66 rfl ?_
  refine WC.seq (WC.region (WO.step rfl (OR.assign rfl (WO.step rfl (OR.assign rfl (WO.done (WX.seq ?_)))))))
  refine WC.seq (WC.seq (WC.region (WO.step rfl (OR.move rfl (WO.step rfl (OR.lss rfl rfl (WO.step rfl ?_)))))))
  refine OR.move rfl ?_
  refine WO.guardSplit (j := 2) rfl (fun hg => ?_) (fun hg => ?_)
  · refine WO.guardNo rfl (decide_eq_true hg) rfl rfl (WO.guardNo rfl (decide_eq_true hg) rfl rfl (WO.step rfl (OR.pickT rfl (decide_eq_true hg) rfl (WO.done (WX.seq (WC.yes rfl rfl (WC.seq ?_)))))))
    refine WC.region (WO.step rfl (OR.assign rfl (WO.step rfl (OR.assign rfl (WO.done (WX.seq (WC.ret ?_)))))))
    refine WX.seq_ret ?_
    refine WX.ret2 rfl rfl rfl ?_
    refine ⟨_, _, [], rfl, hs, by simp, rfl, ?_⟩
    rw [if_neg (by omega)]
    exact ⟨rfl, rfl⟩
  · refine WO.guardYes rfl (decide_eq_false hg) rfl rfl (OR.move rfl (WO.guardYes rfl (decide_eq_false hg) rfl rfl (OR.gtr rfl rfl (WO.step rfl (OR.pickF rfl (decide_eq_false hg) rfl (WO.done (WX.seq ?_)))))))
    refine WC.condD rfl (fun hbig => ?_) (fun hbig => ?_)
    · refine WC.seq (WC.region (WO.step rfl (OR.assign rfl (WO.step rfl (OR.assign rfl (WO.done (WX.seq ?_)))))))
      refine WC.ret (WX.seq_ret ?_)
      refine WX.ret2 rfl rfl rfl ?_
      refine ⟨_, _, [], rfl, hs, by simp, rfl, ?_⟩
      rw [if_neg (by omega)]
      exact ⟨rfl, rfl⟩
    · refine WC.skip (WX.seq (WC.seq (WC.region (WO.step rfl (OR.move rfl ?_)))))
      refine WO.step rfl (OR.build (cs := #[.int .u64 0, .int .i64 width]) rfl (by intro w; kernel_rfl) ?_)
      refine WO.step rfl (OR.box hs rfl ?_)
      clear hs; intro g1 w hg1 hs
      refine WO.step rfl (OR.assign rfl (WO.step rfl (OR.assign rfl (WO.done (WX.seq (WC.ret ?_))))))
      refine WX.ret2 rfl rfl rfl ?_
      refine ⟨_, _, [_], rfl, hs, by simp, rfl, ?_⟩
      rw [if_pos (by omega)]
      obtain ⟨n, rfl⟩ := Int.eq_ofNat_of_zero_le (show 0 ≤ width by omega)
      exact ⟨g1, rfl, rfl⟩
theorem R14.start (H : Hp) (g s width : Nat) : R14 H (newR g s width) (.slice none 0 0) [] := by
  refine ⟨Sl.nil _ _, fun x h => absurd h (List.not_mem_nil), List.Pairwise.nil, fun x h => absurd h (List.not_mem_nil), fun n => ?_, Tidy.new g s width⟩
  show [] = (newR g s width).rk n
  unfold RelD.rk
  split <;> rfl
set_option maxRecDepth 20000 in
set_option maxHeartbeats 2000000 in
theorem new14_ok (g s width : Int) (H0 : Hp) (w0 : World) (h0 : Sub H0 w0) :
    Calls Tryz.prog 13 #[.int .i64 g, .int .i64 s, .int .i64 width] w0 (Ret [] H0 w0 fun v H' M' => if goodR g s width then ∃ ob wb, v = .tuple #[ptr ob, .int .i64 0] ∧ M' = r14Mem (newR g.toNat s.toNat width.toNat) ob wb (.slice none 0 0) [] else v = .tuple #[.pointer none, .int .i64 1] ∧ M' = []) := by
  have hs := HS.init h0
  have hle := Hp.le.refl H0
  refine Calls.enter (args := [.int .i64 g, .int .i64 s, .int .i64 width]) Tryz.func13 rfl Tryz.ntmps13 rfl ?_
  refine WC.seq (WC.region (WO.step rfl (OR.assign rfl (WO.step rfl (OR.assign rfl (WO.done (WX.seq ?_)))))))
  refine WC.seq (WC.region (WO.step rfl (OR.move rfl ?_)))
  refine WO.step rfl (OR.callX (Mx := []) (Mr := []) hs body66 rfl rfl (w10New_ok width _ _ hs.toSub) rfl rfl ?_)
  clear hs; rintro v H M w hs hle1 hnew ⟨_, hres⟩
  replace hle := hle.trans hle1
  by_cases hw : 1 ≤ width ∧ width ≤ 16
  · rw [if_pos hw] at hres
    obtain ⟨wb, rfl, rfl⟩ := hres
    refine WO.step rfl (OR.move rfl (WO.step rfl (OR.extract rfl rfl (WO.step rfl (OR.extract rfl rfl (WO.step rfl (OR.assign rfl ?_)))))))
    refine WO.step rfl (OR.assign rfl (WO.done (WX.seq (WC.seq (WC.region (WO.step rfl (OR.move rfl ?_)))))))
    refine WO.step rfl (OR.move rfl ?_)
    refine WO.step rfl (OR.callX (Mx := []) (Mr := [(wb, w10Obj 0 width.toNat, true)]) hs body67 rfl rfl (refNew_ok g s _ _ hs.toSub) rfl rfl ?_)
    clear hs; rintro v H M w hs hle2 hnew hres
    by_cases hg : 1 ≤ g ∧ g ≤ 255 ∧ 1 ≤ s ∧ s ≤ 65535
    · rw [if_pos hg] at hres
      obtain ⟨q1, q2, q3, ci, cr, rfl, _, _, _, rfl, _, _⟩ := hres
      obtain ⟨a, rfl⟩ := Int.eq_ofNat_of_zero_le (show 0 ≤ g by omega)
      obtain ⟨b, rfl⟩ := Int.eq_ofNat_of_zero_le (show 0 ≤ s by omega)
      replace hs : HS [] H0 w0 H [(wb, w10Obj 0 width.toNat, true)] w := ((hs.drop 0).drop 0).drop 0
      refine WO.step rfl (OR.move rfl (WO.step rfl (OR.extract rfl rfl (WO.step rfl (OR.extract rfl rfl (WO.step rfl (OR.assign rfl ?_)))))))
      refine WO.step rfl (OR.assign rfl (WO.done (WX.seq (WC.seq (WC.seq (WC.region (WO.step rfl ?_)))))))
      refine OR.move rfl (WO.step rfl (OR.neq rfl rfl (WO.step rfl (OR.move rfl ?_))))
      refine WO.guardYes rfl rfl rfl rfl (OR.move rfl (WO.guardYes rfl rfl rfl rfl (OR.neq rfl rfl (WO.step rfl (OR.pickF rfl rfl rfl (WO.done (WX.seq ?_)))))))
      refine WC.no rfl rfl ?_
      refine WC.skip (WX.seq (WC.seq (WC.region (WO.step rfl (OR.move rfl (WO.step rfl (OR.move rfl ?_)))))))
      refine WO.step rfl (OR.move rfl ?_)
      refine WO.step rfl (OR.build (cs := #[.int .i64 (a : Int), .int .i64 (b : Int), ptr wb, .slice none 0 0]) rfl (by intro w; kernel_rfl) ?_)
      refine WO.step rfl (OR.box hs rfl ?_)
      clear hs; intro g1 w hg1 hs
      refine WO.step rfl (OR.assign rfl (WO.step rfl (OR.assign rfl (WO.done (WX.seq (WC.ret ?_))))))
      refine WX.ret2 rfl rfl rfl ?_
      refine ⟨_, _, [_, _], rfl, hs, by simp, ?_⟩
      show ite _ _ _
      rw [if_pos ⟨hg, hw⟩]
      exact ⟨g1, wb, rfl, rfl⟩
    · rw [if_neg hg] at hres
      obtain ⟨rfl, rfl⟩ := hres
      refine WO.step rfl (OR.move rfl (WO.step rfl (OR.extract rfl rfl (WO.step rfl (OR.extract rfl rfl (WO.step rfl (OR.assign rfl ?_)))))))
      refine WO.step rfl (OR.assign rfl (WO.done (WX.seq (WC.seq (WC.seq (WC.region (WO.step rfl ?_)))))))
      refine OR.move rfl (WO.step rfl (OR.neq rfl rfl (WO.step rfl (OR.move rfl ?_))))
      refine WO.guardYes rfl rfl rfl rfl (OR.move rfl (WO.guardYes rfl rfl rfl rfl (OR.neq rfl rfl (WO.step rfl (OR.pickF rfl rfl rfl (WO.done (WX.seq ?_)))))))
      refine WC.yes rfl rfl ?_
      refine WC.seq (WC.region (WO.step rfl (OR.assign rfl (WO.step rfl (OR.assign rfl (WO.done (WX.seq ?_)))))))
      refine WC.ret (WX.seq_ret ?_)
      refine WX.ret2 rfl rfl rfl ?_
      refine ⟨_, _, [], rfl, hs.sublist (List.nil_sublist _), by simp, ?_⟩
      show ite _ _ _
      rw [if_neg (fun h => hg h.1)]
      exact ⟨rfl, rfl⟩
  · rw [if_neg hw] at hres
    obtain ⟨rfl, rfl⟩ := hres
    refine WO.step rfl (OR.move rfl (WO.step rfl (OR.extract rfl rfl (WO.step rfl (OR.extract rfl rfl (WO.step rfl (OR.assign rfl ?_)))))))
    refine WO.step rfl (OR.assign rfl (WO.done (WX.seq (WC.seq (WC.region (WO.step rfl (OR.move rfl ?_)))))))
    refine WO.step rfl (OR.move rfl ?_)
    refine WO.step rfl (OR.callX (Mx := []) (Mr := []) hs body67 rfl rfl (refNew_ok g s _ _ hs.toSub) rfl rfl ?_)
    clear hs; rintro v H M w hs hle2 hnew hres
    by_cases hg : 1 ≤ g ∧ g ≤ 255 ∧ 1 ≤ s ∧ s ≤ 65535
    · rw [if_pos hg] at hres
      obtain ⟨q1, q2, q3, ci, cr, rfl, _, _, _, rfl, _, _⟩ := hres
      refine WO.step rfl (OR.move rfl (WO.step rfl (OR.extract rfl rfl (WO.step rfl (OR.extract rfl rfl (WO.step rfl (OR.assign rfl ?_)))))))
      refine WO.step rfl (OR.assign rfl (WO.done (WX.seq (WC.seq (WC.seq (WC.region (WO.step rfl ?_)))))))
      refine OR.move rfl (WO.step rfl (OR.neq rfl rfl (WO.step rfl (OR.move rfl ?_))))
      refine WO.guardNo rfl rfl rfl rfl (WO.guardNo rfl rfl rfl rfl (WO.step rfl (OR.pickT rfl rfl rfl (WO.done (WX.seq (WC.yes rfl rfl (WC.seq ?_)))))))
      refine WC.region (WO.step rfl (OR.assign rfl (WO.step rfl (OR.assign rfl (WO.done (WX.seq (WC.ret ?_)))))))
      refine WX.seq_ret ?_
      refine WX.ret2 rfl rfl rfl ?_
      refine ⟨_, _, [], rfl, hs.sublist (List.nil_sublist _), by simp, ?_⟩
      show ite _ _ _
      rw [if_neg (fun h => hw h.2)]
      exact ⟨rfl, rfl⟩
    · rw [if_neg hg] at hres
      obtain ⟨rfl, rfl⟩ := hres
      refine WO.step rfl (OR.move rfl (WO.step rfl (OR.extract rfl rfl (WO.step rfl (OR.extract rfl rfl (WO.step rfl (OR.assign rfl ?_)))))))
      refine WO.step rfl (OR.assign rfl (WO.done (WX.seq (WC.seq (WC.seq (WC.region (WO.step rfl ?_)))))))
      refine OR.move rfl (WO.step rfl (OR.neq rfl rfl (WO.step rfl (OR.move rfl ?_))))
      refine WO.guardNo rfl rfl rfl rfl (WO.guardNo rfl rfl rfl rfl (WO.step rfl (OR.pickT rfl rfl rfl (WO.done (WX.seq (WC.yes rfl rfl (WC.seq ?_)))))))
      refine WC.region (WO.step rfl (OR.assign rfl (WO.step rfl (OR.assign rfl (WO.done (WX.seq (WC.ret ?_)))))))
      refine WX.seq_ret ?_
      refine WX.ret2 rfl rfl rfl ?_
      refine ⟨_, _, [], rfl, hs.sublist (List.nil_sublist _), by simp, ?_⟩
      show ite _ _ _
      rw [if_neg (fun h => hw h.2)]
      exact ⟨rfl, rfl⟩
end Go.Bw
namespace Go.Bw
set_option linter.unusedVariables false
set_option linter.unusedSimpArgs false
open Go.Proofs

def goodK (g s : Int) (dl : Nat) : Prop := (1 ≤ g ∧ g ≤ 255 ∧ 1 ≤ s ∧ s ≤ 65535 ∧ 4 < g * s) ∧ dl ≤ 1099511627776
instance (g s : Int) (dl : Nat) : Decidable (goodK g s dl) := inferInstanceAs (Decidable (_ ∧ _))
set_option maxRecDepth 20000 in
set_option maxHeartbeats 2000000 in
theorem knewI_ok (g s : Int) (dl : Nat) (H0 : Hp) (w0 : World) (h0 : Sub H0 w0) :
    Calls Tryz.prog 10 #[.int .i64 g, .int .i64 s, .int .u64 (dl : Int)] w0 (Ret [] H0 w0 fun v H' M' => if goodK g s dl then ∃ kb, v = .tuple #[ptr kb, .int .i64 0] ∧ M' = [(kb, sinkObj ⟨g.toNat, s.toNat, dl, 0, false, false⟩, true)] else v = .tuple #[.pointer none, .int .i64 1] ∧ M' = []) := by
  have hs := HS.init h0
  have hle := Hp.le.refl H0
  refine Calls.enter (args := [.int .i64 g, .int .i64 s, .int .u64 (dl : Int)]) Tryz.func10 rfl Tryz.ntmps10 rfl ?_
  refine WC.seq (WC.region (WO.step rfl (OR.assign rfl (WO.step rfl (OR.assign rfl (WO.done (WX.seq ?_)))))))
  refine WC.seq (WC.seq (WC.region (WO.step rfl (OR.move rfl (WO.step rfl (OR.move rfl ?_))))))
  refine WO.step rfl (OR.call hs body62 rfl rfl (room_ok g s _ _ hs.toSub) ?_)
  clear hs; rintro _ H1 w hs hle1 hv
  by_cases hall : 1 ≤ g ∧ g ≤ 255 ∧ 1 ≤ s ∧ s ≤ 65535 ∧ 4 < g * s
  · rw [if_pos hall] at hv
    subst hv
    obtain ⟨a, rfl⟩ := Int.eq_ofNat_of_zero_le (show 0 ≤ g by omega)
    obtain ⟨b, rfl⟩ := Int.eq_ofNat_of_zero_le (show 0 ≤ s by omega)
    refine WO.step rfl (OR.move rfl (WO.step rfl (OR.extract rfl rfl (WO.step rfl (OR.extract rfl rfl (WO.step rfl (OR.assign rfl ?_)))))))
    refine WO.step rfl (OR.assign rfl (WO.done (WX.seq (WC.seq (WC.region (WO.step rfl (OR.move rfl ?_)))))))
    refine WO.step rfl (OR.neq rfl rfl (WO.step rfl (OR.move rfl ?_)))
    refine WO.guardYes rfl rfl rfl rfl (OR.move rfl (WO.guardYes rfl rfl rfl rfl (OR.gtr rfl rfl (WO.step rfl (OR.pickF rfl rfl rfl (WO.done (WX.seq ?_)))))))
    refine WC.condD rfl (fun hd => ?_) (fun hd => ?_)
    · refine WC.seq (WC.region (WO.step rfl (OR.assign rfl (WO.step rfl (OR.assign rfl (WO.done (WX.seq ?_)))))))
      refine WC.ret (WX.seq_ret ?_)
      refine WX.ret2 rfl rfl rfl ?_
      refine ⟨_, _, [], rfl, hs, by simp, ?_⟩
      show ite _ _ _
      rw [if_neg (fun h => by have := h.2; omega)]
      exact ⟨rfl, rfl⟩
    · refine WC.skip (WX.seq (WC.seq (WC.region (WO.step rfl (OR.move rfl (WO.step rfl (OR.move rfl ?_)))))))
      refine WO.step rfl (OR.move rfl ?_)
      refine WO.step rfl (OR.build (cs := #[.int .i64 (a : Int), .int .i64 (b : Int), .int .u64 (dl : Int), .int .u64 0, .bool false, .bool false]) rfl (by intro w; kernel_rfl) ?_)
      refine WO.step rfl (OR.box hs rfl ?_)
      clear hs; intro g1 w hg1 hs
      refine WO.step rfl (OR.assign rfl (WO.step rfl (OR.assign rfl (WO.done (WX.seq (WC.ret ?_))))))
      refine WX.ret2 rfl rfl rfl ?_
      refine ⟨_, _, [_], rfl, hs, by simp, ?_⟩
      show ite _ _ _
      rw [if_pos ⟨hall, by omega⟩]
      exact ⟨g1, rfl, rfl⟩
  · rw [if_neg hall] at hv
    subst hv
    refine WO.step rfl (OR.move rfl (WO.step rfl (OR.extract rfl rfl (WO.step rfl (OR.extract rfl rfl (WO.step rfl (OR.assign rfl ?_)))))))
    refine WO.step rfl (OR.assign rfl (WO.done (WX.seq (WC.seq (WC.region (WO.step rfl (OR.move rfl ?_)))))))
    refine WO.step rfl (OR.neq rfl rfl (WO.step rfl (OR.move rfl ?_)))
    refine WO.guardNo rfl rfl rfl rfl (WO.guardNo rfl rfl rfl rfl (WO.step rfl (OR.pickT rfl rfl rfl (WO.done (WX.seq (WC.yes rfl rfl (WC.seq ?_)))))))
    refine WC.region (WO.step rfl (OR.assign rfl (WO.step rfl (OR.assign rfl (WO.done (WX.seq (WC.ret ?_)))))))
    refine WX.seq_ret ?_
    refine WX.ret2 rfl rfl rfl ?_
    refine ⟨_, _, [], rfl, hs, by simp, ?_⟩
    show ite _ _ _
    rw [if_neg (fun h => hall h.1)]
    exact ⟨rfl, rfl⟩
def q15Obj (x : SinkD) : Obj := .cells #[.int .i64 (x.g : Int), .int .i64 (x.s : Int), .int .u64 (x.dl : Int), .int .u64 (x.tot : Int), .bool x.kn, .bool x.br] 61
set_option maxRecDepth 20000 in
set_option maxHeartbeats 2000000 in
theorem new15_ok (g s : Int) (dl : Nat) (H0 : Hp) (w0 : World) (h0 : Sub H0 w0) :
    Calls Tryz.prog 11 #[.int .i64 g, .int .i64 s, .int .u64 (dl : Int)] w0 (Ret [] H0 w0 fun v H' M' => if goodK g s dl then ∃ qb, v = .tuple #[ptr qb, .int .i64 0] ∧ M' = [(qb, q15Obj ⟨g.toNat, s.toNat, dl, 0, false, false⟩, true)] else v = .tuple #[.pointer none, .int .i64 1] ∧ M' = []) := by
  have hs := HS.init h0
  have hle := Hp.le.refl H0
  refine Calls.enter (args := [.int .i64 g, .int .i64 s, .int .u64 (dl : Int)]) Tryz.func11 rfl Tryz.ntmps11 rfl ?_
  refine WC.seq (WC.region (WO.step rfl (OR.assign rfl (WO.step rfl (OR.assign rfl (WO.done (WX.seq ?_)))))))
  refine WC.seq (WC.region (WO.step rfl (OR.move rfl (WO.step rfl (OR.move rfl ?_)))))
  refine WO.step rfl (OR.call hs body63 rfl rfl (room09_ok g s _ _ hs.toSub) ?_)
  clear hs; rintro _ H1 w hs hle1 hv
  by_cases hall : 1 ≤ g ∧ g ≤ 255 ∧ 1 ≤ s ∧ s ≤ 65535 ∧ 4 < g * s
  · rw [if_pos hall] at hv
    subst hv
    obtain ⟨a, rfl⟩ := Int.eq_ofNat_of_zero_le (show 0 ≤ g by omega)
    obtain ⟨b, rfl⟩ := Int.eq_ofNat_of_zero_le (show 0 ≤ s by omega)
    refine WO.step rfl (OR.move rfl (WO.step rfl (OR.extract rfl rfl (WO.step rfl (OR.extract rfl rfl (WO.step rfl (OR.assign rfl ?_)))))))
    refine WO.step rfl (OR.assign rfl (WO.done (WX.seq (WC.seq (WC.seq (WC.region (WO.step rfl ?_)))))))
    refine OR.move rfl (WO.step rfl (OR.neq rfl rfl (WO.step rfl (OR.move rfl ?_))))
    refine WO.guardYes rfl rfl rfl rfl (OR.move rfl (WO.guardYes rfl rfl rfl rfl (OR.gtr rfl rfl (WO.step rfl (OR.pickF rfl rfl rfl (WO.done (WX.seq ?_)))))))
    refine WC.condD rfl (fun hd => ?_) (fun hd => ?_)
    · refine WC.seq (WC.region (WO.step rfl (OR.assign rfl (WO.step rfl (OR.assign rfl (WO.done (WX.seq ?_)))))))
      refine WC.ret (WX.seq_ret ?_)
      refine WX.ret2 rfl rfl rfl ?_
      refine ⟨_, _, [], rfl, hs, by simp, ?_⟩
      show ite _ _ _
      rw [if_neg (fun h => by have := h.2; omega)]
      exact ⟨rfl, rfl⟩
    · refine WC.skip (WX.seq (WC.seq (WC.region (WO.step rfl (OR.move rfl (WO.step rfl (OR.move rfl ?_)))))))
      refine WO.step rfl (OR.move rfl ?_)
      refine WO.step rfl (OR.build (cs := #[.int .i64 (a : Int), .int .i64 (b : Int), .int .u64 (dl : Int), .int .u64 0, .bool false, .bool false]) rfl (by intro w; kernel_rfl) ?_)
      refine WO.step rfl (OR.box hs rfl ?_)
      clear hs; intro g1 w hg1 hs
      refine WO.step rfl (OR.assign rfl (WO.step rfl (OR.assign rfl (WO.done (WX.seq (WC.ret ?_))))))
      refine WX.ret2 rfl rfl rfl ?_
      refine ⟨_, _, [_], rfl, hs, by simp, ?_⟩
      show ite _ _ _
      rw [if_pos ⟨hall, by omega⟩]
      exact ⟨g1, rfl, rfl⟩
  · rw [if_neg hall] at hv
    subst hv
    refine WO.step rfl (OR.move rfl (WO.step rfl (OR.extract rfl rfl (WO.step rfl (OR.extract rfl rfl (WO.step rfl (OR.assign rfl ?_)))))))
    refine WO.step rfl (OR.assign rfl (WO.done (WX.seq (WC.seq (WC.seq (WC.region (WO.step rfl ?_)))))))
    refine OR.move rfl (WO.step rfl (OR.neq rfl rfl (WO.step rfl (OR.move rfl ?_))))
    refine WO.guardNo rfl rfl rfl rfl (WO.guardNo rfl rfl rfl rfl (WO.step rfl (OR.pickT rfl rfl rfl (WO.done (WX.seq (WC.yes rfl rfl (WC.seq ?_)))))))
    refine WC.region (WO.step rfl (OR.assign rfl (WO.step rfl (OR.assign rfl (WO.done (WX.seq (WC.ret ?_)))))))
    refine WX.seq_ret ?_
    refine WX.ret2 rfl rfl rfl ?_
    refine ⟨_, _, [], rfl, hs, by simp, ?_⟩
    show ite _ _ _
    rw [if_neg (fun h => hall h.1)]
    exact ⟨rfl, rfl⟩
set_option maxRecDepth 20000 in
set_option maxHeartbeats 2000000 in
theorem done15_ok (qb : Nat) (x : SinkD) (H0 : Hp) (w0 : World) (h0 : Sub H0 w0) (hb : w0.heap[qb]? = some (q15Obj x)) (hn : H0 qb = none) : Calls Tryz.prog 26 #[ptr qb] w0 (Pure H0 w0 fun v _ => v = .bool (x.kn && decide (x.tot = x.dl))) := by
  have hs := HS.startR h0 hb hn
  have hle := Hp.le.refl H0
  obtain ⟨g, s, dl, tot, kn, br⟩ := x
  refine Calls.enter (args := [ptr qb]) Tryz.func26 rfl Tryz.ntmps26 rfl ?_
  cases kn with
  | false =>
    refine WC.seq (WC.region (WO.step rfl (OR.assign rfl (WO.done (WX.seq (WC.seq ?_))))))
    refine WC.draw 14 mixed hs (by kernel_rfl) ?_
    refine ⟨MF.eq _, by intro Mx H w hle hs; refine forVals_nil (ORg.plain (OR.move rfl ?_)); exact ⟨_, [], Hp.le.refl _, hs, rfl, rfl⟩, ?_⟩
    refine ⟨MF.eq _, by intro Mx H w hle hs; refine forVals_eq rfl rfl rfl ?_; refine forVals_nil (ORg.plain (OR.nilCheck rfl ?_)); exact ⟨_, [], Hp.le.refl _, hs, rfl, rfl⟩, ?_⟩
    refine ⟨MF.eq _, by intro Mx H w hle hs; refine forVals_eq rfl rfl rfl ?_; refine forVals_nil (ORg.plain (OR.fieldAddr FA61_4 rfl ?_)); exact ⟨_, [], Hp.le.refl _, hs, rfl, rfl⟩, ?_⟩
    refine ⟨MF.eq _, by intro Mx H w hle hs; refine forVals_eq rfl rfl rfl ?_; refine forVals_nil (ORg.plain (OR.load T4 rfl rfl (hs.right.cellM (i := 0) rfl rfl) ?_)); exact ⟨_, [], Hp.le.refl _, hs, rfl, rfl⟩, ?_⟩
    refine ⟨MF.eq _, by intro Mx H w hle hs; refine forVals_eq rfl rfl rfl ?_; refine forVals_nil (ORg.plain (OR.move rfl ?_)); exact ⟨_, [], Hp.le.refl _, hs, rfl, rfl⟩, ?_⟩
    refine ⟨MF.eq undef, by intro Mx H w hle hs; refine forVals_eq rfl rfl rfl ?_; refine forVals_nil (ORg.no rfl rfl rfl ?_); exact ⟨_, [], Hp.le.refl _, hs, rfl, rfl⟩, ?_⟩
    refine ⟨MF.eq undef, by intro Mx H w hle hs; refine forVals_eq rfl rfl rfl ?_; refine forVals_eq rfl rfl rfl ?_; refine forVals_nil (ORg.no rfl rfl rfl ?_); exact ⟨_, [], Hp.le.refl _, hs, rfl, rfl⟩, ?_⟩
    refine ⟨MF.eq undef, by intro Mx H w hle hs; refine forVals_eq rfl rfl rfl ?_; refine forVals_eq rfl rfl rfl ?_; refine forVals_nil (ORg.no rfl rfl rfl ?_); exact ⟨_, [], Hp.le.refl _, hs, rfl, rfl⟩, ?_⟩
    refine ⟨MF.eq undef, by intro Mx H w hle hs; refine forVals_eq rfl rfl rfl ?_; refine forVals_eq rfl rfl rfl ?_; refine forVals_nil (ORg.no rfl rfl rfl ?_); exact ⟨_, [], Hp.le.refl _, hs, rfl, rfl⟩, ?_⟩
    refine ⟨MF.eq undef, by intro Mx H w hle hs; refine forVals_eq rfl rfl rfl ?_; refine forVals_nil (ORg.no rfl rfl rfl ?_); exact ⟨_, [], Hp.le.refl _, hs, rfl, rfl⟩, ?_⟩
    refine ⟨MF.eq undef, by intro Mx H w hle hs; refine forVals_eq rfl rfl rfl ?_; refine forVals_eq rfl rfl rfl ?_; refine forVals_nil (ORg.no rfl rfl rfl ?_); exact ⟨_, [], Hp.le.refl _, hs, rfl, rfl⟩, ?_⟩
    refine ⟨MF.eq undef, by intro Mx H w hle hs; refine forVals_eq rfl rfl rfl ?_; refine forVals_eq rfl rfl rfl ?_; refine forVals_nil (ORg.no rfl rfl rfl ?_); exact ⟨_, [], Hp.le.refl _, hs, rfl, rfl⟩, ?_⟩
    refine ⟨MF.eq undef, by intro Mx H w hle hs; refine forVals_eq rfl rfl rfl ?_; refine forVals_eq rfl rfl rfl ?_; refine forVals_nil (ORg.no rfl rfl rfl ?_); exact ⟨_, [], Hp.le.refl _, hs, rfl, rfl⟩, ?_⟩
    refine ⟨MF.eq undef, by intro Mx H w hle hs; refine forVals_eq rfl rfl rfl ?_; refine forVals_eq rfl rfl rfl ?_; refine forVals_eq rfl rfl rfl ?_; refine forVals_nil (ORg.no rfl rfl rfl ?_); exact ⟨_, [], Hp.le.refl _, hs, rfl, rfl⟩, ?_⟩
    intro H w hle2; (try replace hle := hle.trans hle2); (try replace hlb := hlb.trans hle2)
    refine forAllVals_eq rfl ?_
    refine forAllVals_eq rfl ?_
    refine forAllVals_eq rfl ?_
    refine forAllVals_eq rfl ?_
    refine forAllVals_eq rfl ?_
    refine forAllVals_eq rfl ?_
    refine forAllVals_eq rfl ?_
    refine forAllVals_eq rfl ?_
    refine forAllVals_eq rfl ?_
    refine forAllVals_eq rfl ?_
    refine forAllVals_eq rfl ?_
    refine forAllVals_eq rfl ?_
    refine forAllVals_eq rfl ?_
    refine forAllVals_eq rfl ?_
    refine forAllVals_nil ?_; (try clear hs); intro hs
    refine WO.step rfl (OR.pickF rfl rfl rfl (WO.step rfl (OR.assign rfl (WO.done (WX.seq (WC.ret ?_))))))
    refine WX.ret1 rfl rfl ?_
    exact .mk (hs.drop 0) rfl
  | true =>
    refine WC.seq (WC.region (WO.step rfl (OR.assign rfl (WO.done (WX.seq (WC.seq ?_))))))
    refine WC.draw 14 mixed hs (by kernel_rfl) ?_
    refine ⟨MF.eq _, by intro Mx H w hle hs; refine forVals_nil (ORg.plain (OR.move rfl ?_)); exact ⟨_, [], Hp.le.refl _, hs, rfl, rfl⟩, ?_⟩
    refine ⟨MF.eq _, by intro Mx H w hle hs; refine forVals_eq rfl rfl rfl ?_; refine forVals_nil (ORg.plain (OR.nilCheck rfl ?_)); exact ⟨_, [], Hp.le.refl _, hs, rfl, rfl⟩, ?_⟩
    refine ⟨MF.eq _, by intro Mx H w hle hs; refine forVals_eq rfl rfl rfl ?_; refine forVals_nil (ORg.plain (OR.fieldAddr FA61_4 rfl ?_)); exact ⟨_, [], Hp.le.refl _, hs, rfl, rfl⟩, ?_⟩
    refine ⟨MF.eq _, by intro Mx H w hle hs; refine forVals_eq rfl rfl rfl ?_; refine forVals_nil (ORg.plain (OR.load T4 rfl rfl (hs.right.cellM (i := 0) rfl rfl) ?_)); exact ⟨_, [], Hp.le.refl _, hs, rfl, rfl⟩, ?_⟩
    refine ⟨MF.eq _, by intro Mx H w hle hs; refine forVals_eq rfl rfl rfl ?_; refine forVals_nil (ORg.plain (OR.move rfl ?_)); exact ⟨_, [], Hp.le.refl _, hs, rfl, rfl⟩, ?_⟩
    refine ⟨MF.eq _, by intro Mx H w hle hs; refine forVals_eq rfl rfl rfl ?_; refine forVals_nil (ORg.yes rfl rfl rfl (OR.move rfl ?_)); exact ⟨_, [], Hp.le.refl _, hs, rfl, rfl⟩, ?_⟩
    refine ⟨MF.eq _, by intro Mx H w hle hs; refine forVals_eq rfl rfl rfl ?_; refine forVals_eq rfl rfl rfl ?_; refine forVals_nil (ORg.yes rfl rfl rfl (OR.nilCheck rfl ?_)); exact ⟨_, [], Hp.le.refl _, hs, rfl, rfl⟩, ?_⟩
    refine ⟨MF.eq _, by intro Mx H w hle hs; refine forVals_eq rfl rfl rfl ?_; refine forVals_eq rfl rfl rfl ?_; refine forVals_nil (ORg.yes rfl rfl rfl (OR.fieldAddr FA61_3 rfl ?_)); exact ⟨_, [], Hp.le.refl _, hs, rfl, rfl⟩, ?_⟩
    refine ⟨MF.eq _, by intro Mx H w hle hs; refine forVals_eq rfl rfl rfl ?_; refine forVals_eq rfl rfl rfl ?_; refine forVals_nil (ORg.yes rfl rfl rfl (OR.load T22 rfl rfl (hs.right.cellM (i := 0) rfl rfl) ?_)); exact ⟨_, [], Hp.le.refl _, hs, rfl, rfl⟩, ?_⟩
    refine ⟨MF.eq _, by intro Mx H w hle hs; refine forVals_eq rfl rfl rfl ?_; refine forVals_nil (ORg.yes rfl rfl rfl (OR.move rfl ?_)); exact ⟨_, [], Hp.le.refl _, hs, rfl, rfl⟩, ?_⟩
    refine ⟨MF.eq _, by intro Mx H w hle hs; refine forVals_eq rfl rfl rfl ?_; refine forVals_eq rfl rfl rfl ?_; refine forVals_nil (ORg.yes rfl rfl rfl (OR.nilCheck rfl ?_)); exact ⟨_, [], Hp.le.refl _, hs, rfl, rfl⟩, ?_⟩
    refine ⟨MF.eq _, by intro Mx H w hle hs; refine forVals_eq rfl rfl rfl ?_; refine forVals_eq rfl rfl rfl ?_; refine forVals_nil (ORg.yes rfl rfl rfl (OR.fieldAddr FA61_2 rfl ?_)); exact ⟨_, [], Hp.le.refl _, hs, rfl, rfl⟩, ?_⟩
    refine ⟨MF.eq _, by intro Mx H w hle hs; refine forVals_eq rfl rfl rfl ?_; refine forVals_eq rfl rfl rfl ?_; refine forVals_nil (ORg.yes rfl rfl rfl (OR.load T22 rfl rfl (hs.right.cellM (i := 0) rfl rfl) ?_)); exact ⟨_, [], Hp.le.refl _, hs, rfl, rfl⟩, ?_⟩
    refine ⟨MF.eq _, by intro Mx H w hle hs; refine forVals_eq rfl rfl rfl ?_; refine forVals_eq rfl rfl rfl ?_; refine forVals_eq rfl rfl rfl ?_; refine forVals_nil (ORg.yes rfl rfl rfl (OR.eql rfl rfl ?_)); exact ⟨_, [], Hp.le.refl _, hs, rfl, rfl⟩, ?_⟩
    intro H w hle2; (try replace hle := hle.trans hle2); (try replace hlb := hlb.trans hle2)
    refine forAllVals_eq rfl ?_
    refine forAllVals_eq rfl ?_
    refine forAllVals_eq rfl ?_
    refine forAllVals_eq rfl ?_
    refine forAllVals_eq rfl ?_
    refine forAllVals_eq rfl ?_
    refine forAllVals_eq rfl ?_
    refine forAllVals_eq rfl ?_
    refine forAllVals_eq rfl ?_
    refine forAllVals_eq rfl ?_
    refine forAllVals_eq rfl ?_
    refine forAllVals_eq rfl ?_
    refine forAllVals_eq rfl ?_
    refine forAllVals_eq rfl ?_
    refine forAllVals_nil ?_; (try clear hs); intro hs
    refine WO.step rfl (OR.pickT rfl rfl rfl (WO.step rfl (OR.assign rfl (WO.done (WX.seq (WC.ret ?_))))))
    refine WX.ret1 rfl rfl ?_
    refine .mk (hs.drop 0) ?_
    have e : decide ((tot : Int) = (dl : Int)) = decide (tot = dl) := by rw [decide_eq_decide]; omega
    show Value.bool (decide ((tot : Int) = (dl : Int))) = Value.bool (true && decide (tot = dl))
    rw [e]
    rfl
set_option maxRecDepth 20000 in
set_option maxHeartbeats 2000000 in
theorem total15_ok (qb n : Nat) (x : SinkD) (H0 : Hp) (w0 : World) (h0 : Sub H0 w0) (hb : w0.heap[qb]? = some (q15Obj x)) (hn : H0 qb = none) :
    Calls Tryz.prog 20 #[ptr qb, .int .u64 (n : Int)] w0 (Ret [qb] H0 w0 fun v H' M' => v = .int .i64 (x.totE n) ∧ M' = [(qb, q15Obj (x.total n), true)]) := by
  have hs := HS.start1 h0 hb hn
  have hle := Hp.le.refl H0
  obtain ⟨g, s, dl, tot, kn, br⟩ := x
  refine Calls.enter (args := [ptr qb, .int .u64 (n : Int)]) Tryz.func20 rfl Tryz.ntmps20 rfl ?_
  have htot : SinkD.total ⟨g, s, dl, tot, kn, br⟩ n = if SinkD.totE ⟨g, s, dl, tot, kn, br⟩ n = 0 then ⟨g, s, dl, n, true, br⟩ else ⟨g, s, dl, tot, kn, br⟩ := rfl
  have hE : SinkD.totE ⟨g, s, dl, tot, kn, br⟩ n = if n < dl ∨ 1099511627776 < n then 1 else if kn = true ∧ tot ≠ n then 9 else 0 := rfl
  refine WC.seq (WC.region (WO.step rfl (OR.assign rfl (WO.done (WX.seq (WC.seq (WC.seq ?_)))))))
  refine WC.region (WO.step rfl (OR.move rfl (WO.step rfl (OR.move rfl (WO.step rfl (OR.nilCheck rfl (WO.step rfl ?_)))))))
  refine OR.fieldAddr FA61_2 rfl (WO.step rfl (OR.load T22 rfl rfl (hs.cellM (i := 0) rfl rfl) (WO.step rfl (OR.lss rfl rfl (WO.step rfl (OR.move rfl ?_))))))
  refine WO.guardSplit (j := 6) rfl (fun h1 => ?_) (fun h1 => ?_)
  · replace h1 : (n : Int) < (dl : Int) := h1
    refine WO.guardNo rfl (decide_eq_true h1) rfl rfl (WO.guardNo rfl (decide_eq_true h1) rfl rfl (WO.step rfl (OR.pickT rfl (decide_eq_true h1) rfl (WO.done (WX.seq (WC.yes rfl rfl (WC.seq ?_)))))))
    refine WC.region (WO.step rfl (OR.assign rfl (WO.done (WX.seq (WC.ret (WX.seq_ret ?_))))))
    refine WX.ret1 rfl rfl ?_
    have e : SinkD.totE ⟨g, s, dl, tot, kn, br⟩ n = 1 := by rw [hE, if_pos (by omega)]
    refine ⟨_, H0, _, rfl, hs, by simp, by rw [e], ?_⟩
    rw [htot, e, if_neg (by decide)]
  · replace h1 : ¬ ((n : Int) < (dl : Int)) := h1
    refine WO.guardYes rfl (decide_eq_false h1) rfl rfl (OR.move rfl (WO.guardYes rfl (decide_eq_false h1) rfl rfl (OR.gtr rfl rfl (WO.step rfl (OR.pickF rfl (decide_eq_false h1) rfl (WO.done (WX.seq ?_)))))))
    refine WC.condD rfl (fun h2 => ?_) (fun h2 => ?_)
    · refine WC.seq (WC.region (WO.step rfl (OR.assign rfl (WO.done (WX.seq (WC.ret (WX.seq_ret ?_)))))))
      refine WX.ret1 rfl rfl ?_
      have e : SinkD.totE ⟨g, s, dl, tot, kn, br⟩ n = 1 := by rw [hE, if_pos (by omega)]
      refine ⟨_, H0, _, rfl, hs, by simp, by rw [e], ?_⟩
      rw [htot, e, if_neg (by decide)]
    · refine WC.skip (WX.seq (WC.seq (WC.seq (WC.region (WO.step rfl (OR.move rfl (WO.step rfl ?_)))))))
      refine OR.nilCheck rfl (WO.step rfl (OR.fieldAddr FA61_4 rfl (WO.step rfl (OR.load T4 rfl rfl (hs.cellM (i := 0) rfl rfl) (WO.step rfl (OR.move rfl ?_))))))
      cases kn with
      | true =>
        refine WO.guardYes rfl rfl rfl rfl (OR.move rfl (WO.guardYes rfl rfl rfl rfl (OR.nilCheck rfl (WO.guardYes rfl rfl rfl rfl (OR.fieldAddr FA61_3 rfl (WO.guardYes rfl rfl rfl rfl (OR.load T22 rfl rfl (hs.cellM (i := 0) rfl rfl) ?_)))))))
        refine WO.guardYes rfl rfl rfl rfl (OR.move rfl (WO.guardYes rfl rfl rfl rfl (OR.neq rfl rfl (WO.step rfl (OR.pickT rfl rfl rfl (WO.done (WX.seq ?_)))))))
        refine WC.condD rfl (fun h3 => ?_) (fun h3 => ?_)
        · replace h3 : (tot : Int) ≠ (n : Int) := h3
          refine WC.seq (WC.region (WO.step rfl (OR.assign rfl (WO.done (WX.seq (WC.ret (WX.seq_ret ?_)))))))
          refine WX.ret1 rfl rfl ?_
          have e : SinkD.totE ⟨g, s, dl, tot, true, br⟩ n = 9 := by rw [hE, if_neg (by omega), if_pos ⟨rfl, by omega⟩]
          refine ⟨_, H0, _, rfl, hs, by simp, by rw [e], ?_⟩
          rw [htot, e, if_neg (by decide)]
        · replace h3 : ¬ ((tot : Int) ≠ (n : Int)) := h3
          refine WC.skip (WX.seq (WC.seq (WC.region (WO.step rfl (OR.move rfl (WO.step rfl (OR.nilCheck rfl ?_)))))))
          refine WO.step rfl (OR.fieldAddr FA61_4 rfl (WO.stepN (OR.store hs T4 rfl rfl rfl (Nat.le_of_ble_eq_true rfl) rfl ?_)))
          clear hs; intro w hs
          refine WO.done (WX.seq (WC.seq (WC.region (WO.step rfl (OR.move rfl (WO.step rfl (OR.move rfl ?_)))))))
          refine WO.step rfl (OR.nilCheck rfl (WO.step rfl (OR.fieldAddr FA61_3 rfl (WO.stepN (OR.store hs T22 rfl rfl rfl (Nat.le_of_ble_eq_true rfl) rfl ?_)))))
          clear hs; intro w hs
          refine WO.done (WX.seq (WC.seq (WC.region (WO.step rfl (OR.assign rfl (WO.done (WX.seq ?_)))))))
          refine WC.ret ?_
          refine WX.ret1 rfl rfl ?_
          have e : SinkD.totE ⟨g, s, dl, tot, true, br⟩ n = 0 := by rw [hE, if_neg (by omega), if_neg (fun q => by have := q.2; omega)]
          refine ⟨_, H0, _, rfl, hs, by simp, by rw [e], ?_⟩
          rw [htot, e, if_pos rfl]
          rfl
      | false =>
        refine WO.guardNo rfl rfl rfl rfl (WO.guardNo rfl rfl rfl rfl (WO.guardNo rfl rfl rfl rfl (WO.guardNo rfl rfl rfl rfl (WO.guardNo rfl rfl rfl rfl (WO.guardNo rfl rfl rfl rfl (WO.step rfl (OR.pickF rfl rfl rfl ?_)))))))
        refine WO.done (WX.seq (WC.no rfl rfl (WC.skip (WX.seq (WC.seq (WC.region (WO.step rfl ?_)))))))
        refine OR.move rfl (WO.step rfl (OR.nilCheck rfl (WO.step rfl (OR.fieldAddr FA61_4 rfl (WO.stepN (OR.store hs T4 rfl rfl rfl (Nat.le_of_ble_eq_true rfl) rfl ?_))))))
        clear hs; intro w hs
        refine WO.done (WX.seq (WC.seq (WC.region (WO.step rfl (OR.move rfl (WO.step rfl (OR.move rfl ?_)))))))
        refine WO.step rfl (OR.nilCheck rfl (WO.step rfl (OR.fieldAddr FA61_3 rfl (WO.stepN (OR.store hs T22 rfl rfl rfl (Nat.le_of_ble_eq_true rfl) rfl ?_)))))
        clear hs; intro w hs
        refine WO.done (WX.seq (WC.seq (WC.region (WO.step rfl (OR.assign rfl (WO.done (WX.seq ?_)))))))
        refine WC.ret ?_
        refine WX.ret1 rfl rfl ?_
        have e : SinkD.totE ⟨g, s, dl, tot, false, br⟩ n = 0 := by rw [hE, if_neg (by omega), if_neg (fun q => by cases q.1)]
        refine ⟨_, H0, _, rfl, hs, by simp, by rw [e], ?_⟩
        rw [htot, e, if_pos rfl]
        rfl
end Go.Bw
namespace Go.Bw
set_option linter.unusedVariables false
set_option linter.unusedSimpArgs false
open Go.Proofs

set_option maxRecDepth 20000 in
set_option maxHeartbeats 2000000 in
theorem rel15_broken (qb : Nat) (vr : Value) (x : SinkD) (H0 : Hp) (w0 : World) (h0 : Sub H0 w0) (hb : w0.heap[qb]? = some (q15Obj x)) (hn : H0 qb = none) (hbr : x.br = true) :
    Calls Tryz.prog 17 #[ptr qb, vr] w0 (Pure H0 w0 fun v _ => v = .tuple #[.slice none 0 0, .int .i64 5]) := by
  have hs := HS.startR h0 hb hn
  have hle := Hp.le.refl H0
  obtain ⟨g, s, dl, tot, kn, br⟩ := x
  cases hbr
  refine Calls.enter (args := [ptr qb, vr]) Tryz.func17 rfl Tryz.ntmps17 rfl ?_
  refine WC.seq (WC.region (WO.step rfl (OR.assign rfl (WO.step rfl (OR.assign rfl (WO.done (WX.seq ?_)))))))
  refine WC.seq (WC.seq (WC.region (WO.step rfl (OR.move rfl (WO.step rfl (OR.nilCheck rfl (WO.step rfl ?_)))))))
  refine OR.fieldAddr FA61_5 rfl (WO.step rfl (OR.load T4 rfl rfl (hs.cellM (i := 0) rfl rfl) (WO.done (WX.seq ?_))))
  refine WC.yes rfl rfl ?_
  refine WC.seq (WC.region (WO.step rfl (OR.assign rfl (WO.step rfl (OR.assign rfl (WO.done (WX.seq ?_)))))))
  refine WC.ret (WX.seq_ret ?_)
  refine WX.ret2 rfl rfl rfl ?_
  exact .mk (hs.drop 0) rfl
set_option maxRecDepth 20000 in
set_option maxHeartbeats 2000000 in
theorem rel15_ok (qb ob wb d0 tot : Nat) (kn : Bool) (y : RelD) (vL : Value) (L : List GenD) (H0 : Hp) (w0 : World) (hs : HS (qb :: Mem.keys (r14Mem y ob wb vL L)) H0 w0 H0 ((qb, q15Obj (skD y tot kn false d0), true) :: r14Mem y ob wb vL L) w0) (hx : R14 H0 y vL L) (hok : RelOk y) (hgs4 : 4 < y.g * y.s) (hd0 : d0 ≤ 1099511627776) :
    Calls Tryz.prog 17 #[ptr qb, ptr ob] w0 (Ret (qb :: Mem.keys (r14Mem y ob wb vL L)) H0 w0 fun v H' M' => ∃ n r e br vL' L', v = .tuple #[r, .int .i64 e] ∧ BytesL H' r (rdyL y d0 n) ∧ goodTo y d0 n ∧ d0 + n ≤ 1099511627776 ∧ M' = (qb, q15Obj (skD y tot kn br (d0 + n)), true) :: r14Mem y ob wb vL' L' ∧ R14 H' y vL' L' ∧ relEnd y d0 n e br) := by
  have hle := Hp.le.refl H0
  have h00 := hs.toSub
  have hgs : 1 ≤ y.g ∧ y.g ≤ 255 ∧ 1 ≤ y.s ∧ y.s ≤ 65535 ∧ 4 < y.g * y.s := ⟨hok.g1, hok.g2, hok.s1, hok.s2, hgs4⟩
  obtain ⟨xs, hxs⟩ : ∃ xs, xs = qb :: Mem.keys (r14Mem y ob wb vL L) := ⟨_, rfl⟩
  rw [← hxs] at hs ⊢
  clear hxs
  have hfl : ∀ (H : Hp) (n : Nat) (r : Value) (e : Int) (br : Bool) (vL' : Value) (L' : List GenD) (Mo : Mem) (w : World), BytesL H r (rdyL y d0 n) → goodTo y d0 n → d0 + n ≤ 1099511627776 → R14 H y vL' L' → relEnd y d0 n e br → HS xs H0 w0 H ((qb, q15Obj (skD y tot kn br (d0 + n)), true) :: r14Mem y ob wb vL' L') w →
      Ret xs H0 w0 (fun v H' M' => ∃ n r e br vL' L', v = .tuple #[r, .int .i64 e] ∧ BytesL H' r (rdyL y d0 n) ∧ goodTo y d0 n ∧ d0 + n ≤ 1099511627776 ∧ M' = (qb, q15Obj (skD y tot kn br (d0 + n)), true) :: r14Mem y ob wb vL' L' ∧ R14 H' y vL' L' ∧ relEnd y d0 n e br) (.returned (.tuple #[r, .int .i64 e])) w := by
    intro H n r e br vL' L' Mo w h1 h2 h3 h4 h5 h6
    refine ⟨_, H, _, rfl, h6, ?_, n, r, e, br, vL', L', rfl, h1, h2, h3, rfl, h4, h5⟩
    intro p hp
    rcases List.mem_cons.1 hp with rfl | hp
    · rfl
    · exact List.all_eq_true.1 (r14_flags _ _ _ _ _) p hp
  refine Calls.enter (args := [ptr qb, ptr ob]) Tryz.func17 rfl Tryz.ntmps17 rfl ?_
  refine WC.seq (WC.region (WO.step rfl (OR.assign rfl (WO.step rfl (OR.assign rfl (WO.done (WX.seq ?_)))))))
  refine WC.seq (WC.seq (WC.region (WO.step rfl (OR.move rfl (WO.step rfl (OR.nilCheck rfl (WO.step rfl ?_)))))))
  refine OR.fieldAddr FA61_5 rfl (WO.step rfl (OR.load T4 rfl rfl (hs.cellM (i := 0) rfl rfl) (WO.done (WX.seq ?_))))
  refine WC.no rfl rfl ?_
  refine WC.skip (WX.seq (WC.seq (WC.region (WO.step rfl (OR.assign rfl (WO.done (WX.seq ?_)))))))
  refine WC.seq (WC.block ?_)
  refine WC.loop (ι := Nat × Value) (fun ix => [(0, ptr qb), (1, ptr ob), (6, ix.2)]) (fun ix w => (goodTo y d0 ix.1 ∧ d0 + ix.1 ≤ 1099511627776 ∧ ∃ H vL L cs Mo, Hp.le H0 H ∧ R14 H y vL L ∧ ChIn H y d0 ix.1 cs ∧ Own w0.heap.size 43 1 ix.2 ix.1 cs Mo ∧ HS xs H0 w0 H ((qb, q15Obj (skD y tot kn false (d0 + ix.1)), true) :: (r14Mem y ob wb vL L ++ Mo)) w)) (fun ix => 17 - ix.1) (0, .slice none 0 0) ⟨rfl, rfl, rfl,  trivial⟩ ?_ (fun ix w hW => ?_)
  · exact ⟨fun i hi => absurd hi (Nat.not_lt_zero _), by simpa using hd0, H0, vL, L, [], [], hle, hx, ⟨rfl, fun i h => absurd h (Nat.not_lt_zero _)⟩, Own.nil _ _ _, by rw [List.append_nil]; exact hs⟩
  clear hs hle hx
  obtain ⟨n, vo⟩ := ix
  obtain ⟨hgood, hdn, H, vL, L, cs, Mo, hle, hx, hch, ho, hs⟩ := hW
  simp only at hgood hdn hch ho
  have hn16 := hgood.few hok
  refine WC.seq (WC.seq (WC.region (WO.step rfl (OR.move rfl (WO.step rfl (OR.nilCheck rfl (WO.step rfl ?_)))))))
  refine OR.fieldAddr FA61_2 rfl (WO.step rfl (OR.load T22 rfl rfl (hs.cellM (i := 0) rfl rfl) (WO.step rfl (OR.lss rfl rfl (WO.done (WX.seq ?_))))))
  refine WC.condD rfl (fun hm => ?_) (fun hm => ?_)
  · replace hm : ((d0 + n : Nat) : Int) < 1099511627776 := hm
    refine WC.skip (WX.seq (WC.block (WC.seq (WC.region (WO.step rfl (OR.move rfl (WO.step rfl ?_)))))))
    refine OR.move rfl (WO.step rfl (OR.nilCheck rfl (WO.step rfl (OR.fieldAddr FA61_2 rfl (WO.step rfl (OR.load T22 rfl rfl (hs.cellM (i := 0) rfl rfl) ?_))))))
    have hsQ : HS xs H0 w0 H (r14Mem y ob wb vL L ++ ((qb, q15Obj (skD y tot kn false (d0 + n)), true) :: Mo)) w := hs.perm List.perm_middle
    clear hs
    refine WO.step rfl (OR.callX (Mx := r14Mem y ob wb vL L) (Mr := (qb, q15Obj (skD y tot kn false (d0 + n)), true) :: Mo) hsQ body75 rfl rfl (solve14_ok ob wb (d0 + n) y vL L _ _ (HS.partRW (Mr := (qb, q15Obj (skD y tot kn false (d0 + n)), true) :: Mo) hsQ) hx hok (by omega)) rfl (r14_flags _ _ _ _ _) ?_)
    clear hsQ; rintro v H2 M w hs hle1 hnew ⟨⟨r, rfl, hr⟩, vL2, L2, rfl, hx2⟩
    replace hle := hle.trans hle1
    replace hch := hch.mono hle1
    replace hs : HS xs H0 w0 H2 ((qb, q15Obj (skD y tot kn false (d0 + n)), true) :: (r14Mem y ob wb vL2 L2 ++ Mo)) w := hs.perm List.perm_middle.symm
    obtain ⟨b1, c1, hf1⟩ := hr.form
    subst hf1
    obtain ⟨bo, co, hfo⟩ := ho.form
    subst hfo
    refine WO.step rfl (OR.move rfl (WO.step rfl (OR.extract rfl rfl (WO.step rfl (OR.extract rfl rfl (WO.step rfl (OR.assign rfl ?_)))))))
    refine WO.step rfl (OR.assign rfl (WO.done (WX.seq (WC.seq (WC.seq (WC.region (WO.step rfl ?_)))))))
    refine OR.move rfl (WO.step rfl (OR.neq rfl rfl (WO.done (WX.seq ?_))))
    refine WC.condD rfl (fun hse => ?_) (fun hse => ?_)
    · refine WC.seq (WC.region (WO.step rfl (OR.move rfl (WO.step rfl (OR.assign rfl (WO.step rfl (OR.assign rfl ?_)))))))
      refine WO.done (WX.seq (WC.ret (WX.seq_ret (WX.block_ret (WX.loop_ret (WX.block_ret (WX.seq_ret ?_)))))))
      refine WX.ret2 rfl rfl rfl ?_
      obtain ⟨H4, hle4, hs4, hsl, _⟩ := HS.pub (HS.mtail (A := (qb, q15Obj (skD y tot kn false (d0 + n)), true) :: r14Mem y ob wb vL2 L2) (B := Mo) hs) ho
      exact hfl H4 n _ 0 false vL2 L2 [] _ ((hch.mono hle4).bytesL hsl) hgood hdn (hx2.mono hle4) (.inl ⟨rfl, rfl, .inr hse⟩) hs4
    · have hse0 : y.solE (d0 + n) = 0 := Classical.byContradiction fun q => hse q
      have hfull := RelD.sol_full hok hse0
      have hlb := Hp.le.refl H2
      refine WC.skip (WX.seq (WC.seq ?_))
      refine WC.drawL 13 12 mixed hs (by kernel_rfl) ?_
      refine ⟨MF.eq _, by intro Mx H w hle hs; refine forVals_nil (ORg.plain (OR.move rfl ?_)); exact ⟨_, [], Hp.le.refl _, hs, rfl, rfl⟩, ?_⟩
      refine ⟨MF.eq _, by intro Mx H w hle hs; refine forVals_nil (ORg.plain (OR.move rfl ?_)); exact ⟨_, [], Hp.le.refl _, hs, rfl, rfl⟩, ?_⟩
      refine ⟨MF.eq _, by intro Mx H w hle hs; refine forVals_eq rfl rfl rfl ?_; refine forVals_nil (ORg.plain (OR.nilCheck rfl ?_)); exact ⟨_, [], Hp.le.refl _, hs, rfl, rfl⟩, ?_⟩
      refine ⟨MF.eq _, by intro Mx H w hle hs; refine forVals_eq rfl rfl rfl ?_; refine forVals_nil (ORg.plain (OR.fieldAddr FA61_0 rfl ?_)); exact ⟨_, [], Hp.le.refl _, hs, rfl, rfl⟩, ?_⟩
      refine ⟨MF.eq _, by intro Mx H w hle hs; refine forVals_eq rfl rfl rfl ?_; refine forVals_nil (ORg.plain (OR.load T3 rfl rfl (hs.right.cellM (i := 0) rfl rfl) ?_)); exact ⟨_, [], Hp.le.refl _, hs, rfl, rfl⟩, ?_⟩
      refine ⟨MF.eq _, by intro Mx H w hle hs; refine forVals_nil (ORg.plain (OR.move rfl ?_)); exact ⟨_, [], Hp.le.refl _, hs, rfl, rfl⟩, ?_⟩
      refine ⟨MF.eq _, by intro Mx H w hle hs; refine forVals_eq rfl rfl rfl ?_; refine forVals_nil (ORg.plain (OR.nilCheck rfl ?_)); exact ⟨_, [], Hp.le.refl _, hs, rfl, rfl⟩, ?_⟩
      refine ⟨MF.eq _, by intro Mx H w hle hs; refine forVals_eq rfl rfl rfl ?_; refine forVals_nil (ORg.plain (OR.fieldAddr FA61_1 rfl ?_)); exact ⟨_, [], Hp.le.refl _, hs, rfl, rfl⟩, ?_⟩
      refine ⟨MF.eq _, by intro Mx H w hle hs; refine forVals_eq rfl rfl rfl ?_; refine forVals_nil (ORg.plain (OR.load T3 rfl rfl (hs.right.cellM (i := 0) rfl rfl) ?_)); exact ⟨_, [], Hp.le.refl _, hs, rfl, rfl⟩, ?_⟩
      refine ⟨MF.tupB (rdyF y (d0 + n)) (rdyE y (d0 + n)), ?_, ?_⟩
      · intro Mx H w hle2 hs; (try replace hle := hle.trans hle2); (try replace hlb := hlb.trans hle2); refine forVals_eq rfl rfl rfl ?_; refine forVals_eq rfl rfl rfl ?_; refine forVals_eq rfl rfl rfl ?_
        refine forVals_nil (ORg.plain (OR.call hs body76 rfl rfl (take09_ok y.g y.s _ (y.solF (d0 + n)) _ _ hs.toSub hgs (hr.mono hlb) hfull.1 hfull.2) ?_))
        clear hs; rintro _ H w hs hle1 ⟨r, rfl, hr⟩
        exact ⟨_, [], hle1, hs, ⟨r, rfl, hr⟩, rfl⟩
      refine ⟨MF.tupB (rdyF y (d0 + n)) (rdyE y (d0 + n)), ?_, ?_⟩
      · intro Mx H w hle2 hs; (try replace hle := hle.trans hle2); (try replace hlb := hlb.trans hle2); refine forVals_of rfl rfl rfl ?_; intro v9 h9
        refine forVals_nil (ORg.plain (OR.move rfl ?_))
        exact ⟨_, [], Hp.le.refl _, hs, h9, rfl⟩
      refine ⟨MF.bytes (rdyF y (d0 + n)), ?_, ?_⟩
      · intro Mx H w hle2 hs; (try replace hle := hle.trans hle2); (try replace hlb := hlb.trans hle2); refine forVals_of rfl rfl rfl ?_; intro v10 h10
        obtain ⟨r, rfl, hr⟩ := h10
        refine forVals_nil (ORg.plain (OR.extract rfl rfl ?_))
        exact ⟨_, [], Hp.le.refl _, hs, hr, rfl⟩
      refine ⟨MF.eq (.int .i64 (rdyE y (d0 + n))), ?_, ?_⟩
      · intro Mx H w hle2 hs; (try replace hle := hle.trans hle2); (try replace hlb := hlb.trans hle2); refine forVals_of rfl rfl rfl ?_; intro v10 h10
        obtain ⟨r, rfl, hr⟩ := h10
        refine forVals_nil (ORg.plain (OR.extract rfl rfl ?_))
        exact ⟨_, [], Hp.le.refl _, hs, rfl, rfl⟩
      intro H w hle2; (try replace hle := hle.trans hle2); (try replace hlb := hlb.trans hle2)
      refine forAllVals_eq rfl ?_
      refine forAllVals_eq rfl ?_
      refine forAllVals_eq rfl ?_
      refine forAllVals_eq rfl ?_
      refine forAllVals_eq rfl ?_
      refine forAllVals_eq rfl ?_
      refine forAllVals_eq rfl ?_
      refine forAllVals_eq rfl ?_
      refine forAllVals_eq rfl ?_
      refine forAllVals_of rfl ?_; intro v9 h9
      refine forAllVals_of rfl ?_; intro v10 h10
      refine forAllVals_of rfl ?_; intro v11 h11
      refine forAllVals_eq rfl ?_
      refine forAllVals_nil ?_; (try clear hs); intro hs
      obtain ⟨b9, c9, hf9⟩ := h11.form
      subst hf9
      replace hch := hch.mono hlb
      replace hx2 := hx2.mono hlb
      refine WO.step rfl (OR.assign rfl (WO.step rfl (OR.assign rfl (WO.done (WX.seq (WC.seq (WC.seq ?_)))))))
      refine WC.region (WO.step rfl (OR.move rfl (WO.step rfl (OR.neq rfl rfl (WO.done (WX.seq ?_))))))
      refine WC.condD rfl (fun hre => ?_) (fun hre => ?_)
      · refine WC.seq (WC.region (WO.step rfl (OR.move rfl (WO.step rfl (OR.nilCheck rfl (WO.step rfl (OR.fieldAddr FA61_5 rfl ?_)))))))
        refine WO.stepN (OR.store hs T4 rfl rfl rfl (Nat.le_of_ble_eq_true rfl) rfl ?_)
        clear hs; intro w hs
        refine WO.done (WX.seq (WC.seq (WC.region (WO.step rfl (OR.move rfl (WO.step rfl (OR.assign rfl ?_)))))))
        refine WO.step rfl (OR.assign rfl (WO.done (WX.seq (WC.ret (WX.seq_ret (WX.block_ret (WX.loop_ret ?_)))))))
        refine WX.block_ret (WX.seq_ret ?_)
        refine WX.ret2 rfl rfl rfl ?_
        replace hs : HS xs H0 w0 H (((qb, q15Obj (skD y tot kn true (d0 + n)), true) :: r14Mem y ob wb vL2 L2) ++ Mo) w := hs
        obtain ⟨H4, hle4, hs4, hsl, _⟩ := HS.pub (HS.mtail (A := (qb, q15Obj (skD y tot kn true (d0 + n)), true) :: r14Mem y ob wb vL2 L2) (B := Mo) hs) ho
        exact hfl H4 n _ 5 true vL2 L2 [] _ ((hch.mono hle4).bytesL hsl) hgood hdn (hx2.mono hle4) (.inr ⟨rfl, rfl, by omega, hse0, hre⟩) hs4
      · have hre0 : rdyE y (d0 + n) = 0 := Classical.byContradiction fun q => hre q
        have hgs1 := hgood.succ hse0 hre0
        have hn17 := hgs1.few hok
        refine WC.skip (WX.seq (WC.seq (WC.region (WO.step rfl (OR.move rfl (WO.step rfl (OR.move rfl ?_)))))))
        refine WO.step rfl (OR.buildSlice (vs := [_]) hs T40.und T43 rfl rfl rfl rfl (by simp) ?_)
        clear hs; intro q1 w hq1 hs
        have hb1 := hs.blk (i := 0) rfl
        have hsM : HS xs H0 w0 H (Mo ++ ((q1, _, true) :: (qb, q15Obj (skD y tot kn false (d0 + n)), true) :: r14Mem y ob wb vL2 L2)) w := HS.mtail (A := _ :: _ :: r14Mem y ob wb vL2 L2) (B := Mo) hs
        clear hs
        refine WO.step rfl (OR.append (m := 1) (news := [_]) (Mo := Mo) (M := _ :: _ :: r14Mem y ob wb vL2 L2) hsM ho T40.und T43 rfl (by omega) rfl rfl rfl (cells_of hb1) (fun h => by cases h) rfl (by omega) (by omega) ?_)
        clear hsM ho; intro v2 w Mo2 hs ho hge2
        replace hs := (HS.mtail (A := Mo2) hs).drop 0
        refine WO.step rfl (OR.assign rfl (WO.done (WX.seq (WC.region (WO.step rfl (OR.move rfl (WO.step rfl ?_)))))))
        refine OR.nilCheck rfl (WO.step rfl (OR.fieldAddr FA61_2 rfl (WO.step rfl (OR.load T22 rfl rfl (hs.cellM (i := 0) rfl rfl) ?_))))
        refine WO.step rfl (OR.add rfl rfl ?_)
        rw [show IntKind.u64.wrap (((skD y tot kn false (d0 + n)).dl : Int) + 1) = ((d0 + (n + 1) : Nat) : Int) from u64_wrap (d0 + (n + 1)) (by omega)]
        refine WO.step rfl (OR.nilCheck rfl (WO.step rfl (OR.fieldAddr FA61_2 rfl (WO.stepN (OR.store hs T22 rfl rfl rfl (Nat.le_of_ble_eq_true rfl) rfl ?_)))))
        clear hs; intro w hs
        refine WO.done (WX.block ?_)
        refine WX.again ((n + 1, v2)) ⟨rfl, rfl, rfl,  trivial⟩ ?_ ?_
        · exact ⟨hgs1, by simp only; omega, H, vL2, L2, _, Mo2, hle, hx2, hch.snoc h11, ho, hs⟩
        · simp only; omega
  · have hs9 : HS xs H0 w0 H (((qb, q15Obj (skD y tot kn false (d0 + n)), true) :: r14Mem y ob wb vL L) ++ Mo) w := hs
    obtain ⟨bo, co, hfo⟩ := ho.form
    subst hfo
    refine WC.exit (WX.seq_exit (WX.loop_exit (WX.block_hit (WX.seq (WC.seq (WC.region (WO.step rfl ?_)))))))
    refine OR.move rfl (WO.step rfl (OR.assign rfl (WO.step rfl (OR.assign rfl (WO.done (WX.seq (WC.ret ?_)))))))
    refine WX.ret2 rfl rfl rfl ?_
    obtain ⟨H4, hle4, hs4, hsl, _⟩ := HS.pub (HS.mtail (A := (qb, q15Obj (skD y tot kn false (d0 + n)), true) :: r14Mem y ob wb vL L) (B := Mo) hs9) ho
    have hm' : ¬ (((d0 + n : Nat) : Int) < 1099511627776) := hm
    exact hfl H4 n _ 0 false vL L [] _ ((hch.mono hle4).bytesL hsl) hgood hdn (hx.mono hle4) (.inl ⟨rfl, rfl, .inl (by omega)⟩) hs4
theorem rel_same {y : RelD} {d n n' : Nat} {e e' : Int} {br br' : Bool} (h1 : goodTo y d n) (h2 : relEnd y d n e br) (h3 : d + n ≤ 1099511627776) (k1 : goodTo y d n') (k2 : relEnd y d n' e' br') (k3 : d + n' ≤ 1099511627776) : n = n' ∧ e = e' ∧ br = br' := by
  have key : ∀ {n n' : Nat} {e : Int} {br : Bool}, relEnd y d n e br → goodTo y d n' → d + n' ≤ 1099511627776 → ¬ n < n' := by
    intro n n' e br h k k3 hlt
    obtain ⟨q1, q2⟩ := k n hlt
    rcases h with ⟨_, _, h | h⟩ | ⟨_, _, _, _, h⟩
    · omega
    · exact h q1
    · exact h q2
  have hn : n = n' := by
    have a := key h2 k1 k3
    have b := key k2 h1 h3
    omega
  subst hn
  refine ⟨rfl, ?_⟩
  rcases h2 with ⟨rfl, rfl, h⟩ | ⟨rfl, rfl, a, b, c⟩
  · rcases k2 with ⟨rfl, rfl, _⟩ | ⟨rfl, rfl, a, b, c⟩
    · exact ⟨rfl, rfl⟩
    · exfalso
      rcases h with h | h
      · omega
      · exact h b
  · rcases k2 with ⟨rfl, rfl, h⟩ | ⟨rfl, rfl, _⟩
    · exfalso
      rcases h with h | h
      · omega
      · exact h b
    · exact ⟨rfl, rfl⟩
end Go.Bw
