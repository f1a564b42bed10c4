/- Draws: whose turn, which coefficients. -/
import Derived.Test.YtdibepkfgemddaaGreatBasis2
import Derived.Test.YtdibepkfgemddaaGreatOps5
namespace Go.Bw
set_option linter.unusedVariables false
set_option linter.unusedSimpArgs false
open Go.Proofs

set_option maxRecDepth 20000 in
set_option maxHeartbeats 2000000 in
theorem may_ok (n : Int) (H0 : Hp) (w0 : World) (h0 : Sub H0 w0) : Calls Tryz.prog 205 #[.int .i64 n] w0 (Pure H0 w0 fun v _ => v = .bool (decide (1 ≤ n ∧ n ≤ 255))) := by
  have hs := HS.init h0
  refine Calls.enter (args := [.int .i64 n]) Tryz.func205 rfl Tryz.ntmps205 rfl ?_
  refine WC.seq (WC.region (WO.step rfl (OR.assign rfl (WO.done (WX.seq (WC.seq (WC.region ?_)))))))
  refine WO.step rfl (OR.move rfl (WO.step rfl (OR.geq rfl rfl (WO.step rfl (OR.move rfl ?_)))))
  refine WO.guardSplit (j := 2) rfl (fun q => ?_) (fun q => ?_)
  · refine WO.guardYes rfl (decide_eq_true q) rfl rfl (OR.move rfl (WO.guardYes rfl (decide_eq_true q) rfl rfl (OR.leq rfl rfl (WO.step rfl (OR.pickT rfl (decide_eq_true q) rfl (WO.step rfl (OR.assign rfl ?_)))))))
    refine WO.done (WX.seq (WC.ret ?_))
    refine WX.ret1 rfl rfl ?_
    refine .mk hs ?_
    congr 1
    rw [decide_eq_decide]
    exact ⟨fun h => ⟨q, h⟩, fun h => h.2⟩
  · refine WO.guardNo rfl (decide_eq_false q) rfl rfl (WO.guardNo rfl (decide_eq_false q) rfl rfl (WO.step rfl (OR.pickF rfl (decide_eq_false q) rfl (WO.step rfl (OR.assign rfl (WO.done (WX.seq ?_)))))))
    refine WC.ret ?_
    refine WX.ret1 rfl rfl ?_
    refine .mk hs ?_
    rw [decide_eq_false (fun h => q h.1)]
set_option maxRecDepth 20000 in
set_option maxHeartbeats 2000000 in
theorem syst_ok (a b : Int) (H0 : Hp) (w0 : World) (h0 : Sub H0 w0) : Calls Tryz.prog 213 #[.int .i64 a, .int .i64 b] w0 (Pure H0 w0 fun v _ => v = .bool (decide (0 ≤ a ∧ a < b))) := by
  have hs := HS.init h0
  refine Calls.enter (args := [.int .i64 a, .int .i64 b]) Tryz.func213 rfl Tryz.ntmps213 rfl ?_
  refine WC.seq (WC.region (WO.step rfl (OR.assign rfl (WO.done (WX.seq (WC.seq (WC.region ?_)))))))
  refine WO.step rfl (OR.move rfl (WO.step rfl (OR.geq rfl rfl (WO.step rfl (OR.move rfl ?_)))))
  refine WO.guardSplit (j := 2) rfl (fun q => ?_) (fun q => ?_)
  · refine WO.guardYes rfl (decide_eq_true q) rfl rfl (OR.move rfl (WO.guardYes rfl (decide_eq_true q) rfl rfl (OR.move rfl (WO.guardYes rfl (decide_eq_true q) rfl rfl (OR.lss rfl rfl (WO.step rfl (OR.pickT rfl (decide_eq_true q) rfl ?_)))))))
    refine WO.step rfl (OR.assign rfl (WO.done (WX.seq (WC.ret ?_))))
    refine WX.ret1 rfl rfl ?_
    refine .mk hs ?_
    congr 1
    rw [decide_eq_decide]
    exact ⟨fun h => ⟨q, h⟩, fun h => h.2⟩
  · refine WO.guardNo rfl (decide_eq_false q) rfl rfl (WO.guardNo rfl (decide_eq_false q) rfl rfl (WO.guardNo rfl (decide_eq_false q) rfl rfl (WO.step rfl (OR.pickF rfl (decide_eq_false q) rfl (WO.step rfl (OR.assign rfl (WO.done ?_)))))))
    refine WX.seq (WC.ret ?_)
    refine WX.ret1 rfl rfl ?_
    refine .mk hs ?_
    rw [decide_eq_false (fun h => q h.1)]
theorem i64_small (n : Nat) (h : n < 9223372036854775808) : IntKind.i64.wrap (n : Int) = (n : Int) := wrap_i64 (by omega) (by omega)
set_option maxRecDepth 20000 in
set_option maxHeartbeats 2000000 in
theorem turn_ok (sent n : Nat) (H0 : Hp) (w0 : World) (h0 : Sub H0 w0) (hn : 1 ≤ n ∧ n ≤ 255) (hsent : sent < 18446744073709551616) : Calls Tryz.prog 202 #[.int .u64 (sent : Int), .int .i64 (n : Int)] w0 (Pure H0 w0 fun v _ => v = .tuple #[.int .i64 ((sent % n : Nat) : Int), .int .i64 0]) := by
  have hs := HS.init h0
  have hle := Hp.le.refl H0
  refine Calls.enter (args := [.int .u64 (sent : Int), .int .i64 (n : Int)]) Tryz.func202 rfl Tryz.ntmps202 rfl ?_
  refine WC.seq (WC.region (WO.step rfl (OR.assign rfl (WO.step rfl (OR.assign rfl (WO.done (WX.seq ?_)))))))
  refine WC.seq (WC.seq (WC.region (WO.step rfl (OR.move rfl ?_))))
  refine WO.step rfl (OR.call hs body205 rfl rfl (may_ok (n : Int) _ _ hs.toSub) ?_)
  clear hs; rintro _ H w hs hle1 rfl; replace hle := hle.trans hle1; (try replace hlb := hlb.trans hle1)
  rw [decide_eq_true (show 1 ≤ (n : Int) ∧ (n : Int) ≤ 255 by omega)]
  refine WO.step rfl (OR.not rfl (WO.done (WX.seq ?_)))
  refine WC.no rfl rfl ?_
  refine WC.skip (WX.seq (WC.seq (WC.region (WO.step rfl (OR.move rfl (WO.step rfl (OR.move rfl ?_)))))))
  refine WO.step rfl (OR.convI T3.und T22.und rfl ?_)
  rw [IntWalk.u64_in (n : Int) (by omega)]
  refine WO.step rfl (OR.rem rfl rfl (by omega) ?_)
  have hmod : (sent : Int).tmod (n : Int) = ((sent % n : Nat) : Int) := rfl
  rw [hmod]
  refine WO.step rfl (OR.convI T22.und T3.und rfl ?_)
  have := Nat.mod_lt sent (show 0 < n by omega)
  rw [i64_small _ (by omega)]
  refine WO.step rfl (OR.assign rfl (WO.step rfl (OR.assign rfl (WO.done (WX.seq (WC.ret ?_))))))
  refine WX.ret2 rfl rfl rfl ?_
  exact .mk hs rfl

/-- A draw's coefficients. -/
def coefF (n turn : Nat) (l : List UInt8) : List UInt8 := if lead (padTo n l) < 0 then (padTo n l).set turn 1 else padTo n l
theorem coefF_len (n turn : Nat) (l : List UInt8) : (coefF n turn l).length = n := by
  unfold coefF; split
  · rw [List.length_set, padTo_length]
  · exact padTo_length _ _

set_option maxRecDepth 20000 in
set_option maxHeartbeats 2000000 in
theorem fill_ok (gm gout gt : Nat) (n turn : Nat) (l : List UInt8) (H0 : Hp) (w0 : World) (hl : l.length = n) (hn : n ≤ 255) (ht : turn < n)
    (hs : HS [gm] H0 w0 H0 [(gm, .cells (l.map B).toArray 5, true), (gout, .cells #[.slice (some ⟨gm, 0, none⟩) n n] 43, false), (gt, .cells #[.int .i64 (turn : Int)] 3, false)] w0) :
    Calls Tryz.prog 206 #[ptr gout, ptr gt] w0 (Ret [gm] H0 w0 fun v H' M' => v = .tuple #[] ∧ M' = [(gm, .cells ((if lead l < 0 then l.set turn 1 else l).map B).toArray 5, true)]) := by
  have hle := Hp.le.refl H0
  refine Calls.enter (args := [ptr gout, ptr gt]) Tryz.func206 rfl Tryz.ntmps206 rfl ?_
  refine WC.seq (WC.region (WO.step rfl (OR.load T43 rfl rfl (hs.cellM (i := 1) rfl rfl) ?_)))
  have hb : Bytes (H0.put gm (.cells (l.map B).toArray 5)) (.slice (some ⟨gm, 0, none⟩) l.length l.length) l := Bytes.block (Hp.put_same ..) (by rw [List.take_of_length_le (by simp)]) (Nat.le_refl _)
  rw [hl] at hb
  refine WO.step rfl (OR.callL hs body50 rfl rfl (isZero_ok _ l _ _ (hs.toSub.put (hs.blk (i := 0) rfl)) hb (by omega)) ?_)
  clear hs; rintro _ H w hs hle1 rfl; replace hle := hle.trans hle1
  refine WO.done (WX.seq ?_)
  refine WC.condD rfl (fun hz => ?_) (fun hz => ?_)
  · refine WC.region (WO.step rfl (OR.load T43 rfl rfl (hs.cellM (i := 1) rfl rfl) (WO.step rfl (OR.load T3 rfl rfl (hs.cellM (i := 2) rfl rfl) ?_))))
    refine WO.step rfl (OR.idx turn T43.und T5 rfl rfl rfl ht ?_)
    refine WO.stepN (OR.store hs T5 rfl rfl rfl (by simp [hl]; omega) rfl ?_)
    clear hs; intro w hs
    refine WO.done ?_
    refine WX.end0 rfl ?_
    refine ⟨_, H, _, rfl, (hs.drop 1).drop 1, by simp [dropAt], rfl, ?_⟩
    rw [if_pos hz]
    have e : (setL (l.map B).toArray.toList (0 + turn) (B 1).cells.toList) = (l.set turn 1).map B := by
      rw [Nat.zero_add, List.map_set]
      show setL (l.map B) turn [B 1] = _
      rw [setL_step, setL_nil]
    exact congrArg (fun c : List Value => [(gm, Obj.cells c.toArray 5, true)]) e
  · refine WC.skip ?_
    refine WX.end0 rfl ?_
    refine ⟨_, H, _, rfl, (hs.drop 1).drop 1, by simp [dropAt], rfl, ?_⟩
    rw [if_neg hz]
    rfl

set_option maxRecDepth 20000 in
set_option maxHeartbeats 2000000 in
theorem coefs_ok (vd : Value) (l : List UInt8) (n turn : Nat) (H0 : Hp) (w0 : World) (h0 : Sub H0 w0) (hl : Bytes H0 vd l) (hn : 1 ≤ n ∧ n ≤ 255) (ht : turn < n) :
    Calls Tryz.prog 203 #[vd, .int .i64 (n : Int), .int .i64 (turn : Int)] w0 (Pure H0 w0 fun v H' => ∃ r, v = .tuple #[r, .int .i64 0] ∧ Bytes H' r (coefF n turn l)) := by
  have hs := HS.init h0
  have hle := Hp.le.refl H0
  obtain ⟨b1, c1, rfl⟩ := hl.form
  refine Calls.enter (args := [.slice b1 l.length c1, .int .i64 (n : Int), .int .i64 (turn : Int)]) Tryz.func203 rfl Tryz.ntmps203 rfl ?_
  refine WC.seq (WC.region (WO.step rfl (OR.box hs rfl ?_)))
  clear hs; intro g1 w hg1 hs
  refine WO.step rfl (OR.assign rfl (WO.step rfl (OR.assign rfl (WO.done (WX.seq (WC.seq (WC.seq ?_)))))))
  refine WC.region (WO.step rfl (OR.move rfl ?_))
  refine WO.step rfl (OR.call hs body205 rfl rfl (may_ok (n : Int) _ _ hs.toSub) ?_)
  clear hs; rintro _ H w hs hle1 rfl; replace hle := hle.trans hle1; (try replace hlb := hlb.trans hle1)
  rw [decide_eq_true (show 1 ≤ (n : Int) ∧ (n : Int) ≤ 255 by omega)]
  refine WO.step rfl (OR.not rfl (WO.step rfl (OR.move rfl ?_)))
  refine WO.guardYes rfl rfl rfl rfl (OR.load T3 rfl rfl (hs.cellM (i := 0) rfl rfl) (WO.guardYes rfl rfl rfl rfl (OR.lss rfl rfl (WO.step rfl (OR.pickF rfl rfl rfl (WO.step rfl (OR.move rfl ?_)))))))
  refine WO.guardYes rfl (decide_eq_false (by omega : ¬ (turn : Int) < 0)) rfl rfl (OR.load T3 rfl rfl (hs.cellM (i := 0) rfl rfl) (WO.guardYes rfl (decide_eq_false (by omega : ¬ (turn : Int) < 0)) rfl rfl (OR.move rfl (WO.guardYes rfl (decide_eq_false (by omega : ¬ (turn : Int) < 0)) rfl rfl (OR.geq rfl rfl (WO.step rfl (OR.pickF rfl (decide_eq_false (by omega : ¬ (turn : Int) < 0)) rfl ?_)))))))
  refine WO.done (WX.seq ?_)
  refine WC.no rfl (decide_eq_false (by omega)) ?_
  refine WC.skip (WX.seq (WC.seq (WC.region (WO.step rfl (OR.move rfl ?_)))))
  refine WO.step rfl (OR.make1 (m := n) hs T43.und T5 rfl rfl rfl (by omega) (by omega) ?_)
  clear hs; intro gm w hgm hs
  refine WO.step rfl (OR.alloc hs T43 ?_)
  clear hs; intro g2 w hg2 hs
  refine WO.stepN (OR.storeAll hs T43 rfl rfl rfl rfl rfl ?_)
  clear hs; intro w hs
  refine WO.done (WX.seq (WC.seq (WC.region (WO.step rfl (OR.makeFunc rfl rfl (WO.step rfl (OR.assign rfl ?_)))))))
  refine WO.done (WX.seq (WC.seq (WC.region (WO.step rfl (OR.load T43 rfl rfl (hs.cellM (i := 0) rfl rfl) (WO.step rfl (OR.move rfl ?_)))))))
  replace hs := hs.front (i := 1) rfl
  refine WO.step rfl (OR.copyO hs ((l.take n).map B) T43.und T5 rfl rfl (by rw [List.length_map, List.length_take, natmin (c := min n l.length) (by omega)]; omega) (Sl.src0 (hl.mono hle)) (fun b hb j u hj => Sl.src (hl.mono hle) hs b hb j u (by rw [List.map_take] at hj; exact get_take hj)) (by simp; omega) (bytes_one _) ?_)
  clear hs; intro w hs
  replace hs : HS [] H0 w0 H ([(gm, .cells ((padTo n l).map B).toArray 5, true)] ++ [(g2, .cells #[.slice (some ⟨gm, 0, none⟩) n n] 43, true), (g1, .cells #[.int .i64 (turn : Int)] 3, true)]) w := by rw [← padTo_cells]; exact hs
  refine WO.done (WX.seq (WC.seq (WC.region (WO.step rfl (OR.move rfl ?_)))))
  refine WO.step rfl (OR.callX (Mx := [_]) hs body206 rfl rfl (fill_ok gm g2 g1 n turn (padTo n l) _ _ (padTo_length _ _) hn.2 ht (hs.begin [true, false, false])) rfl rfl ?_)
  clear hs; rintro v H2 M2 w hs hle1 hnew ⟨rfl, rfl⟩
  replace hle := hle.trans hle1
  refine WO.done (WX.seq (WC.seq (WC.region (WO.step rfl (OR.load T43 rfl rfl (hs.cellM (i := 1) rfl rfl) (WO.step rfl (OR.assign rfl ?_)))))))
  refine WO.step rfl (OR.assign rfl (WO.done (WX.seq (WC.ret ?_))))
  refine WX.ret2 rfl rfl rfl ?_
  have hs2 : HS [] H0 w0 H2 ((gm, .cells ((coefF n turn l).map B).toArray 5, true) :: []) w := (hs.drop 1).drop 1
  have hp := hs2.publish hgm
  refine .mk hp ⟨_, rfl, ?_⟩
  have := Bytes.block (c := ((coefF n turn l).map B).toArray) (l := coefF n turn l) (cap := n) (Hp.put_same H2 gm (.cells ((coefF n turn l).map B).toArray 5)) (by rw [coefF_len, List.take_of_length_le (by simp [coefF_len])]) (by rw [coefF_len]; exact Nat.le_refl _)
  rw [coefF_len] at this
  exact this

end Go.Bw
