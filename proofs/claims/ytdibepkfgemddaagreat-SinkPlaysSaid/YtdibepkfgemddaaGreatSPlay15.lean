/- SinkPlays: walked. -/
import Derived.Test.YtdibepkfgemddaaGreatR15
import Derived.Test.YtdibepkfgemddaaGreatSinkB
import Derived.Test.YtdibepkfgemddaaGreatDrawP
import Derived.Test.YtdibepkfgemddaaGreatDrawW
import Derived.Test.YtdibepkfgemddaaGreatRel6
import Derived.Test.YtdibepkfgemddaaGreatJoin2
import Derived.Test.YtdibepkfgemddaaGreatLaw
namespace Go.Bw
set_option linter.unusedVariables false
set_option linter.unusedSimpArgs false
open Go.Proofs

structure KActD where
  what : Int
  n : Nat
  row : RowD
/-- A list of calls in memory. -/
def KActs (H : Hp) (v : Value) (len : Nat) (A : Nat → KActD) (V : Nat → Value × Value) : Prop :=
  Sl H 4 v len ((List.range len).flatMap fun i => [.int .i64 (A i).what, .int .u64 ((A i).n : Int), (V i).1, (V i).2]) ∧ ∀ i, i < len → Bytes H (V i).1 (A i).row.1 ∧ Bytes H (V i).2 (A i).row.2 ∧ (A i).row.1.length ≤ 9223372036854775807 ∧ (A i).row.2.length ≤ 9223372036854775807 ∧ (A i).n < 18446744073709551616
theorem KActs.pos {H : Hp} {len cap : Nat} {base : Option Addr} {A : Nat → KActD} {V : Nat → Value × Value} (h : KActs H (.slice base len cap) len A V) (hn : 0 < len) :
    ∃ b o, base = some ⟨b, o, none⟩ ∧ ∀ i, i < len → ∀ j u, [.int .i64 (A i).what, .int .u64 ((A i).n : Int), (V i).1, (V i).2][j]? = some u → hcell H ((⟨b, o + i * 4, none⟩ : Addr).add j) = some u := by
  obtain ⟨b, o, h4, h5⟩ := h.1.pos hn
  refine ⟨b, o, h4, fun i hi j u hj => ?_⟩
  have h6 := (flat_get (C := fun i => [Value.int .i64 (A i).what, .int .u64 ((A i).n : Int), (V i).1, (V i).2]) (sz := 4) len (fun _ _ => rfl)).2 i hi j (by have := (List.getElem?_eq_some_iff.1 hj).1; simpa using this)
  rw [add_off, Nat.add_assoc]
  exact h5 _ _ (h6.trans hj)
theorem Bytes.cut {H : Hp} {base : Option Addr} {n cap k : Nat} {l : List UInt8} (h : Bytes H (.slice base n cap) l) (hk : k ≤ l.length) : Bytes H (.slice base k cap) (l.take k) := by
  obtain ⟨hl, b', c', he, hn, hb0, hc⟩ := h
  cases he
  have e : (l.take k).length = k := by rw [List.length_take]; omega
  refine ⟨by simp, base, cap, by rw [e], by omega, fun e2 => ?_, fun a ha => ⟨fun hp => ?_, fun i u hi => ?_⟩⟩
  · have := hb0 e2
    omega
  · exact (hc a ha).1 (by omega)
  · rw [List.map_take] at hi
    exact (hc a ha).2 i u (get_take hi)
theorem Bytes.cap {H : Hp} {base : Option Addr} {n cap : Nat} {l : List UInt8} (h : Bytes H (.slice base n cap) l) : l.length ≤ cap := by
  obtain ⟨hl, b', c', he, hn, hb0, hc⟩ := h
  cases he
  exact hn
theorem min9 (n : Nat) : (if (9 : Int) < (n : Int) then (9 : Int) else (n : Int)) = ((min n 9 : Nat) : Int) := by split <;> omega
theorem permR (A R S : Mem) : (A ++ (R ++ S)).Perm (R ++ (A ++ S)) := by
  rw [← List.append_assoc, ← List.append_assoc]
  exact List.perm_append_comm.append_right S
theorem permS (A R S : Mem) : (A ++ (R ++ S)).Perm (S ++ (A ++ R)) := by
  rw [← List.append_assoc]
  exact List.perm_append_comm
theorem permR3 (a b c : Nat × Obj × Bool) (R S : Mem) : (a :: b :: c :: (R ++ S)).Perm (R ++ ([a, b, c] ++ S)) := permR [a, b, c] R S
theorem permS3 (a b c : Nat × Obj × Bool) (R S : Mem) : (a :: b :: c :: (R ++ S)).Perm (S ++ ([a, b, c] ++ R)) := permS [a, b, c] R S
theorem bytesL_none {H : Hp} : BytesL H (.slice none 0 0) [] := ⟨[], Sl.nil _ _, rfl, fun i h => absurd h (Nat.not_lt_zero _)⟩
theorem cell_at {w : World} {g k : Nat} {c : Array Value} {e : TypeId} {fr : Nat × Nat} {v : Value} (h : w.heap[g]? = some (.cells c e fr)) (hk : c.toList[k]? = some v) : w.cell? ⟨g, k, none⟩ = some v := by
  simpa [World.cell?, h] using hk
theorem sk_total (y : RelD) (tot : Nat) (kn br : Bool) (d n : Nat) : ∃ tot' kn', SinkD.total (skD y tot kn br d) n = skD y tot' kn' br d := by
  unfold SinkD.total
  split
  · exact ⟨_, _, rfl⟩
  · exact ⟨_, _, rfl⟩
/-- What the two sinks and the two relays are, ahead of each round. -/
structure SpI (H0 H : Hp) (y : RelD) (d : Nat) (l : Slots) (vL : Value) (L : List GenD) : Prop where
  le : Hp.le H0 H
  sl : SlotsOk H y l
  rg : R14 H y vL L
  ok : RelOk y
  gs : 4 < y.g * y.s
  d : d ≤ 1099511627776
def SpM (kb qb rb ob wb wc : Nat) (y : RelD) (tot : Nat) (kn br : Bool) (d : Nat) (l : Slots) (vL : Value) (L : List GenD) : Mem := (kb, sinkObj (skD y tot kn br d), true) :: (qb, q15Obj (skD y tot kn br d), true) :: (relMem true y rb wb l ++ r14Mem y ob wc vL L)
def SpJ (H0 : Hp) (w0 : World) (kb qb rb ob wb wc : Nat) (w : World) : Prop := ∃ H y tot kn br d l vL L, SpI H0 H y d l vL L ∧ HS [] H0 w0 H (SpM kb qb rb ob wb wc y tot kn br d l vL L) w
theorem SpI.take {H0 H H' : Hp} {y : RelD} {d : Nat} {l l' : Slots} {vL vL' : Value} {L L' : List GenD} {n : Nat} {r : RowD} (h : SpI H0 H y d l vL L) (hle : Hp.le H0 H') (h1 : SlotsOk H' (y.take n r) l') (h2 : R14 H' (y.take n r) vL' L') : SpI H0 H' (y.take n r) d l' vL' L' := by
  obtain ⟨e1, e2, _, _⟩ := take_same y n r
  exact ⟨hle, h1, h2, h.ok.take _ _, by rw [e1, e2]; exact h.gs, h.d⟩
theorem SpI.move {H0 H H' : Hp} {y : RelD} {d : Nat} {l l' : Slots} {vL vL' : Value} {L L' : List GenD} {n : Nat} (h : SpI H0 H y d l vL L) (hle : Hp.le H0 H') (h1 : SlotsOk H' (y.moveTo n) l') (h2 : R14 H' (y.moveTo n) vL' L') : SpI H0 H' (y.moveTo n) d l' vL' L' := by
  obtain ⟨e1, e2, _, _⟩ := move_same y n
  exact ⟨hle, h1, h2, h.ok.moveTo _, by rw [e1, e2]; exact h.gs, h.d⟩
theorem SpI.mono {H0 H H' : Hp} {y : RelD} {d : Nat} {l : Slots} {vL : Value} {L : List GenD} (h : SpI H0 H y d l vL L) (hle : Hp.le H H') : SpI H0 H' y d l vL L :=
  ⟨h.le.trans hle, h.sl.mono hle, h.rg.mono hle, h.ok, h.gs, h.d⟩

set_option maxRecDepth 20000 in
set_option maxHeartbeats 2000000 in
theorem splays_ok (g0 s0 wd : Int) (dl : Nat) (vl : Value) (len : Nat) (A : Nat → KActD) (V : Nat → Value × Value) (H0 : Hp) (w0 : World) (h0 : Sub H0 w0) (hl : KActs H0 vl len A V) (hlen : len ≤ 9223372036854775807) :
    Calls Tryz.prog 3 #[.agg #[.int .i64 g0, .int .i64 s0, .int .i64 wd, .int .u64 (dl : Int)], vl] w0 (Pure H0 w0 fun v _ => v = .bool true) := by
  have hs := HS.init h0
  have hle := Hp.le.refl H0
  obtain ⟨bl, cl, rfl⟩ := hl.1.form
  refine Calls.enter (args := [.agg #[.int .i64 g0, .int .i64 s0, .int .i64 wd, .int .u64 (dl : Int)], .slice bl len cl]) Tryz.func3 rfl Tryz.ntmps3 rfl ?_
  refine WC.seq (WC.region (WO.step rfl (OR.box hs rfl ?_)))
  clear hs; intro g1 w hg1 hs
  refine WO.step rfl (OR.assign rfl (WO.done (WX.seq (WC.seq (WC.seq (WC.region ?_))))))
  refine WO.step rfl (OR.call hs body9 rfl rfl (kawake_ok _ _ hs.toSub) ?_)
  clear hs; rintro _ H w hs hle1 rfl; replace hle := hle.trans hle1; (try replace hlb := hlb.trans hle1)
  refine WO.step rfl (OR.not rfl (WO.done (WX.seq ?_)))
  refine WC.no rfl rfl ?_
  refine WC.skip (WX.seq (WC.seq ?_))
  refine WC.joinK (ι := Int) (fun g => [(1, .slice bl len cl), (2, ptr g1)]) (fun g w => (∃ H, Hp.le H0 H ∧ HS [] H0 w0 H [(g1, .cells #[.int .i64 g, .int .i64 s0, .int .i64 wd, .int .u64 (dl : Int)] 24, true)] w)) ?_ (fun g w hW => ?_)
  · refine WC.seq (WC.region (WO.step rfl (OR.fieldAddr FA24_0 rfl (WO.step rfl (OR.load T3 rfl rfl (hs.cellM (i := 0) rfl rfl) (WO.step rfl (OR.gtr rfl rfl ?_)))))))
    refine WO.step rfl (OR.move rfl ?_)
    refine WO.guardSplit (j := 3) rfl (fun hg12 => ?_) (fun hg12 => ?_)
    · refine WO.guardYes rfl (decide_eq_true hg12) rfl rfl (OR.fieldAddr FA24_0 rfl (WO.guardYes rfl (decide_eq_true hg12) rfl rfl (OR.load T3 rfl rfl (hs.cellM (i := 0) rfl rfl) (WO.guardYes rfl (decide_eq_true hg12) rfl rfl (OR.leq rfl rfl (WO.step rfl (OR.pickT rfl (decide_eq_true hg12) rfl ?_)))))))
      refine WO.done (WX.seq ?_)
      refine WC.condD rfl (fun hg255 => ?_) (fun hg255 => ?_)
      · refine WC.region (WO.step rfl (OR.fieldAddr FA24_0 rfl (WO.step rfl (OR.load T3 rfl rfl (hs.cellM (i := 0) rfl rfl) ?_))))
        refine WO.step rfl (OR.rem rfl rfl (by omega) ?_)
        have hm : (0 : Int) ≤ g0.tmod 8 ∧ g0.tmod 8 < 8 := by
          rw [Int.tmod_eq_emod_of_nonneg (by omega)]
          omega
        refine WO.step rfl (OR.addI rfl rfl (by omega) (by omega) (WO.step rfl (OR.fieldAddr FA24_0 rfl (WO.stepN (OR.store hs T3 rfl rfl rfl (Nat.le_of_ble_eq_true rfl) rfl ?_)))))
        clear hs; intro w hs
        refine WO.done ?_
        refine WX.arrive (1 + g0.tmod 8) ⟨rfl, rfl,  trivial⟩ ?_
        exact ⟨H, hle, hs⟩
      · refine WC.skip ?_
        refine WX.arrive (g0) ⟨rfl, rfl,  trivial⟩ ?_
        exact ⟨H, hle, hs⟩
    · refine WO.guardNo rfl (decide_eq_false hg12) rfl rfl (WO.guardNo rfl (decide_eq_false hg12) rfl rfl (WO.guardNo rfl (decide_eq_false hg12) rfl rfl (WO.step rfl (OR.pickF rfl (decide_eq_false hg12) rfl (WO.done (WX.seq (WC.no rfl rfl ?_)))))))
      refine WC.skip ?_
      refine WX.arrive (g0) ⟨rfl, rfl,  trivial⟩ ?_
      exact ⟨H, hle, hs⟩
  · clear hs hle
    obtain ⟨H, hle, hs⟩ := hW
    refine WC.seq ?_
    refine WC.joinK (ι := Int) (fun s => [(1, .slice bl len cl), (2, ptr g1)]) (fun s w => (∃ H, Hp.le H0 H ∧ HS [] H0 w0 H [(g1, .cells #[.int .i64 g, .int .i64 s, .int .i64 wd, .int .u64 (dl : Int)] 24, true)] w)) ?_ (fun s w hW => ?_)
    · refine WC.seq (WC.region (WO.step rfl (OR.fieldAddr FA24_1 rfl (WO.step rfl (OR.load T3 rfl rfl (hs.cellM (i := 0) rfl rfl) (WO.step rfl (OR.gtr rfl rfl ?_)))))))
      refine WO.step rfl (OR.move rfl ?_)
      refine WO.guardSplit (j := 3) rfl (fun hg12 => ?_) (fun hg12 => ?_)
      · refine WO.guardYes rfl (decide_eq_true hg12) rfl rfl (OR.fieldAddr FA24_1 rfl (WO.guardYes rfl (decide_eq_true hg12) rfl rfl (OR.load T3 rfl rfl (hs.cellM (i := 0) rfl rfl) (WO.guardYes rfl (decide_eq_true hg12) rfl rfl (OR.leq rfl rfl (WO.step rfl (OR.pickT rfl (decide_eq_true hg12) rfl ?_)))))))
        refine WO.done (WX.seq ?_)
        refine WC.condD rfl (fun hg255 => ?_) (fun hg255 => ?_)
        · refine WC.region (WO.step rfl (OR.fieldAddr FA24_1 rfl (WO.step rfl (OR.load T3 rfl rfl (hs.cellM (i := 0) rfl rfl) ?_))))
          refine WO.step rfl (OR.rem rfl rfl (by omega) ?_)
          have hm : (0 : Int) ≤ s0.tmod 8 ∧ s0.tmod 8 < 8 := by
            rw [Int.tmod_eq_emod_of_nonneg (by omega)]
            omega
          refine WO.step rfl (OR.addI rfl rfl (by omega) (by omega) (WO.step rfl (OR.fieldAddr FA24_1 rfl (WO.stepN (OR.store hs T3 rfl rfl rfl (Nat.le_of_ble_eq_true rfl) rfl ?_)))))
          clear hs; intro w hs
          refine WO.done ?_
          refine WX.arrive (1 + s0.tmod 8) ⟨rfl, rfl,  trivial⟩ ?_
          exact ⟨H, hle, hs⟩
        · refine WC.skip ?_
          refine WX.arrive (s0) ⟨rfl, rfl,  trivial⟩ ?_
          exact ⟨H, hle, hs⟩
      · refine WO.guardNo rfl (decide_eq_false hg12) rfl rfl (WO.guardNo rfl (decide_eq_false hg12) rfl rfl (WO.guardNo rfl (decide_eq_false hg12) rfl rfl (WO.step rfl (OR.pickF rfl (decide_eq_false hg12) rfl (WO.done (WX.seq (WC.no rfl rfl ?_)))))))
        refine WC.skip ?_
        refine WX.arrive (s0) ⟨rfl, rfl,  trivial⟩ ?_
        exact ⟨H, hle, hs⟩
    · clear hs hle
      obtain ⟨H, hle, hs⟩ := hW
      refine WC.seq (WC.region (WO.step rfl (OR.fieldAddr FA24_0 rfl (WO.step rfl (OR.load T3 rfl rfl (hs.cellM (i := 0) rfl rfl) (WO.step rfl (OR.fieldAddr FA24_1 rfl ?_)))))))
      refine WO.step rfl (OR.load T3 rfl rfl (hs.cellM (i := 0) rfl rfl) (WO.step rfl (OR.fieldAddr FA24_3 rfl (WO.step rfl (OR.load T22 rfl rfl (hs.cellM (i := 0) rfl rfl) ?_)))))
      refine WO.step rfl (OR.callX (Mx := []) hs body10 rfl rfl (knewI_ok g s dl _ _ hs.toSub) rfl rfl ?_)
      clear hs; rintro v1 H M1 w hs hle1 hnew hk1; replace hle := hle.trans hle1; (try replace hlb := hlb.trans hle1)
      by_cases hk : goodK g s dl
      · rw [if_pos hk] at hk1
        obtain ⟨kb, rfl, rfl⟩ := hk1
        replace hs : HS [] H0 w0 H [(kb, sinkObj ⟨g.toNat, s.toNat, dl, 0, false, false⟩, true), (g1, .cells #[.int .i64 g, .int .i64 s, .int .i64 wd, .int .u64 (dl : Int)] 24, true)] w := hs
        refine WO.step rfl (OR.move rfl (WO.step rfl (OR.extract rfl rfl (WO.step rfl (OR.extract rfl rfl (WO.step rfl (OR.assign rfl ?_)))))))
        refine WO.step rfl (OR.assign rfl (WO.done (WX.seq (WC.seq (WC.region (WO.step rfl (OR.fieldAddr FA24_0 rfl ?_)))))))
        refine WO.step rfl (OR.load T3 rfl rfl (hs.cellM (i := 1) rfl rfl) (WO.step rfl (OR.fieldAddr FA24_1 rfl (WO.step rfl (OR.load T3 rfl rfl (hs.cellM (i := 1) rfl rfl) (WO.step rfl (OR.fieldAddr FA24_3 rfl ?_)))))))
        refine WO.step rfl (OR.load T22 rfl rfl (hs.cellM (i := 1) rfl rfl) ?_)
        refine WO.step rfl (OR.callX (Mx := []) hs body11 rfl rfl (new15_ok g s dl _ _ hs.toSub) rfl rfl ?_)
        clear hs; rintro v1 H M1 w hs hle1 hnew hk1; replace hle := hle.trans hle1; (try replace hlb := hlb.trans hle1)
        rw [if_pos hk] at hk1
        obtain ⟨qb, rfl, rfl⟩ := hk1
        replace hs : HS [] H0 w0 H [(qb, q15Obj ⟨g.toNat, s.toNat, dl, 0, false, false⟩, true), (kb, sinkObj ⟨g.toNat, s.toNat, dl, 0, false, false⟩, true), (g1, .cells #[.int .i64 g, .int .i64 s, .int .i64 wd, .int .u64 (dl : Int)] 24, true)] w := hs
        refine WO.step rfl (OR.move rfl (WO.step rfl (OR.extract rfl rfl (WO.step rfl (OR.extract rfl rfl (WO.step rfl (OR.assign rfl ?_)))))))
        refine WO.step rfl (OR.assign rfl (WO.done (WX.seq (WC.seq (WC.region (WO.step rfl (OR.fieldAddr FA24_0 rfl ?_)))))))
        refine WO.step rfl (OR.load T3 rfl rfl (hs.cellM (i := 2) rfl rfl) (WO.step rfl (OR.fieldAddr FA24_1 rfl (WO.step rfl (OR.load T3 rfl rfl (hs.cellM (i := 2) rfl rfl) (WO.step rfl (OR.fieldAddr FA24_2 rfl ?_)))))))
        refine WO.step rfl (OR.load T3 rfl rfl (hs.cellM (i := 2) rfl rfl) ?_)
        refine WO.step rfl (OR.callX (Mx := []) hs body12 rfl rfl (rnewI_ok g s wd _ _ hs.toSub) rfl rfl ?_)
        clear hs; rintro v1 H M1 w hs hle1 hnew hk1; replace hle := hle.trans hle1; (try replace hlb := hlb.trans hle1)
        by_cases hr : goodR g s wd
        · rw [if_pos hr] at hk1
          obtain ⟨_, rb, wb, rfl, rfl⟩ := hk1
          have hsM := HS.mtail (B := [(qb, q15Obj ⟨g.toNat, s.toNat, dl, 0, false, false⟩, true), (kb, sinkObj ⟨g.toNat, s.toNat, dl, 0, false, false⟩, true), (g1, .cells #[.int .i64 g, .int .i64 s, .int .i64 wd, .int .u64 (dl : Int)] 24, true)]) hs
          clear hs
          have hs := hsM
          clear hsM
          refine WO.step rfl (OR.move rfl (WO.step rfl (OR.extract rfl rfl (WO.step rfl (OR.extract rfl rfl (WO.step rfl (OR.assign rfl ?_)))))))
          refine WO.step rfl (OR.assign rfl (WO.done (WX.seq (WC.seq (WC.region (WO.step rfl (OR.fieldAddr FA24_0 rfl ?_)))))))
          refine WO.step rfl (OR.load T3 rfl rfl (hs.cellM (i := 2) rfl rfl) (WO.step rfl (OR.fieldAddr FA24_1 rfl (WO.step rfl (OR.load T3 rfl rfl (hs.cellM (i := 2) rfl rfl) (WO.step rfl (OR.fieldAddr FA24_2 rfl ?_)))))))
          refine WO.step rfl (OR.load T3 rfl rfl (hs.cellM (i := 2) rfl rfl) ?_)
          refine WO.step rfl (OR.callX (Mx := []) hs body13 rfl rfl (new14_ok g s wd _ _ hs.toSub) rfl rfl ?_)
          clear hs; rintro v1 H M1 w hs hle1 hnew hk1; replace hle := hle.trans hle1; (try replace hlb := hlb.trans hle1)
          rw [if_pos hr] at hk1
          obtain ⟨ob, wc, rfl, rfl⟩ := hk1
          obtain ⟨a, rfl⟩ := Int.eq_ofNat_of_zero_le (show 0 ≤ g by have := hr.1; omega)
          obtain ⟨b, rfl⟩ := Int.eq_ofNat_of_zero_le (show 0 ≤ s by have := hr.1; omega)
          obtain ⟨c, rfl⟩ := Int.eq_ofNat_of_zero_le (show 0 ≤ wd by have := hr.2; omega)
          have hinit : SpJ H0 w0 kb qb rb ob wb wc w := by
            have hk' := hk.1
            have hr1 := hr.1
            have hr2 := hr.2
            refine ⟨H, newR a b c, 0, false, false, dl, _, _, _, ⟨hle, slots_new _ _ _ _, R14.start _ _ _ _, newR_ok (by omega) (by omega), by have := hk'.2.2.2.2; exact_mod_cast this, hk.2⟩, ?_⟩
            have hs2 : HS [] H0 w0 H (r14Mem (newR a b c) ob wc (.slice none 0 0) [] ++ ([(qb, q15Obj (skD (newR a b c) 0 false false dl), true), (kb, sinkObj (skD (newR a b c) 0 false false dl), true), (g1, .cells #[.int .i64 a, .int .i64 b, .int .i64 c, .int .u64 (dl : Int)] 24, true)] ++ relMem true (newR a b c) rb wb (List.replicate 16 none))) w := hs
            have hs3 := hs2.perm (permS [(qb, q15Obj (skD (newR a b c) 0 false false dl), true), (kb, sinkObj (skD (newR a b c) 0 false false dl), true), (g1, .cells #[.int .i64 a, .int .i64 b, .int .i64 c, .int .u64 (dl : Int)] 24, true)] (relMem true (newR a b c) rb wb (List.replicate 16 none)) (r14Mem (newR a b c) ob wc (.slice none 0 0) []))
            have hs4 : HS [] H0 w0 H ([(qb, q15Obj (skD (newR a b c) 0 false false dl), true), (kb, sinkObj (skD (newR a b c) 0 false false dl), true)] ++ (relMem true (newR a b c) rb wb (List.replicate 16 none) ++ r14Mem (newR a b c) ob wc (.slice none 0 0) [])) w := hs3.drop 2
            exact hs4.perm (List.Perm.swap _ _ _)
          clear hs hle hk hr
          refine WO.step rfl (OR.move rfl (WO.step rfl (OR.extract rfl rfl (WO.step rfl (OR.extract rfl rfl (WO.step rfl (OR.assign rfl ?_)))))))
          refine WO.step rfl (OR.assign rfl (WO.done (WX.seq (WC.seq (WC.seq (WC.region (WO.step rfl ?_)))))))
          refine OR.move rfl (WO.step rfl (OR.move rfl (WO.step rfl (OR.neq rfl rfl (WO.step rfl (OR.move rfl ?_))))))
          refine WO.guardYes rfl rfl rfl rfl (OR.move rfl (WO.guardYes rfl rfl rfl rfl (OR.eqlNilP T27.und rfl rfl (WO.guardYes rfl rfl rfl rfl (OR.move rfl (WO.guardYes rfl rfl rfl rfl (OR.eqlNilP T31.und rfl rfl ?_)))))))
          refine WO.guardYes rfl rfl rfl rfl (OR.neqB T4.und rfl rfl (WO.step rfl (OR.pickF rfl rfl rfl (WO.step rfl (OR.move rfl ?_)))))
          refine WO.guardYes rfl rfl rfl rfl (OR.move rfl (WO.guardYes rfl rfl rfl rfl (OR.move rfl (WO.guardYes rfl rfl rfl rfl (OR.neq rfl rfl (WO.step rfl (OR.pickF rfl rfl rfl ?_)))))))
          refine WO.step rfl (OR.move rfl ?_)
          refine WO.guardYes rfl rfl rfl rfl (OR.move rfl (WO.guardYes rfl rfl rfl rfl (OR.eqlNilP T34.und rfl rfl (WO.guardYes rfl rfl rfl rfl (OR.move rfl (WO.guardYes rfl rfl rfl rfl (OR.eqlNilP T37.und rfl rfl ?_)))))))
          refine WO.guardYes rfl rfl rfl rfl (OR.neqB T4.und rfl rfl (WO.step rfl (OR.pickF rfl rfl rfl (WO.done (WX.seq ?_)))))
          refine WC.no rfl rfl ?_
          refine WC.skip (WX.seq (WC.seq (WC.seq (WC.region (WO.step rfl (OR.move rfl (WO.step rfl ?_)))))))
          refine OR.eqlNilP T31.und rfl rfl (WO.step rfl (OR.move rfl ?_))
          refine WO.guardYes rfl rfl rfl rfl (OR.move rfl (WO.guardYes rfl rfl rfl rfl (OR.eqlNilP T37.und rfl rfl (WO.step rfl (OR.pickF rfl rfl rfl (WO.done (WX.seq ?_)))))))
          refine WC.no rfl rfl ?_
          refine WC.skip (WX.seq (WC.seq (WC.seq (WC.region (WO.step rfl (OR.move rfl (WO.step rfl ?_)))))))
          refine OR.lenSlice T25.und rfl (WO.step rfl (OR.move rfl (WO.done (WX.seq (WC.block ?_)))))
          refine WC.loop (ι := Nat) (fun i => [(5, ptr kb), (7, ptr qb), (9, ptr rb), (11, ptr ob), (126, .slice bl len cl), (127, .int .i64 (len : Int)), (128, .int .i64 (i : Int))]) (fun i w => (i ≤ len ∧ SpJ H0 w0 kb qb rb ob wb wc w)) (fun i => len - i) 0 ⟨rfl, rfl, rfl, rfl, rfl, rfl, rfl,  trivial⟩ ?_ (fun i w hW => ?_)
          · exact ⟨by omega, hinit⟩
          clear hinit
          obtain ⟨hi, H, y, tot, kn, br, d, l, vL, L, hI, hs⟩ := hW
          have hle := hI.le
          replace hs : HS [] H0 w0 H ((kb, sinkObj (skD y tot kn br d), true) :: (qb, q15Obj (skD y tot kn br d), true) :: (relMem true y rb wb l ++ r14Mem y ob wc vL L)) w := hs
          refine WC.seq (WC.region (WO.step rfl (OR.lss rfl rfl (WO.done (WX.seq (WC.seq ?_))))))
          refine WC.condD rfl (fun hlt => ?_) (fun hlt => ?_)
          · have hi' : i < len := by omega
            obtain ⟨xb, xo, rfl, hcx⟩ := hl.pos (by omega)
            obtain ⟨hac, hap, hl1, hl2, hl3⟩ := hl.2 i hi'
            have hci := hcx i hi'
            generalize hAi : A i = a at hac hap hl1 hl2 hl3 hci
            generalize hVi : V i = va at hac hap hci
            obtain ⟨vc, vp⟩ := va
            obtain ⟨aw, an, ⟨ac, ap⟩⟩ := a
            simp only at hac hap hl1 hl2 hl3 hci
            obtain ⟨b1, c1, rfl⟩ := hac.form
            obtain ⟨b2, c2, rfl⟩ := hap.form
            refine WC.skip (WX.seq (WC.seq (WC.block (WC.seq (WC.region (WO.step rfl (OR.move rfl ?_)))))))
            refine WO.step rfl (OR.idxN i T25.und T47 rfl rfl rfl hi' ?_)
            refine WO.step rfl (OR.loadN (cs := [.int .i64 aw, .int .u64 (an : Int), .slice b1 ac.length c1, .slice b2 ap.length c2]) T47 rfl rfl rfl (fun j u hj => hs.cell (hcell.mono hle (hci j u hj))) ?_)
            refine WO.step rfl (OR.alloc hs T47 ?_)
            clear hs; intro g2 w hg2 hs
            refine WO.step rfl (OR.assign rfl (WO.stepN (OR.storeAll hs T47 rfl rfl rfl rfl rfl ?_)))
            clear hs; intro w hs
            refine WO.done (WX.seq (WC.seq (WC.seq (WC.region (WO.step rfl (OR.move rfl (WO.step rfl ?_)))))))
            refine OR.eql rfl rfl (WO.done (WX.seq ?_))
            refine WC.condD rfl (fun h60 => ?_) (fun h60 => ?_)
            · refine WC.exit (WX.seq_exit (WX.block_miss rfl (WX.seq_exit (WX.loop_exit (WX.block_hit (WX.seq (WC.seq ?_)))))))
              refine WC.region (WO.step rfl (OR.assign rfl (WO.done (WX.seq (WC.ret ?_)))))
              refine WX.ret1 rfl rfl ?_
              exact .mk hs rfl
            · have hm1 := min9 ac.length
              have hm2 := min9 ap.length
              have hcc1 := hac.cap
              have hcc2 := hap.cap
              refine WC.skip (WX.seq (WC.seq ?_))
              refine WC.drawP 18 [15, 16, 17] mixed hs (by kernel_rfl) ?_
              refine ⟨MF.eq _, by intro Mx H w hle hs; refine forVals_nil (ORg.plain (OR.fieldAddr FA47_2 rfl ?_)); exact ⟨_, [], Hp.le.refl _, hs, rfl, rfl⟩, ?_⟩
              refine ⟨MF.eq _, by intro Mx H w hle hs; refine forVals_eq rfl rfl rfl ?_; refine forVals_nil (ORg.plain (OR.fieldAddr FA45_0 rfl ?_)); exact ⟨_, [], Hp.le.refl _, hs, rfl, rfl⟩, ?_⟩
              refine ⟨MF.eq _, by intro Mx H w hle hs; refine forVals_eq rfl rfl rfl ?_; refine forVals_nil (ORg.plain (OR.load T43 rfl rfl (hs.right.cellM (i := 0) rfl rfl) ?_)); exact ⟨_, [], Hp.le.refl _, hs, rfl, rfl⟩, ?_⟩
              refine ⟨MF.eq _, by intro Mx H w hle hs; refine forVals_nil (ORg.plain (OR.fieldAddr FA47_2 rfl ?_)); exact ⟨_, [], Hp.le.refl _, hs, rfl, rfl⟩, ?_⟩
              refine ⟨MF.eq _, by intro Mx H w hle hs; refine forVals_eq rfl rfl rfl ?_; refine forVals_nil (ORg.plain (OR.fieldAddr FA45_0 rfl ?_)); exact ⟨_, [], Hp.le.refl _, hs, rfl, rfl⟩, ?_⟩
              refine ⟨MF.eq _, by intro Mx H w hle hs; refine forVals_eq rfl rfl rfl ?_; refine forVals_nil (ORg.plain (OR.load T43 rfl rfl (hs.right.cellM (i := 0) rfl rfl) ?_)); exact ⟨_, [], Hp.le.refl _, hs, rfl, rfl⟩, ?_⟩
              refine ⟨MF.eq _, by intro Mx H w hle hs; refine forVals_eq rfl rfl rfl ?_; refine forVals_nil (ORg.plain (OR.lenSlice T43.und rfl ?_)); exact ⟨_, [], Hp.le.refl _, hs, rfl, rfl⟩, ?_⟩
              refine ⟨MF.eq (.int .i64 ((min ac.length 9 : Nat) : Int)), ?_, ?_⟩
              · intro Mx H w hle2 hs; (try replace hle := hle.trans hle2); (try replace hlb := hlb.trans hle2); refine forVals_eq rfl rfl rfl ?_
                refine forVals_nil (ORg.plain (OR.minI rfl rfl ?_))
                exact ⟨_, [], Hp.le.refl _, hs, (by rw [hm1]), rfl⟩
              refine ⟨MF.eq (.slice b1 (min ac.length 9) c1), ?_, ?_⟩
              · intro Mx H w hle2 hs; (try replace hle := hle.trans hle2); (try replace hlb := hlb.trans hle2); refine forVals_eq rfl rfl rfl ?_; refine forVals_eq rfl rfl rfl ?_
                refine forVals_nil (ORg.plain (OR.sliceHiG (min ac.length 9) T43.und T5 rfl rfl rfl (by omega) ?_))
                exact ⟨_, [], Hp.le.refl _, hs, rfl, rfl⟩
              refine ⟨MF.eq _, by intro Mx H w hle hs; refine forVals_nil (ORg.plain (OR.fieldAddr FA47_2 rfl ?_)); exact ⟨_, [], Hp.le.refl _, hs, rfl, rfl⟩, ?_⟩
              refine ⟨MF.eq _, by intro Mx H w hle hs; refine forVals_eq rfl rfl rfl ?_; refine forVals_nil (ORg.plain (OR.fieldAddr FA45_1 rfl ?_)); exact ⟨_, [], Hp.le.refl _, hs, rfl, rfl⟩, ?_⟩
              refine ⟨MF.eq _, by intro Mx H w hle hs; refine forVals_eq rfl rfl rfl ?_; refine forVals_nil (ORg.plain (OR.load T43 rfl rfl (hs.right.cellM (i := 0) rfl rfl) ?_)); exact ⟨_, [], Hp.le.refl _, hs, rfl, rfl⟩, ?_⟩
              refine ⟨MF.eq _, by intro Mx H w hle hs; refine forVals_nil (ORg.plain (OR.fieldAddr FA47_2 rfl ?_)); exact ⟨_, [], Hp.le.refl _, hs, rfl, rfl⟩, ?_⟩
              refine ⟨MF.eq _, by intro Mx H w hle hs; refine forVals_eq rfl rfl rfl ?_; refine forVals_nil (ORg.plain (OR.fieldAddr FA45_1 rfl ?_)); exact ⟨_, [], Hp.le.refl _, hs, rfl, rfl⟩, ?_⟩
              refine ⟨MF.eq _, by intro Mx H w hle hs; refine forVals_eq rfl rfl rfl ?_; refine forVals_nil (ORg.plain (OR.load T43 rfl rfl (hs.right.cellM (i := 0) rfl rfl) ?_)); exact ⟨_, [], Hp.le.refl _, hs, rfl, rfl⟩, ?_⟩
              refine ⟨MF.eq _, by intro Mx H w hle hs; refine forVals_eq rfl rfl rfl ?_; refine forVals_nil (ORg.plain (OR.lenSlice T43.und rfl ?_)); exact ⟨_, [], Hp.le.refl _, hs, rfl, rfl⟩, ?_⟩
              refine ⟨MF.eq (.int .i64 ((min ap.length 9 : Nat) : Int)), ?_, ?_⟩
              · intro Mx H w hle2 hs; (try replace hle := hle.trans hle2); (try replace hlb := hlb.trans hle2); refine forVals_eq rfl rfl rfl ?_
                refine forVals_nil (ORg.plain (OR.minI rfl rfl ?_))
                exact ⟨_, [], Hp.le.refl _, hs, (by rw [hm2]), rfl⟩
              refine ⟨MF.eq (.slice b2 (min ap.length 9) c2), ?_, ?_⟩
              · intro Mx H w hle2 hs; (try replace hle := hle.trans hle2); (try replace hlb := hlb.trans hle2); refine forVals_eq rfl rfl rfl ?_; refine forVals_eq rfl rfl rfl ?_
                refine forVals_nil (ORg.plain (OR.sliceHiG (min ap.length 9) T43.und T5 rfl rfl rfl (by omega) ?_))
                exact ⟨_, [], Hp.le.refl _, hs, rfl, rfl⟩
              refine ⟨⟨fun H2 => ?_, ⟨fun H2 => ?_, ⟨fun H2 => ?_, trivial⟩⟩⟩, ?_⟩
              · refine forVals_eq rfl rfl rfl ?_; refine forVals_nil ?_; exact PureAt.lenSlice T43.und rfl
              · refine forVals_eq rfl rfl rfl ?_; refine forVals_nil ?_; exact PureAt.minI rfl rfl
              · refine forVals_eq rfl rfl rfl ?_; refine forVals_eq rfl rfl rfl ?_; refine forVals_nil ?_; exact PureAt.sliceHiG (min ap.length 9) T43.und T5 rfl rfl rfl (by omega)
              intro H w hle2; (try replace hle := hle.trans hle2); (try replace hlb := hlb.trans hle2)
              refine forAllVals_eq rfl ?_
              refine forAllVals_eq rfl ?_
              refine forAllVals_eq rfl ?_
              refine forAllVals_eq rfl ?_
              refine forAllVals_eq rfl ?_
              refine forAllVals_eq rfl ?_
              refine forAllVals_eq rfl ?_
              refine forAllVals_eq rfl ?_
              refine forAllVals_eq rfl ?_
              refine forAllVals_eq rfl ?_
              refine forAllVals_eq rfl ?_
              refine forAllVals_eq rfl ?_
              refine forAllVals_eq rfl ?_
              refine forAllVals_eq rfl ?_
              refine forAllVals_eq rfl ?_
              refine forAllVals_eq rfl ?_
              refine forAllVals_eq rfl ?_
              refine forAllVals_eq rfl ?_
              refine forAllVals_nil ?_; (try clear hs); intro hs
              refine WO.step rfl (OR.fieldAddr FA47_2 rfl (WO.step rfl (OR.fieldAddr FA45_0 rfl (WO.stepN (OR.store hs T43 rfl rfl rfl (Nat.le_of_ble_eq_true rfl) rfl ?_)))))
              clear hs; intro w hs
              refine WO.step rfl (OR.fieldAddr FA47_2 rfl (WO.step rfl (OR.fieldAddr FA45_1 rfl (WO.stepN (OR.store hs T43 rfl rfl rfl (Nat.le_of_ble_eq_true rfl) rfl ?_)))))
              clear hs; intro w hs
              obtain ⟨xc, hxc⟩ : ∃ xc, xc = ac.take (min ac.length 9) := ⟨_, rfl⟩
              obtain ⟨xp, hxp⟩ : ∃ xp, xp = ap.take (min ap.length 9) := ⟨_, rfl⟩
              have hlx : min ac.length 9 = xc.length := by rw [hxc, List.length_take]; omega
              have hlp : min ap.length 9 = xp.length := by rw [hxp, List.length_take]; omega
              have hB1 : Bytes H0 (.slice b1 xc.length c1) xc := by rw [← hlx, hxc]; exact hac.cut (by omega)
              have hB2 : Bytes H0 (.slice b2 xp.length c2) xp := by rw [← hlp, hxp]; exact hap.cut (by omega)
              replace hs : HS [] H0 w0 H ((g2, .cells #[.int .i64 aw, .int .u64 (an : Int), .slice b1 xc.length c1, .slice b2 xp.length c2] 47, true) :: (kb, sinkObj (skD y tot kn br d), true) :: (qb, q15Obj (skD y tot kn br d), true) :: (relMem true y rb wb l ++ r14Mem y ob wc vL L)) w := by rw [← hlx, ← hlp]; exact hs
              clear hxc hxp hlx hlp hac hap hl1 hl2 hm1 hm2 hcc1 hcc2 hci hAi hVi
              replace hI := hI.mono hle2
              refine WO.done (WX.seq (WC.seq (WC.seq (WC.region (WO.step rfl (OR.fieldAddr FA47_0 rfl (WO.step rfl ?_)))))))
              refine OR.load T3 rfl rfl (hs.cellM (i := 0) rfl rfl) (WO.done (WX.seq ?_))
              refine WC.joinK (ι := Unit) (fun iu => [(5, ptr kb), (7, ptr qb), (9, ptr rb), (11, ptr ob), (126, .slice (some ⟨xb, xo, none⟩) len cl), (127, .int .i64 (len : Int)), (128, .int .i64 (i : Int))]) (fun iu w => (SpJ H0 w0 kb qb rb ob wb wc w)) ?_ (fun iu w hW => ?_)
              · refine WC.block (WC.seq (WC.region (WO.step rfl (OR.eql rfl rfl (WO.step rfl (OR.assign rfl (WO.done ?_)))))))
                refine WX.seq ?_
                refine WC.condD rfl (fun hw0 => ?_) (fun hw0 => ?_)
                · refine WC.seq (WC.region (WO.step rfl (OR.move rfl (WO.step rfl (OR.fieldAddr FA47_1 rfl (WO.step rfl (OR.load T22 rfl rfl (hs.cellM (i := 0) rfl rfl) ?_)))))))
                  refine WO.step rfl (OR.fieldAddr FA47_2 rfl ?_)
                  refine WO.step rfl (OR.loadN (cs := [.slice b1 xc.length c1, .slice b2 xp.length c2]) T45 rfl rfl rfl (two_cells (o := 2) (hs.blk (i := 0) rfl) rfl rfl) ?_)
                  have hsR : HS [] H0 w0 H (relMem true y rb wb l ++ ([(g2, .cells #[.int .i64 aw, .int .u64 (an : Int), .slice b1 xc.length c1, .slice b2 xp.length c2] 47, true), (kb, sinkObj (skD y tot kn br d), true), (qb, q15Obj (skD y tot kn br d), true)] ++ r14Mem y ob wc vL L)) w := hs.perm (permR3 _ _ _ _ _).symm
                  clear hs
                  refine WO.step rfl (OR.callX (Mx := relMem true y rb wb l) (Mr := [(g2, .cells #[.int .i64 aw, .int .u64 (an : Int), .slice b1 xc.length c1, .slice b2 xp.length c2] 47, true), (kb, sinkObj (skD y tot kn br d), true), (qb, q15Obj (skD y tot kn br d), true)] ++ r14Mem y ob wc vL L) hsR body15 rfl rfl (rtake_ok' rb wb an _ _ y l (xc, xp) _ _ (HS.relRW hsR) hI.sl hI.ok hl3 (hB1.mono hle) (hB2.mono hle)) rfl (relMem_flags _ _ _ _) ?_)
                  clear hsR; rintro v H2 M w hs hle1 hnew ⟨rfl, l2, rfl, hsl2⟩
                  replace hs : HS [] H0 w0 H2 ((g2, .cells #[.int .i64 aw, .int .u64 (an : Int), .slice b1 xc.length c1, .slice b2 xp.length c2] 47, true) :: (kb, sinkObj (skD y tot kn br d), true) :: (qb, q15Obj (skD y tot kn br d), true) :: (relMem true (y.take an (xc, xp)) rb wb l2 ++ r14Mem y ob wc vL L)) w := hs.perm (permR3 _ _ _ _ _)
                  replace hle := hle.trans hle1
                  refine WO.done (WX.seq (WC.region (WO.step rfl (OR.move rfl (WO.step rfl (OR.fieldAddr FA47_1 rfl (WO.step rfl ?_)))))))
                  refine OR.load T22 rfl rfl (hs.cellM (i := 0) rfl rfl) (WO.step rfl (OR.fieldAddr FA47_2 rfl ?_))
                  refine WO.step rfl (OR.loadN (cs := [.slice b1 xc.length c1, .slice b2 xp.length c2]) T45 rfl rfl rfl (two_cells (o := 2) (hs.blk (i := 0) rfl) rfl rfl) ?_)
                  have hsR : HS [] H0 w0 H2 (r14Mem y ob wc vL L ++ ([(g2, .cells #[.int .i64 aw, .int .u64 (an : Int), .slice b1 xc.length c1, .slice b2 xp.length c2] 47, true), (kb, sinkObj (skD y tot kn br d), true), (qb, q15Obj (skD y tot kn br d), true)] ++ relMem true (y.take an (xc, xp)) rb wb l2)) w := hs.perm (permS3 _ _ _ _ _).symm
                  clear hs
                  refine WO.step rfl (OR.callX (Mx := r14Mem y ob wc vL L) (Mr := [(g2, .cells #[.int .i64 aw, .int .u64 (an : Int), .slice b1 xc.length c1, .slice b2 xp.length c2] 47, true), (kb, sinkObj (skD y tot kn br d), true), (qb, q15Obj (skD y tot kn br d), true)] ++ relMem true (y.take an (xc, xp)) rb wb l2) hsR body16 rfl rfl (take14_ok ob wc an _ _ (xc, xp) y vL L _ _ (HS.partRW hsR) (hI.rg.mono hle1) hI.ok hl3 (hB1.mono hle) (hB2.mono hle)) rfl (r14_flags _ _ _ _ _) ?_)
                  clear hsR; rintro v H3 M w hs hle3 hnew ⟨rfl, vL2, L2, rfl, hrg2⟩
                  have hI3 := hI.take (hle.trans hle3) (hsl2.mono hle3) hrg2
                  obtain ⟨e1, e2, _, _⟩ := take_same y an (xc, xp)
                  have eS : skD (y.take an (xc, xp)) tot kn br d = skD y tot kn br d := by rw [skD, e1, e2]
                  rw [← eS] at hs
                  refine WO.done (WX.block ?_)
                  refine WX.arrive (()) ⟨rfl, rfl, rfl, rfl, rfl, rfl, rfl,  trivial⟩ ?_
                  exact ⟨H3, _, tot, kn, br, d, l2, vL2, L2, hI3, (hs.perm (permS3 _ _ _ _ _)).drop 0⟩
                · refine WC.seq (WC.region (WO.step rfl (OR.eql rfl rfl (WO.step rfl (OR.assign rfl (WO.done (WX.seq ?_)))))))
                  refine WC.condD rfl (fun hw1 => ?_) (fun hw1 => ?_)
                  · by_cases hbr : br = true
                    · have hlb := Hp.le.refl H
                      refine WC.seq (WC.region (WO.step rfl (OR.move rfl (WO.step rfl (OR.move rfl ?_)))))
                      refine WO.step rfl (OR.call hs body14 rfl rfl (krel_broken kb rb (skD y tot kn br d) _ _ hs.toSub (hs.blk (i := 1) rfl) (hs.nh (i := 1) rfl) hI.ok.g1 hbr) ?_)
                      clear hs; rintro _ H w hs hle1 rfl; replace hle := hle.trans hle1; (try replace hlb := hlb.trans hle1)
                      refine WO.step rfl (OR.move rfl (WO.step rfl (OR.extract rfl rfl (WO.step rfl (OR.extract rfl rfl (WO.step rfl (OR.assign rfl ?_)))))))
                      refine WO.step rfl (OR.assign rfl (WO.done (WX.seq (WC.seq (WC.region (WO.step rfl (OR.move rfl ?_)))))))
                      refine WO.step rfl (OR.move rfl ?_)
                      refine WO.step rfl (OR.call hs body17 rfl rfl (rel15_broken qb (ptr ob) (skD y tot kn br d) _ _ hs.toSub (hs.blk (i := 2) rfl) (hs.nh (i := 2) rfl) hbr) ?_)
                      clear hs; rintro _ H w hs hle1 rfl; replace hle := hle.trans hle1; (try replace hlb := hlb.trans hle1)
                      refine WO.step rfl (OR.move rfl (WO.step rfl (OR.extract rfl rfl (WO.step rfl (OR.extract rfl rfl (WO.step rfl (OR.assign rfl ?_)))))))
                      refine WO.step rfl (OR.assign rfl (WO.done (WX.seq (WC.seq (WC.region (WO.step rfl (OR.move rfl ?_)))))))
                      refine WO.step rfl (OR.move rfl (WO.step rfl (OR.neq rfl rfl (WO.step rfl (OR.move rfl ?_)))))
                      refine WO.guardYes rfl rfl rfl rfl (OR.move rfl (WO.guardYes rfl rfl rfl rfl (OR.move rfl ?_)))
                      refine WO.guardYes rfl rfl rfl rfl (OR.call hs body18 rfl rfl (same05_ok _ _ [] [] _ _ hs.toSub bytesL_none bytesL_none rfl (by simp)) ?_)
                      clear hs; rintro _ H w hs hle1 rfl; replace hle := hle.trans hle1; (try replace hlb := hlb.trans hle1)
                      refine WO.guardYes rfl rfl rfl rfl (OR.not rfl (WO.step rfl (OR.pickF rfl rfl rfl (WO.done (WX.seq ?_)))))
                      refine WC.no rfl rfl ?_
                      refine WC.skip (WX.block ?_)
                      refine WX.arrive (()) ⟨rfl, rfl, rfl, rfl, rfl, rfl, rfl,  trivial⟩ ?_
                      exact ⟨_, y, tot, kn, br, d, l, vL, L, hI.mono hlb, hs.drop 0⟩
                    · have hbr2 : br = false := by cases br <;> simp_all
                      subst hbr2
                      refine WC.seq (WC.region (WO.step rfl (OR.move rfl (WO.step rfl (OR.move rfl ?_)))))
                      have hsP : List.Perm ((kb, sinkObj (skD y tot kn false d), true) :: (([(g2, .cells #[.int .i64 aw, .int .u64 (an : Int), .slice b1 xc.length c1, .slice b2 xp.length c2] 47, true), (qb, q15Obj (skD y tot kn false d), true)] ++ r14Mem y ob wc vL L) ++ relMem true y rb wb l)) ((g2, .cells #[.int .i64 aw, .int .u64 (an : Int), .slice b1 xc.length c1, .slice b2 xp.length c2] 47, true) :: (kb, sinkObj (skD y tot kn false d), true) :: (qb, q15Obj (skD y tot kn false d), true) :: (relMem true y rb wb l ++ r14Mem y ob wc vL L)) := (List.Perm.cons _ (List.Perm.cons _ (List.Perm.cons _ List.perm_append_comm))).trans (List.Perm.swap _ _ _)
                      have hsR := hs.perm hsP
                      refine WO.step rfl (OR.callX (Mx := [(kb, sinkObj (skD y tot kn false d), true)]) (Mr := ([(g2, .cells #[.int .i64 aw, .int .u64 (an : Int), .slice b1 xc.length c1, .slice b2 xp.length c2] 47, true), (qb, q15Obj (skD y tot kn false d), true)] ++ r14Mem y ob wc vL L) ++ relMem true y rb wb l) hsR body14 rfl rfl (krel_ok kb rb wb d tot kn y l _ _ (HS.relKB (A := [(g2, .cells #[.int .i64 aw, .int .u64 (an : Int), .slice b1 xc.length c1, .slice b2 xp.length c2] 47, true), (qb, q15Obj (skD y tot kn false d), true)] ++ r14Mem y ob wc vL L) hsR) hI.sl hI.ok hI.gs hI.d) rfl rfl ?_)
                      clear hs hsR hsP; rintro v H2 M w hs hle1 hnew ⟨n1, v1, e1, br1, rfl, hv1, hg1', hd1, rfl, hend1⟩
                      replace hle := hle.trans hle1
                      refine WO.step rfl (OR.move rfl (WO.step rfl (OR.extract rfl rfl (WO.step rfl (OR.extract rfl rfl (WO.step rfl (OR.assign rfl ?_)))))))
                      refine WO.step rfl (OR.assign rfl (WO.done (WX.seq (WC.seq (WC.region (WO.step rfl (OR.move rfl ?_)))))))
                      refine WO.step rfl (OR.move rfl ?_)
                      have hsP : List.Perm (((qb, q15Obj (skD y tot kn false d), true) :: r14Mem y ob wc vL L) ++ ([(g2, .cells #[.int .i64 aw, .int .u64 (an : Int), .slice b1 xc.length c1, .slice b2 xp.length c2] 47, true), (kb, sinkObj (skD y tot kn br1 (d + n1)), true)] ++ relMem true y rb wb l)) ((kb, sinkObj (skD y tot kn br1 (d + n1)), true) :: (([(g2, .cells #[.int .i64 aw, .int .u64 (an : Int), .slice b1 xc.length c1, .slice b2 xp.length c2] 47, true), (qb, q15Obj (skD y tot kn false d), true)] ++ r14Mem y ob wc vL L) ++ relMem true y rb wb l)) := by
                        refine (List.Perm.cons _ ((permR (r14Mem y ob wc vL L) [(g2, .cells #[.int .i64 aw, .int .u64 (an : Int), .slice b1 xc.length c1, .slice b2 xp.length c2] 47, true), (kb, sinkObj (skD y tot kn br1 (d + n1)), true)] (relMem true y rb wb l)))).trans ?_
                        refine (permR [(qb, q15Obj (skD y tot kn false d), true)] [(g2, .cells #[.int .i64 aw, .int .u64 (an : Int), .slice b1 xc.length c1, .slice b2 xp.length c2] 47, true), (kb, sinkObj (skD y tot kn br1 (d + n1)), true)] (r14Mem y ob wc vL L ++ relMem true y rb wb l)).trans ?_
                        exact (List.Perm.swap _ _ _).trans (List.Perm.refl _)
                      have hsR := hs.perm hsP
                      refine WO.step rfl (OR.callX (Mx := (qb, q15Obj (skD y tot kn false d), true) :: r14Mem y ob wc vL L) (Mr := [(g2, .cells #[.int .i64 aw, .int .u64 (an : Int), .slice b1 xc.length c1, .slice b2 xp.length c2] 47, true), (kb, sinkObj (skD y tot kn br1 (d + n1)), true)] ++ relMem true y rb wb l) hsR body17 rfl rfl (rel15_ok qb ob wc d tot kn y vL L _ _ (HS.partRW hsR) (hI.rg.mono hle1) hI.ok hI.gs hI.d) rfl (by exact r14_flags y ob wc vL L) ?_)
                      clear hs hsR hsP; rintro v H3 M w hs hle3 hnew ⟨n2, v2, e2, br2, vL2, L2, rfl, hv2, hg2', hd2, rfl, hrg2, hend2⟩
                      replace hle := hle.trans hle3
                      obtain ⟨rfl, rfl, rfl⟩ := rel_same hg1' hend1 hd1 hg2' hend2 hd2
                      have hsP : List.Perm ((g2, .cells #[.int .i64 aw, .int .u64 (an : Int), .slice b1 xc.length c1, .slice b2 xp.length c2] 47, true) :: (kb, sinkObj (skD y tot kn br1 (d + n1)), true) :: (qb, q15Obj (skD y tot kn br1 (d + n1)), true) :: (relMem true y rb wb l ++ r14Mem y ob wc vL2 L2)) (((qb, q15Obj (skD y tot kn br1 (d + n1)), true) :: r14Mem y ob wc vL2 L2) ++ ([(g2, .cells #[.int .i64 aw, .int .u64 (an : Int), .slice b1 xc.length c1, .slice b2 xp.length c2] 47, true), (kb, sinkObj (skD y tot kn br1 (d + n1)), true)] ++ relMem true y rb wb l)) := by
                        refine List.Perm.trans ?_ (permS [(g2, .cells #[.int .i64 aw, .int .u64 (an : Int), .slice b1 xc.length c1, .slice b2 xp.length c2] 47, true), (kb, sinkObj (skD y tot kn br1 (d + n1)), true)] (relMem true y rb wb l) ((qb, q15Obj (skD y tot kn br1 (d + n1)), true) :: r14Mem y ob wc vL2 L2))
                        exact List.Perm.cons _ (List.Perm.cons _ List.perm_middle.symm)
                      replace hs := hs.perm hsP
                      clear hsP
                      have hI3 : SpI H0 H3 y (d + n1) l vL2 L2 := ⟨hle, (hI.sl.mono hle1).mono hle3, hrg2, hI.ok, hI.gs, hd1⟩
                      have hlb := Hp.le.refl H3
                      refine WO.step rfl (OR.move rfl (WO.step rfl (OR.extract rfl rfl (WO.step rfl (OR.extract rfl rfl (WO.step rfl (OR.assign rfl ?_)))))))
                      refine WO.step rfl (OR.assign rfl (WO.done (WX.seq (WC.seq (WC.region (WO.step rfl (OR.move rfl ?_)))))))
                      refine WO.step rfl (OR.move rfl (WO.step rfl (OR.neq rfl rfl (WO.step rfl (OR.move rfl ?_)))))
                      refine WO.guardYes rfl (decide_eq_false (fun h => h rfl : ¬ (e1 ≠ e1))) rfl rfl (OR.move rfl (WO.guardYes rfl (decide_eq_false (fun h => h rfl : ¬ (e1 ≠ e1))) rfl rfl (OR.move rfl ?_)))
                      refine WO.guardYes rfl (decide_eq_false (fun h => h rfl : ¬ (e1 ≠ e1))) rfl rfl (OR.call hs body18 rfl rfl (same05_ok _ _ (rdyL y d n1) (rdyL y d n1) _ _ hs.toSub (hv1.mono hle3) hv2 rfl (by rw [rdyL, List.length_map, List.length_range]; have := hg1'.few hI.ok; omega)) ?_)
                      clear hs; rintro _ H w hs hle1 rfl; replace hle := hle.trans hle1; (try replace hlb := hlb.trans hle1)
                      refine WO.guardYes rfl (decide_eq_false (fun h => h rfl : ¬ (e1 ≠ e1))) rfl rfl (OR.not rfl (WO.step rfl (OR.pickF rfl (decide_eq_false (fun h => h rfl : ¬ (e1 ≠ e1))) rfl (WO.done (WX.seq ?_)))))
                      refine WC.no rfl rfl ?_
                      refine WC.skip (WX.block ?_)
                      refine WX.arrive (()) ⟨rfl, rfl, rfl, rfl, rfl, rfl, rfl,  trivial⟩ ?_
                      exact ⟨_, y, tot, kn, br1, d + n1, l, vL2, L2, hI3.mono hlb, hs.drop 0⟩
                  · refine WC.seq (WC.region (WO.step rfl (OR.eql rfl rfl (WO.step rfl (OR.assign rfl (WO.done (WX.seq ?_)))))))
                    refine WC.condD rfl (fun hw2 => ?_) (fun hw2 => ?_)
                    · refine WC.seq ?_
                      refine WC.drawW (H := fun _ => none) 7 3 201 (fun w => w.heap[g2]? = some (.cells #[.int .i64 aw, .int .u64 (an : Int), .slice b1 xc.length c1, .slice b2 xp.length c2] 47)) (fun w => HS [] H0 w0 H ((g2, .cells #[.int .i64 aw, .int .u64 (an : Int), .slice b1 xc.length c1, .slice b2 xp.length c2] 47, true) :: (kb, sinkObj (skD y tot kn br d), true) :: (qb, q15Obj (skD y tot kn br d), true) :: (relMem true y rb wb l ++ r14Mem y ob wc vL L)) w) (fun v w => v = .int .i64 ((skD y tot kn br d).totE an) ∧ ∃ H', Hp.le H H' ∧ HS [] H0 w0 H' ((g2, .cells #[.int .i64 aw, .int .u64 (an : Int), .slice b1 xc.length c1, .slice b2 xp.length c2] 47, true) :: (kb, sinkObj ((skD y tot kn br d).total an), true) :: (qb, q15Obj (skD y tot kn br d), true) :: (relMem true y rb wb l ++ r14Mem y ob wc vL L)) w) mixed (by kernel_rfl) rfl (hs.drew) (fun w h => h.blk (i := 0) rfl) (fun v w h => by obtain ⟨_, _, _, h⟩ := h; exact h.blk (i := 0) rfl) ?_
                      refine OwedW.other (F := MF.eq _) rfl (by intro J hC w hJ; refine forVals_nil (ORg.plain (OR.move rfl ?_)); exact ⟨hJ, rfl, rfl⟩) ?_
                      refine OwedW.other (F := MF.eq _) rfl (by intro J hC w hJ; refine forVals_nil (ORg.plain (OR.fieldAddr FA47_1 rfl ?_)); exact ⟨hJ, rfl, rfl⟩) ?_
                      refine OwedW.other (F := MF.eq _) rfl (by intro J hC w hJ; refine forVals_eq rfl rfl rfl ?_; refine forVals_nil (ORg.plain (OR.load T22 rfl rfl (cell_at (hC _ hJ) rfl) ?_)); exact ⟨hJ, rfl, rfl⟩) ?_
                      refine OwedW.writer (F := MF.of (fun _ _ => True) (fun _ _ _ _ h => h)) rfl ?_ ?_
                      · intro w hJ; refine forVals_eq rfl rfl rfl ?_; refine forVals_eq rfl rfl rfl ?_; 
                        clear hs
                        have hs := hJ
                        replace hs := hs.front (i := 1) rfl
                        refine forVals_nil (ORg.plain (OR.callX (Mx := [_]) hs body19 rfl rfl (ktotal_ok kb an (skD y tot kn br d) _ _ hs.toSub (hs.blk (i := 0) rfl) (hs.nh (i := 0) rfl) hI.ok.g1) rfl rfl ?_))
                        clear hs; rintro v H2 M' w hs hle2 hnew ⟨rfl, rfl⟩
                        exact ⟨⟨rfl, H2, hle2, hs.front (i := 1) rfl⟩, trivial, rfl⟩
                      refine OwedW.other (F := MF.eq _) rfl (by intro J hC w hJ; refine forVals_nil (ORg.plain (OR.move rfl ?_)); exact ⟨hJ, rfl, rfl⟩) ?_
                      refine OwedW.other (F := MF.eq _) rfl (by intro J hC w hJ; refine forVals_nil (ORg.plain (OR.fieldAddr FA47_1 rfl ?_)); exact ⟨hJ, rfl, rfl⟩) ?_
                      refine OwedW.other (F := MF.eq _) rfl (by intro J hC w hJ; refine forVals_eq rfl rfl rfl ?_; refine forVals_nil (ORg.plain (OR.load T22 rfl rfl (cell_at (hC _ hJ) rfl) ?_)); exact ⟨hJ, rfl, rfl⟩) ?_
                      refine forAllVals_eq rfl ?_
                      refine forAllVals_eq rfl ?_
                      refine forAllVals_eq rfl ?_
                      refine forAllVals_of rfl ?_; intro v3 h3
                      refine forAllVals_eq rfl ?_
                      refine forAllVals_eq rfl ?_
                      refine forAllVals_eq rfl ?_
                      refine forAllVals_nil ⟨_, rfl, ?_⟩; (try clear hs); intro w hJ
                      obtain ⟨rfl, H2, hle2, hs⟩ := hJ
                      replace hle := hle.trans hle2
                      replace hs := hs.front (i := 2) rfl
                      refine WO.step rfl (OR.callX (Mx := [_]) hs body20 rfl rfl (total15_ok qb an (skD y tot kn br d) _ _ hs.toSub (hs.blk (i := 0) rfl) (hs.nh (i := 0) rfl)) rfl rfl ?_)
                      clear hs; rintro v H3 M' w hs hle3 hnew ⟨rfl, rfl⟩
                      replace hle := hle.trans hle3
                      obtain ⟨tot2, kn2, eT⟩ := sk_total y tot kn br d an
                      rw [eT] at hs
                      refine WO.step rfl (OR.neq rfl rfl (WO.done (WX.seq ?_)))
                      refine WC.no rfl (decide_eq_false (fun h => h rfl : ¬ ((skD y tot kn br d).totE an ≠ (skD y tot kn br d).totE an))) ?_
                      refine WC.skip (WX.block ?_)
                      refine WX.arrive (()) ⟨rfl, rfl, rfl, rfl, rfl, rfl, rfl,  trivial⟩ ?_
                      exact ⟨H3, y, tot2, kn2, br, d, l, vL, L, (hI.mono hle2).mono hle3, (hs.front (i := 2) rfl).drop 2⟩
                    · refine WC.seq (WC.region (WO.step rfl (OR.eql rfl rfl (WO.step rfl (OR.assign rfl (WO.done (WX.seq ?_)))))))
                      refine WC.condD rfl (fun hw3 => ?_) (fun hw3 => ?_)
                      · have hsR : HS [] H0 w0 H (relMem true y rb wb l ++ ([(g2, .cells #[.int .i64 aw, .int .u64 (an : Int), .slice b1 xc.length c1, .slice b2 xp.length c2] 47, true), (kb, sinkObj (skD y tot kn br d), true), (qb, q15Obj (skD y tot kn br d), true)] ++ r14Mem y ob wc vL L)) w := hs.perm (permR3 _ _ _ _ _).symm
                        refine WC.seq (WC.region (WO.step rfl (OR.move rfl (WO.step rfl (OR.fieldAddr FA47_1 rfl (WO.step rfl (OR.load T22 rfl rfl (hs.cellM (i := 0) rfl rfl) ?_)))))))
                        refine WO.step rfl (OR.callX (Mx := relMem true y rb wb l) (Mr := [(g2, .cells #[.int .i64 aw, .int .u64 (an : Int), .slice b1 xc.length c1, .slice b2 xp.length c2] 47, true), (kb, sinkObj (skD y tot kn br d), true), (qb, q15Obj (skD y tot kn br d), true)] ++ r14Mem y ob wc vL L) hsR body21 rfl rfl (rmove_ok rb wb an y l _ _ (HS.relRW hsR) hI.sl hI.ok hl3) rfl (relMem_flags _ _ _ _) ?_)
                        clear hs hsR; rintro v H2 M w hs hle1 hnew ⟨rfl, l2, rfl, hsl2⟩
                        replace hs : HS [] H0 w0 H2 ((g2, .cells #[.int .i64 aw, .int .u64 (an : Int), .slice b1 xc.length c1, .slice b2 xp.length c2] 47, true) :: (kb, sinkObj (skD y tot kn br d), true) :: (qb, q15Obj (skD y tot kn br d), true) :: (relMem true (y.moveTo an) rb wb l2 ++ r14Mem y ob wc vL L)) w := hs.perm (permR3 _ _ _ _ _)
                        replace hle := hle.trans hle1
                        refine WO.done (WX.seq (WC.region (WO.step rfl (OR.move rfl (WO.step rfl (OR.fieldAddr FA47_1 rfl (WO.step rfl ?_)))))))
                        refine OR.load T22 rfl rfl (hs.cellM (i := 0) rfl rfl) ?_
                        have hsR : HS [] H0 w0 H2 (r14Mem y ob wc vL L ++ ([(g2, .cells #[.int .i64 aw, .int .u64 (an : Int), .slice b1 xc.length c1, .slice b2 xp.length c2] 47, true), (kb, sinkObj (skD y tot kn br d), true), (qb, q15Obj (skD y tot kn br d), true)] ++ relMem true (y.moveTo an) rb wb l2)) w := hs.perm (permS3 _ _ _ _ _).symm
                        refine WO.step rfl (OR.callX (Mx := r14Mem y ob wc vL L) (Mr := [(g2, .cells #[.int .i64 aw, .int .u64 (an : Int), .slice b1 xc.length c1, .slice b2 xp.length c2] 47, true), (kb, sinkObj (skD y tot kn br d), true), (qb, q15Obj (skD y tot kn br d), true)] ++ relMem true (y.moveTo an) rb wb l2) hsR body22 rfl rfl (move14_ok ob wc an y vL L _ _ (HS.partRW hsR) (hI.rg.mono hle1) hI.ok hl3) rfl (r14_flags _ _ _ _ _) ?_)
                        clear hs hsR; rintro v H3 M w hs hle3 hnew ⟨rfl, vL2, L2, rfl, hrg2⟩
                        have hI3 := hI.move (hle.trans hle3) (hsl2.mono hle3) hrg2
                        obtain ⟨e1, e2, _, _⟩ := move_same y an
                        have eS : skD (y.moveTo an) tot kn br d = skD y tot kn br d := by rw [skD, e1, e2]
                        rw [← eS] at hs
                        refine WO.done (WX.block ?_)
                        refine WX.arrive (()) ⟨rfl, rfl, rfl, rfl, rfl, rfl, rfl,  trivial⟩ ?_
                        exact ⟨H3, _, tot, kn, br, d, l2, vL2, L2, hI3, (hs.perm (permS3 _ _ _ _ _)).drop 0⟩
                      · refine WC.skip (WX.block ?_)
                        refine WX.arrive (()) ⟨rfl, rfl, rfl, rfl, rfl, rfl, rfl,  trivial⟩ ?_
                        exact ⟨H, y, tot, kn, br, d, l, vL, L, hI, hs.drop 0⟩
              · clear hs hle hI
                obtain ⟨H, y, tot, kn, br, d, l, vL, L, hI, hs⟩ := hW
                have hle := hI.le
                replace hs : HS [] H0 w0 H ((kb, sinkObj (skD y tot kn br d), true) :: (qb, q15Obj (skD y tot kn br d), true) :: (relMem true y rb wb l ++ r14Mem y ob wc vL L)) w := hs
                have hlb := Hp.le.refl H
                refine WC.seq (WC.region (WO.step rfl (OR.move rfl ?_)))
                refine WO.step rfl (OR.call hs body23 rfl rfl (kknown_ok kb (skD y tot kn br d) _ _ hs.toSub (hs.blk (i := 0) rfl) (hs.nh (i := 0) rfl)) ?_)
                clear hs; rintro _ H w hs hle1 rfl; replace hle := hle.trans hle1; (try replace hlb := hlb.trans hle1)
                replace hI := hI.mono hlb
                refine WO.step rfl (OR.move rfl (WO.step rfl (OR.extract rfl rfl (WO.step rfl (OR.extract rfl rfl (WO.step rfl (OR.assign rfl ?_)))))))
                refine WO.step rfl (OR.assign rfl (WO.done (WX.seq (WC.seq ?_))))
                refine WC.draw 38 mixed hs (by kernel_rfl) ?_
                refine ⟨MF.eq _, by intro Mx H w hle hs; refine forVals_nil (ORg.plain (OR.move rfl ?_)); exact ⟨_, [], Hp.le.refl _, hs, rfl, rfl⟩, ?_⟩
                refine ⟨MF.eq (.int .u64 (d : Int)), ?_, ?_⟩
                · intro Mx H w hle2 hs; (try replace hle := hle.trans hle2); (try replace hlb := hlb.trans hle2); refine forVals_eq rfl rfl rfl ?_
                  have hkm := (hs.mem kb _ true (List.mem_append_right _ (List.mem_cons_self ..)))
                  refine forVals_nil (ORg.plain (OR.call hs body24 rfl rfl (kdel_ok kb (skD y tot kn br d) _ _ hs.toSub hkm.1 hkm.2.1) ?_))
                  clear hs; rintro _ H w hs hle1 rfl
                  exact ⟨_, [], hle1, hs, rfl, rfl⟩
                refine ⟨MF.eq _, by intro Mx H w hle hs; refine forVals_nil (ORg.plain (OR.move rfl ?_)); exact ⟨_, [], Hp.le.refl _, hs, rfl, rfl⟩, ?_⟩
                refine ⟨MF.eq _, by intro Mx H w hle hs; refine forVals_eq rfl rfl rfl ?_; refine forVals_nil (ORg.plain (OR.nilCheck rfl ?_)); exact ⟨_, [], Hp.le.refl _, hs, rfl, rfl⟩, ?_⟩
                refine ⟨MF.eq _, by intro Mx H w hle hs; refine forVals_eq rfl rfl rfl ?_; refine forVals_nil (ORg.plain (OR.fieldAddr FA61_2 rfl ?_)); exact ⟨_, [], Hp.le.refl _, hs, rfl, rfl⟩, ?_⟩
                refine ⟨MF.eq _, by intro Mx H w hle hs; refine forVals_eq rfl rfl rfl ?_; refine forVals_nil (ORg.plain (OR.load T22 rfl rfl (hs.right.cellM (i := 1) rfl rfl) ?_)); exact ⟨_, [], Hp.le.refl _, hs, rfl, rfl⟩, ?_⟩
                refine ⟨MF.eq _, by intro Mx H w hle hs; refine forVals_eq rfl rfl rfl ?_; refine forVals_eq rfl rfl rfl ?_; refine forVals_nil (ORg.plain (OR.neq rfl rfl ?_)); exact ⟨_, [], Hp.le.refl _, hs, rfl, rfl⟩, ?_⟩
                refine ⟨MF.eq _, by intro Mx H w hle hs; refine forVals_eq rfl rfl rfl ?_; refine forVals_nil (ORg.plain (OR.move rfl ?_)); exact ⟨_, [], Hp.le.refl _, hs, rfl, rfl⟩, ?_⟩
                refine ⟨MF.eq _, by intro Mx H w hle hs; refine forVals_eq rfl rfl rfl ?_; refine forVals_nil (ORg.yes rfl (decide_eq_false (fun h => h rfl : ¬ ((d : Int) ≠ (d : Int)))) rfl (OR.move rfl ?_)); exact ⟨_, [], Hp.le.refl _, hs, rfl, rfl⟩, ?_⟩
                refine ⟨MF.eq _, by intro Mx H w hle hs; refine forVals_eq rfl rfl rfl ?_; refine forVals_nil (ORg.yes rfl (decide_eq_false (fun h => h rfl : ¬ ((d : Int) ≠ (d : Int)))) rfl (OR.move rfl ?_)); exact ⟨_, [], Hp.le.refl _, hs, rfl, rfl⟩, ?_⟩
                refine ⟨MF.eq _, by intro Mx H w hle hs; refine forVals_eq rfl rfl rfl ?_; refine forVals_eq rfl rfl rfl ?_; refine forVals_nil (ORg.yes rfl (decide_eq_false (fun h => h rfl : ¬ ((d : Int) ≠ (d : Int)))) rfl (OR.nilCheck rfl ?_)); exact ⟨_, [], Hp.le.refl _, hs, rfl, rfl⟩, ?_⟩
                refine ⟨MF.eq _, by intro Mx H w hle hs; refine forVals_eq rfl rfl rfl ?_; refine forVals_eq rfl rfl rfl ?_; refine forVals_nil (ORg.yes rfl (decide_eq_false (fun h => h rfl : ¬ ((d : Int) ≠ (d : Int)))) rfl (OR.fieldAddr FA61_3 rfl ?_)); exact ⟨_, [], Hp.le.refl _, hs, rfl, rfl⟩, ?_⟩
                refine ⟨MF.eq _, by intro Mx H w hle hs; refine forVals_eq rfl rfl rfl ?_; refine forVals_eq rfl rfl rfl ?_; refine forVals_nil (ORg.yes rfl (decide_eq_false (fun h => h rfl : ¬ ((d : Int) ≠ (d : Int)))) rfl (OR.load T22 rfl rfl (hs.right.cellM (i := 1) rfl rfl) ?_)); exact ⟨_, [], Hp.le.refl _, hs, rfl, rfl⟩, ?_⟩
                refine ⟨MF.eq _, by intro Mx H w hle hs; refine forVals_eq rfl rfl rfl ?_; refine forVals_eq rfl rfl rfl ?_; refine forVals_eq rfl rfl rfl ?_; refine forVals_nil (ORg.yes rfl (decide_eq_false (fun h => h rfl : ¬ ((d : Int) ≠ (d : Int)))) rfl (OR.neq rfl rfl ?_)); exact ⟨_, [], Hp.le.refl _, hs, rfl, rfl⟩, ?_⟩
                refine ⟨MF.eq _, by intro Mx H w hle hs; refine forVals_eq rfl rfl rfl ?_; refine forVals_eq rfl rfl rfl ?_; refine forVals_nil (ORg.plain (OR.pickF rfl (decide_eq_false (fun h => h rfl : ¬ ((d : Int) ≠ (d : Int)))) rfl ?_)); exact ⟨_, [], Hp.le.refl _, hs, rfl, rfl⟩, ?_⟩
                refine ⟨MF.eq _, by intro Mx H w hle hs; refine forVals_eq rfl rfl rfl ?_; refine forVals_nil (ORg.plain (OR.move rfl ?_)); exact ⟨_, [], Hp.le.refl _, hs, rfl, rfl⟩, ?_⟩
                refine ⟨MF.eq _, by intro Mx H w hle hs; refine forVals_eq rfl rfl rfl ?_; refine forVals_nil (ORg.yes rfl (decide_eq_false (fun h => h rfl : ¬ ((tot : Int) ≠ (tot : Int)))) rfl (OR.move rfl ?_)); exact ⟨_, [], Hp.le.refl _, hs, rfl, rfl⟩, ?_⟩
                refine ⟨MF.eq _, by intro Mx H w hle hs; refine forVals_eq rfl rfl rfl ?_; refine forVals_nil (ORg.yes rfl (decide_eq_false (fun h => h rfl : ¬ ((tot : Int) ≠ (tot : Int)))) rfl (OR.move rfl ?_)); exact ⟨_, [], Hp.le.refl _, hs, rfl, rfl⟩, ?_⟩
                refine ⟨MF.eq _, by intro Mx H w hle hs; refine forVals_eq rfl rfl rfl ?_; refine forVals_eq rfl rfl rfl ?_; refine forVals_nil (ORg.yes rfl (decide_eq_false (fun h => h rfl : ¬ ((tot : Int) ≠ (tot : Int)))) rfl (OR.nilCheck rfl ?_)); exact ⟨_, [], Hp.le.refl _, hs, rfl, rfl⟩, ?_⟩
                refine ⟨MF.eq _, by intro Mx H w hle hs; refine forVals_eq rfl rfl rfl ?_; refine forVals_eq rfl rfl rfl ?_; refine forVals_nil (ORg.yes rfl (decide_eq_false (fun h => h rfl : ¬ ((tot : Int) ≠ (tot : Int)))) rfl (OR.fieldAddr FA61_4 rfl ?_)); exact ⟨_, [], Hp.le.refl _, hs, rfl, rfl⟩, ?_⟩
                refine ⟨MF.eq _, by intro Mx H w hle hs; refine forVals_eq rfl rfl rfl ?_; refine forVals_eq rfl rfl rfl ?_; refine forVals_nil (ORg.yes rfl (decide_eq_false (fun h => h rfl : ¬ ((tot : Int) ≠ (tot : Int)))) rfl (OR.load T4 rfl rfl (hs.right.cellM (i := 1) rfl rfl) ?_)); exact ⟨_, [], Hp.le.refl _, hs, rfl, rfl⟩, ?_⟩
                refine ⟨MF.eq _, by intro Mx H w hle hs; refine forVals_eq rfl rfl rfl ?_; refine forVals_eq rfl rfl rfl ?_; refine forVals_eq rfl rfl rfl ?_; refine forVals_nil (ORg.yes rfl (decide_eq_false (fun h => h rfl : ¬ ((tot : Int) ≠ (tot : Int)))) rfl (OR.neqB T4.und rfl rfl ?_)); exact ⟨_, [], Hp.le.refl _, hs, rfl, rfl⟩, ?_⟩
                refine ⟨MF.eq _, by intro Mx H w hle hs; refine forVals_eq rfl rfl rfl ?_; refine forVals_eq rfl rfl rfl ?_; refine forVals_nil (ORg.plain (OR.pickF rfl (decide_eq_false (fun h => h rfl : ¬ ((tot : Int) ≠ (tot : Int)))) rfl ?_)); exact ⟨_, [], Hp.le.refl _, hs, rfl, rfl⟩, ?_⟩
                refine ⟨MF.eq _, by intro Mx H w hle hs; refine forVals_eq rfl rfl rfl ?_; refine forVals_nil (ORg.plain (OR.move rfl ?_)); exact ⟨_, [], Hp.le.refl _, hs, rfl, rfl⟩, ?_⟩
                refine ⟨MF.eq _, by intro Mx H w hle hs; refine forVals_eq rfl rfl rfl ?_; refine forVals_nil (ORg.yes rfl (bne_self_eq_false kn) rfl (OR.move rfl ?_)); exact ⟨_, [], Hp.le.refl _, hs, rfl, rfl⟩, ?_⟩
                refine ⟨MF.eq (.bool (kn && decide (tot = d))), ?_, ?_⟩
                · intro Mx H w hle2 hs; (try replace hle := hle.trans hle2); (try replace hlb := hlb.trans hle2); refine forVals_eq rfl rfl rfl ?_; refine forVals_eq rfl rfl rfl ?_
                  have hkm := (hs.mem kb _ true (List.mem_append_right _ (List.mem_cons_self ..)))
                  refine forVals_nil (ORg.yes rfl (bne_self_eq_false kn) rfl (OR.call hs body25 rfl rfl (kdone_ok kb (skD y tot kn br d) _ _ hs.toSub hkm.1 hkm.2.1) ?_))
                  clear hs; rintro _ H w hs hle1 rfl
                  exact ⟨_, [], hle1, hs, rfl, rfl⟩
                refine ⟨MF.eq _, by intro Mx H w hle hs; refine forVals_eq rfl rfl rfl ?_; refine forVals_nil (ORg.yes rfl (bne_self_eq_false kn) rfl (OR.move rfl ?_)); exact ⟨_, [], Hp.le.refl _, hs, rfl, rfl⟩, ?_⟩
                refine ⟨MF.eq (.bool (kn && decide (tot = d))), ?_, ?_⟩
                · intro Mx H w hle2 hs; (try replace hle := hle.trans hle2); (try replace hlb := hlb.trans hle2); refine forVals_eq rfl rfl rfl ?_; refine forVals_eq rfl rfl rfl ?_
                  have hkm := (hs.mem qb _ true (List.mem_append_right _ (List.mem_cons_of_mem _ (List.mem_cons_self ..))))
                  refine forVals_nil (ORg.yes rfl (bne_self_eq_false kn) rfl (OR.call hs body26 rfl rfl (done15_ok qb (skD y tot kn br d) _ _ hs.toSub hkm.1 hkm.2.1) ?_))
                  clear hs; rintro _ H w hs hle1 rfl
                  exact ⟨_, [], hle1, hs, rfl, rfl⟩
                refine ⟨MF.eq _, by intro Mx H w hle hs; refine forVals_eq rfl rfl rfl ?_; refine forVals_eq rfl rfl rfl ?_; refine forVals_eq rfl rfl rfl ?_; refine forVals_nil (ORg.yes rfl (bne_self_eq_false kn) rfl (OR.neqB T4.und rfl rfl ?_)); exact ⟨_, [], Hp.le.refl _, hs, rfl, rfl⟩, ?_⟩
                refine ⟨MF.eq _, by intro Mx H w hle hs; refine forVals_eq rfl rfl rfl ?_; refine forVals_eq rfl rfl rfl ?_; refine forVals_nil (ORg.plain (OR.pickF rfl (bne_self_eq_false kn) rfl ?_)); exact ⟨_, [], Hp.le.refl _, hs, rfl, rfl⟩, ?_⟩
                refine ⟨MF.eq _, by intro Mx H w hle hs; refine forVals_eq rfl rfl rfl ?_; refine forVals_nil (ORg.plain (OR.move rfl ?_)); exact ⟨_, [], Hp.le.refl _, hs, rfl, rfl⟩, ?_⟩
                refine ⟨MF.eq _, by intro Mx H w hle hs; refine forVals_eq rfl rfl rfl ?_; refine forVals_nil (ORg.yes rfl (bne_self_eq_false (kn && decide (tot = d))) rfl (OR.move rfl ?_)); exact ⟨_, [], Hp.le.refl _, hs, rfl, rfl⟩, ?_⟩
                refine ⟨MF.eq (.bool br), ?_, ?_⟩
                · intro Mx H w hle2 hs; (try replace hle := hle.trans hle2); (try replace hlb := hlb.trans hle2); refine forVals_eq rfl rfl rfl ?_; refine forVals_eq rfl rfl rfl ?_
                  have hkm := (hs.mem kb _ true (List.mem_append_right _ (List.mem_cons_self ..)))
                  refine forVals_nil (ORg.yes rfl (bne_self_eq_false (kn && decide (tot = d))) rfl (OR.call hs body27 rfl rfl (kbroken_ok kb (skD y tot kn br d) _ _ hs.toSub hkm.1 hkm.2.1) ?_))
                  clear hs; rintro _ H w hs hle1 rfl
                  exact ⟨_, [], hle1, hs, rfl, rfl⟩
                refine ⟨MF.eq _, by intro Mx H w hle hs; refine forVals_eq rfl rfl rfl ?_; refine forVals_nil (ORg.yes rfl (bne_self_eq_false (kn && decide (tot = d))) rfl (OR.move rfl ?_)); exact ⟨_, [], Hp.le.refl _, hs, rfl, rfl⟩, ?_⟩
                refine ⟨MF.eq _, by intro Mx H w hle hs; refine forVals_eq rfl rfl rfl ?_; refine forVals_eq rfl rfl rfl ?_; refine forVals_nil (ORg.yes rfl (bne_self_eq_false (kn && decide (tot = d))) rfl (OR.nilCheck rfl ?_)); exact ⟨_, [], Hp.le.refl _, hs, rfl, rfl⟩, ?_⟩
                refine ⟨MF.eq _, by intro Mx H w hle hs; refine forVals_eq rfl rfl rfl ?_; refine forVals_eq rfl rfl rfl ?_; refine forVals_nil (ORg.yes rfl (bne_self_eq_false (kn && decide (tot = d))) rfl (OR.fieldAddr FA61_5 rfl ?_)); exact ⟨_, [], Hp.le.refl _, hs, rfl, rfl⟩, ?_⟩
                refine ⟨MF.eq _, by intro Mx H w hle hs; refine forVals_eq rfl rfl rfl ?_; refine forVals_eq rfl rfl rfl ?_; refine forVals_nil (ORg.yes rfl (bne_self_eq_false (kn && decide (tot = d))) rfl (OR.load T4 rfl rfl (hs.right.cellM (i := 1) rfl rfl) ?_)); exact ⟨_, [], Hp.le.refl _, hs, rfl, rfl⟩, ?_⟩
                refine ⟨MF.eq _, by intro Mx H w hle hs; refine forVals_eq rfl rfl rfl ?_; refine forVals_eq rfl rfl rfl ?_; refine forVals_eq rfl rfl rfl ?_; refine forVals_nil (ORg.yes rfl (bne_self_eq_false (kn && decide (tot = d))) rfl (OR.neqB T4.und rfl rfl ?_)); exact ⟨_, [], Hp.le.refl _, hs, rfl, rfl⟩, ?_⟩
                intro H w hle2; (try replace hle := hle.trans hle2); (try replace hlb := hlb.trans hle2)
                refine forAllVals_eq rfl ?_
                refine forAllVals_eq rfl ?_
                refine forAllVals_eq rfl ?_
                refine forAllVals_eq rfl ?_
                refine forAllVals_eq rfl ?_
                refine forAllVals_eq rfl ?_
                refine forAllVals_eq rfl ?_
                refine forAllVals_eq rfl ?_
                refine forAllVals_eq rfl ?_
                refine forAllVals_eq rfl ?_
                refine forAllVals_eq rfl ?_
                refine forAllVals_eq rfl ?_
                refine forAllVals_eq rfl ?_
                refine forAllVals_eq rfl ?_
                refine forAllVals_eq rfl ?_
                refine forAllVals_eq rfl ?_
                refine forAllVals_eq rfl ?_
                refine forAllVals_eq rfl ?_
                refine forAllVals_eq rfl ?_
                refine forAllVals_eq rfl ?_
                refine forAllVals_eq rfl ?_
                refine forAllVals_eq rfl ?_
                refine forAllVals_eq rfl ?_
                refine forAllVals_eq rfl ?_
                refine forAllVals_eq rfl ?_
                refine forAllVals_eq rfl ?_
                refine forAllVals_eq rfl ?_
                refine forAllVals_eq rfl ?_
                refine forAllVals_eq rfl ?_
                refine forAllVals_eq rfl ?_
                refine forAllVals_eq rfl ?_
                refine forAllVals_eq rfl ?_
                refine forAllVals_eq rfl ?_
                refine forAllVals_eq rfl ?_
                refine forAllVals_eq rfl ?_
                refine forAllVals_eq rfl ?_
                refine forAllVals_eq rfl ?_
                refine forAllVals_eq rfl ?_
                refine forAllVals_nil ?_; (try clear hs); intro hs
                refine WO.step rfl (OR.pickF rfl (bne_self_eq_false (kn && decide (tot = d))) rfl (WO.done (WX.seq ?_)))
                refine WC.no rfl (bne_self_eq_false br) ?_
                refine WC.skip (WX.block (WX.seq (WC.region (WO.step rfl (OR.addI rfl rfl (by omega) (by omega) (WO.step rfl (OR.move rfl ?_)))))))
                refine WO.done ?_
                refine WX.again (i + 1) ⟨rfl, rfl, rfl, rfl, rfl, rfl, rfl,  trivial⟩ ?_ ?_
                · exact ⟨hi', H, y, tot, kn, br, d, l, vL, L, hI.mono hle2, hs⟩
                · omega
          · refine WC.exit (WX.seq_exit (WX.loop_exit (WX.block_hit (WX.seq (WC.seq (WC.region (WO.step rfl ?_)))))))
            refine OR.assign rfl (WO.done (WX.seq (WC.ret ?_)))
            refine WX.ret1 rfl rfl ?_
            exact .mk hs rfl
        · rw [if_neg hr] at hk1
          obtain ⟨_, rfl, rfl⟩ := hk1
          replace hs : HS [] H0 w0 H [(qb, q15Obj ⟨g.toNat, s.toNat, dl, 0, false, false⟩, true), (kb, sinkObj ⟨g.toNat, s.toNat, dl, 0, false, false⟩, true), (g1, .cells #[.int .i64 g, .int .i64 s, .int .i64 wd, .int .u64 (dl : Int)] 24, true)] w := hs
          refine WO.step rfl (OR.move rfl (WO.step rfl (OR.extract rfl rfl (WO.step rfl (OR.extract rfl rfl (WO.step rfl (OR.assign rfl ?_)))))))
          refine WO.step rfl (OR.assign rfl (WO.done (WX.seq (WC.seq (WC.region (WO.step rfl (OR.fieldAddr FA24_0 rfl ?_)))))))
          refine WO.step rfl (OR.load T3 rfl rfl (hs.cellM (i := 2) rfl rfl) (WO.step rfl (OR.fieldAddr FA24_1 rfl (WO.step rfl (OR.load T3 rfl rfl (hs.cellM (i := 2) rfl rfl) (WO.step rfl (OR.fieldAddr FA24_2 rfl ?_)))))))
          refine WO.step rfl (OR.load T3 rfl rfl (hs.cellM (i := 2) rfl rfl) ?_)
          refine WO.step rfl (OR.callX (Mx := []) hs body13 rfl rfl (new14_ok g s wd _ _ hs.toSub) rfl rfl ?_)
          clear hs; rintro v1 H M1 w hs hle1 hnew hk1; replace hle := hle.trans hle1; (try replace hlb := hlb.trans hle1)
          rw [if_neg hr] at hk1
          obtain ⟨rfl, rfl⟩ := hk1
          replace hs : HS [] H0 w0 H [(qb, q15Obj ⟨g.toNat, s.toNat, dl, 0, false, false⟩, true), (kb, sinkObj ⟨g.toNat, s.toNat, dl, 0, false, false⟩, true), (g1, .cells #[.int .i64 g, .int .i64 s, .int .i64 wd, .int .u64 (dl : Int)] 24, true)] w := hs
          refine WO.step rfl (OR.move rfl (WO.step rfl (OR.extract rfl rfl (WO.step rfl (OR.extract rfl rfl (WO.step rfl (OR.assign rfl ?_)))))))
          refine WO.step rfl (OR.assign rfl (WO.done (WX.seq (WC.seq (WC.seq (WC.region (WO.step rfl ?_)))))))
          refine OR.move rfl (WO.step rfl (OR.move rfl (WO.step rfl (OR.neq rfl rfl (WO.step rfl (OR.move rfl ?_))))))
          refine WO.guardYes rfl rfl rfl rfl (OR.move rfl (WO.guardYes rfl rfl rfl rfl (OR.eqlNilP T27.und rfl rfl (WO.guardYes rfl rfl rfl rfl (OR.move rfl (WO.guardYes rfl rfl rfl rfl (OR.eqlNilP T31.und rfl rfl ?_)))))))
          refine WO.guardYes rfl rfl rfl rfl (OR.neqB T4.und rfl rfl (WO.step rfl (OR.pickF rfl rfl rfl (WO.step rfl (OR.move rfl ?_)))))
          refine WO.guardYes rfl rfl rfl rfl (OR.move rfl (WO.guardYes rfl rfl rfl rfl (OR.move rfl (WO.guardYes rfl rfl rfl rfl (OR.neq rfl rfl (WO.step rfl (OR.pickF rfl rfl rfl ?_)))))))
          refine WO.step rfl (OR.move rfl ?_)
          refine WO.guardYes rfl rfl rfl rfl (OR.move rfl (WO.guardYes rfl rfl rfl rfl (OR.eqlNilP T34.und rfl rfl (WO.guardYes rfl rfl rfl rfl (OR.move rfl (WO.guardYes rfl rfl rfl rfl (OR.eqlNilP T37.und rfl rfl ?_)))))))
          refine WO.guardYes rfl rfl rfl rfl (OR.neqB T4.und rfl rfl (WO.step rfl (OR.pickF rfl rfl rfl (WO.done (WX.seq ?_)))))
          refine WC.no rfl rfl ?_
          refine WC.skip (WX.seq (WC.seq (WC.seq (WC.region (WO.step rfl (OR.move rfl (WO.step rfl ?_)))))))
          refine OR.eqlNilP T31.und rfl rfl (WO.step rfl (OR.move rfl ?_))
          refine WO.guardYes rfl rfl rfl rfl (OR.move rfl (WO.guardYes rfl rfl rfl rfl (OR.eqlNilP T37.und rfl rfl (WO.step rfl (OR.pickF rfl rfl rfl (WO.done (WX.seq ?_)))))))
          refine WC.yes rfl rfl ?_
          refine WC.seq (WC.region (WO.step rfl (OR.move rfl ?_)))
          refine WO.step rfl (OR.call hs body14 rfl rfl (krel_nilr kb ⟨g.toNat, s.toNat, dl, 0, false, false⟩ _ _ hs.toSub (hs.blk (i := 1) rfl) (hs.nh (i := 1) rfl) (by have := hk.1.1; show 1 ≤ g.toNat; omega)) ?_)
          clear hs; rintro _ H w hs hle1 rfl; replace hle := hle.trans hle1; (try replace hlb := hlb.trans hle1)
          refine WO.step rfl (OR.move rfl (WO.step rfl (OR.extract rfl rfl (WO.step rfl (OR.extract rfl rfl (WO.step rfl (OR.assign rfl ?_)))))))
          refine WO.step rfl (OR.assign rfl (WO.done (WX.seq (WC.seq (WC.region (WO.step rfl (OR.move rfl ?_)))))))
          refine WO.step rfl (OR.eql rfl rfl (WO.step rfl (OR.assign rfl (WO.done (WX.seq (WC.ret (WX.seq_ret ?_)))))))
          refine WX.ret1 rfl rfl ?_
          exact .mk hs rfl
      · rw [if_neg hk] at hk1
        obtain ⟨rfl, rfl⟩ := hk1
        replace hs : HS [] H0 w0 H [(g1, .cells #[.int .i64 g, .int .i64 s, .int .i64 wd, .int .u64 (dl : Int)] 24, true)] w := hs
        refine WO.step rfl (OR.move rfl (WO.step rfl (OR.extract rfl rfl (WO.step rfl (OR.extract rfl rfl (WO.step rfl (OR.assign rfl ?_)))))))
        refine WO.step rfl (OR.assign rfl (WO.done (WX.seq (WC.seq (WC.region (WO.step rfl (OR.fieldAddr FA24_0 rfl ?_)))))))
        refine WO.step rfl (OR.load T3 rfl rfl (hs.cellM (i := 0) rfl rfl) (WO.step rfl (OR.fieldAddr FA24_1 rfl (WO.step rfl (OR.load T3 rfl rfl (hs.cellM (i := 0) rfl rfl) (WO.step rfl (OR.fieldAddr FA24_3 rfl ?_)))))))
        refine WO.step rfl (OR.load T22 rfl rfl (hs.cellM (i := 0) rfl rfl) ?_)
        refine WO.step rfl (OR.callX (Mx := []) hs body11 rfl rfl (new15_ok g s dl _ _ hs.toSub) rfl rfl ?_)
        clear hs; rintro v1 H M1 w hs hle1 hnew hk1; replace hle := hle.trans hle1; (try replace hlb := hlb.trans hle1)
        rw [if_neg hk] at hk1
        obtain ⟨rfl, rfl⟩ := hk1
        replace hs : HS [] H0 w0 H [(g1, .cells #[.int .i64 g, .int .i64 s, .int .i64 wd, .int .u64 (dl : Int)] 24, true)] w := hs
        refine WO.step rfl (OR.move rfl (WO.step rfl (OR.extract rfl rfl (WO.step rfl (OR.extract rfl rfl (WO.step rfl (OR.assign rfl ?_)))))))
        refine WO.step rfl (OR.assign rfl (WO.done (WX.seq (WC.seq (WC.region (WO.step rfl (OR.fieldAddr FA24_0 rfl ?_)))))))
        refine WO.step rfl (OR.load T3 rfl rfl (hs.cellM (i := 0) rfl rfl) (WO.step rfl (OR.fieldAddr FA24_1 rfl (WO.step rfl (OR.load T3 rfl rfl (hs.cellM (i := 0) rfl rfl) (WO.step rfl (OR.fieldAddr FA24_2 rfl ?_)))))))
        refine WO.step rfl (OR.load T3 rfl rfl (hs.cellM (i := 0) rfl rfl) ?_)
        refine WO.step rfl (OR.callX (Mx := []) hs body12 rfl rfl (rnewI_ok g s wd _ _ hs.toSub) rfl rfl ?_)
        clear hs; rintro v1 H M1 w hs hle1 hnew hk1; replace hle := hle.trans hle1; (try replace hlb := hlb.trans hle1)
        by_cases hr : goodR g s wd
        · skip
          rw [if_pos hr] at hk1
          obtain ⟨_, rb, wb, rfl, rfl⟩ := hk1
          replace hs : HS [] H0 w0 H [(g1, .cells #[.int .i64 g, .int .i64 s, .int .i64 wd, .int .u64 (dl : Int)] 24, true)] w := hs.sublist (List.sublist_append_right _ _)
          refine WO.step rfl (OR.move rfl (WO.step rfl (OR.extract rfl rfl (WO.step rfl (OR.extract rfl rfl (WO.step rfl (OR.assign rfl ?_)))))))
          refine WO.step rfl (OR.assign rfl (WO.done (WX.seq (WC.seq (WC.region (WO.step rfl (OR.fieldAddr FA24_0 rfl ?_)))))))
          refine WO.step rfl (OR.load T3 rfl rfl (hs.cellM (i := 0) rfl rfl) (WO.step rfl (OR.fieldAddr FA24_1 rfl (WO.step rfl (OR.load T3 rfl rfl (hs.cellM (i := 0) rfl rfl) (WO.step rfl (OR.fieldAddr FA24_2 rfl ?_)))))))
          refine WO.step rfl (OR.load T3 rfl rfl (hs.cellM (i := 0) rfl rfl) ?_)
          refine WO.step rfl (OR.callX (Mx := []) hs body13 rfl rfl (new14_ok g s wd _ _ hs.toSub) rfl rfl ?_)
          clear hs; rintro v1 H M1 w hs hle1 hnew hk1; replace hle := hle.trans hle1; (try replace hlb := hlb.trans hle1)
          rw [if_pos hr] at hk1
          obtain ⟨ob, wc, rfl, rfl⟩ := hk1
          replace hs : HS [] H0 w0 H [(g1, .cells #[.int .i64 g, .int .i64 s, .int .i64 wd, .int .u64 (dl : Int)] 24, true)] w := hs.sublist (List.sublist_append_right _ _)
          refine WO.step rfl (OR.move rfl (WO.step rfl (OR.extract rfl rfl (WO.step rfl (OR.extract rfl rfl (WO.step rfl (OR.assign rfl ?_)))))))
          refine WO.step rfl (OR.assign rfl (WO.done (WX.seq (WC.seq (WC.seq (WC.region (WO.step rfl ?_)))))))
          refine OR.move rfl (WO.step rfl (OR.move rfl (WO.step rfl (OR.neq rfl rfl (WO.step rfl (OR.move rfl ?_))))))
          refine WO.guardYes rfl rfl rfl rfl (OR.move rfl (WO.guardYes rfl rfl rfl rfl (OR.eqlNilP T27.und rfl rfl (WO.guardYes rfl rfl rfl rfl (OR.move rfl (WO.guardYes rfl rfl rfl rfl (OR.eqlNilP T31.und rfl rfl ?_)))))))
          refine WO.guardYes rfl rfl rfl rfl (OR.neqB T4.und rfl rfl (WO.step rfl (OR.pickF rfl rfl rfl (WO.step rfl (OR.move rfl ?_)))))
          refine WO.guardYes rfl rfl rfl rfl (OR.move rfl (WO.guardYes rfl rfl rfl rfl (OR.move rfl (WO.guardYes rfl rfl rfl rfl (OR.neq rfl rfl (WO.step rfl (OR.pickF rfl rfl rfl ?_)))))))
          refine WO.step rfl (OR.move rfl ?_)
          refine WO.guardYes rfl rfl rfl rfl (OR.move rfl (WO.guardYes rfl rfl rfl rfl (OR.eqlNilP T34.und rfl rfl (WO.guardYes rfl rfl rfl rfl (OR.move rfl (WO.guardYes rfl rfl rfl rfl (OR.eqlNilP T37.und rfl rfl ?_)))))))
          refine WO.guardYes rfl rfl rfl rfl (OR.neqB T4.und rfl rfl (WO.step rfl (OR.pickF rfl rfl rfl (WO.done (WX.seq ?_)))))
          refine WC.no rfl rfl ?_
          refine WC.skip (WX.seq (WC.seq (WC.seq (WC.region (WO.step rfl (OR.move rfl (WO.step rfl ?_)))))))
          refine OR.eqlNilP T31.und rfl rfl (WO.step rfl (OR.move rfl ?_))
          refine WO.guardNo rfl rfl rfl rfl (WO.guardNo rfl rfl rfl rfl (WO.step rfl (OR.pickT rfl rfl rfl (WO.done (WX.seq (WC.yes rfl rfl (WC.seq ?_)))))))
          refine WC.region (WO.step rfl (OR.move rfl ?_))
          refine WO.step rfl (OR.call hs body14 rfl rfl (krel_nil _ _ _ hs.toSub) ?_)
          clear hs; rintro _ H w hs hle1 rfl; replace hle := hle.trans hle1; (try replace hlb := hlb.trans hle1)
          refine WO.step rfl (OR.move rfl (WO.step rfl (OR.extract rfl rfl (WO.step rfl (OR.extract rfl rfl (WO.step rfl (OR.assign rfl ?_)))))))
          refine WO.step rfl (OR.assign rfl (WO.done (WX.seq (WC.seq (WC.region (WO.step rfl (OR.move rfl ?_)))))))
          refine WO.step rfl (OR.eql rfl rfl (WO.step rfl (OR.assign rfl (WO.done (WX.seq (WC.ret (WX.seq_ret ?_)))))))
          refine WX.ret1 rfl rfl ?_
          exact .mk hs rfl
        · skip
          rw [if_neg hr] at hk1
          obtain ⟨_, rfl, rfl⟩ := hk1
          replace hs : HS [] H0 w0 H [(g1, .cells #[.int .i64 g, .int .i64 s, .int .i64 wd, .int .u64 (dl : Int)] 24, true)] w := hs
          refine WO.step rfl (OR.move rfl (WO.step rfl (OR.extract rfl rfl (WO.step rfl (OR.extract rfl rfl (WO.step rfl (OR.assign rfl ?_)))))))
          refine WO.step rfl (OR.assign rfl (WO.done (WX.seq (WC.seq (WC.region (WO.step rfl (OR.fieldAddr FA24_0 rfl ?_)))))))
          refine WO.step rfl (OR.load T3 rfl rfl (hs.cellM (i := 0) rfl rfl) (WO.step rfl (OR.fieldAddr FA24_1 rfl (WO.step rfl (OR.load T3 rfl rfl (hs.cellM (i := 0) rfl rfl) (WO.step rfl (OR.fieldAddr FA24_2 rfl ?_)))))))
          refine WO.step rfl (OR.load T3 rfl rfl (hs.cellM (i := 0) rfl rfl) ?_)
          refine WO.step rfl (OR.callX (Mx := []) hs body13 rfl rfl (new14_ok g s wd _ _ hs.toSub) rfl rfl ?_)
          clear hs; rintro v1 H M1 w hs hle1 hnew hk1; replace hle := hle.trans hle1; (try replace hlb := hlb.trans hle1)
          rw [if_neg hr] at hk1
          obtain ⟨rfl, rfl⟩ := hk1
          replace hs : HS [] H0 w0 H [(g1, .cells #[.int .i64 g, .int .i64 s, .int .i64 wd, .int .u64 (dl : Int)] 24, true)] w := hs
          refine WO.step rfl (OR.move rfl (WO.step rfl (OR.extract rfl rfl (WO.step rfl (OR.extract rfl rfl (WO.step rfl (OR.assign rfl ?_)))))))
          refine WO.step rfl (OR.assign rfl (WO.done (WX.seq (WC.seq (WC.seq (WC.region (WO.step rfl ?_)))))))
          refine OR.move rfl (WO.step rfl (OR.move rfl (WO.step rfl (OR.neq rfl rfl (WO.step rfl (OR.move rfl ?_))))))
          refine WO.guardYes rfl rfl rfl rfl (OR.move rfl (WO.guardYes rfl rfl rfl rfl (OR.eqlNilP T27.und rfl rfl (WO.guardYes rfl rfl rfl rfl (OR.move rfl (WO.guardYes rfl rfl rfl rfl (OR.eqlNilP T31.und rfl rfl ?_)))))))
          refine WO.guardYes rfl rfl rfl rfl (OR.neqB T4.und rfl rfl (WO.step rfl (OR.pickF rfl rfl rfl (WO.step rfl (OR.move rfl ?_)))))
          refine WO.guardYes rfl rfl rfl rfl (OR.move rfl (WO.guardYes rfl rfl rfl rfl (OR.move rfl (WO.guardYes rfl rfl rfl rfl (OR.neq rfl rfl (WO.step rfl (OR.pickF rfl rfl rfl ?_)))))))
          refine WO.step rfl (OR.move rfl ?_)
          refine WO.guardYes rfl rfl rfl rfl (OR.move rfl (WO.guardYes rfl rfl rfl rfl (OR.eqlNilP T34.und rfl rfl (WO.guardYes rfl rfl rfl rfl (OR.move rfl (WO.guardYes rfl rfl rfl rfl (OR.eqlNilP T37.und rfl rfl ?_)))))))
          refine WO.guardYes rfl rfl rfl rfl (OR.neqB T4.und rfl rfl (WO.step rfl (OR.pickF rfl rfl rfl (WO.done (WX.seq ?_)))))
          refine WC.no rfl rfl ?_
          refine WC.skip (WX.seq (WC.seq (WC.seq (WC.region (WO.step rfl (OR.move rfl (WO.step rfl ?_)))))))
          refine OR.eqlNilP T31.und rfl rfl (WO.step rfl (OR.move rfl ?_))
          refine WO.guardNo rfl rfl rfl rfl (WO.guardNo rfl rfl rfl rfl (WO.step rfl (OR.pickT rfl rfl rfl (WO.done (WX.seq (WC.yes rfl rfl (WC.seq ?_)))))))
          refine WC.region (WO.step rfl (OR.move rfl ?_))
          refine WO.step rfl (OR.call hs body14 rfl rfl (krel_nil _ _ _ hs.toSub) ?_)
          clear hs; rintro _ H w hs hle1 rfl; replace hle := hle.trans hle1; (try replace hlb := hlb.trans hle1)
          refine WO.step rfl (OR.move rfl (WO.step rfl (OR.extract rfl rfl (WO.step rfl (OR.extract rfl rfl (WO.step rfl (OR.assign rfl ?_)))))))
          refine WO.step rfl (OR.assign rfl (WO.done (WX.seq (WC.seq (WC.region (WO.step rfl (OR.move rfl ?_)))))))
          refine WO.step rfl (OR.eql rfl rfl (WO.step rfl (OR.assign rfl (WO.done (WX.seq (WC.ret (WX.seq_ret ?_)))))))
          refine WX.ret1 rfl rfl ?_
          exact .mk hs rfl
end Go.Bw
