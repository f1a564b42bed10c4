/- The document's own basis, walked: New, Insert, Combine. -/
import Derived.Test.YtbgdgmilcojlbaaRefB
namespace Go.Bw
set_option linter.unusedVariables false
set_option linter.unusedSimpArgs false
open Go.Proofs

theorem rows_zero (m : Nat) : ((Array.range (m * 2)).map ((Value.agg #[.slice none 0 0, .slice none 0 0]).cells[· % (Value.agg #[.slice none 0 0, .slice none 0 0]).cells.size]!)) = (List.replicate (m * 2) (Value.slice none 0 0)).toArray := by
  apply Array.ext
  · simp
  · intro i h1 h2
    simp only [Array.getElem_map, Array.getElem_range, List.getElem_toArray, List.getElem_replicate]
    have : (Value.agg #[.slice none 0 0, .slice none 0 0]).cells = #[.slice none 0 0, .slice none 0 0] := rfl
    rw [this]
    rcases Nat.mod_two_eq_zero_or_one i with h | h
    · show (#[Value.slice none 0 0, Value.slice none 0 0] : Array Value)[i % 2]! = _
      rw [h]; rfl
    · show (#[Value.slice none 0 0, Value.slice none 0 0] : Array Value)[i % 2]! = _
      rw [h]; rfl

/-- Nothing yet. -/
theorem RefC.zero (H : Hp) (g : Nat) : RefC H g (fun _ => none) (List.replicate g (.bool false)).toArray (List.replicate (g * 2) (Value.slice none 0 0)).toArray := by
  refine ⟨by simp, by simp, fun i hi => ⟨?_, .slice none 0 0, .slice none 0 0, ?_, ?_, fun r hr => by cases hr⟩⟩
  · rw [List.toList_toArray, List.getElem?_replicate, if_pos hi]; rfl
  · rw [List.toList_toArray, List.getElem?_replicate, if_pos (by omega)]
  · rw [List.toList_toArray, List.getElem?_replicate, if_pos (by omega)]
theorem upto_zero (g : Nat) : upto (fun _ => none) g = [] := by
  unfold upto
  rw [List.filterMap_eq_nil_iff]
  intro _ _
  rfl

set_option maxRecDepth 20000 in
set_option maxHeartbeats 2000000 in
/-- What New makes: the basis's block, and those of its two slices. -/
theorem refNew_ok (g s : Int) (H0 : Hp) (w0 : World) (h0 : Sub H0 w0) :
    Calls Try.prog 38 #[.int .i64 g, .int .i64 s] w0 (Ret [] H0 w0 fun v H' M' => if 1 ≤ g ∧ g ≤ 255 ∧ 1 ≤ s ∧ s ≤ 65535 then
      ∃ rb gi gr ci cr, v = .tuple #[ptr rb, .int .i64 0] ∧ w0.heap.size ≤ rb ∧ w0.heap.size ≤ gi ∧ w0.heap.size ≤ gr ∧ M' = [(rb, refObj g.toNat s.toNat gi gr, true), (gi, .cells ci 4, true), (gr, .cells cr 35, true)] ∧ RefC H' g.toNat (fun _ => none) ci cr ∧ Hp.le H0 H' else v = .tuple #[.pointer none, .int .i64 1] ∧ M' = []) := by
  have hs := HS.init h0
  have hle := Hp.le.refl H0
  by_cases hall : 1 ≤ g ∧ g ≤ 255 ∧ 1 ≤ s ∧ s ≤ 65535
  · simp only [if_pos hall]
    obtain ⟨h1, h2, h3, h4⟩ := hall
    obtain ⟨g', rfl⟩ := Int.eq_ofNat_of_zero_le (by omega : 0 ≤ g)
    obtain ⟨s', rfl⟩ := Int.eq_ofNat_of_zero_le (by omega : 0 ≤ s)
    refine Calls.enter (args := [.int .i64 (g' : Int), .int .i64 (s' : Int)]) Try.func38 rfl Try.ntmps38 rfl ?_
    refine WC.seq (WC.region (WO.step rfl (OR.assign rfl (WO.step rfl (OR.assign rfl (WO.done (WX.seq ?_)))))))
    refine WC.seq (WC.seq (WC.region (WO.step rfl (OR.move rfl (WO.step rfl (OR.lss rfl rfl (WO.step rfl ?_)))))))
    refine OR.move rfl ?_
    refine WO.guardYes rfl (decide_eq_false (by omega : ¬ (g' : Int) < 1)) rfl rfl (OR.move rfl (WO.guardYes rfl (decide_eq_false (by omega : ¬ (g' : Int) < 1)) rfl rfl (OR.gtr rfl rfl (WO.step rfl (OR.pickF rfl (decide_eq_false (by omega : ¬ (g' : Int) < 1)) rfl (WO.step rfl (OR.move rfl ?_)))))))
    refine WO.guardYes rfl (decide_eq_false (by omega : ¬ (g' : Int) > 255)) rfl rfl (OR.move rfl (WO.guardYes rfl (decide_eq_false (by omega : ¬ (g' : Int) > 255)) rfl rfl (OR.lss rfl rfl (WO.step rfl (OR.pickF rfl (decide_eq_false (by omega : ¬ (g' : Int) > 255)) rfl (WO.step rfl (OR.move rfl ?_)))))))
    refine WO.guardYes rfl (decide_eq_false (by omega : ¬ (s' : Int) < 1)) rfl rfl (OR.move rfl (WO.guardYes rfl (decide_eq_false (by omega : ¬ (s' : Int) < 1)) rfl rfl (OR.gtr rfl rfl (WO.step rfl (OR.pickF rfl (decide_eq_false (by omega : ¬ (s' : Int) < 1)) rfl (WO.done (WX.seq ?_)))))))
    refine WC.no rfl (decide_eq_false (by omega : ¬ (s' : Int) > 65535)) ?_
    refine WC.skip (WX.seq (WC.seq ?_))
    refine WC.sub [(0, .int .i64 (g' : Int)), (1, .int .i64 (s' : Int))] ⟨rfl, rfl,  trivial⟩ ?_
    refine WC.draw 10 mixed hs (by kernel_rfl) ?_
    refine ⟨MF.eq _, by intro Mx H w hle hs; refine forVals_nil (ORg.plain (OR.move rfl ?_)); exact ⟨_, [], Hp.le.refl _, hs, rfl, rfl⟩, ?_⟩
    refine ⟨MF.eq _, by intro Mx H w hle hs; refine forVals_nil (ORg.plain (OR.move rfl ?_)); exact ⟨_, [], Hp.le.refl _, hs, rfl, rfl⟩, ?_⟩
    refine ⟨MF.eq _, by intro Mx H w hle hs; refine forVals_nil (ORg.plain (OR.move rfl ?_)); exact ⟨_, [], Hp.le.refl _, hs, rfl, rfl⟩, ?_⟩
    refine ⟨MF.of (fun v H => ∃ q, w0.heap.size ≤ q ∧ v = .slice (some ⟨q, 0, none⟩) g' g' ∧ H q = some (.cells (List.replicate g' (.bool false)).toArray 4)) (fun _ _ _ hle ⟨q, h1, h2, h3⟩ => ⟨q, h1, h2, hle _ _ h3⟩), ?_, ?_⟩
    · intro Mx H w hle2 hs; (try replace hle := hle.trans hle2); (try replace hlb := hlb.trans hle2); refine forVals_eq rfl rfl rfl ?_
      refine forVals_nil (ORg.plain (OR.make1 (m := g') hs T163.und T4 rfl rfl rfl (by omega) (by omega) ?_))
      intro q1 w hq1 hs
      obtain ⟨H, hle1, hp, hs⟩ := hs.pub1 hq1
      exact ⟨_, [], hle1, hs, ⟨q1, hq1, rfl, hp⟩, rfl⟩
    refine ⟨MF.eq _, by intro Mx H w hle hs; refine forVals_nil (ORg.plain (OR.move rfl ?_)); exact ⟨_, [], Hp.le.refl _, hs, rfl, rfl⟩, ?_⟩
    refine ⟨MF.of (fun v H => ∃ q, w0.heap.size ≤ q ∧ v = .slice (some ⟨q, 0, none⟩) g' g' ∧ H q = some (.cells (List.replicate (g' * 2) (Value.slice none 0 0)).toArray 35)) (fun _ _ _ hle ⟨q, h1, h2, h3⟩ => ⟨q, h1, h2, hle _ _ h3⟩), ?_, ?_⟩
    · intro Mx H w hle2 hs; (try replace hle := hle.trans hle2); (try replace hlb := hlb.trans hle2); refine forVals_eq rfl rfl rfl ?_
      refine forVals_nil (ORg.plain (OR.makeSlice (m := g') hs T26.und T35 rfl (by omega) rfl rfl (by omega) (by omega) ?_))
      intro q1 w hq1 hs
      rw [rows_zero] at hs
      obtain ⟨H, hle1, hp, hs⟩ := hs.pub1 hq1
      exact ⟨_, [], hle1, hs, ⟨q1, hq1, rfl, hp⟩, rfl⟩
    refine ⟨MF.of (fun v H => ∃ q r, w0.heap.size ≤ q ∧ w0.heap.size ≤ r ∧ v = .agg #[.int .i64 (g' : Int), .int .i64 (s' : Int), .slice (some ⟨q, 0, none⟩) g' g', .slice (some ⟨r, 0, none⟩) g' g'] ∧ H q = some (.cells (List.replicate g' (.bool false)).toArray 4) ∧ H r = some (.cells (List.replicate (g' * 2) (Value.slice none 0 0)).toArray 35)) (fun _ _ _ hle ⟨q, r, h1, h2, h3, h4, h5⟩ => ⟨q, r, h1, h2, h3, hle _ _ h4, hle _ _ h5⟩), ?_, ?_⟩
    · intro Mx H w hle2 hs; (try replace hle := hle.trans hle2); (try replace hlb := hlb.trans hle2); refine forVals_eq rfl rfl rfl ?_; refine forVals_eq rfl rfl rfl ?_; refine forVals_of rfl rfl rfl ?_; intro v3 h3; refine forVals_of rfl rfl rfl ?_; intro v5 h5
      obtain ⟨q, hq1, rfl, hq⟩ := h3
      obtain ⟨r, hr1, rfl, hr⟩ := h5
      refine forVals_nil (ORg.plain (OR.buildAll T165 rfl rfl PL165 rfl rfl ?_))
      exact ⟨_, [], Hp.le.refl _, hs, ⟨q, r, hq1, hr1, rfl, hq, hr⟩, rfl⟩
    refine ⟨MF.of (fun v H => ∃ p q r, w0.heap.size ≤ p ∧ w0.heap.size ≤ q ∧ w0.heap.size ≤ r ∧ v = ptr p ∧ H p = some (refObj g' s' q r) ∧ H q = some (.cells (List.replicate g' (.bool false)).toArray 4) ∧ H r = some (.cells (List.replicate (g' * 2) (Value.slice none 0 0)).toArray 35)) (fun _ _ _ hle ⟨p, q, r, h1, h2, h3, h4, h5, h6, h7⟩ => ⟨p, q, r, h1, h2, h3, h4, hle _ _ h5, hle _ _ h6, hle _ _ h7⟩), ?_, ?_⟩
    · intro Mx H w hle2 hs; (try replace hle := hle.trans hle2); (try replace hlb := hlb.trans hle2); refine forVals_of rfl rfl rfl ?_; intro v6 h6
      obtain ⟨q, r, hq1, hr1, rfl, hq, hr⟩ := h6
      refine forVals_nil (ORg.plain (OR.box hs rfl ?_))
      intro p w hp1 hs
      obtain ⟨H, hle1, hp, hs⟩ := hs.pub1 hp1
      exact ⟨_, [], hle1, hs, ⟨p, q, r, hp1, hq1, hr1, rfl, hp, hle1 _ _ hq, hle1 _ _ hr⟩, rfl⟩
    refine ⟨MF.of (fun v H => ∃ p q r, w0.heap.size ≤ p ∧ w0.heap.size ≤ q ∧ w0.heap.size ≤ r ∧ v = ptr p ∧ H p = some (refObj g' s' q r) ∧ H q = some (.cells (List.replicate g' (.bool false)).toArray 4) ∧ H r = some (.cells (List.replicate (g' * 2) (Value.slice none 0 0)).toArray 35)) (fun _ _ _ hle ⟨p, q, r, h1, h2, h3, h4, h5, h6, h7⟩ => ⟨p, q, r, h1, h2, h3, h4, hle _ _ h5, hle _ _ h6, hle _ _ h7⟩), ?_, ?_⟩
    · intro Mx H w hle2 hs; (try replace hle := hle.trans hle2); (try replace hlb := hlb.trans hle2); refine forVals_of rfl rfl rfl ?_; intro v7 h7
      refine forVals_nil (ORg.plain (OR.assign rfl ?_))
      exact ⟨_, [], Hp.le.refl _, hs, h7, rfl⟩
    refine ⟨MF.eq _, by intro Mx H w hle hs; refine forVals_nil (ORg.plain (OR.assign rfl ?_)); exact ⟨_, [], Hp.le.refl _, hs, rfl, rfl⟩, ?_⟩
    intro H w hle2; (try replace hle := hle.trans hle2); (try replace hlb := hlb.trans hle2)
    refine forAllVals_eq rfl ?_
    refine forAllVals_eq rfl ?_
    refine forAllVals_eq rfl ?_
    refine forAllVals_of rfl ?_; intro v3 h3
    refine forAllVals_eq rfl ?_
    refine forAllVals_of rfl ?_; intro v5 h5
    refine forAllVals_of rfl ?_; intro v6 h6
    refine forAllVals_of rfl ?_; intro v7 h7
    refine forAllVals_of rfl ?_; intro v8 h8
    refine forAllVals_eq rfl ?_
    refine forAllVals_nil ?_; (try clear hs); intro hs
    obtain ⟨p, q, r, hp1, hq1, hr1, rfl, hp, hq, hr⟩ := h8
    refine WO.done (WX.seq (WC.ret ?_))
    refine WX.ret2 rfl rfl rfl ?_
    have hpq : p ≠ q := fun e => by rw [e, hq] at hp; exact cells_ne hp (by decide)
    have hpr : p ≠ r := fun e => by rw [e, hr] at hp; exact cells_ne hp (by decide)
    have hqr : q ≠ r := fun e => by rw [e, hr] at hq; exact cells_ne hq (by decide)
    have hs1 := HS.unpub h0 hs hr hr1
    have hs2 := HS.unpub h0 hs1 (by unfold Hp.del; rw [if_neg hqr]; exact hq) hq1
    have hs3 := HS.unpub h0 hs2 (by unfold Hp.del; rw [if_neg hpq, if_neg hpr]; exact hp) hp1
    exact ⟨_, _, _, rfl, hs3, by simp, p, q, r, _, _, rfl, hp1, hq1, hr1, rfl, RefC.zero _ _, hs3.le⟩
  · simp only [if_neg hall]
    refine Calls.enter (args := [.int .i64 g, .int .i64 s]) Try.func38 rfl Try.ntmps38 rfl ?_
    refine WC.seq (WC.region (WO.step rfl (OR.assign rfl (WO.step rfl (OR.assign rfl (WO.done (WX.seq ?_)))))))
    refine WC.seq (WC.seq (WC.region (WO.step rfl (OR.move rfl (WO.step rfl (OR.lss rfl rfl (WO.step rfl ?_)))))))
    refine OR.move rfl ?_
    refine WO.guardSplit (j := 2) rfl (fun q1 => ?_) (fun q1 => ?_)
    · refine WO.guardNo rfl (decide_eq_true q1) rfl rfl (WO.guardNo rfl (decide_eq_true q1) rfl rfl (WO.step rfl (OR.pickT rfl (decide_eq_true q1) rfl (WO.step rfl (OR.move rfl (WO.guardNo rfl rfl rfl rfl (WO.guardNo rfl rfl rfl rfl ?_)))))))
      refine WO.step rfl (OR.pickT rfl rfl rfl (WO.step rfl (OR.move rfl (WO.guardNo rfl rfl rfl rfl (WO.guardNo rfl rfl rfl rfl (WO.step rfl (OR.pickT rfl rfl rfl ?_)))))))
      refine WO.done (WX.seq (WC.yes rfl rfl (WC.seq (WC.region (WO.step rfl (OR.assign rfl (WO.step rfl ?_)))))))
      refine OR.assign rfl (WO.done (WX.seq (WC.ret (WX.seq_ret ?_))))
      refine WX.ret2 rfl rfl rfl ?_
      exact ⟨_, H0, [], rfl, hs, by simp, rfl, rfl⟩
    · refine WO.guardYes rfl (decide_eq_false q1) rfl rfl (OR.move rfl (WO.guardYes rfl (decide_eq_false q1) rfl rfl (OR.gtr rfl rfl (WO.step rfl (OR.pickF rfl (decide_eq_false q1) rfl (WO.step rfl (OR.move rfl ?_)))))))
      refine WO.guardSplit (j := 6) rfl (fun q2 => ?_) (fun q2 => ?_)
      · refine WO.guardNo rfl (decide_eq_true q2) rfl rfl (WO.guardNo rfl (decide_eq_true q2) rfl rfl (WO.step rfl (OR.pickT rfl (decide_eq_true q2) rfl (WO.step rfl (OR.move rfl (WO.guardNo rfl rfl rfl rfl (WO.guardNo rfl rfl rfl rfl ?_)))))))
        refine WO.step rfl (OR.pickT rfl rfl rfl (WO.done (WX.seq (WC.yes rfl rfl (WC.seq (WC.region (WO.step rfl ?_)))))))
        refine OR.assign rfl (WO.step rfl (OR.assign rfl (WO.done (WX.seq (WC.ret (WX.seq_ret ?_))))))
        refine WX.ret2 rfl rfl rfl ?_
        exact ⟨_, H0, [], rfl, hs, by simp, rfl, rfl⟩
      · refine WO.guardYes rfl (decide_eq_false q2) rfl rfl (OR.move rfl (WO.guardYes rfl (decide_eq_false q2) rfl rfl (OR.lss rfl rfl (WO.step rfl (OR.pickF rfl (decide_eq_false q2) rfl (WO.step rfl (OR.move rfl ?_)))))))
        refine WO.guardSplit (j := 10) rfl (fun q3 => ?_) (fun q3 => ?_)
        · refine WO.guardNo rfl (decide_eq_true q3) rfl rfl (WO.guardNo rfl (decide_eq_true q3) rfl rfl (WO.step rfl (OR.pickT rfl (decide_eq_true q3) rfl (WO.done (WX.seq (WC.yes rfl rfl (WC.seq ?_)))))))
          refine WC.region (WO.step rfl (OR.assign rfl (WO.step rfl (OR.assign rfl (WO.done (WX.seq (WC.ret ?_)))))))
          refine WX.seq_ret ?_
          refine WX.ret2 rfl rfl rfl ?_
          exact ⟨_, H0, [], rfl, hs, by simp, rfl, rfl⟩
        · refine WO.guardYes rfl (decide_eq_false q3) rfl rfl (OR.move rfl (WO.guardYes rfl (decide_eq_false q3) rfl rfl (OR.gtr rfl rfl (WO.step rfl (OR.pickF rfl (decide_eq_false q3) rfl (WO.done (WX.seq ?_)))))))
          refine WC.yes rfl (decide_eq_true (by omega : s > 65535)) ?_
          refine WC.seq (WC.region (WO.step rfl (OR.assign rfl (WO.step rfl (OR.assign rfl (WO.done (WX.seq ?_)))))))
          refine WC.ret (WX.seq_ret ?_)
          refine WX.ret2 rfl rfl rfl ?_
          exact ⟨_, H0, [], rfl, hs, by simp, rfl, rfl⟩

theorem addS_zero (c : UInt8) (l : List UInt8) : addS c (List.replicate l.length 0) l = l.map fun x => mul x c := by
  unfold addS eachR
  rw [if_pos (by simp)]
  apply List.ext_getElem
  · simp
  · intro i h1 h2
    simp [zero_xor8]
theorem plus_zero_norm {g s L : Nat} {q : RowD} (hq : RowGS g s q) (hL : lead q.1 = (L : Int)) (h : L < q.1.length) : plusR (List.replicate g 0, List.replicate s 0) q (inv q.1[L]) = normR q := by
  unfold plusR normR
  rw [← hq.1, ← hq.2, addS_zero, addS_zero, hL]
  have e : q.1.getD ((L : Int)).toNat 0 = q.1[L] := by simp [h]
  rw [e]
  rfl
/-- The first k freed. -/
def partF (q : RowD) (f : Nat → Option RowD) (k i : Nat) : Option RowD := if i < k then (f i).map (freeR q) else f i
theorem RefC.congr {H : Hp} {g : Nat} {f f' : Nat → Option RowD} {ci cr : Array Value} (h : RefC H g f ci cr) (he : ∀ i, i < g → f i = f' i) : RefC H g f' ci cr := by
  refine ⟨h.1, h.2.1, fun i hi => ?_⟩
  rw [← he i hi]
  exact h.2.2 i hi
theorem RefC.setR {H : Hp} {g : Nat} {f : Nat → Option RowD} {ci cr : Array Value} (h : RefC H g f ci cr) {k : Nat} (hk : k < g) {x : RowD} {c p : Value} (hx : (f k).isSome = true) (hc : Bytes H c x.1) (hp : Bytes H p x.2) :
    RefC H g (fun i => if i = k then some x else f i) ci (setL cr.toList (k * 2) [c, p]).toArray := by
  refine ⟨h.1, by simp [setL_length, h.2.1], fun i hi => ?_⟩
  have hsz := h.2.1
  obtain ⟨h1, ec, ep, h2, h3, h4⟩ := h.2.2 i hi
  have e0 : setL cr.toList (k * 2) [c, p] = (cr.toList.set (k * 2) c).set (k * 2 + 1) p := by rw [setL_step, setL_one]
  rw [List.toList_toArray, e0]
  by_cases e : i = k
  · subst e
    refine ⟨by simp only [if_pos]; rw [h1, hx]; rfl, c, p, ?_, ?_, fun r hr => ?_⟩
    · rw [List.getElem?_set_ne (by omega), List.getElem?_set_self (by simp [hsz]; omega)]
    · rw [List.getElem?_set_self (by simp [hsz]; omega)]
    · simp only [if_pos] at hr
      cases hr
      exact ⟨hc, hp⟩
  · refine ⟨by simp only [if_neg e]; exact h1, ec, ep, ?_, ?_, fun r hr => ?_⟩
    · rw [List.getElem?_set_ne (by omega), List.getElem?_set_ne (by omega)]; exact h2
    · rw [List.getElem?_set_ne (by omega), List.getElem?_set_ne (by omega)]; exact h3
    · simp only [if_neg e] at hr
      exact h4 r hr
theorem RefC.setB {H : Hp} {g : Nat} {f : Nat → Option RowD} {ci cr : Array Value} (h : RefC H g f ci cr) {k : Nat} (hk : k < g) {x : RowD} {c p : Value} (hc : Bytes H c x.1) (hp : Bytes H p x.2) :
    RefC H g (fun i => if i = k then some x else f i) (setL ci.toList k [.bool true]).toArray (setL cr.toList (k * 2) [c, p]).toArray := by
  refine ⟨by simp [setL_length, h.1], by simp [setL_length, h.2.1], fun i hi => ?_⟩
  have hsz := h.2.1
  have hsi := h.1
  obtain ⟨h1, ec, ep, h2, h3, h4⟩ := h.2.2 i hi
  have e0 : setL cr.toList (k * 2) [c, p] = (cr.toList.set (k * 2) c).set (k * 2 + 1) p := by rw [setL_step, setL_one]
  rw [List.toList_toArray, List.toList_toArray, e0, setL_one]
  by_cases e : i = k
  · subst e
    refine ⟨by simp only [if_pos]; rw [List.getElem?_set_self (by simp [hsi]; omega)]; rfl, c, p, ?_, ?_, fun r hr => ?_⟩
    · rw [List.getElem?_set_ne (by omega), List.getElem?_set_self (by simp [hsz]; omega)]
    · rw [List.getElem?_set_self (by simp [hsz]; omega)]
    · simp only [if_pos] at hr
      cases hr
      exact ⟨hc, hp⟩
  · refine ⟨by simp only [if_neg e]; rw [List.getElem?_set_ne (Ne.symm e)]; exact h1, ec, ep, ?_, ?_, fun r hr => ?_⟩
    · rw [List.getElem?_set_ne (by omega), List.getElem?_set_ne (by omega)]; exact h2
    · rw [List.getElem?_set_ne (by omega), List.getElem?_set_ne (by omega)]; exact h3
    · simp only [if_neg e] at hr
      exact h4 r hr

section
variable {f : Nat → Option RowD} {g s rb gi gr : Nat} {ci cr : Array Value}
set_option maxRecDepth 20000 in
set_option maxHeartbeats 2000000 in
theorem refInsert_ok (r : RowD) (rc rp : Value) (H0 : Hp) (w0 : World) (h0 : Sub H0 w0) (ha : RefAt H0 w0 rb gi gr g s ci cr) (hc : RefC H0 g f ci cr) (hL : Leads g s f) (hRd : Red g s (upto f g)) (hg : g ≤ 255) (hsm : s ≤ 65535)
    (hrc : Bytes H0 rc r.1) (hrp : Bytes H0 rp r.2) :
    Calls Try.prog 40 #[ptr rb, .agg #[rc, rp]] w0 (Ret [gi, gr] H0 w0 fun v H' M' => ∃ ci' cr' f', M' = [(gi, .cells ci' 4, true), (gr, .cells cr' 35, true)] ∧ RefC H' g f' ci' cr' ∧ Leads g s f' ∧
      upto f' g = (insR g s (upto f g) r).2 ∧ v = .tuple #[.bool (insR g s (upto f g) r).1, .int .i64 (if r.1.length = g ∧ r.2.length = s then 0 else 21)]) := by
  have hs := ha.startW h0
  have hle := Hp.le.refl H0
  obtain ⟨b1, c1, rfl⟩ := hrc.form
  obtain ⟨b2, c2, rfl⟩ := hrp.form
  refine Calls.enter (args := [ptr rb, .agg #[.slice b1 r.1.length c1, .slice b2 r.2.length c2]]) Try.func40 rfl Try.ntmps40 rfl ?_
  refine WC.seq (WC.region (WO.step rfl (OR.box hs rfl ?_)))
  clear hs; intro g1 w hg1 hs
  refine WO.step rfl (OR.assign rfl (WO.step rfl (OR.assign rfl (WO.done (WX.seq (WC.seq (WC.seq ?_)))))))
  by_cases hdim : r.1.length = g ∧ r.2.length = s
  · simp only [if_pos hdim]
    refine WC.draw 18 mixed hs (by kernel_rfl) ?_
    refine ⟨MF.eq _, by intro Mx H w hle hs; refine forVals_nil (ORg.plain (OR.fieldAddr FA35_0 rfl ?_)); exact ⟨_, [], Hp.le.refl _, hs, rfl, rfl⟩, ?_⟩
    refine ⟨MF.eq _, by intro Mx H w hle hs; refine forVals_eq rfl rfl rfl ?_; refine forVals_nil (ORg.plain (OR.load T23 rfl rfl (hs.right.cellM (i := 0) rfl rfl) ?_)); exact ⟨_, [], Hp.le.refl _, hs, rfl, rfl⟩, ?_⟩
    refine ⟨MF.eq _, by intro Mx H w hle hs; refine forVals_eq rfl rfl rfl ?_; refine forVals_nil (ORg.plain (OR.lenSlice T23.und rfl ?_)); exact ⟨_, [], Hp.le.refl _, hs, rfl, rfl⟩, ?_⟩
    refine ⟨MF.eq _, by intro Mx H w hle hs; refine forVals_nil (ORg.plain (OR.move rfl ?_)); exact ⟨_, [], Hp.le.refl _, hs, rfl, rfl⟩, ?_⟩
    refine ⟨MF.eq _, by intro Mx H w hle hs; refine forVals_eq rfl rfl rfl ?_; refine forVals_nil (ORg.plain (OR.nilCheck rfl ?_)); exact ⟨_, [], Hp.le.refl _, hs, rfl, rfl⟩, ?_⟩
    refine ⟨MF.eq _, by intro Mx H w hle hs; refine forVals_eq rfl rfl rfl ?_; refine forVals_nil (ORg.plain (OR.fieldAddr FA165_0 rfl ?_)); exact ⟨_, [], Hp.le.refl _, hs, rfl, rfl⟩, ?_⟩
    refine ⟨MF.eq _, by intro Mx H w hle hs; refine forVals_eq rfl rfl rfl ?_; refine forVals_nil (ORg.plain (OR.load T3 rfl rfl (hs.right.cellM (i := 1) rfl rfl) ?_)); exact ⟨_, [], Hp.le.refl _, hs, rfl, rfl⟩, ?_⟩
    refine ⟨MF.eq _, by intro Mx H w hle hs; refine forVals_eq rfl rfl rfl ?_; refine forVals_eq rfl rfl rfl ?_; refine forVals_nil (ORg.plain (OR.neq rfl rfl ?_)); exact ⟨_, [], Hp.le.refl _, hs, rfl, rfl⟩, ?_⟩
    refine ⟨MF.eq _, by intro Mx H w hle hs; refine forVals_eq rfl rfl rfl ?_; refine forVals_nil (ORg.plain (OR.move rfl ?_)); exact ⟨_, [], Hp.le.refl _, hs, rfl, rfl⟩, ?_⟩
    refine ⟨MF.eq _, by intro Mx H w hle hs; refine forVals_eq rfl rfl rfl ?_; refine forVals_nil (ORg.yes rfl (decide_eq_false (by omega : ¬ ((r.1.length : Int) ≠ (g : Int)))) rfl (OR.fieldAddr FA35_1 rfl ?_)); exact ⟨_, [], Hp.le.refl _, hs, rfl, rfl⟩, ?_⟩
    refine ⟨MF.eq _, by intro Mx H w hle hs; refine forVals_eq rfl rfl rfl ?_; refine forVals_eq rfl rfl rfl ?_; refine forVals_nil (ORg.yes rfl (decide_eq_false (by omega : ¬ ((r.1.length : Int) ≠ (g : Int)))) rfl (OR.load T23 rfl rfl (hs.right.cellM (i := 0) rfl rfl) ?_)); exact ⟨_, [], Hp.le.refl _, hs, rfl, rfl⟩, ?_⟩
    refine ⟨MF.eq _, by intro Mx H w hle hs; refine forVals_eq rfl rfl rfl ?_; refine forVals_eq rfl rfl rfl ?_; refine forVals_nil (ORg.yes rfl (decide_eq_false (by omega : ¬ ((r.1.length : Int) ≠ (g : Int)))) rfl (OR.lenSlice T23.und rfl ?_)); exact ⟨_, [], Hp.le.refl _, hs, rfl, rfl⟩, ?_⟩
    refine ⟨MF.eq _, by intro Mx H w hle hs; refine forVals_eq rfl rfl rfl ?_; refine forVals_nil (ORg.yes rfl (decide_eq_false (by omega : ¬ ((r.1.length : Int) ≠ (g : Int)))) rfl (OR.move rfl ?_)); exact ⟨_, [], Hp.le.refl _, hs, rfl, rfl⟩, ?_⟩
    refine ⟨MF.eq _, by intro Mx H w hle hs; refine forVals_eq rfl rfl rfl ?_; refine forVals_eq rfl rfl rfl ?_; refine forVals_nil (ORg.yes rfl (decide_eq_false (by omega : ¬ ((r.1.length : Int) ≠ (g : Int)))) rfl (OR.nilCheck rfl ?_)); exact ⟨_, [], Hp.le.refl _, hs, rfl, rfl⟩, ?_⟩
    refine ⟨MF.eq _, by intro Mx H w hle hs; refine forVals_eq rfl rfl rfl ?_; refine forVals_eq rfl rfl rfl ?_; refine forVals_nil (ORg.yes rfl (decide_eq_false (by omega : ¬ ((r.1.length : Int) ≠ (g : Int)))) rfl (OR.fieldAddr FA165_1 rfl ?_)); exact ⟨_, [], Hp.le.refl _, hs, rfl, rfl⟩, ?_⟩
    refine ⟨MF.eq _, by intro Mx H w hle hs; refine forVals_eq rfl rfl rfl ?_; refine forVals_eq rfl rfl rfl ?_; refine forVals_nil (ORg.yes rfl (decide_eq_false (by omega : ¬ ((r.1.length : Int) ≠ (g : Int)))) rfl (OR.load T3 rfl rfl (hs.right.cellM (i := 1) rfl rfl) ?_)); exact ⟨_, [], Hp.le.refl _, hs, rfl, rfl⟩, ?_⟩
    refine ⟨MF.eq _, by intro Mx H w hle hs; refine forVals_eq rfl rfl rfl ?_; refine forVals_eq rfl rfl rfl ?_; refine forVals_eq rfl rfl rfl ?_; refine forVals_nil (ORg.yes rfl (decide_eq_false (by omega : ¬ ((r.1.length : Int) ≠ (g : Int)))) rfl (OR.neq rfl rfl ?_)); exact ⟨_, [], Hp.le.refl _, hs, rfl, rfl⟩, ?_⟩
    refine ⟨MF.eq _, by intro Mx H w hle hs; refine forVals_eq rfl rfl rfl ?_; refine forVals_eq rfl rfl rfl ?_; refine forVals_nil (ORg.plain (OR.pickF rfl (decide_eq_false (by omega : ¬ ((r.1.length : Int) ≠ (g : Int)))) rfl ?_)); exact ⟨_, [], Hp.le.refl _, hs, rfl, rfl⟩, ?_⟩
    intro H w hle2; (try replace hle := hle.trans hle2); (try replace hlb := hlb.trans hle2)
    refine forAllVals_eq rfl ?_
    refine forAllVals_eq rfl ?_
    refine forAllVals_eq rfl ?_
    refine forAllVals_eq rfl ?_
    refine forAllVals_eq rfl ?_
    refine forAllVals_eq rfl ?_
    refine forAllVals_eq rfl ?_
    refine forAllVals_eq rfl ?_
    refine forAllVals_eq rfl ?_
    refine forAllVals_eq rfl ?_
    refine forAllVals_eq rfl ?_
    refine forAllVals_eq rfl ?_
    refine forAllVals_eq rfl ?_
    refine forAllVals_eq rfl ?_
    refine forAllVals_eq rfl ?_
    refine forAllVals_eq rfl ?_
    refine forAllVals_eq rfl ?_
    refine forAllVals_eq rfl ?_
    refine forAllVals_nil ?_; (try clear hs); intro hs
    refine WO.done (WX.seq ?_)
    refine WC.no rfl (decide_eq_false (by omega)) ?_
    refine WC.skip (WX.seq (WC.seq (WC.region (WO.step rfl (OR.move rfl (WO.step rfl (OR.loadAll T35 rfl rfl (hs.blk (i := 0) rfl) rfl ?_)))))))
    refine WO.step rfl (OR.call hs body112 rfl rfl (refReduce_ok (f := f) r _ _ _ _ hs.toSub (RefAt.of hs (i := 1) (j := 2) (k := 3) rfl rfl rfl (by omega) (by omega) (by omega)) (hc.mono hle) hL hg hsm (hrc.mono hle) (hrp.mono hle) hdim) ?_)
    clear hs; rintro _ H w hs hle1 ⟨q1, q2, rfl, hq1, hq2⟩; replace hle := hle.trans hle1; (try replace hlb := hlb.trans hle1)
    have hq := redR_gs (upto f g) r hdim (fun x hx => hRd.gs x hx)
    have hfree := fun L hL' => hL.free hRd hdim (L := L) hL'
    have hins := fun L hLg hL' => upto_insR hL hRd hdim (L := L) hLg hL'
    have hil := fun L hLg hL' => insF_leads hL hRd hdim (L := L) hLg hL'
    have hout : lead (redR (upto f g) r).1 < 0 → insR g s (upto f g) r = (false, upto f g) := fun h => insR_out hdim h
    generalize hqd : redR (upto f g) r = q at hq hq1 hq2 hfree hins hil hout
    obtain ⟨b3, c3, rfl⟩ := hq1.form
    obtain ⟨b4, c4, rfl⟩ := hq2.form
    refine WO.stepN (OR.storeAll hs T35 rfl rfl rfl rfl rfl ?_)
    clear hs; intro w hs
    refine WO.done (WX.seq (WC.seq (WC.region (WO.step rfl (OR.fieldAddr FA35_0 rfl (WO.step rfl (OR.load T23 rfl rfl (hs.cellM (i := 0) rfl rfl) ?_)))))))
    refine WO.step rfl (OR.call hs body113 rfl rfl (refLead_ok _ q.1 _ _ hs.toSub hq1 (by rw [hq.1]; omega)) ?_)
    clear hs; rintro _ H w hs hle1 rfl; replace hle := hle.trans hle1; (try replace hlb := hlb.trans hle1)
    replace hq1 := hq1.mono hle1
    replace hq2 := hq2.mono hle1
    by_cases hz : lead q.1 < 0
    · rw [if_pos hz]
      refine WO.step rfl (OR.assign rfl (WO.done (WX.seq (WC.seq (WC.seq (WC.region (WO.step rfl ?_)))))))
      refine OR.move rfl (WO.step rfl (OR.move rfl (WO.step rfl (OR.nilCheck rfl (WO.step rfl (OR.fieldAddr FA165_0 rfl (WO.step rfl ?_)))))))
      refine OR.load T3 rfl rfl (hs.cellM (i := 1) rfl rfl) (WO.step rfl (OR.eql rfl rfl (WO.done (WX.seq ?_))))
      refine WC.yes rfl (decide_eq_true (by rw [hq.1])) ?_
      refine WC.seq (WC.region (WO.step rfl (OR.assign rfl (WO.step rfl (OR.assign rfl (WO.done (WX.seq ?_)))))))
      refine WC.ret (WX.seq_ret ?_)
      refine WX.ret2 rfl rfl rfl ?_
      rw [hout hz]
      exact ⟨_, H, [(gi, .cells ci 4, true), (gr, .cells cr 35, true)], rfl, (hs.drop 0).drop 0, by simp, ci, cr, f, rfl, hc.mono hle, hL, rfl, rfl⟩
    · rw [if_neg hz]
      have hld : 0 ≤ lead q.1 := by omega
      obtain ⟨L, hLd⟩ := Int.eq_ofNat_of_zero_le hld
      obtain ⟨hLt, hne, _⟩ := lead_some hLd
      have hLg : L < g := by rw [← hq.1]; exact hLt
      have hnone := hfree L hLd
      rw [hins L hLg hLd]
      have hil2 := hil L hLg hLd
      clear hfree hins hil hout
      rw [hLd]
      refine WO.step rfl (OR.assign rfl (WO.done (WX.seq (WC.seq (WC.seq (WC.region (WO.step rfl ?_)))))))
      refine OR.move rfl (WO.step rfl (OR.move rfl (WO.step rfl (OR.nilCheck rfl (WO.step rfl (OR.fieldAddr FA165_0 rfl (WO.step rfl ?_)))))))
      refine OR.load T3 rfl rfl (hs.cellM (i := 1) rfl rfl) (WO.step rfl (OR.eql rfl rfl (WO.done (WX.seq ?_))))
      refine WC.no rfl (decide_eq_false (by omega)) ?_
      obtain ⟨xb, xo, rfl, hcr⟩ := hq1.pos (by omega)
      refine WC.skip (WX.seq (WC.seq (WC.region (WO.step rfl (OR.fieldAddr FA35_0 rfl (WO.step rfl (OR.load T23 rfl rfl (hs.cellM (i := 0) rfl rfl) ?_)))))))
      refine WO.step rfl (OR.move rfl ?_)
      refine WO.step rfl (OR.idx L T23.und T5 rfl rfl rfl hLt ?_)
      refine WO.step rfl (OR.load T5 rfl rfl (hs.cell (hcr L hLt)) ?_)
      refine WO.step rfl (OR.call hs body114 rfl rfl (refInv_ok q.1[L] hne _ _ hs.toSub) ?_)
      clear hs; rintro _ H w hs hle1 rfl; replace hle := hle.trans hle1; (try replace hlb := hlb.trans hle1)
      replace hq1 := hq1.mono hle1
      replace hq2 := hq2.mono hle1
      refine WO.step rfl (OR.move rfl (WO.step rfl (OR.extract rfl rfl (WO.step rfl (OR.extract rfl rfl (WO.step rfl (OR.assign rfl ?_)))))))
      refine WO.step rfl (OR.assign rfl (WO.done (WX.seq (WC.seq ?_))))
      have hlb := Hp.le.refl H
      refine WC.draw 12 mixed hs (by kernel_rfl) ?_
      refine ⟨MF.eq _, by intro Mx H w hle hs; refine forVals_nil (ORg.plain (OR.move rfl ?_)); exact ⟨_, [], Hp.le.refl _, hs, rfl, rfl⟩, ?_⟩
      refine ⟨MF.eq _, by intro Mx H w hle hs; refine forVals_eq rfl rfl rfl ?_; refine forVals_nil (ORg.plain (OR.nilCheck rfl ?_)); exact ⟨_, [], Hp.le.refl _, hs, rfl, rfl⟩, ?_⟩
      refine ⟨MF.eq _, by intro Mx H w hle hs; refine forVals_eq rfl rfl rfl ?_; refine forVals_nil (ORg.plain (OR.fieldAddr FA165_0 rfl ?_)); exact ⟨_, [], Hp.le.refl _, hs, rfl, rfl⟩, ?_⟩
      refine ⟨MF.eq _, by intro Mx H w hle hs; refine forVals_eq rfl rfl rfl ?_; refine forVals_nil (ORg.plain (OR.load T3 rfl rfl (hs.right.cellM (i := 1) rfl rfl) ?_)); exact ⟨_, [], Hp.le.refl _, hs, rfl, rfl⟩, ?_⟩
      refine ⟨MF.bytes (List.replicate g 0), ?_, ?_⟩
      · intro Mx H w hle2 hs; (try replace hle := hle.trans hle2); (try replace hlb := hlb.trans hle2); refine forVals_eq rfl rfl rfl ?_
        refine forVals_nil (ORg.plain (OR.make1 (m := g) hs T23.und T5 rfl rfl rfl (by omega) (by omega) ?_))
        intro z1 w hz1 hs
        obtain ⟨H, hle1, hp, hs⟩ := hs.pub1 hz1
        exact ⟨_, [], hle1, hs, (by have := Bytes.block (l := List.replicate g 0) (cap := g) hp (by simp) (by simp); rwa [List.length_replicate] at this), rfl⟩
      refine ⟨MF.eq _, by intro Mx H w hle hs; refine forVals_nil (ORg.plain (OR.move rfl ?_)); exact ⟨_, [], Hp.le.refl _, hs, rfl, rfl⟩, ?_⟩
      refine ⟨MF.eq _, by intro Mx H w hle hs; refine forVals_eq rfl rfl rfl ?_; refine forVals_nil (ORg.plain (OR.nilCheck rfl ?_)); exact ⟨_, [], Hp.le.refl _, hs, rfl, rfl⟩, ?_⟩
      refine ⟨MF.eq _, by intro Mx H w hle hs; refine forVals_eq rfl rfl rfl ?_; refine forVals_nil (ORg.plain (OR.fieldAddr FA165_1 rfl ?_)); exact ⟨_, [], Hp.le.refl _, hs, rfl, rfl⟩, ?_⟩
      refine ⟨MF.eq _, by intro Mx H w hle hs; refine forVals_eq rfl rfl rfl ?_; refine forVals_nil (ORg.plain (OR.load T3 rfl rfl (hs.right.cellM (i := 1) rfl rfl) ?_)); exact ⟨_, [], Hp.le.refl _, hs, rfl, rfl⟩, ?_⟩
      refine ⟨MF.bytes (List.replicate s 0), ?_, ?_⟩
      · intro Mx H w hle2 hs; (try replace hle := hle.trans hle2); (try replace hlb := hlb.trans hle2); refine forVals_eq rfl rfl rfl ?_
        refine forVals_nil (ORg.plain (OR.make1 (m := s) hs T23.und T5 rfl rfl rfl (by omega) (by omega) ?_))
        intro z1 w hz1 hs
        obtain ⟨H, hle1, hp, hs⟩ := hs.pub1 hz1
        exact ⟨_, [], hle1, hs, (by have := Bytes.block (l := List.replicate s 0) (cap := s) hp (by simp) (by simp); rwa [List.length_replicate] at this), rfl⟩
      refine ⟨MF.row (List.replicate g 0, List.replicate s 0), ?_, ?_⟩
      · intro Mx H w hle2 hs; (try replace hle := hle.trans hle2); (try replace hlb := hlb.trans hle2); refine forVals_of rfl rfl rfl ?_; intro v4 h4; refine forVals_of rfl rfl rfl ?_; intro v9 h9
        obtain ⟨_, _, rfl⟩ := h4.form
        obtain ⟨_, _, rfl⟩ := h9.form
        refine forVals_nil (ORg.plain (OR.buildAll T35 rfl rfl PL35 rfl rfl ?_))
        exact ⟨_, [], Hp.le.refl _, hs, ⟨_, _, rfl, h4, h9⟩, rfl⟩
      refine ⟨MF.ptr w0.heap.size _, by intro Mx H w hle hs; refine forVals_nil (ORg.plain (OR.alloc hs T35 ?_)); intro g w hg hs; exact ⟨_, [_], Hp.le.refl _, hs, g, hg, rfl, rfl⟩, ?_⟩
      intro H w hle2; (try replace hle := hle.trans hle2); (try replace hlb := hlb.trans hle2)
      refine forAllVals_eq rfl ?_
      refine forAllVals_eq rfl ?_
      refine forAllVals_eq rfl ?_
      refine forAllVals_eq rfl ?_
      refine forAllVals_of rfl ?_; intro v4 h4
      refine forAllVals_eq rfl ?_
      refine forAllVals_eq rfl ?_
      refine forAllVals_eq rfl ?_
      refine forAllVals_eq rfl ?_
      refine forAllVals_of rfl ?_; intro v9 h9
      refine forAllVals_of rfl ?_; intro v10 h10
      refine forAllVals_ptr rfl ?_; intro g2 hg2
      refine forAllVals_nil ?_; (try clear hs); intro hs
      obtain ⟨z1, z2, rfl, hz1, hz2⟩ := h10
      obtain ⟨b7, c7, rfl⟩ := hz1.form
      obtain ⟨b8, c8, rfl⟩ := hz2.form
      refine WO.stepN (OR.storeAll hs T35 rfl rfl rfl rfl rfl ?_)
      clear hs; intro w hs
      refine WO.done (WX.seq (WC.seq (WC.region (WO.step rfl (OR.loadAll T35 rfl rfl (hs.blk (i := 0) rfl) rfl (WO.step rfl (OR.loadAll T35 rfl rfl (hs.blk (i := 1) rfl) rfl ?_)))))))
      refine WO.step rfl (OR.move rfl ?_)
      refine WO.step rfl (OR.call hs body115 rfl rfl (refPlusR_ok (List.replicate g 0, List.replicate s 0) q _ _ _ _ _ _ _ hs.toSub hz1 hz2 (hq1.mono hlb) (hq2.mono hlb) (by simp; omega) (by simp; omega) (by simp [hq.1]) (by simp [hq.2])) ?_)
      clear hs; rintro _ H w hs hle1 hnr; replace hle := hle.trans hle1; (try replace hlb := hlb.trans hle1)
      rw [plus_zero_norm hq hLd hLt] at hnr
      obtain ⟨nc, np, rfl, hnc, hnp⟩ := hnr
      obtain ⟨b5, c5, rfl⟩ := hnc.form
      obtain ⟨b6, c6, rfl⟩ := hnp.form
      replace hs := hs.front (i := 1) rfl
      refine WO.stepN (OR.storeAll hs T35 rfl rfl rfl rfl rfl ?_)
      clear hs; intro w hs
      refine WO.done (WX.seq (WC.seq (WC.seq (WC.region (WO.step rfl (OR.assign rfl (WO.done ?_)))))))
      refine WX.seq (WC.block ?_)
      replace hs : HS [gi, gr] H0 w0 H [(g1, .cells #[.slice b5 (normR q).1.length c5, .slice b6 (normR q).2.length c6] 35, true), (rb, refObj g s gi gr, false), (gi, .cells ci 4, true), (gr, .cells cr 35, true)] w := hs.drop 1
      obtain ⟨HN, hHN⟩ : ∃ X, X = H := ⟨_, rfl⟩
      subst hHN
      clear hlb
      refine WC.loop (ι := Nat) (fun k => [(0, ptr rb), (3, ptr g1), (6, .int .i64 (L : Int)), (10, .int .i64 (k : Int))]) (fun k w => (k ≤ g ∧ ∃ H2 cr2, Hp.le H0 H2 ∧ Hp.le HN H2 ∧ RefC H2 g (partF q f k) ci cr2 ∧ HS [gi, gr] H0 w0 H2 [(g1, .cells #[.slice b5 (normR q).1.length c5, .slice b6 (normR q).2.length c6] 35, true), (rb, refObj g s gi gr, false), (gi, .cells ci 4, true), (gr, .cells cr2 35, true)] w)) (fun k => g - k) 0 ⟨rfl, rfl, rfl, rfl,  trivial⟩ ?_ (fun k w hW => ?_)
      · exact ⟨by omega, HN, cr, hle, Hp.le.refl HN, (hc.mono hle).congr (fun i _ => by unfold partF; rw [if_neg (by omega)]), hs⟩
      clear hs hle
      obtain ⟨hk, H2, cr2, hle, hlb, hc2, hs⟩ := hW
      refine WC.seq (WC.seq (WC.region (WO.step rfl (OR.move rfl (WO.step rfl (OR.move rfl (WO.step rfl ?_)))))))
      refine OR.nilCheck rfl (WO.step rfl (OR.fieldAddr FA165_0 rfl (WO.step rfl (OR.load T3 rfl rfl (hs.cellM (i := 1) rfl rfl) (WO.step rfl (OR.lss rfl rfl (WO.done ?_)))))))
      refine WX.seq ?_
      refine WC.condD rfl (fun hlt => ?_) (fun hlt => ?_)
      · have hk' : k < g := by omega
        obtain ⟨h1, ec, ep, h2, h3, h4⟩ := hc2.2.2 k hk'
        have hpk : partF q f k k = f k := by unfold partF; rw [if_neg (by omega)]
        rw [hpk] at h1 h4
        refine WC.skip (WX.seq (WC.seq (WC.block (WC.seq (WC.region (WO.step rfl (OR.move rfl ?_)))))))
        refine WO.step rfl (OR.nilCheck rfl (WO.step rfl (OR.fieldAddr FA165_2 rfl (WO.step rfl (OR.load T163 rfl rfl (hs.cellM (i := 1) rfl rfl) (WO.step rfl (OR.move rfl ?_)))))))
        refine WO.step rfl (OR.idx k T163.und T4 rfl rfl rfl hk' ?_)
        refine WO.step rfl (OR.load T4 rfl rfl (cells_at (j := 0) (hs.blk (i := 2) rfl) (by rw [Nat.zero_add]; exact h1)) ?_)
        refine WO.done (WX.seq ?_)
        refine WC.cond rfl (fun hb => ?_) (fun hb => ?_)
        · obtain ⟨x, hx⟩ := Option.isSome_iff_exists.1 hb
          obtain ⟨hec, hep⟩ := h4 x hx
          have hxg := (hL k x hx).2.2
          obtain ⟨e1, e2, rfl⟩ := hec.form
          obtain ⟨e3, e4, rfl⟩ := hep.form
          obtain ⟨yb, yo, rfl, hcy⟩ := hec.pos (by rw [hxg.1]; omega)
          have hLx : L < x.1.length := by rw [hxg.1]; exact hLg
          have hcy2 := hcy L hLx
          have hgd : x.1.getD (lead q.1).toNat 0 = x.1[L] := by rw [hLd]; simp [hLx]
          have hngs := norm_gs hq
          obtain ⟨HB, hHB⟩ : ∃ X, X = H2 := ⟨_, rfl⟩
          subst hHB
          have hlc := hlb
          clear hlb
          have hlb := Hp.le.refl HB
          refine WC.draw 25 mixed hs (by kernel_rfl) ?_
          refine ⟨MF.eq _, by intro Mx H w hle hs; refine forVals_nil (ORg.plain (OR.move rfl ?_)); exact ⟨_, [], Hp.le.refl _, hs, rfl, rfl⟩, ?_⟩
          refine ⟨MF.eq _, by intro Mx H w hle hs; refine forVals_eq rfl rfl rfl ?_; refine forVals_nil (ORg.plain (OR.nilCheck rfl ?_)); exact ⟨_, [], Hp.le.refl _, hs, rfl, rfl⟩, ?_⟩
          refine ⟨MF.eq _, by intro Mx H w hle hs; refine forVals_eq rfl rfl rfl ?_; refine forVals_nil (ORg.plain (OR.fieldAddr FA165_3 rfl ?_)); exact ⟨_, [], Hp.le.refl _, hs, rfl, rfl⟩, ?_⟩
          refine ⟨MF.eq _, by intro Mx H w hle hs; refine forVals_eq rfl rfl rfl ?_; refine forVals_nil (ORg.plain (OR.load T26 rfl rfl (hs.right.cellM (i := 1) rfl rfl) ?_)); exact ⟨_, [], Hp.le.refl _, hs, rfl, rfl⟩, ?_⟩
          refine ⟨MF.eq _, by intro Mx H w hle hs; refine forVals_nil (ORg.plain (OR.move rfl ?_)); exact ⟨_, [], Hp.le.refl _, hs, rfl, rfl⟩, ?_⟩
          refine ⟨MF.eq _, by intro Mx H w hle hs; refine forVals_nil (ORg.plain (OR.move rfl ?_)); exact ⟨_, [], Hp.le.refl _, hs, rfl, rfl⟩, ?_⟩
          refine ⟨MF.eq _, by intro Mx H w hle hs; refine forVals_eq rfl rfl rfl ?_; refine forVals_nil (ORg.plain (OR.nilCheck rfl ?_)); exact ⟨_, [], Hp.le.refl _, hs, rfl, rfl⟩, ?_⟩
          refine ⟨MF.eq _, by intro Mx H w hle hs; refine forVals_eq rfl rfl rfl ?_; refine forVals_nil (ORg.plain (OR.fieldAddr FA165_3 rfl ?_)); exact ⟨_, [], Hp.le.refl _, hs, rfl, rfl⟩, ?_⟩
          refine ⟨MF.eq _, by intro Mx H w hle hs; refine forVals_eq rfl rfl rfl ?_; refine forVals_nil (ORg.plain (OR.load T26 rfl rfl (hs.right.cellM (i := 1) rfl rfl) ?_)); exact ⟨_, [], Hp.le.refl _, hs, rfl, rfl⟩, ?_⟩
          refine ⟨MF.eq _, by intro Mx H w hle hs; refine forVals_nil (ORg.plain (OR.move rfl ?_)); exact ⟨_, [], Hp.le.refl _, hs, rfl, rfl⟩, ?_⟩
          refine ⟨MF.eq (.pointer (some ⟨gr, 0 + k * 2, none⟩)), ?_, ?_⟩
          · intro Mx H w hle2 hs; (try replace hle := hle.trans hle2); (try replace hlb := hlb.trans hle2); refine forVals_eq rfl rfl rfl ?_; refine forVals_eq rfl rfl rfl ?_
            refine forVals_nil (ORg.plain (OR.idxN k T26.und T35 rfl rfl rfl hk' ?_))
            exact ⟨_, [], Hp.le.refl _, hs, rfl, rfl⟩
          refine ⟨MF.eq (.agg #[.slice (some ⟨yb, yo, none⟩) x.1.length e2, .slice e3 x.2.length e4]), ?_, ?_⟩
          · intro Mx H w hle2 hs; (try replace hle := hle.trans hle2); (try replace hlb := hlb.trans hle2); refine forVals_eq rfl rfl rfl ?_
            refine forVals_nil (ORg.plain (OR.loadN (cs := [_, _]) T35 rfl rfl rfl (two_cells (hs.right.blk (i := 3) rfl) (by rw [Nat.zero_add]; exact h2) (by rw [Nat.zero_add]; exact h3)) ?_))
            exact ⟨_, [], Hp.le.refl _, hs, rfl, rfl⟩
          refine ⟨MF.eq _, by intro Mx H w hle hs; refine forVals_nil (ORg.plain (OR.loadAll T35 rfl rfl (hs.right.blk (i := 0) rfl) rfl ?_)); exact ⟨_, [], Hp.le.refl _, hs, rfl, rfl⟩, ?_⟩
          refine ⟨MF.eq _, by intro Mx H w hle hs; refine forVals_nil (ORg.plain (OR.move rfl ?_)); exact ⟨_, [], Hp.le.refl _, hs, rfl, rfl⟩, ?_⟩
          refine ⟨MF.eq _, by intro Mx H w hle hs; refine forVals_eq rfl rfl rfl ?_; refine forVals_nil (ORg.plain (OR.nilCheck rfl ?_)); exact ⟨_, [], Hp.le.refl _, hs, rfl, rfl⟩, ?_⟩
          refine ⟨MF.eq _, by intro Mx H w hle hs; refine forVals_eq rfl rfl rfl ?_; refine forVals_nil (ORg.plain (OR.fieldAddr FA165_3 rfl ?_)); exact ⟨_, [], Hp.le.refl _, hs, rfl, rfl⟩, ?_⟩
          refine ⟨MF.eq _, by intro Mx H w hle hs; refine forVals_eq rfl rfl rfl ?_; refine forVals_nil (ORg.plain (OR.load T26 rfl rfl (hs.right.cellM (i := 1) rfl rfl) ?_)); exact ⟨_, [], Hp.le.refl _, hs, rfl, rfl⟩, ?_⟩
          refine ⟨MF.eq _, by intro Mx H w hle hs; refine forVals_nil (ORg.plain (OR.move rfl ?_)); exact ⟨_, [], Hp.le.refl _, hs, rfl, rfl⟩, ?_⟩
          refine ⟨MF.eq (.pointer (some ⟨gr, 0 + k * 2, none⟩)), ?_, ?_⟩
          · intro Mx H w hle2 hs; (try replace hle := hle.trans hle2); (try replace hlb := hlb.trans hle2); refine forVals_eq rfl rfl rfl ?_; refine forVals_eq rfl rfl rfl ?_
            refine forVals_nil (ORg.plain (OR.idxN k T26.und T35 rfl rfl rfl hk' ?_))
            exact ⟨_, [], Hp.le.refl _, hs, rfl, rfl⟩
          refine ⟨MF.eq _, by intro Mx H w hle hs; refine forVals_eq rfl rfl rfl ?_; refine forVals_nil (ORg.plain (OR.fieldAddr FA35_0 rfl ?_)); exact ⟨_, [], Hp.le.refl _, hs, rfl, rfl⟩, ?_⟩
          refine ⟨MF.eq (.slice (some ⟨yb, yo, none⟩) x.1.length e2), ?_, ?_⟩
          · intro Mx H w hle2 hs; (try replace hle := hle.trans hle2); (try replace hlb := hlb.trans hle2); refine forVals_eq rfl rfl rfl ?_
            refine forVals_nil (ORg.plain (OR.load T23 rfl rfl (cells_at (j := 0) (hs.right.blk (i := 3) rfl) (by rw [Nat.zero_add]; exact h2)) ?_))
            exact ⟨_, [], Hp.le.refl _, hs, rfl, rfl⟩
          refine ⟨MF.eq _, by intro Mx H w hle hs; refine forVals_nil (ORg.plain (OR.move rfl ?_)); exact ⟨_, [], Hp.le.refl _, hs, rfl, rfl⟩, ?_⟩
          refine ⟨MF.eq (.pointer (some ⟨yb, yo + L, none⟩)), ?_, ?_⟩
          · intro Mx H w hle2 hs; (try replace hle := hle.trans hle2); (try replace hlb := hlb.trans hle2); refine forVals_eq rfl rfl rfl ?_; refine forVals_eq rfl rfl rfl ?_
            refine forVals_nil (ORg.plain (OR.idx L T23.und T5 rfl rfl rfl hLx ?_))
            exact ⟨_, [], Hp.le.refl _, hs, rfl, rfl⟩
          refine ⟨MF.eq (B x.1[L]), ?_, ?_⟩
          · intro Mx H w hle2 hs; (try replace hle := hle.trans hle2); (try replace hlb := hlb.trans hle2); refine forVals_eq rfl rfl rfl ?_
            refine forVals_nil (ORg.plain (OR.load T5 rfl rfl (hs.cell (hcell.mono hlb hcy2)) ?_))
            exact ⟨_, [], Hp.le.refl _, hs, rfl, rfl⟩
          refine ⟨MF.row (freeR q x), ?_, ?_⟩
          · intro Mx H w hle2 hs; (try replace hle := hle.trans hle2); (try replace hlb := hlb.trans hle2); refine forVals_eq rfl rfl rfl ?_; refine forVals_eq rfl rfl rfl ?_; refine forVals_eq rfl rfl rfl ?_
            refine forVals_nil (ORg.plain (OR.call hs body115 rfl rfl (refPlusR_ok x (normR q) _ _ _ _ _ _ _ hs.toSub (hec.mono hlb) (hep.mono hlb) (hnc.mono (hlc.trans hlb)) (hnp.mono (hlc.trans hlb)) (by rw [hxg.1]; omega) (by rw [hxg.2]; omega) (hxg.1.trans hngs.1.symm) (hxg.2.trans hngs.2.symm)) ?_))
            clear hs; rintro _ H w hs hle1 hq
            exact ⟨_, [], hle1, hs, (by rw [freeR, hgd]; exact hq), rfl⟩
          intro H w hle2; (try replace hle := hle.trans hle2); (try replace hlb := hlb.trans hle2)
          refine forAllVals_eq rfl ?_
          refine forAllVals_eq rfl ?_
          refine forAllVals_eq rfl ?_
          refine forAllVals_eq rfl ?_
          refine forAllVals_eq rfl ?_
          refine forAllVals_eq rfl ?_
          refine forAllVals_eq rfl ?_
          refine forAllVals_eq rfl ?_
          refine forAllVals_eq rfl ?_
          refine forAllVals_eq rfl ?_
          refine forAllVals_eq rfl ?_
          refine forAllVals_eq rfl ?_
          refine forAllVals_eq rfl ?_
          refine forAllVals_eq rfl ?_
          refine forAllVals_eq rfl ?_
          refine forAllVals_eq rfl ?_
          refine forAllVals_eq rfl ?_
          refine forAllVals_eq rfl ?_
          refine forAllVals_eq rfl ?_
          refine forAllVals_eq rfl ?_
          refine forAllVals_eq rfl ?_
          refine forAllVals_eq rfl ?_
          refine forAllVals_eq rfl ?_
          refine forAllVals_eq rfl ?_
          refine forAllVals_of rfl ?_; intro v24 h24
          refine forAllVals_nil ?_; (try clear hs); intro hs
          obtain ⟨wc, wp, rfl, hwc, hwp⟩ := h24
          obtain ⟨b9, c9, rfl⟩ := hwc.form
          obtain ⟨b10, c10, rfl⟩ := hwp.form
          refine WO.step rfl (OR.idxN k T26.und T35 rfl rfl rfl hk' ?_)
          replace hs := hs.front (i := 3) rfl
          refine WO.stepN (OR.store hs T35 rfl rfl rfl (by rw [hc2.2.1]; omega) rfl ?_)
          clear hs; intro w hs
          refine WO.done (WX.block (WX.seq (WC.region (WO.step rfl (OR.move rfl (WO.step rfl (OR.addI rfl rfl (by omega) (by omega) ?_)))))))
          refine WO.step rfl (OR.assign rfl (WO.done ?_))
          replace hs := hs.front (i := 3) rfl
          replace hs := hs.front (i := 3) rfl
          replace hs := hs.front (i := 3) rfl
          refine WX.again (k + 1) ⟨rfl, rfl, rfl, rfl,  trivial⟩ ?_ ?_
          · refine ⟨hk', _, _, hle, hlc.trans hlb, ?_, hs⟩
            rw [Nat.zero_add]
            refine ((hc2.mono hlb).setR hk' (x := freeR q x) (by rw [hpk, hx]; rfl) hwc hwp).congr fun i hi => ?_
            unfold partF
            by_cases e : i = k
            · subst e
              rw [if_pos rfl, if_pos (by omega), hx]
              rfl
            · rw [if_neg e]
              by_cases e2 : i < k
              · rw [if_pos e2, if_pos (by omega)]
              · rw [if_neg e2, if_neg (by omega)]
          · omega
        · have hx : f k = none := by
            cases hf : f k with
            | none => rfl
            | some r => rw [hf] at hb; cases hb
          refine WC.skip (WX.block (WX.seq (WC.region (WO.step rfl (OR.move rfl (WO.step rfl (OR.addI rfl rfl (by omega) (by omega) ?_)))))))
          refine WO.step rfl (OR.assign rfl (WO.done ?_))
          refine WX.again (k + 1) ⟨rfl, rfl, rfl, rfl,  trivial⟩ ?_ ?_
          · refine ⟨hk', _, cr2, hle, hlb, hc2.congr fun i hi => ?_, hs⟩
            unfold partF
            by_cases e : i = k
            · subst e
              rw [if_neg (by omega), if_pos (by omega), hx]
              rfl
            · by_cases e2 : i < k
              · rw [if_pos e2, if_pos (by omega)]
              · rw [if_neg e2, if_neg (by omega)]
          · omega
      · have e : k = g := by omega
        subst e
        refine WC.exit (WX.seq_exit (WX.loop_exit (WX.block_hit (WX.seq (WC.seq (WC.region (WO.step rfl ?_)))))))
        refine OR.move rfl (WO.step rfl (OR.nilCheck rfl (WO.step rfl (OR.fieldAddr FA165_2 rfl (WO.step rfl (OR.load T163 rfl rfl (hs.cellM (i := 1) rfl rfl) (WO.step rfl ?_)))))))
        refine OR.move rfl ?_
        refine WO.step rfl (OR.idx L T163.und T4 rfl rfl rfl hLg ?_)
        replace hs := hs.front (i := 2) rfl
        refine WO.stepN (OR.store hs T4 rfl rfl rfl (by rw [hc2.1]; omega) rfl ?_)
        clear hs; intro w hs
        refine WO.done (WX.seq (WC.seq ?_))
        refine WC.draw 6 mixed hs (by kernel_rfl) ?_
        refine ⟨MF.eq _, by intro Mx H w hle hs; refine forVals_nil (ORg.plain (OR.move rfl ?_)); exact ⟨_, [], Hp.le.refl _, hs, rfl, rfl⟩, ?_⟩
        refine ⟨MF.eq _, by intro Mx H w hle hs; refine forVals_eq rfl rfl rfl ?_; refine forVals_nil (ORg.plain (OR.nilCheck rfl ?_)); exact ⟨_, [], Hp.le.refl _, hs, rfl, rfl⟩, ?_⟩
        refine ⟨MF.eq _, by intro Mx H w hle hs; refine forVals_eq rfl rfl rfl ?_; refine forVals_nil (ORg.plain (OR.fieldAddr FA165_3 rfl ?_)); exact ⟨_, [], Hp.le.refl _, hs, rfl, rfl⟩, ?_⟩
        refine ⟨MF.eq _, by intro Mx H w hle hs; refine forVals_eq rfl rfl rfl ?_; refine forVals_nil (ORg.plain (OR.load T26 rfl rfl (hs.right.cellM (i := 2) rfl rfl) ?_)); exact ⟨_, [], Hp.le.refl _, hs, rfl, rfl⟩, ?_⟩
        refine ⟨MF.eq _, by intro Mx H w hle hs; refine forVals_nil (ORg.plain (OR.move rfl ?_)); exact ⟨_, [], Hp.le.refl _, hs, rfl, rfl⟩, ?_⟩
        refine ⟨MF.eq _, by intro Mx H w hle hs; refine forVals_nil (ORg.plain (OR.loadAll T35 rfl rfl (hs.right.blk (i := 1) rfl) rfl ?_)); exact ⟨_, [], Hp.le.refl _, hs, rfl, rfl⟩, ?_⟩
        intro H w hle2; (try replace hle := hle.trans hle2); (try replace hlb := hlb.trans hle2)
        refine forAllVals_eq rfl ?_
        refine forAllVals_eq rfl ?_
        refine forAllVals_eq rfl ?_
        refine forAllVals_eq rfl ?_
        refine forAllVals_eq rfl ?_
        refine forAllVals_eq rfl ?_
        refine forAllVals_nil ?_; (try clear hs); intro hs
        refine WO.step rfl (OR.idxN L T26.und T35 rfl rfl rfl hLg ?_)
        replace hs := hs.front (i := 3) rfl
        refine WO.stepN (OR.store hs T35 rfl rfl rfl (by rw [hc2.2.1]; omega) rfl ?_)
        clear hs; intro w hs
        refine WO.done (WX.seq (WC.seq (WC.region (WO.step rfl (OR.assign rfl (WO.step rfl (OR.assign rfl ?_)))))))
        refine WO.done (WX.seq (WC.ret ?_))
        replace hs := hs.front (i := 1) rfl
        refine WX.ret2 rfl rfl rfl ?_
        rw [Nat.zero_add, Nat.zero_add] at hs
        refine ⟨_, H, _, rfl, (hs.drop 2).drop 2, by simp [dropAt], _, _, insF q L f, rfl, ?_, hil2, rfl, rfl⟩
        refine ((hc2.mono hle2).setB hLg (x := normR q) (hnc.mono hlb) (hnp.mono hlb)).congr fun i hi => ?_
        unfold partF insF
        by_cases e : i = L
        · rw [if_pos e, if_pos e]
        · rw [if_neg e, if_neg e, if_pos hi]
  · simp only [if_neg hdim]
    have hone : insR g s (upto f g) r = (false, upto f g) := by rw [insR, if_neg hdim]
    rw [hone]
    by_cases hd1 : r.1.length = g
    · have hd2 : ¬ r.2.length = s := fun h => hdim ⟨hd1, h⟩
      refine WC.draw 18 mixed hs (by kernel_rfl) ?_
      refine ⟨MF.eq _, by intro Mx H w hle hs; refine forVals_nil (ORg.plain (OR.fieldAddr FA35_0 rfl ?_)); exact ⟨_, [], Hp.le.refl _, hs, rfl, rfl⟩, ?_⟩
      refine ⟨MF.eq _, by intro Mx H w hle hs; refine forVals_eq rfl rfl rfl ?_; refine forVals_nil (ORg.plain (OR.load T23 rfl rfl (hs.right.cellM (i := 0) rfl rfl) ?_)); exact ⟨_, [], Hp.le.refl _, hs, rfl, rfl⟩, ?_⟩
      refine ⟨MF.eq _, by intro Mx H w hle hs; refine forVals_eq rfl rfl rfl ?_; refine forVals_nil (ORg.plain (OR.lenSlice T23.und rfl ?_)); exact ⟨_, [], Hp.le.refl _, hs, rfl, rfl⟩, ?_⟩
      refine ⟨MF.eq _, by intro Mx H w hle hs; refine forVals_nil (ORg.plain (OR.move rfl ?_)); exact ⟨_, [], Hp.le.refl _, hs, rfl, rfl⟩, ?_⟩
      refine ⟨MF.eq _, by intro Mx H w hle hs; refine forVals_eq rfl rfl rfl ?_; refine forVals_nil (ORg.plain (OR.nilCheck rfl ?_)); exact ⟨_, [], Hp.le.refl _, hs, rfl, rfl⟩, ?_⟩
      refine ⟨MF.eq _, by intro Mx H w hle hs; refine forVals_eq rfl rfl rfl ?_; refine forVals_nil (ORg.plain (OR.fieldAddr FA165_0 rfl ?_)); exact ⟨_, [], Hp.le.refl _, hs, rfl, rfl⟩, ?_⟩
      refine ⟨MF.eq _, by intro Mx H w hle hs; refine forVals_eq rfl rfl rfl ?_; refine forVals_nil (ORg.plain (OR.load T3 rfl rfl (hs.right.cellM (i := 1) rfl rfl) ?_)); exact ⟨_, [], Hp.le.refl _, hs, rfl, rfl⟩, ?_⟩
      refine ⟨MF.eq _, by intro Mx H w hle hs; refine forVals_eq rfl rfl rfl ?_; refine forVals_eq rfl rfl rfl ?_; refine forVals_nil (ORg.plain (OR.neq rfl rfl ?_)); exact ⟨_, [], Hp.le.refl _, hs, rfl, rfl⟩, ?_⟩
      refine ⟨MF.eq _, by intro Mx H w hle hs; refine forVals_eq rfl rfl rfl ?_; refine forVals_nil (ORg.plain (OR.move rfl ?_)); exact ⟨_, [], Hp.le.refl _, hs, rfl, rfl⟩, ?_⟩
      refine ⟨MF.eq _, by intro Mx H w hle hs; refine forVals_eq rfl rfl rfl ?_; refine forVals_nil (ORg.yes rfl (decide_eq_false (by omega : ¬ ((r.1.length : Int) ≠ (g : Int)))) rfl (OR.fieldAddr FA35_1 rfl ?_)); exact ⟨_, [], Hp.le.refl _, hs, rfl, rfl⟩, ?_⟩
      refine ⟨MF.eq _, by intro Mx H w hle hs; refine forVals_eq rfl rfl rfl ?_; refine forVals_eq rfl rfl rfl ?_; refine forVals_nil (ORg.yes rfl (decide_eq_false (by omega : ¬ ((r.1.length : Int) ≠ (g : Int)))) rfl (OR.load T23 rfl rfl (hs.right.cellM (i := 0) rfl rfl) ?_)); exact ⟨_, [], Hp.le.refl _, hs, rfl, rfl⟩, ?_⟩
      refine ⟨MF.eq _, by intro Mx H w hle hs; refine forVals_eq rfl rfl rfl ?_; refine forVals_eq rfl rfl rfl ?_; refine forVals_nil (ORg.yes rfl (decide_eq_false (by omega : ¬ ((r.1.length : Int) ≠ (g : Int)))) rfl (OR.lenSlice T23.und rfl ?_)); exact ⟨_, [], Hp.le.refl _, hs, rfl, rfl⟩, ?_⟩
      refine ⟨MF.eq _, by intro Mx H w hle hs; refine forVals_eq rfl rfl rfl ?_; refine forVals_nil (ORg.yes rfl (decide_eq_false (by omega : ¬ ((r.1.length : Int) ≠ (g : Int)))) rfl (OR.move rfl ?_)); exact ⟨_, [], Hp.le.refl _, hs, rfl, rfl⟩, ?_⟩
      refine ⟨MF.eq _, by intro Mx H w hle hs; refine forVals_eq rfl rfl rfl ?_; refine forVals_eq rfl rfl rfl ?_; refine forVals_nil (ORg.yes rfl (decide_eq_false (by omega : ¬ ((r.1.length : Int) ≠ (g : Int)))) rfl (OR.nilCheck rfl ?_)); exact ⟨_, [], Hp.le.refl _, hs, rfl, rfl⟩, ?_⟩
      refine ⟨MF.eq _, by intro Mx H w hle hs; refine forVals_eq rfl rfl rfl ?_; refine forVals_eq rfl rfl rfl ?_; refine forVals_nil (ORg.yes rfl (decide_eq_false (by omega : ¬ ((r.1.length : Int) ≠ (g : Int)))) rfl (OR.fieldAddr FA165_1 rfl ?_)); exact ⟨_, [], Hp.le.refl _, hs, rfl, rfl⟩, ?_⟩
      refine ⟨MF.eq _, by intro Mx H w hle hs; refine forVals_eq rfl rfl rfl ?_; refine forVals_eq rfl rfl rfl ?_; refine forVals_nil (ORg.yes rfl (decide_eq_false (by omega : ¬ ((r.1.length : Int) ≠ (g : Int)))) rfl (OR.load T3 rfl rfl (hs.right.cellM (i := 1) rfl rfl) ?_)); exact ⟨_, [], Hp.le.refl _, hs, rfl, rfl⟩, ?_⟩
      refine ⟨MF.eq _, by intro Mx H w hle hs; refine forVals_eq rfl rfl rfl ?_; refine forVals_eq rfl rfl rfl ?_; refine forVals_eq rfl rfl rfl ?_; refine forVals_nil (ORg.yes rfl (decide_eq_false (by omega : ¬ ((r.1.length : Int) ≠ (g : Int)))) rfl (OR.neq rfl rfl ?_)); exact ⟨_, [], Hp.le.refl _, hs, rfl, rfl⟩, ?_⟩
      refine ⟨MF.eq _, by intro Mx H w hle hs; refine forVals_eq rfl rfl rfl ?_; refine forVals_eq rfl rfl rfl ?_; refine forVals_nil (ORg.plain (OR.pickF rfl (decide_eq_false (by omega : ¬ ((r.1.length : Int) ≠ (g : Int)))) rfl ?_)); exact ⟨_, [], Hp.le.refl _, hs, rfl, rfl⟩, ?_⟩
      intro H w hle2; (try replace hle := hle.trans hle2); (try replace hlb := hlb.trans hle2)
      refine forAllVals_eq rfl ?_
      refine forAllVals_eq rfl ?_
      refine forAllVals_eq rfl ?_
      refine forAllVals_eq rfl ?_
      refine forAllVals_eq rfl ?_
      refine forAllVals_eq rfl ?_
      refine forAllVals_eq rfl ?_
      refine forAllVals_eq rfl ?_
      refine forAllVals_eq rfl ?_
      refine forAllVals_eq rfl ?_
      refine forAllVals_eq rfl ?_
      refine forAllVals_eq rfl ?_
      refine forAllVals_eq rfl ?_
      refine forAllVals_eq rfl ?_
      refine forAllVals_eq rfl ?_
      refine forAllVals_eq rfl ?_
      refine forAllVals_eq rfl ?_
      refine forAllVals_eq rfl ?_
      refine forAllVals_nil ?_; (try clear hs); intro hs
      refine WO.done (WX.seq ?_)
      refine WC.yes rfl (decide_eq_true (by omega)) ?_
      refine WC.seq (WC.region (WO.step rfl (OR.assign rfl (WO.step rfl (OR.assign rfl (WO.done (WX.seq ?_)))))))
      refine WC.ret (WX.seq_ret ?_)
      refine WX.ret2 rfl rfl rfl ?_
      exact ⟨_, H, [(gi, .cells ci 4, true), (gr, .cells cr 35, true)], rfl, (hs.drop 0).drop 0, by simp, ci, cr, f, rfl, hc.mono hle, hL, rfl, rfl⟩
    · have hd2 : True := trivial
      refine WC.draw 18 mixed hs (by kernel_rfl) ?_
      refine ⟨MF.eq _, by intro Mx H w hle hs; refine forVals_nil (ORg.plain (OR.fieldAddr FA35_0 rfl ?_)); exact ⟨_, [], Hp.le.refl _, hs, rfl, rfl⟩, ?_⟩
      refine ⟨MF.eq _, by intro Mx H w hle hs; refine forVals_eq rfl rfl rfl ?_; refine forVals_nil (ORg.plain (OR.load T23 rfl rfl (hs.right.cellM (i := 0) rfl rfl) ?_)); exact ⟨_, [], Hp.le.refl _, hs, rfl, rfl⟩, ?_⟩
      refine ⟨MF.eq _, by intro Mx H w hle hs; refine forVals_eq rfl rfl rfl ?_; refine forVals_nil (ORg.plain (OR.lenSlice T23.und rfl ?_)); exact ⟨_, [], Hp.le.refl _, hs, rfl, rfl⟩, ?_⟩
      refine ⟨MF.eq _, by intro Mx H w hle hs; refine forVals_nil (ORg.plain (OR.move rfl ?_)); exact ⟨_, [], Hp.le.refl _, hs, rfl, rfl⟩, ?_⟩
      refine ⟨MF.eq _, by intro Mx H w hle hs; refine forVals_eq rfl rfl rfl ?_; refine forVals_nil (ORg.plain (OR.nilCheck rfl ?_)); exact ⟨_, [], Hp.le.refl _, hs, rfl, rfl⟩, ?_⟩
      refine ⟨MF.eq _, by intro Mx H w hle hs; refine forVals_eq rfl rfl rfl ?_; refine forVals_nil (ORg.plain (OR.fieldAddr FA165_0 rfl ?_)); exact ⟨_, [], Hp.le.refl _, hs, rfl, rfl⟩, ?_⟩
      refine ⟨MF.eq _, by intro Mx H w hle hs; refine forVals_eq rfl rfl rfl ?_; refine forVals_nil (ORg.plain (OR.load T3 rfl rfl (hs.right.cellM (i := 1) rfl rfl) ?_)); exact ⟨_, [], Hp.le.refl _, hs, rfl, rfl⟩, ?_⟩
      refine ⟨MF.eq _, by intro Mx H w hle hs; refine forVals_eq rfl rfl rfl ?_; refine forVals_eq rfl rfl rfl ?_; refine forVals_nil (ORg.plain (OR.neq rfl rfl ?_)); exact ⟨_, [], Hp.le.refl _, hs, rfl, rfl⟩, ?_⟩
      refine ⟨MF.eq _, by intro Mx H w hle hs; refine forVals_eq rfl rfl rfl ?_; refine forVals_nil (ORg.plain (OR.move rfl ?_)); exact ⟨_, [], Hp.le.refl _, hs, rfl, rfl⟩, ?_⟩
      refine ⟨MF.eq undef, by intro Mx H w hle hs; refine forVals_eq rfl rfl rfl ?_; refine forVals_nil (ORg.no rfl (decide_eq_true (by omega : ((r.1.length : Int) ≠ (g : Int)))) rfl ?_); exact ⟨_, [], Hp.le.refl _, hs, rfl, rfl⟩, ?_⟩
      refine ⟨MF.eq undef, by intro Mx H w hle hs; refine forVals_eq rfl rfl rfl ?_; refine forVals_eq rfl rfl rfl ?_; refine forVals_nil (ORg.no rfl (decide_eq_true (by omega : ((r.1.length : Int) ≠ (g : Int)))) rfl ?_); exact ⟨_, [], Hp.le.refl _, hs, rfl, rfl⟩, ?_⟩
      refine ⟨MF.eq undef, by intro Mx H w hle hs; refine forVals_eq rfl rfl rfl ?_; refine forVals_eq rfl rfl rfl ?_; refine forVals_nil (ORg.no rfl (decide_eq_true (by omega : ((r.1.length : Int) ≠ (g : Int)))) rfl ?_); exact ⟨_, [], Hp.le.refl _, hs, rfl, rfl⟩, ?_⟩
      refine ⟨MF.eq undef, by intro Mx H w hle hs; refine forVals_eq rfl rfl rfl ?_; refine forVals_nil (ORg.no rfl (decide_eq_true (by omega : ((r.1.length : Int) ≠ (g : Int)))) rfl ?_); exact ⟨_, [], Hp.le.refl _, hs, rfl, rfl⟩, ?_⟩
      refine ⟨MF.eq undef, by intro Mx H w hle hs; refine forVals_eq rfl rfl rfl ?_; refine forVals_eq rfl rfl rfl ?_; refine forVals_nil (ORg.no rfl (decide_eq_true (by omega : ((r.1.length : Int) ≠ (g : Int)))) rfl ?_); exact ⟨_, [], Hp.le.refl _, hs, rfl, rfl⟩, ?_⟩
      refine ⟨MF.eq undef, by intro Mx H w hle hs; refine forVals_eq rfl rfl rfl ?_; refine forVals_eq rfl rfl rfl ?_; refine forVals_nil (ORg.no rfl (decide_eq_true (by omega : ((r.1.length : Int) ≠ (g : Int)))) rfl ?_); exact ⟨_, [], Hp.le.refl _, hs, rfl, rfl⟩, ?_⟩
      refine ⟨MF.eq undef, by intro Mx H w hle hs; refine forVals_eq rfl rfl rfl ?_; refine forVals_eq rfl rfl rfl ?_; refine forVals_nil (ORg.no rfl (decide_eq_true (by omega : ((r.1.length : Int) ≠ (g : Int)))) rfl ?_); exact ⟨_, [], Hp.le.refl _, hs, rfl, rfl⟩, ?_⟩
      refine ⟨MF.eq undef, by intro Mx H w hle hs; refine forVals_eq rfl rfl rfl ?_; refine forVals_eq rfl rfl rfl ?_; refine forVals_eq rfl rfl rfl ?_; refine forVals_nil (ORg.no rfl (decide_eq_true (by omega : ((r.1.length : Int) ≠ (g : Int)))) rfl ?_); exact ⟨_, [], Hp.le.refl _, hs, rfl, rfl⟩, ?_⟩
      refine ⟨MF.eq _, by intro Mx H w hle hs; refine forVals_eq rfl rfl rfl ?_; refine forVals_eq rfl rfl rfl ?_; refine forVals_nil (ORg.plain (OR.pickT rfl (decide_eq_true (by omega : ((r.1.length : Int) ≠ (g : Int)))) rfl ?_)); exact ⟨_, [], Hp.le.refl _, hs, rfl, rfl⟩, ?_⟩
      intro H w hle2; (try replace hle := hle.trans hle2); (try replace hlb := hlb.trans hle2)
      refine forAllVals_eq rfl ?_
      refine forAllVals_eq rfl ?_
      refine forAllVals_eq rfl ?_
      refine forAllVals_eq rfl ?_
      refine forAllVals_eq rfl ?_
      refine forAllVals_eq rfl ?_
      refine forAllVals_eq rfl ?_
      refine forAllVals_eq rfl ?_
      refine forAllVals_eq rfl ?_
      refine forAllVals_eq rfl ?_
      refine forAllVals_eq rfl ?_
      refine forAllVals_eq rfl ?_
      refine forAllVals_eq rfl ?_
      refine forAllVals_eq rfl ?_
      refine forAllVals_eq rfl ?_
      refine forAllVals_eq rfl ?_
      refine forAllVals_eq rfl ?_
      refine forAllVals_eq rfl ?_
      refine forAllVals_nil ?_; (try clear hs); intro hs
      refine WO.done (WX.seq (WC.yes rfl rfl (WC.seq (WC.region (WO.step rfl (OR.assign rfl (WO.step rfl ?_)))))))
      refine OR.assign rfl (WO.done (WX.seq (WC.ret (WX.seq_ret ?_))))
      refine WX.ret2 rfl rfl rfl ?_
      exact ⟨_, H, [(gi, .cells ci 4, true), (gr, .cells cr 35, true)], rfl, (hs.drop 0).drop 0, by simp, ci, cr, f, rfl, hc.mono hle, hL, rfl, rfl⟩
end
end Go.Bw
