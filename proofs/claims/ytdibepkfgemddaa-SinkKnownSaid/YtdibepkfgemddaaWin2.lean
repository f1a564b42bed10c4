/- A window: what goes through it. -/
import Derived.Test.YtdibepkfgemddaaWin
namespace Go.Bw
set_option linter.unusedVariables false
set_option linter.unusedSimpArgs false
open Go.Proofs

set_option maxRecDepth 20000 in
set_option maxHeartbeats 2000000 in
theorem weach_ok (wb base width lp : Nat) (t : Bool) (xs : List Nat) (H0 : Hp) (w0 : World) (hB : base ≤ 1099511627776) (hWd : width ≤ 16) (I : Nat → Hp → Mem → Prop) (hI : ∀ k H H' M, Hp.le H H' → I k H M → I k H' M) (Cx : World → Prop)
    (hround : ∀ k H M w, k < winEnd base width - base → HS xs H0 w0 H ((wb, winObj base width, t) :: M) w → I k H M → YieldAt (fen none) 0 Try.prog lp #[.int .u64 ((base + k : Nat) : Int)] w (fun e w' =>
      (e = .returned (.bool true) ∧ ∃ H' M', HS xs H0 w0 H' ((wb, winObj base width, t) :: M') w' ∧ I (k + 1) H' M') ∨ (e = .returned (.bool false) ∧ Cx w')))
    (H1 : Hp) (M1 : Mem) (w1 : World) (hs : HS xs H0 w0 H1 ((wb, winObj base width, t) :: M1) w1) (h0 : I 0 H1 M1) :
    Calls Try.prog 106 #[ptr wb, .func (.yield lp) #[] #[]] w1 (fun e w' => e = .returned (.tuple #[]) ∧ ((∃ H' M', HS xs H0 w0 H' ((wb, winObj base width, t) :: M') w' ∧ I (winEnd base width - base) H' M') ∨ Cx w')) := by
  have hle := Hp.le.refl H1
  have hle9 : winEnd base width ≤ 1099511627776 := Nat.min_le_right _ _
  refine Calls.enter (args := [ptr wb, .func (.yield lp) #[] #[]]) Try.func106 rfl Try.ntmps106 rfl ?_
  refine WC.seq (WC.region (WO.step rfl (OR.move rfl ?_)))
  refine WO.step rfl (OR.call hs body113 rfl rfl (wbase_ok wb base width _ _ hs.toSub (hs.blk (i := 0) rfl) (hs.nh (i := 0) rfl)) ?_)
  clear hs; rintro _ H w hs hle1 rfl; replace hle := hle.trans hle1; (try replace hlb := hlb.trans hle1)
  refine WO.step rfl (OR.assign rfl (WO.done (WX.seq (WC.block ?_))))
  refine WC.loop (ι := Nat) (fun k => [(0, ptr wb), (1, .func (.yield lp) #[] #[]), (4, .int .u64 ((base + k : Nat) : Int))]) (fun k w => (base + k ≤ max base (winEnd base width) ∧ ∃ H M, HS xs H0 w0 H ((wb, winObj base width, t) :: M) w ∧ I k H M)) (fun k => winEnd base width - base - k) 0 ⟨rfl, rfl, rfl,  trivial⟩ ?_ (fun k w hW => ?_)
  · exact ⟨by omega, H, M1, hs, hI _ _ _ _ hle h0⟩
  clear hs hle hle1
  obtain ⟨hk, H, M, hs, hinv⟩ := hW
  have hle := Hp.le.refl H
  refine WC.seq (WC.seq ?_)
  refine WC.regionR ?_
  refine RO.step rfl rfl (OR.move rfl (RO.step rfl rfl (OR.move rfl ?_)))
  refine RO.step rfl rfl (OR.call hs body114 rfl rfl (wend_ok wb base width _ _ hs.toSub (hs.blk (i := 0) rfl) (hs.nh (i := 0) rfl) hB hWd) ?_)
  clear hs; rintro _ H w hs hle1 rfl; replace hle := hle.trans hle1; (try replace hlb := hlb.trans hle1)
  refine RO.step rfl rfl (OR.lss rfl rfl (RO.step rfl rfl (OR.move rfl ?_)))
  refine RO.guardSplit (j := 4) rfl (fun hlt => ?_) (fun hlt => ?_)
  · have hk2 : k < winEnd base width - base := by omega
    refine RO.guardYes rfl (decide_eq_true hlt) rfl rfl rfl (OR.move rfl (RO.guardYes rfl (decide_eq_true hlt) rfl rfl rfl (OR.move rfl ?_)))
    refine RO.yieldG rfl (decide_eq_true hlt) rfl rfl rfl rfl (hround k _ _ _ hk2 hs (hI _ _ _ _ hle hinv)) ?_
    rintro e w hC
    clear hs
    rcases hC with ⟨rfl, H2, M2, hs, hinv2⟩ | ⟨rfl, hx⟩
    · refine ⟨_, rfl, ?_⟩
      refine RO.step rfl rfl (OR.pickT rfl (decide_eq_true hlt) rfl ?_)
      refine RO.doneW ?_
      refine WX.seq ?_
      refine WC.yes rfl rfl ?_
      refine WC.skip (WX.seq (WC.seq (WC.block (WC.skip (WX.block (WX.seq (WC.region ?_)))))))
      refine WO.step rfl (OR.move rfl ?_)
      refine WO.step rfl (OR.add rfl rfl ?_)
      rw [show IntKind.u64.wrap (((base + k : Nat) : Int) + 1) = ((base + (k + 1) : Nat) : Int) from u64_wrap (base + (k + 1)) (by omega)]
      refine WO.step rfl (OR.assign rfl (WO.done ?_))
      refine WX.again (k + 1) ⟨rfl, rfl, rfl,  trivial⟩ ?_ ?_
      · exact ⟨by omega, H2, M2, hs, hinv2⟩
      · omega
    · refine ⟨_, rfl, ?_⟩
      refine RO.step rfl rfl (OR.pickT rfl (decide_eq_true hlt) rfl ?_)
      refine RO.doneW ?_
      refine WX.seq ?_
      refine WC.no rfl rfl ?_
      refine WC.exit (WX.seq_exit (WX.loop_exit (WX.block_hit ?_)))
      refine WX.end0 rfl ?_
      exact ⟨rfl, .inr hx⟩
  · refine RO.guardNo rfl (decide_eq_false hlt) rfl rfl (RO.guardNo rfl (decide_eq_false hlt) rfl rfl (RO.guardNo rfl (decide_eq_false hlt) rfl rfl (RO.step rfl rfl (OR.pickF rfl (decide_eq_false hlt) rfl ?_))))
    refine RO.doneW ?_
    refine WX.seq (WC.no rfl rfl (WC.exit (WX.seq_exit (WX.loop_exit (WX.block_hit ?_)))))
    refine WX.end0 rfl ?_
    have e : k = winEnd base width - base := by omega
    subst e
    exact ⟨rfl, .inl ⟨_, _, hs, hI _ _ _ _ hle hinv⟩⟩

/-- Whole numbers in a slice. -/
def Nums (H : Hp) (v : Value) (l : List Nat) : Prop := Sl H 1 v l.length (l.map fun n : Nat => Value.int .u64 (n : Int))
theorem Nums.mono {H H' : Hp} {v : Value} {l : List Nat} (h : Nums H v l) (hle : Hp.le H H') : Nums H' v l := Sl.mono h hle
def numsC (l : List Nat) : List Value := l.map fun n : Nat => Value.int .u64 (n : Int)
theorem nums_one (l : List Nat) : (numsC l).all (·.oneCell') = true := by
  rw [List.all_eq_true]
  intro u hu
  obtain ⟨n, _, rfl⟩ := List.mem_map.1 hu
  rfl
/-- The numbers that are in a window. -/
def winNums (base n : Nat) : List Nat := (List.range n).map fun k => base + k
theorem winNums_succ (base n : Nat) : winNums base (n + 1) = winNums base n ++ [base + n] := by
  unfold winNums
  rw [List.range_succ, List.map_append]
  rfl
set_option maxRecDepth 20000 in
set_option maxHeartbeats 2000000 in
theorem appendSeq_ok (wb base width : Nat) (H0 : Hp) (w0 : World) (h0 : Sub H0 w0) (hb : w0.heap[wb]? = some (winObj base width)) (hn : H0 wb = none) (hB : base ≤ 1099511627776) (hWd : width ≤ 16) :
    Calls Try.prog 117 #[.slice none 0 0, .func (.func 106) #[ptr wb] #[]] w0 (Pure H0 w0 fun v H' => Nums H' v (winNums base (winEnd base width - base))) := by
  have hs := HS.startR h0 hb hn
  have hle := Hp.le.refl H0
  refine Calls.enterM (args := [.slice none 0 0, .func (.func 106) #[ptr wb] #[]]) Try.func117 rfl Try.ntmps117 rfl ?_
  refine WC.seq (WC.region (WO.step rfl (OR.box hs rfl ?_)))
  clear hs; intro g1 w hg1 hs
  refine WO.step rfl (OR.assign rfl (WO.done (WX.seq (WC.seq (WC.seq (WC.region (WO.step rfl ?_)))))))
  refine OR.move rfl (WO.done (WX.seq (WC.block ?_)))
  refine WC.rangeFunc (fl := [ptr wb]) (lb := []) hs rfl body106 ?_
  clear hs; intro fn tmps D lp w hD hlp hst hs
  refine (weach_ok wb base width lp false [] H0 w0 hB hWd (fun k H M => ∃ v Mo, M = (lp, loopObj .ready none fn tmps _ _ _ D, true) :: (D, .deferred (some []), true) :: (g1, .cells #[v] 118, true) :: Mo ∧ Own w0.heap.size 27 1 v k (numsC (winNums base k)) Mo) (fun k H H' M _ h => h) (fun _ => False) ?_ H0 _ w ((hs.front (i := 3) rfl)) ⟨_, [], rfl, Own.nil _ _ _⟩).mono ?_
  · clear hs
    rintro k H M w hk hs ⟨v, Mo, rfl, ho⟩
    replace hs := hs.front (i := 1) rfl
    refine yieldAt hs rfl (hst.param1 rfl _) ?_
    have hle := Hp.le.refl H
    have hlen : (numsC (winNums base k)).length = k * 1 := by simp [numsC, winNums]
    have hk9 : k ≤ 16 := by have : winEnd base width ≤ base + width := Nat.min_le_left _ _; omega
    refine RC.region (RO.step rfl rfl (OR.assign rfl (RO.done ?_)))
    refine RC.assigned hs ?_; clear hs; intro w hs
    obtain ⟨bo, co, rfl⟩ := ho.form
    refine RC.block (RC.region (RO.step rfl rfl (OR.load T118 rfl rfl (hs.cellM (i := 3) rfl rfl) (RO.step rfl rfl (OR.move rfl ?_)))))
    refine RO.step rfl rfl (OR.buildSlice (vs := [_]) hs T118.und T27 rfl rfl rfl rfl (by simp) ?_)
    clear hs; intro q1 w hq1 hs
    obtain ⟨H, hle1, hp_q1, hs9⟩ := hs.pub1 hq1; clear hs; have hs := hs9; clear hs9; replace hle := hle.trans hle1; (try replace hlb := hlb.trans hle1)
    have hone : Nums H (.slice (some ⟨q1, 0, none⟩) 1 1) [base + k] := Sl.block hp_q1 rfl rfl (by simp)
    refine RO.step rfl rfl (OR.append (m := 1) (news := numsC [base + k]) (Mo := Mo) (M := [_, _, _, _]) (HS.mtail (A := [_, _, _, _]) hs) ho T118.und T27 rfl (by omega) rfl rfl rfl (Sl.src hone hs) (Sl.src0 hone) (nums_one _) (by omega) (by omega) ?_)
    clear hs ho; intro v' w Mo' hs ho hge
    replace hs := HS.mtail (B := [_, _, _, _]) hs
    obtain ⟨bo2, co2, rfl⟩ := ho.form
    replace hs := hs.front (i := 3) rfl
    refine RO.stepN rfl (OR.storeAll hs T118 rfl rfl rfl rfl rfl ?_)
    clear hs; intro w hs
    refine RO.done (RX.block ?_)
    replace hs := hs.front (i := 1) rfl
    refine RX.on hs fun w hs => ?_
    replace hs := hs.front (i := 1) rfl
    replace hs := hs.front (i := 3) rfl
    replace hs := hs.front (i := 2) rfl
    replace hs := hs.front (i := 3) rfl
    refine .inl ⟨rfl, H, _, hs, _, Mo', rfl, ?_⟩
    rw [winNums_succ]
    have e : numsC (winNums base k ++ [base + k]) = numsC (winNums base k) ++ numsC [base + k] := by simp [numsC]
    rw [e]
    exact ho
  · rintro e w3 ⟨rfl, (⟨H3, M3, hs, v, Mo, rfl, ho⟩ | h)⟩
    · refine ⟨⟨_, rfl⟩, H3, _, .ready, none, by decide, hs.front (i := 1) rfl, fun w hs => ⟨fun _ => ?_, fun c h => by cases h⟩⟩
      refine WX.block (WX.seq (WC.seq (WC.region (WO.step rfl (OR.load T118 rfl rfl (hs.cellM (i := 3) rfl rfl) (WO.step rfl (OR.assign rfl ?_)))))))
      refine WO.done (WX.seq (WC.ret ?_))
      replace hs := hs.front (i := 2) rfl
      refine WX.retM hs fun w hs a ha => ⟨_, results_tmp rfl a.tmps _ w, ?_⟩
      rw [ha 4 _ rfl]
      obtain ⟨H4, hle4, hs, hsl, _⟩ := HS.pub (HS.mtail (A := [_, _, _, _]) hs) ho
      have hl : (winNums base (winEnd base width - base)).length = winEnd base width - base := by simp [winNums]
      refine .mk ((((hs.drop 0).drop 0).drop 0).drop 0) ?_
      unfold Nums
      rw [hl]
      exact hsl
    · exact h.elim
end Go.Bw
