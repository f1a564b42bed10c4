/- What law_FlowKnown needs: laid out of own texts. No condition. -/
import Derived.Test.YtdibepkfgemddaaGreatKFlowKnown2
namespace Go.Bw
set_option linter.unusedVariables false
set_option linter.unusedSimpArgs false
open Go.Proofs
/-- Three times an element. -/
def t3 (a : UInt8) : UInt8 := (if a ≥ 128 then (a <<< 1) ^^^ 27 else a <<< 1) ^^^ a
/-- Powers of 3. -/
def pw : Nat → UInt8
  | 0 => 1
  | n + 1 => t3 (pw n)
/-- The last place below n of a power that is a. -/
def lgTo (a : UInt8) : Nat → Nat
  | 0 => 0
  | n + 1 => if pw n = a then n else lgTo a n
def lg (a : UInt8) : Nat := lgTo a 255
def cell (k : Nat) (c : Nat) : Value :=
  if c < 510 then (if c < k then B (pw c) else if 255 ≤ c ∧ c < 255 + k then B (pw (c - 255)) else B 0)
  else .int .i64 (lgTo (UInt8.ofNat (c - 510)) k : Int)
def tab (k : Nat) : List Value := (List.range 766).map (cell k)

theorem tab_len (k : Nat) : (tab k).length = 766 := by simp [tab]
theorem tab_get (k c : Nat) (h : c < 766) : (tab k)[c]? = some (cell k c) := by simp [tab, h]

theorem tab_one (k : Nat) : (tab k).all (·.oneCell') = true := by
  rw [List.all_eq_true]
  intro v hv
  obtain ⟨c, _, rfl⟩ := List.mem_map.1 hv
  unfold cell
  repeat' split
  all_goals rfl
theorem two_get (a b c : Nat) (x y : Value) : (List.replicate a x ++ List.replicate b y)[c]? = if c < a then some x else if c < a + b then some y else none := by
  rw [List.getElem?_append, List.length_replicate]
  by_cases h : c < a
  · simp [h]
  · simp only [h, if_false, List.getElem?_replicate]
    by_cases h2 : c - a < b
    · rw [if_pos h2, if_pos (by omega)]
    · rw [if_neg h2, if_neg (by omega)]
theorem tab_zero : Value.cells Z237 = (tab 0).toArray := by
  show Array.replicate 510 (Value.int .u8 0) ++ Array.replicate 256 (Value.int .i64 0) = (tab 0).toArray
  apply Array.toList_inj.1
  symm
  rw [Array.toList_append, Array.toList_replicate, Array.toList_replicate]
  apply List.ext_getElem?
  intro c
  rw [two_get]
  by_cases h : c < 766
  · rw [tab_get 0 c h]
    unfold cell
    by_cases h1 : c < 510
    · rw [if_pos h1, if_pos h1, if_neg (by omega), if_neg (by omega)]; rfl
    · rw [if_neg h1, if_neg h1, if_pos (by omega)]; rfl
  · rw [List.getElem?_eq_none (by rw [tab_len]; omega), if_neg (by omega), if_neg (by omega)]

theorem tab_succ (k : Nat) (h : k < 255) :
    setL (setL (setL (tab k) k [B (pw k)]) (k + 255) [B (pw k)]) (510 + (pw k).toNat) [.int .i64 (k : Int)] = tab (k + 1) := by
  have hb := (pw k).toNat_lt
  simp only [setL_step, setL_nil]
  apply List.ext_getElem?
  intro c
  by_cases hc : c < 766
  · rw [tab_get _ c hc, List.getElem?_set, List.getElem?_set, List.getElem?_set, tab_get _ c hc]
    simp only [List.length_set, tab_len, cell]
    by_cases h1 : c < 510
    · have e3 : ¬ (510 + (pw k).toNat = c) := by omega
      simp only [e3, if_false, h1, if_true]
      by_cases e1 : k + 255 = c
      · have n1 : ¬ c < k + 1 := by omega
        have n2 : 255 ≤ c ∧ c < 255 + (k + 1) := by omega
        simp only [e1, if_true, n1, if_false, n2, and_self]
        simp [show c < 766 from by omega, show c - 255 = k from by omega]
      · by_cases e2 : k = c
        · simp [e1, e2, show c < 766 from by omega, show c < c + 1 from by omega]
        · have q1 : (c < k) ↔ (c < k + 1) := by omega
          have q2 : (255 ≤ c ∧ c < 255 + k) ↔ (255 ≤ c ∧ c < 255 + (k + 1)) := by omega
          simp [e1, e2, q1, q2]
    · have e1 : ¬ (k + 255 = c) := by omega
      have e2 : ¬ (k = c) := by omega
      simp only [e1, e2, if_false, h1]
      by_cases e3 : 510 + (pw k).toNat = c
      · have : pw k = UInt8.ofNat (c - 510) := by
          apply UInt8.toNat.inj
          rw [UInt8.toNat_ofNat']
          omega
        rw [if_pos e3, if_pos (by omega)]
        simp [lgTo, this]
      · have : ¬ (pw k = UInt8.ofNat (c - 510)) := by
          intro e
          apply e3
          have := congrArg UInt8.toNat e
          rw [UInt8.toNat_ofNat'] at this
          omega
        rw [if_neg e3]
        simp [lgTo, this]
  · have : ∀ j, (tab j)[c]? = none := fun j => List.getElem?_eq_none (by rw [tab_len]; omega)
    rw [List.getElem?_set, List.getElem?_set, List.getElem?_set, this, this]
    simp only [List.length_set, tab_len]
    have e1 : ¬ (k + 255 = c) := by omega
    have e2 : ¬ (k = c) := by omega
    have e3 : ¬ (510 + (pw k).toNat = c) := by omega
    simp [e1, e2, e3]

set_option maxRecDepth 20000 in
set_option maxHeartbeats 2000000 in
theorem times3_ok (a : UInt8) (H0 : Hp) (w0 : World) (h0 : Sub H0 w0) : Calls Tryz.prog 182 #[B a] w0 (Pure H0 w0 fun v _ => v = B (t3 a)) := by
  have hs := HS.init h0
  refine Calls.enter (args := [B a]) Tryz.func182 rfl Tryz.ntmps182 rfl ?_
  refine WC.seq (WC.region (WO.step rfl (OR.assign rfl (WO.done (WX.seq (WC.seq (WC.region ?_)))))))
  refine WO.step rfl (OR.move rfl ?_)
  refine WO.step rfl (OR.shl rfl rfl (by omega) ?_)
  rw [u8_shl1]
  refine WO.step rfl (OR.assign rfl (WO.done (WX.seq (WC.seq (WC.seq (WC.region (WO.step rfl ?_)))))))
  refine OR.move rfl (WO.step rfl (OR.geq rfl rfl (WO.done (WX.seq ?_))))
  refine WC.condD rfl (fun hc => ?_) (fun hc => ?_)
  · refine WC.region (WO.step rfl (OR.move rfl (WO.step rfl (OR.xorB _ 27 rfl rfl rfl rfl (WO.step rfl (OR.assign rfl (WO.done ?_)))))))
    refine WX.seq (WC.seq (WC.region (WO.step rfl (OR.move rfl (WO.step rfl (OR.move rfl (WO.step rfl ?_)))))))
    refine OR.xorB _ _ rfl rfl rfl rfl (WO.step rfl (OR.assign rfl (WO.done (WX.seq (WC.ret ?_)))))
    refine WX.ret1 rfl rfl ?_
    refine .mk hs ?_
    have : a ≥ 128 := by rw [ge_iff_le, UInt8.le_iff_toNat_le]; have : (128 : Int) ≤ a.toNat := hc; simp; omega
    simp [t3, this]
  · refine WC.skip (WX.seq (WC.seq (WC.region (WO.step rfl (OR.move rfl (WO.step rfl (OR.move rfl ?_)))))))
    refine WO.step rfl (OR.xorB _ _ rfl rfl rfl rfl (WO.step rfl (OR.assign rfl (WO.done (WX.seq (WC.ret ?_))))))
    refine WX.ret1 rfl rfl ?_
    refine .mk hs ?_
    have : ¬ a ≥ 128 := by rw [ge_iff_le, UInt8.le_iff_toNat_le]; have : ¬ (128 : Int) ≤ a.toNat := hc; simp; omega
    simp [t3, this]

set_option maxRecDepth 20000 in
theorem made_ok (H0 : Hp) (w0 : World) (h0 : Sub H0 w0) : Calls Tryz.prog 179 #[] w0 (Pure H0 w0 fun v _ => v = .agg (tab 255).toArray) := by
  have hs := HS.init h0
  refine Calls.enter (args := []) Tryz.func179 rfl Tryz.ntmps179 rfl ?_
  refine WC.seq (WC.region (WO.step rfl (OR.alloc hs T237 ?_)))
  clear hs; intro g1 w hg1 hs
  rw [tab_zero] at hs
  refine WO.done (WX.seq ?_)
  refine WC.scopeLoopAt (ι := Nat) 0 (fun i => [(0, .pointer (some ⟨g1, 0, none⟩)), (1, .int .i64 (i : Int)), (2, B (pw i))]) (fun i w => (i < 255 ∧ ∃ H, HS [] H0 w0 H [(g1, .cells (tab i).toArray 237, true)] w)) (fun i => 255 - i) rfl ?_ (fun i w hW => ?_)
  · refine WC.region (WO.step rfl (OR.assign rfl (WO.step rfl (OR.assign rfl (WO.done ?_)))))
    refine WX.arrive (0) ⟨rfl, rfl, rfl,  trivial⟩ ?_
    exact ⟨by omega, H0, hs⟩
  · obtain ⟨hi, H, hs⟩ := hW
    have hb := (pw i).toNat_lt
    refine WC.seq (WC.region (WO.step rfl (OR.move rfl (WO.step rfl (OR.move rfl (WO.step rfl (OR.addI rfl rfl (by omega) (by omega) ?_)))))))
    refine WO.step rfl (OR.move rfl (WO.step rfl (OR.move rfl (WO.step rfl (OR.fieldAddr FA237_0 rfl ?_)))))
    refine WO.step rfl (OR.idxArr i T234.und T5 rfl rfl rfl (by omega) ?_)
    refine WO.stepN (OR.store hs T5 rfl rfl rfl (by simp [tab_len]; omega) rfl ?_)
    clear hs; intro w hs
    refine WO.step rfl (OR.fieldAddr FA237_0 rfl ?_)
    refine WO.step rfl (OR.idxArr (i + 255) T234.und T5 rfl rfl (by omega) (by omega) ?_)
    refine WO.stepN (OR.store hs T5 rfl rfl rfl (by simp [setL_length, tab_len]; omega) rfl ?_)
    clear hs; intro w hs
    refine WO.done (WX.seq (WC.seq (WC.region (WO.step rfl (OR.move rfl (WO.step rfl (OR.move rfl ?_)))))))
    refine WO.step rfl (OR.fieldAddr FA237_1 rfl ?_)
    refine WO.step rfl (OR.idxArr (pw i).toNat T235.und T3 rfl rfl rfl (by omega) ?_)
    refine WO.stepN (OR.store hs T3 rfl rfl rfl (by simp [setL_length, tab_len]; omega) rfl ?_)
    clear hs; intro w hs
    have hs' : HS [] H0 w0 H [(g1, .cells (tab (i + 1)).toArray 237, true)] w := by
      have := tab_succ i hi
      rw [← this]
      simp only [Nat.zero_add, Nat.add_zero] at hs
      exact hs
    clear hs
    have hs := hs'
    clear hs'
    refine WO.done (WX.seq (WC.seq (WC.region (WO.step rfl (OR.move rfl ?_)))))
    refine WO.step rfl (OR.call hs body182 rfl rfl (times3_ok (pw i) _ _ hs.toSub) ?_)
    clear hs; rintro _ H w hs hle rfl
    refine WO.step rfl (OR.assign rfl (WO.done (WX.seq (WC.seq (WC.seq (WC.region (WO.step rfl ?_)))))))
    refine OR.move rfl (WO.step rfl (OR.addI rfl rfl (by omega) (by omega) (WO.step rfl (OR.assign rfl (WO.done (WX.seq (WC.seq ?_)))))))
    refine WC.region (WO.step rfl (OR.move rfl (WO.step rfl (OR.lss rfl rfl (WO.done (WX.seq ?_))))))
    refine WC.condD rfl (fun hc => ?_) (fun hc => ?_)
    · refine WC.goto (WX.seq_goto ?_)
      refine WX.jumpAgain (i + 1) ⟨rfl, rfl, rfl,  trivial⟩ ?_ ?_
      · exact ⟨by omega, H, hs⟩
      · omega
    · have e : i = 254 := by omega
      subst e
      refine WC.skip (WX.seq (WC.seq (WC.region ?_)))
      refine WO.step rfl (OR.loadAll T237 rfl rfl (hs.blk (i := 0) rfl) (by rw [List.size_toArray]; exact tab_len _) ?_)
      refine WO.stepN (OR.storeAll hs T237 rfl rfl (by show (tab 255).toArray.size = 766; rw [List.size_toArray]; exact tab_len _) (by rw [List.size_toArray]; exact tab_len _) (by show (tab 255).toArray.toList.all _ = true; exact tab_one 255) ?_)
      clear hs; intro w hs
      refine WO.done (WX.seq (WC.ret (WX.jump_ret ?_)))
      refine WX.retCell T237 rfl rfl rfl (by show (tab 255).toArray.size = 766; rw [List.size_toArray]; exact tab_len _) (hs.blk (i := 0) rfl) ?_
      exact .mk hs rfl

set_option maxRecDepth 20000 in
theorem known_ok (H0 : Hp) (w0 : World) (h0 : Sub H0 w0) : Calls Tryz.prog 163 #[] w0 (Pure H0 w0 fun v _ => v = .agg (tab 255).toArray) := by
  have hs := HS.init h0
  refine Calls.enter (args := []) Tryz.func163 rfl Tryz.ntmps163 rfl ?_
  refine WC.seq (WC.region (WO.step rfl (OR.alloc hs T237 ?_)))
  clear hs; intro g1 w hg1 hs
  refine WO.done (WX.seq (WC.seq (WC.region ?_)))
  refine WO.step rfl (OR.call hs body179 rfl rfl (made_ok _ _ hs.toSub) ?_)
  clear hs; rintro _ H w hs hle rfl
  refine WO.stepN (OR.storeAll hs T237 rfl rfl (by show (tab 255).toArray.size = 766; rw [List.size_toArray]; exact tab_len _) (by rw [tab_zero, List.size_toArray]; exact tab_len _) (by show (tab 255).toArray.toList.all _ = true; exact tab_one 255) ?_)
  clear hs; intro w hs
  refine WO.done (WX.seq (WC.ret ?_))
  refine WX.retCell T237 rfl rfl rfl (by show (tab 255).toArray.size = 766; rw [List.size_toArray]; exact tab_len _) (hs.blk (i := 0) rfl) ?_
  exact .mk hs rfl

/-- The product, as the code has it. -/
def mul (a b : UInt8) : UInt8 := if a = 0 ∨ b = 0 then 0 else pw ((lg a + lg b) % 255)

theorem lgTo_lt (a : UInt8) : ∀ k, 0 < k → lgTo a k < k
  | 0, h => by omega
  | k + 1, _ => by
    unfold lgTo
    split
    · omega
    · cases k with
      | zero => simp [lgTo]
      | succ k => have := lgTo_lt a (k + 1) (by omega); omega
theorem lg_lt (a : UInt8) : lg a < 255 := lgTo_lt a 255 (by omega)

theorem tab_exp (k : Nat) (h : k < 510) : (tab 255)[k]? = some (B (pw (k % 255))) := by
  rw [tab_get _ _ (by omega)]
  unfold cell
  rw [if_pos h]
  by_cases h1 : k < 255
  · rw [if_pos h1, Nat.mod_eq_of_lt h1]
  · rw [if_neg h1, if_pos (by omega), Nat.mod_eq_sub_mod (by omega), Nat.mod_eq_of_lt (by omega)]
theorem tab_log (a : UInt8) : (tab 255)[510 + a.toNat]? = some (.int .i64 (lg a : Int)) := by
  have := a.toNat_lt
  rw [tab_get _ _ (by omega)]
  unfold cell lg
  rw [if_neg (by omega), show 510 + a.toNat - 510 = a.toNat by omega]
  simp

theorem ext_exp (k : Nat) (h : k < 510) : ((tab 255).toArray.extract 0 (0 + 510))[(k : Int).toNat]? = some (B (pw (k % 255))) := by
  rw [Array.getElem?_extract]
  simp only [List.size_toArray, tab_len, List.getElem?_toArray, Int.toNat_natCast, Nat.zero_add]
  rw [if_pos (by omega), tab_exp k h]
theorem ext_log (a : UInt8) : ((tab 255).toArray.extract 510 (510 + 256))[((a.toNat : Int)).toNat]? = some (.int .i64 (lg a : Int)) := by
  have := a.toNat_lt
  rw [Array.getElem?_extract]
  simp only [List.size_toArray, tab_len, List.getElem?_toArray, Int.toNat_natCast]
  rw [if_pos (by omega), tab_log a]

set_option maxRecDepth 20000 in
theorem mul_ok (a b : UInt8) (H0 : Hp) (w0 : World) (h0 : Sub H0 w0) : Calls Tryz.prog 166 #[B a, B b] w0 (Pure H0 w0 fun v _ => v = B (mul a b)) := by
  have hs := HS.init h0
  have ha := a.toNat_lt
  have hb := b.toNat_lt
  refine Calls.enter (args := [B a, B b]) Tryz.func166 rfl Tryz.ntmps166 rfl ?_
  refine WC.seq (WC.region (WO.step rfl (OR.assign rfl (WO.done (WX.seq (WC.seq (WC.seq ?_)))))))
  refine WC.region (WO.step rfl (OR.move rfl (WO.step rfl (OR.eql rfl rfl (WO.step rfl (OR.move rfl ?_))))))
  refine WO.guardSplit (j := 2) rfl (fun hga => ?_) (fun hga => ?_)
  · refine WO.guardNo rfl (decide_eq_true hga) rfl rfl (WO.guardNo rfl (decide_eq_true hga) rfl rfl (WO.step rfl (OR.pickT rfl (decide_eq_true hga) rfl (WO.done (WX.seq (WC.yes rfl rfl (WC.seq ?_)))))))
    refine WC.region (WO.step rfl (OR.assign rfl (WO.done (WX.seq (WC.ret (WX.seq_ret ?_))))))
    refine WX.ret1 rfl rfl ?_
    refine .mk hs ?_
    have : a = 0 := UInt8.toNat.inj (by simpa using hga)
    simp [mul, this]
  · refine WO.guardYes rfl (decide_eq_false hga) rfl rfl (OR.move rfl (WO.guardYes rfl (decide_eq_false hga) rfl rfl (OR.eql rfl rfl (WO.step rfl (OR.pickF rfl (decide_eq_false hga) rfl (WO.done (WX.seq ?_)))))))
    refine WC.condD rfl (fun hgb => ?_) (fun hgb => ?_)
    · refine WC.seq (WC.region (WO.step rfl (OR.assign rfl (WO.done (WX.seq (WC.ret (WX.seq_ret ?_)))))))
      refine WX.ret1 rfl rfl ?_
      refine .mk hs ?_
      have : b = 0 := UInt8.toNat.inj (by simpa using hgb)
      simp [mul, this]
    · have h1 := lg_lt a
      have h2 := lg_lt b
      have e : mul a b = pw ((lg a + lg b) % 255) := by
        have n1 : a ≠ 0 := fun e => hga (by rw [e]; rfl)
        have n2 : b ≠ 0 := fun e => hgb (by rw [e]; rfl)
        simp [mul, n1, n2]
      refine WC.skip (WX.seq (WC.seq ?_))
      refine WC.draw 12 mixed hs (by kernel_rfl) ?_
      refine ⟨MF.eq (.agg (tab 255).toArray), ?_, ?_⟩
      · intro Mx H w hle2 hs; (try replace hle := hle.trans hle2); (try replace hlb := hlb.trans hle2)
        refine forVals_nil (ORg.plain (OR.call hs body163 rfl rfl (known_ok _ _ hs.toSub) ?_))
        clear hs; rintro _ H w hs hle1 rfl
        exact ⟨_, [], hle1, hs, rfl, rfl⟩
      refine ⟨MF.eq (.agg ((tab 255).toArray.extract 0 (0 + 510))), ?_, ?_⟩
      · intro Mx H w hle2 hs; (try replace hle := hle.trans hle2); (try replace hlb := hlb.trans hle2); refine forVals_eq rfl rfl rfl ?_
        refine forVals_nil (ORg.plain (OR.fieldN T237.und rfl T234 rfl rfl ?_))
        exact ⟨_, [], Hp.le.refl _, hs, rfl, rfl⟩
      refine ⟨MF.eq (.agg (tab 255).toArray), ?_, ?_⟩
      · intro Mx H w hle2 hs; (try replace hle := hle.trans hle2); (try replace hlb := hlb.trans hle2)
        refine forVals_nil (ORg.plain (OR.call hs body163 rfl rfl (known_ok _ _ hs.toSub) ?_))
        clear hs; rintro _ H w hs hle1 rfl
        exact ⟨_, [], hle1, hs, rfl, rfl⟩
      refine ⟨MF.eq (.agg ((tab 255).toArray.extract 510 (510 + 256))), ?_, ?_⟩
      · intro Mx H w hle2 hs; (try replace hle := hle.trans hle2); (try replace hlb := hlb.trans hle2); refine forVals_eq rfl rfl rfl ?_
        refine forVals_nil (ORg.plain (OR.fieldN T237.und rfl T235 rfl rfl ?_))
        exact ⟨_, [], Hp.le.refl _, hs, rfl, rfl⟩
      refine ⟨MF.eq _, by intro Mx H w hle hs; refine forVals_nil (ORg.plain (OR.move rfl ?_)); exact ⟨_, [], Hp.le.refl _, hs, rfl, rfl⟩, ?_⟩
      refine ⟨MF.eq (.int .i64 (lg a : Int)), ?_, ?_⟩
      · intro Mx H w hle2 hs; (try replace hle := hle.trans hle2); (try replace hlb := hlb.trans hle2); refine forVals_eq rfl rfl rfl ?_; refine forVals_eq rfl rfl rfl ?_
        refine forVals_nil (ORg.plain (OR.index1 T235.und T3 rfl rfl rfl (by omega) (by omega) (ext_log a) ?_))
        exact ⟨_, [], Hp.le.refl _, hs, rfl, rfl⟩
      refine ⟨MF.eq (.agg (tab 255).toArray), ?_, ?_⟩
      · intro Mx H w hle2 hs; (try replace hle := hle.trans hle2); (try replace hlb := hlb.trans hle2)
        refine forVals_nil (ORg.plain (OR.call hs body163 rfl rfl (known_ok _ _ hs.toSub) ?_))
        clear hs; rintro _ H w hs hle1 rfl
        exact ⟨_, [], hle1, hs, rfl, rfl⟩
      refine ⟨MF.eq (.agg ((tab 255).toArray.extract 510 (510 + 256))), ?_, ?_⟩
      · intro Mx H w hle2 hs; (try replace hle := hle.trans hle2); (try replace hlb := hlb.trans hle2); refine forVals_eq rfl rfl rfl ?_
        refine forVals_nil (ORg.plain (OR.fieldN T237.und rfl T235 rfl rfl ?_))
        exact ⟨_, [], Hp.le.refl _, hs, rfl, rfl⟩
      refine ⟨MF.eq _, by intro Mx H w hle hs; refine forVals_nil (ORg.plain (OR.move rfl ?_)); exact ⟨_, [], Hp.le.refl _, hs, rfl, rfl⟩, ?_⟩
      refine ⟨MF.eq (.int .i64 (lg b : Int)), ?_, ?_⟩
      · intro Mx H w hle2 hs; (try replace hle := hle.trans hle2); (try replace hlb := hlb.trans hle2); refine forVals_eq rfl rfl rfl ?_; refine forVals_eq rfl rfl rfl ?_
        refine forVals_nil (ORg.plain (OR.index1 T235.und T3 rfl rfl rfl (by omega) (by omega) (ext_log b) ?_))
        exact ⟨_, [], Hp.le.refl _, hs, rfl, rfl⟩
      refine ⟨MF.eq _, by intro Mx H w hle hs; refine forVals_eq rfl rfl rfl ?_; refine forVals_eq rfl rfl rfl ?_; refine forVals_nil (ORg.plain (OR.addI rfl rfl (by omega) (by omega) ?_)); exact ⟨_, [], Hp.le.refl _, hs, rfl, rfl⟩, ?_⟩
      refine ⟨MF.eq (B (mul a b)), ?_, ?_⟩
      · intro Mx H w hle2 hs; (try replace hle := hle.trans hle2); (try replace hlb := hlb.trans hle2); refine forVals_eq rfl rfl rfl ?_; refine forVals_eq rfl rfl rfl ?_
        refine forVals_nil (ORg.plain (OR.index1 T234.und T5 rfl rfl rfl (by omega) (by omega) (by rw [← Int.natCast_add]; exact ext_exp (lg a + lg b) (by omega)) ?_))
        exact ⟨_, [], Hp.le.refl _, hs, (by rw [e]), rfl⟩
      intro H w hle2; (try replace hle := hle.trans hle2); (try replace hlb := hlb.trans hle2)
      refine forAllVals_eq rfl ?_
      refine forAllVals_eq rfl ?_
      refine forAllVals_eq rfl ?_
      refine forAllVals_eq rfl ?_
      refine forAllVals_eq rfl ?_
      refine forAllVals_eq rfl ?_
      refine forAllVals_eq rfl ?_
      refine forAllVals_eq rfl ?_
      refine forAllVals_eq rfl ?_
      refine forAllVals_eq rfl ?_
      refine forAllVals_eq rfl ?_
      refine forAllVals_eq rfl ?_
      refine forAllVals_nil ?_; (try clear hs); intro hs
      refine WO.step rfl (OR.assign rfl (WO.done (WX.seq (WC.ret ?_))))
      refine WX.ret1 rfl rfl ?_
      exact .mk hs rfl

set_option maxRecDepth 20000 in
theorem inv_ok (a : UInt8) (H0 : Hp) (w0 : World) (h0 : Sub H0 w0) : Calls Tryz.prog 122 #[B a] w0 (Pure H0 w0 fun v _ => v = .tuple (if a = 0 then #[B 0, .int .i64 1] else #[B (pw ((255 - lg a) % 255)), .int .i64 0])) := by
  have hs := HS.init h0
  have ha := a.toNat_lt
  refine Calls.enter (args := [B a]) Tryz.func122 rfl Tryz.ntmps122 rfl ?_
  refine WC.seq (WC.region (WO.step rfl (OR.assign rfl (WO.step rfl (OR.assign rfl (WO.done (WX.seq ?_)))))))
  refine WC.seq (WC.seq (WC.region (WO.step rfl (OR.move rfl (WO.step rfl (OR.eql rfl rfl (WO.done ?_)))))))
  refine WX.seq ?_
  refine WC.condD rfl (fun hga => ?_) (fun hga => ?_)
  · refine WC.seq (WC.region (WO.step rfl (OR.assign rfl (WO.step rfl (OR.assign rfl (WO.done (WX.seq ?_)))))))
    refine WC.ret (WX.seq_ret ?_)
    refine WX.ret2 rfl rfl rfl ?_
    have : a = 0 := UInt8.toNat.inj (by simpa using hga)
    subst this
    exact .mk hs rfl
  · refine WC.skip (WX.seq (WC.seq (WC.region ?_)))
    refine WO.step rfl (OR.call hs body163 rfl rfl (known_ok _ _ hs.toSub) ?_)
    clear hs; rintro _ H w hs hle rfl
    refine WO.step rfl (OR.fieldN T237.und rfl T234 rfl rfl ?_)
    refine WO.step rfl (OR.call hs body163 rfl rfl (known_ok _ _ hs.toSub) ?_)
    clear hs; rintro _ H w hs hle rfl
    refine WO.step rfl (OR.fieldN T237.und rfl T235 rfl rfl ?_)
    refine WO.step rfl (OR.move rfl ?_)
    refine WO.step rfl (OR.index1 T235.und T3 rfl rfl rfl (by omega) (by omega) (ext_log a) ?_)
    have h1 := lg_lt a
    refine WO.step rfl (OR.subI rfl rfl (by omega) (by omega) ?_)
    refine WO.step rfl (OR.index1 T234.und T5 rfl rfl rfl (by omega) (by omega) (by rw [show (255 : Int) - (lg a : Int) = ((255 - lg a : Nat) : Int) by omega]; exact ext_exp (255 - lg a) (by omega)) ?_)
    refine WO.step rfl (OR.assign rfl (WO.step rfl (OR.assign rfl (WO.done (WX.seq (WC.ret ?_))))))
    refine WX.ret2 rfl rfl rfl ?_
    have n1 : a ≠ 0 := fun e => hga (by rw [e]; rfl)
    exact .mk hs (by rw [if_neg n1])

set_option maxRecDepth 20000 in
set_option maxHeartbeats 2000000 in
theorem add_ok (a b : UInt8) (H0 : Hp) (w0 : World) (h0 : Sub H0 w0) : Calls Tryz.prog 173 #[B a, B b] w0 (Pure H0 w0 fun v _ => v = B (a ^^^ b)) := by
  have hs := HS.init h0
  refine Calls.enter (args := [B a, B b]) Tryz.func173 rfl Tryz.ntmps173 rfl ?_
  refine WC.seq (WC.region (WO.step rfl (OR.assign rfl (WO.done (WX.seq (WC.seq (WC.region ?_)))))))
  refine WO.step rfl (OR.move rfl (WO.step rfl (OR.move rfl (WO.step rfl (OR.xorB _ _ rfl rfl rfl rfl (WO.step rfl (OR.assign rfl ?_)))))))
  refine WO.done (WX.seq (WC.ret ?_))
  refine WX.ret1 rfl rfl ?_
  exact .mk hs rfl

end Go.Bw
namespace Go.Bw
set_option linter.unusedVariables false
set_option linter.unusedSimpArgs false
open Go.Proofs
/-- The first place from k on at which something holds; -1: nowhere. -/
def idxFrom (p : UInt8 → Bool) (l : List UInt8) (k : Nat) : Int :=
  match (l.drop k).findIdx? p with
  | some i => ((k + i : Nat) : Int)
  | none => -1
/-- The place of the first byte that is not 0; -1: there is none. -/
def lead (l : List UInt8) : Int := idxFrom (fun x => decide (x ≠ 0)) l 0

theorem idxFrom_hit (p : UInt8 → Bool) (l : List UInt8) (k : Nat) (h : k < l.length) (hp : p l[k] = true) : idxFrom p l k = (k : Int) := by
  unfold idxFrom
  rw [List.drop_eq_getElem_cons h, List.findIdx?_cons, hp]
  simp
theorem idxFrom_miss (p : UInt8 → Bool) (l : List UInt8) (k : Nat) (h : k < l.length) (hp : p l[k] = false) : idxFrom p l k = idxFrom p l (k + 1) := by
  unfold idxFrom
  rw [List.drop_eq_getElem_cons h, List.findIdx?_cons, hp]
  cases (l.drop (k + 1)).findIdx? p with
  | none => simp
  | some i => simp; omega
theorem idxFrom_end (p : UInt8 → Bool) (l : List UInt8) (k : Nat) (h : l.length ≤ k) : idxFrom p l k = -1 := by
  unfold idxFrom
  rw [List.drop_eq_nil_of_le h]
  rfl

set_option maxRecDepth 20000 in
set_option maxHeartbeats 2000000 in
theorem lead1_ok (x : UInt8) (H0 : Hp) (w0 : World) (h0 : Sub H0 w0) : Calls Tryz.prog 148 #[B x] w0 (Pure H0 w0 fun v _ => v = .bool (decide (x ≠ 0))) := by
  have hs := HS.init h0
  refine Calls.enter (args := [B x]) Tryz.func148 rfl Tryz.ntmps148 rfl ?_
  refine WC.seq (WC.region (WO.step rfl (OR.assign rfl (WO.done (WX.seq (WC.seq (WC.region ?_)))))))
  refine WO.step rfl (OR.move rfl (WO.step rfl (OR.neq rfl rfl (WO.step rfl (OR.assign rfl (WO.done (WX.seq ?_)))))))
  refine WC.ret ?_
  refine WX.ret1 rfl rfl ?_
  refine .mk hs ?_
  congr 1
  rw [decide_eq_decide]
  constructor
  · intro h e; apply h; rw [e]; rfl
  · intro h e; apply h; exact UInt8.toNat.inj (by simpa using e)

set_option maxRecDepth 20000 in
set_option maxHeartbeats 2000000 in
theorem indexFunc_ok (v : Value) (l : List UInt8) (p : UInt8 → Bool) (f : FuncId) (cap : List Value) (H0 : Hp) (w0 : World) (h0 : Sub H0 w0) (hv : Bytes H0 v l) (hl : l.length < 9223372036854775807) (hbf : Body Tryz.prog f)
    (hf : ∀ (x : UInt8) H w, Hp.le H0 H → Sub H w → Calls Tryz.prog f ([B x] ++ cap).toArray w (Pure H w fun v _ => v = .bool (p x))) :
    Calls Tryz.prog 147 #[v, .func (.func f) #[] cap.toArray] w0 (Pure H0 w0 fun v _ => v = .int .i64 (idxFrom p l 0)) := by
  have hs := HS.init h0
  obtain ⟨base, cp, rfl⟩ := hv.form
  refine Calls.enter (args := [.slice base l.length cp, .func (.func f) #[] cap.toArray]) Tryz.func147 rfl Tryz.ntmps147 rfl ?_
  refine WC.seq (WC.region (WO.step rfl (OR.assign rfl (WO.done (WX.seq (WC.seq (WC.seq ?_)))))))
  refine WC.region (WO.step rfl (OR.move rfl (WO.step rfl (OR.lenSlice T43.und rfl (WO.step rfl (OR.move rfl (WO.done ?_)))))))
  refine WX.seq (WC.block ?_)
  refine WC.loop (ι := Nat) (fun k => [(0, .slice base l.length cp), (1, .func (.func f) #[] cap.toArray), (7, .int .i64 (l.length : Int)), (8, .int .i64 (k : Int))]) (fun k w => (k ≤ l.length ∧ idxFrom p l 0 = idxFrom p l k ∧ ∃ H, Hp.le H0 H ∧ HS [] H0 w0 H [] w)) (fun k => l.length - k) 0 ⟨rfl, rfl, rfl, rfl,  trivial⟩ ?_ (fun k w hW => ?_)
  · exact ⟨by omega, rfl, H0, .refl H0, hs⟩
  obtain ⟨hk, he, H, hle, hs⟩ := hW
  refine WC.seq (WC.region (WO.step rfl (OR.lss rfl rfl (WO.done (WX.seq (WC.seq ?_))))))
  refine WC.condD rfl (fun hlt => ?_) (fun hlt => ?_)
  · have hlt' : k < l.length := by omega
    obtain ⟨b, o, rfl, hc⟩ := hv.pos (by omega)
    refine WC.skip (WX.seq (WC.seq (WC.block (WC.seq (WC.region (WO.step rfl (OR.move rfl ?_)))))))
    refine WO.step rfl (OR.assign rfl (WO.done (WX.seq (WC.seq (WC.region (WO.step rfl (OR.move rfl ?_)))))))
    refine WO.step rfl (OR.move rfl (WO.step rfl (OR.move rfl ?_)))
    refine WO.step rfl (OR.idx k T43.und T5 rfl rfl rfl hlt' ?_)
    refine WO.step rfl (OR.load T5 rfl rfl (hs.cell (hcell.mono hle (hc k hlt'))) ?_)
    refine WO.step rfl (OR.call hs (hbf) rfl rfl (hf l[k] _ _ hle hs.toSub) ?_)
    clear hs; rintro _ H w hs hle1 rfl; replace hle := hle.trans hle1; (try replace hlb := hlb.trans hle1)
    refine WO.done (WX.seq ?_)
    refine WC.cond rfl (fun hp => ?_) (fun hp => ?_)
    · refine WC.seq (WC.region (WO.step rfl (OR.move rfl (WO.step rfl (OR.assign rfl (WO.done (WX.seq ?_)))))))
      refine WC.ret (WX.block_ret (WX.seq_ret (WX.loop_ret (WX.block_ret (WX.seq_ret ?_)))))
      refine WX.ret1 rfl rfl ?_
      refine .mk hs ?_
      rw [he, idxFrom_hit p l k hlt' hp]
    · refine WC.skip (WX.block (WX.seq (WC.region (WO.step rfl (OR.addI rfl rfl (by omega) (by omega) (WO.step rfl (OR.move rfl ?_)))))))
      refine WO.done ?_
      refine WX.again (k + 1) ⟨rfl, rfl, rfl, rfl,  trivial⟩ ?_ ?_
      · refine ⟨hlt', ?_, H, hle, hs⟩
        rw [he, idxFrom_miss p l k hlt' hp]
      · omega
  · refine WC.exit (WX.seq_exit (WX.loop_exit (WX.block_hit (WX.seq (WC.seq (WC.region (WO.step rfl ?_)))))))
    refine OR.assign rfl (WO.done (WX.seq (WC.ret ?_)))
    refine WX.ret1 rfl rfl ?_
    refine .mk hs ?_
    rw [he, idxFrom_end p l k (by omega)]

set_option maxRecDepth 20000 in
set_option maxHeartbeats 2000000 in
theorem lead_ok (v : Value) (l : List UInt8) (H0 : Hp) (w0 : World) (h0 : Sub H0 w0) (hv : Bytes H0 v l) (hl : l.length < 9223372036854775807) :
    Calls Tryz.prog 110 #[v] w0 (Pure H0 w0 fun v _ => v = .int .i64 (lead l)) := by
  have hs := HS.init h0
  have hle := Hp.le.refl H0
  refine Calls.enter (args := [v]) Tryz.func110 rfl Tryz.ntmps110 rfl ?_
  refine WC.seq (WC.region (WO.step rfl (OR.assign rfl (WO.done (WX.seq (WC.seq (WC.region ?_)))))))
  refine WO.step rfl (OR.move rfl ?_)
  refine WO.step rfl (OR.call hs body147 rfl rfl (indexFunc_ok v l (fun x => decide (x ≠ 0)) 148 [] _ _ hs.toSub hv hl body148 (fun x H w _ hH => lead1_ok x H w hH)) ?_)
  clear hs; rintro _ H w hs hle1 rfl; replace hle := hle.trans hle1; (try replace hlb := hlb.trans hle1)
  refine WO.step rfl (OR.assign rfl (WO.done (WX.seq (WC.ret ?_))))
  refine WX.ret1 rfl rfl ?_
  exact .mk hs rfl

set_option maxRecDepth 20000 in
set_option maxHeartbeats 2000000 in
theorem isZero_ok (v : Value) (l : List UInt8) (H0 : Hp) (w0 : World) (h0 : Sub H0 w0) (hv : Bytes H0 v l) (hl : l.length < 9223372036854775807) :
    Calls Tryz.prog 50 #[v] w0 (Pure H0 w0 fun v _ => v = .bool (decide (lead l < 0))) := by
  have hs := HS.init h0
  have hle := Hp.le.refl H0
  refine Calls.enter (args := [v]) Tryz.func50 rfl Tryz.ntmps50 rfl ?_
  refine WC.seq (WC.region (WO.step rfl (OR.assign rfl (WO.done (WX.seq (WC.seq (WC.region ?_)))))))
  refine WO.step rfl (OR.move rfl ?_)
  refine WO.step rfl (OR.call hs body110 rfl rfl (lead_ok v l _ _ hs.toSub hv hl) ?_)
  clear hs; rintro _ H w hs hle1 rfl; replace hle := hle.trans hle1; (try replace hlb := hlb.trans hle1)
  refine WO.step rfl (OR.lss rfl rfl (WO.step rfl (OR.assign rfl (WO.done (WX.seq (WC.ret ?_))))))
  refine WX.ret1 rfl rfl ?_
  exact .mk hs rfl

set_option maxRecDepth 20000 in
set_option maxHeartbeats 2000000 in
theorem clone_ok (v : Value) (l : List UInt8) (H0 : Hp) (w0 : World) (h0 : Sub H0 w0) (hv : Bytes H0 v l) (hl : l.length ≤ 140737488355328) :
    Calls Tryz.prog 87 #[v] w0 (Ret [] H0 w0 fun v H' M' => H' = H0 ∧ Own w0.heap.size 5 1 v l.length (l.map B) M') := by
  have hs := HS.init h0
  obtain ⟨base, cp, rfl⟩ := hv.form
  refine Calls.enter (args := [.slice base l.length cp]) Tryz.func87 rfl Tryz.ntmps87 rfl ?_
  refine WC.seq (WC.region (WO.step rfl (OR.assign rfl (WO.done (WX.seq (WC.seq (WC.seq ?_)))))))
  refine WC.region (WO.step rfl (OR.move rfl (WO.step rfl (OR.eqlNil T43.und rfl rfl (WO.done (WX.seq ?_))))))
  refine WC.cond rfl (fun hb => ?_) (fun hb => ?_)
  · refine WC.seq (WC.region (WO.step rfl (OR.assign rfl (WO.done (WX.seq (WC.ret (WX.seq_ret ?_)))))))
    refine WX.ret1 rfl rfl ?_
    have hb' : base = none := by cases base with | none => rfl | some a => cases hb
    subst hb'
    have h2 := Sl.src0 hv rfl
    refine ⟨_, H0, [], rfl, hs, by simp, rfl, ?_⟩
    have : l = [] := List.eq_nil_of_length_eq_zero h2
    subst this
    exact Own.nil _ _ _
  · refine WC.skip (WX.seq (WC.seq (WC.region ?_)))
    refine WO.step rfl (OR.buildSlice (vs := []) hs T43.und T5 rfl rfl rfl rfl (by simp) ?_)
    clear hs; intro g1 w hg1 hs
    refine WO.step rfl (OR.move rfl ?_)
    refine WO.step rfl (OR.append (n := 0) (cs := []) (news := l.map B) (Mo := [_]) (M := []) hs (Own.block (cap := 0) (by omega) rfl rfl hg1) T43.und T5 rfl (by omega) rfl rfl (by simp) (Sl.src hv hs) (Sl.src0 hv) (bytes_one l) (by omega) (by omega) ?_)
    clear hs; intro v' w Mo hs ho hge
    refine WO.step rfl (OR.assign rfl (WO.done (WX.seq (WC.ret ?_))))
    refine WX.ret1 rfl rfl ?_
    rw [Nat.zero_add, List.nil_append] at ho
    refine ⟨_, H0, Mo, rfl, by simpa using hs, ?_, rfl, ho⟩
    rcases ho.2 with ⟨rfl, _⟩ | ⟨g, c, cap, rfl, _⟩ <;> simp

theorem clone_pure (v : Value) (l : List UInt8) (H0 : Hp) (w0 : World) (h0 : Sub H0 w0) (hv : Bytes H0 v l) (hl : l.length ≤ 140737488355328) :
    Calls Tryz.prog 87 #[v] w0 (Pure H0 w0 fun v H' => Bytes H' v l) :=
  (clone_ok v l H0 w0 h0 hv hl).mono fun _ _ h => own_pure h fun _ _ _ h => h

/-- What each makes. -/
def eachR (f : UInt8 → UInt8 → UInt8) (a b : List UInt8) : List UInt8 := if a.length = b.length then List.zipWith f a b else []
def eachE (a b : List UInt8) : Int := if a.length = b.length then 0 else 21

theorem take_step (f : UInt8 → UInt8 → UInt8) (a b : List UInt8) (c : List Value) (k : Nat) (ha : k < a.length) (hb : k < b.length) (hc : k < c.length) (h : c.take k = ((List.zipWith f a b).take k).map B) :
    (setL c k [B (f a[k] b[k])]).take (k + 1) = ((List.zipWith f a b).take (k + 1)).map B := by
  rw [setL_step, setL_nil, List.take_succ_eq_append_getElem (by simpa using hc), List.take_set, List.set_eq_of_length_le (by rw [List.length_take]; omega), h,
    List.take_succ_eq_append_getElem (by simp; omega)]
  simp

set_option maxRecDepth 20000 in
set_option maxHeartbeats 2000000 in
theorem each_ok (va vb : Value) (a b : List UInt8) (f : UInt8 → UInt8 → UInt8) (fid : FuncId) (cap : List Value) (H0 : Hp) (w0 : World) (h0 : Sub H0 w0) (ha : Bytes H0 va a) (hb : Bytes H0 vb b)
    (hl : a.length ≤ 140737488355328) (hbf : Body Tryz.prog fid)
    (hf : ∀ (x y : UInt8) H w, Hp.le H0 H → Sub H w → Calls Tryz.prog fid ([B x, B y] ++ cap).toArray w (Pure H w fun v _ => v = B (f x y))) :
    Calls Tryz.prog 164 #[va, vb, .func (.func fid) #[] cap.toArray] w0 (Pure H0 w0 fun v H' => ∃ r, v = .tuple #[r, .int .i64 (eachE a b)] ∧ Bytes H' r (eachR f a b)) := by
  have hs := HS.init h0
  have hle := Hp.le.refl H0
  obtain ⟨ba, ca, rfl⟩ := ha.form
  obtain ⟨bb, cb, rfl⟩ := hb.form
  refine Calls.enter (args := [.slice ba a.length ca, .slice bb b.length cb, .func (.func fid) #[] cap.toArray]) Tryz.func164 rfl Tryz.ntmps164 rfl ?_
  refine WC.seq (WC.region (WO.step rfl (OR.assign rfl (WO.step rfl (OR.assign rfl (WO.done (WX.seq ?_)))))))
  refine WC.seq (WC.seq (WC.region (WO.step rfl (OR.move rfl (WO.step rfl (OR.lenSlice T43.und rfl (WO.step rfl ?_)))))))
  refine OR.move rfl (WO.step rfl (OR.lenSlice T43.und rfl (WO.step rfl (OR.neq rfl rfl (WO.done (WX.seq ?_))))))
  refine WC.condD rfl (fun hne => ?_) (fun hne => ?_)
  · refine WC.seq (WC.region (WO.step rfl (OR.assign rfl (WO.step rfl (OR.assign rfl (WO.done (WX.seq ?_)))))))
    refine WC.ret (WX.seq_ret ?_)
    refine WX.ret2 rfl rfl rfl ?_
    have : ¬ a.length = b.length := by omega
    refine .mk hs ⟨_, by rw [eachE, if_neg this], ?_⟩
    rw [eachR, if_neg this]
    exact Bytes.nil _
  · have heq : a.length = b.length := by omega
    refine WC.skip (WX.seq (WC.seq (WC.region (WO.step rfl (OR.move rfl (WO.step rfl (OR.lenSlice T43.und rfl ?_)))))))
    refine WO.step rfl (OR.make1 hs T43.und T5 rfl rfl rfl (by omega) (by omega) ?_)
    clear hs; intro g1 w hg1 hs
    refine WO.step rfl (OR.assign rfl (WO.done (WX.seq (WC.seq (WC.seq (WC.region (WO.step rfl ?_)))))))
    refine OR.move rfl (WO.step rfl (OR.lenSlice T43.und rfl (WO.step rfl (OR.move rfl (WO.done (WX.seq (WC.block ?_)))))))
    refine WC.loop (ι := Nat) (fun k => [(0, .slice ba a.length ca), (1, .slice bb b.length cb), (2, .func (.func fid) #[] cap.toArray), (8, .slice (some ⟨g1, 0, none⟩) a.length a.length), (19, .int .i64 (a.length : Int)), (20, .int .i64 (k : Int))]) (fun k w => (k ≤ a.length ∧ ∃ (c : List Value) (H : Hp), c.length = a.length ∧ c.take k = ((List.zipWith f a b).take k).map B ∧ Hp.le H0 H ∧ HS [] H0 w0 H [(g1, .cells c.toArray 5, true)] w)) (fun k => a.length - k) 0 ⟨rfl, rfl, rfl, rfl, rfl, rfl,  trivial⟩ ?_ (fun k w hW => ?_)
    · exact ⟨by omega, _, H0, List.length_replicate .., by simp, .refl H0, hs⟩
    obtain ⟨hk, c, H, hcl, hct, hle, hs⟩ := hW
    refine WC.seq (WC.region (WO.step rfl (OR.lss rfl rfl (WO.done (WX.seq (WC.seq ?_))))))
    refine WC.condD rfl (fun hlt => ?_) (fun hlt => ?_)
    · have hka : k < a.length := by omega
      have hkb : k < b.length := by omega
      obtain ⟨xa, oa, rfl, hca⟩ := ha.pos (by omega)
      obtain ⟨xb, ob, rfl, hcb⟩ := hb.pos (by omega)
      refine WC.skip (WX.seq (WC.seq (WC.block (WC.seq (WC.region (WO.step rfl (OR.move rfl ?_)))))))
      refine WO.step rfl (OR.assign rfl (WO.done (WX.seq ?_)))
      refine WC.draw 12 mixed hs (by kernel_rfl) ?_
      refine ⟨MF.eq _, by intro Mx H w hle hs; refine forVals_nil (ORg.plain (OR.move rfl ?_)); exact ⟨_, [], Hp.le.refl _, hs, rfl, rfl⟩, ?_⟩
      refine ⟨MF.eq _, by intro Mx H w hle hs; refine forVals_nil (ORg.plain (OR.move rfl ?_)); exact ⟨_, [], Hp.le.refl _, hs, rfl, rfl⟩, ?_⟩
      refine ⟨MF.eq _, by intro Mx H w hle hs; refine forVals_nil (ORg.plain (OR.move rfl ?_)); exact ⟨_, [], Hp.le.refl _, hs, rfl, rfl⟩, ?_⟩
      refine ⟨MF.eq _, by intro Mx H w hle hs; refine forVals_nil (ORg.plain (OR.move rfl ?_)); exact ⟨_, [], Hp.le.refl _, hs, rfl, rfl⟩, ?_⟩
      refine ⟨MF.eq _, by intro Mx H w hle hs; refine forVals_nil (ORg.plain (OR.move rfl ?_)); exact ⟨_, [], Hp.le.refl _, hs, rfl, rfl⟩, ?_⟩
      refine ⟨MF.eq (.pointer (some ⟨xa, oa + k, none⟩)), ?_, ?_⟩
      · intro Mx H w hle2 hs; (try replace hle := hle.trans hle2); (try replace hlb := hlb.trans hle2); refine forVals_eq rfl rfl rfl ?_; refine forVals_eq rfl rfl rfl ?_
        refine forVals_nil (ORg.plain (OR.idx k T43.und T5 rfl rfl rfl hka ?_))
        exact ⟨_, [], Hp.le.refl _, hs, rfl, rfl⟩
      refine ⟨MF.eq (B a[k]), ?_, ?_⟩
      · intro Mx H w hle2 hs; (try replace hle := hle.trans hle2); (try replace hlb := hlb.trans hle2); refine forVals_eq rfl rfl rfl ?_
        refine forVals_nil (ORg.plain (OR.load T5 rfl rfl (hs.cell (hcell.mono hle (hca k hka))) ?_))
        exact ⟨_, [], Hp.le.refl _, hs, rfl, rfl⟩
      refine ⟨MF.eq _, by intro Mx H w hle hs; refine forVals_nil (ORg.plain (OR.move rfl ?_)); exact ⟨_, [], Hp.le.refl _, hs, rfl, rfl⟩, ?_⟩
      refine ⟨MF.eq _, by intro Mx H w hle hs; refine forVals_nil (ORg.plain (OR.move rfl ?_)); exact ⟨_, [], Hp.le.refl _, hs, rfl, rfl⟩, ?_⟩
      refine ⟨MF.eq (.pointer (some ⟨xb, ob + k, none⟩)), ?_, ?_⟩
      · intro Mx H w hle2 hs; (try replace hle := hle.trans hle2); (try replace hlb := hlb.trans hle2); refine forVals_eq rfl rfl rfl ?_; refine forVals_eq rfl rfl rfl ?_
        refine forVals_nil (ORg.plain (OR.idx k T43.und T5 rfl rfl rfl hkb ?_))
        exact ⟨_, [], Hp.le.refl _, hs, rfl, rfl⟩
      refine ⟨MF.eq (B b[k]), ?_, ?_⟩
      · intro Mx H w hle2 hs; (try replace hle := hle.trans hle2); (try replace hlb := hlb.trans hle2); refine forVals_eq rfl rfl rfl ?_
        refine forVals_nil (ORg.plain (OR.load T5 rfl rfl (hs.cell (hcell.mono hle (hcb k hkb))) ?_))
        exact ⟨_, [], Hp.le.refl _, hs, rfl, rfl⟩
      refine ⟨MF.eq (B (f a[k] b[k])), ?_, ?_⟩
      · intro Mx H w hle2 hs; (try replace hle := hle.trans hle2); (try replace hlb := hlb.trans hle2); refine forVals_eq rfl rfl rfl ?_; refine forVals_eq rfl rfl rfl ?_; refine forVals_eq rfl rfl rfl ?_
        refine forVals_nil (ORg.plain (OR.call hs (hbf) rfl rfl (hf a[k] b[k] _ _ hle hs.toSub) ?_))
        clear hs; rintro _ H w hs hle1 rfl
        exact ⟨_, [], hle1, hs, rfl, rfl⟩
      intro H w hle2; (try replace hle := hle.trans hle2); (try replace hlb := hlb.trans hle2)
      refine forAllVals_eq rfl ?_
      refine forAllVals_eq rfl ?_
      refine forAllVals_eq rfl ?_
      refine forAllVals_eq rfl ?_
      refine forAllVals_eq rfl ?_
      refine forAllVals_eq rfl ?_
      refine forAllVals_eq rfl ?_
      refine forAllVals_eq rfl ?_
      refine forAllVals_eq rfl ?_
      refine forAllVals_eq rfl ?_
      refine forAllVals_eq rfl ?_
      refine forAllVals_eq rfl ?_
      refine forAllVals_nil ?_; (try clear hs); intro hs
      refine WO.step rfl (OR.idx k T43.und T5 rfl rfl rfl hka ?_)
      refine WO.stepN (OR.store hs T5 rfl rfl rfl (by simp [hcl]; omega) rfl ?_)
      clear hs; intro w hs
      refine WO.done (WX.block (WX.seq (WC.region (WO.step rfl (OR.addI rfl rfl (by omega) (by omega) (WO.step rfl (OR.move rfl ?_)))))))
      refine WO.done ?_
      refine WX.again (k + 1) ⟨rfl, rfl, rfl, rfl, rfl, rfl,  trivial⟩ ?_ ?_
      · refine ⟨by omega, _, _, ?_, ?_, hle, hs⟩
        · rw [setL_length]; exact hcl
        · rw [Nat.zero_add]; exact take_step f a b c k hka hkb (by omega) hct
      · omega
    · have e : k = a.length := by omega
      subst e
      refine WC.exit (WX.seq_exit (WX.loop_exit (WX.block_hit (WX.seq (WC.seq (WC.region (WO.step rfl ?_)))))))
      refine OR.move rfl (WO.step rfl (OR.assign rfl (WO.step rfl (OR.assign rfl (WO.done (WX.seq (WC.ret ?_)))))))
      refine WX.ret2 rfl rfl rfl ?_
      have hs := hs.publish hg1
      refine .mk hs ⟨_, by rw [eachE, if_pos heq], ?_⟩
      have hr : eachR f a b = List.zipWith f a b := if_pos heq
      have hrl : (List.zipWith f a b).length = a.length := by simp; omega
      rw [hr]
      have := Bytes.block (H := H.put g1 (.cells c.toArray 5)) (l := List.zipWith f a b) (cap := a.length) (Hp.put_same ..) (by rw [hrl, hct, List.take_of_length_le (by omega)]) (by omega)
      rw [hrl] at this
      exact this

set_option maxRecDepth 20000 in
set_option maxHeartbeats 2000000 in
theorem addScaled1_ok (x y c : UInt8) (g : Nat) (H0 : Hp) (w0 : World) (h0 : Sub H0 w0) (hc : hcell H0 ⟨g, 0, none⟩ = some (B c)) :
    Calls Tryz.prog 172 #[B x, B y, .pointer (some ⟨g, 0, none⟩)] w0 (Pure H0 w0 fun v _ => v = B (x ^^^ mul y c)) := by
  have hs := HS.init h0
  have hle := Hp.le.refl H0
  refine Calls.enter (args := [B x, B y, .pointer (some ⟨g, 0, none⟩)]) Tryz.func172 rfl Tryz.ntmps172 rfl ?_
  refine WC.seq (WC.region (WO.step rfl (OR.assign rfl (WO.done (WX.seq (WC.seq (WC.region ?_)))))))
  refine WO.step rfl (OR.move rfl (WO.step rfl (OR.move rfl ?_)))
  refine WO.step rfl (OR.load T5 rfl rfl (hs.cell hc) ?_)
  refine WO.step rfl (OR.call hs body166 rfl rfl (mul_ok y c _ _ hs.toSub) ?_)
  clear hs; rintro _ H w hs hle1 rfl; replace hle := hle.trans hle1; (try replace hlb := hlb.trans hle1)
  refine WO.step rfl (OR.call hs body173 rfl rfl (add_ok x (mul y c) _ _ hs.toSub) ?_)
  clear hs; rintro _ H w hs hle1 rfl; replace hle := hle.trans hle1; (try replace hlb := hlb.trans hle1)
  refine WO.step rfl (OR.assign rfl (WO.done (WX.seq (WC.ret ?_))))
  refine WX.ret1 rfl rfl ?_
  exact .mk hs rfl

/-- What AddScaled makes. -/
def addS (c : UInt8) (a b : List UInt8) : List UInt8 := eachR (fun x y => x ^^^ mul y c) a b

set_option maxRecDepth 20000 in
set_option maxHeartbeats 2000000 in
theorem addScaled_ok (va vb : Value) (a b : List UInt8) (c : UInt8) (H0 : Hp) (w0 : World) (h0 : Sub H0 w0) (ha : Bytes H0 va a) (hb : Bytes H0 vb b) (hl : a.length ≤ 140737488355328) :
    Calls Tryz.prog 139 #[va, vb, B c] w0 (Pure H0 w0 fun v H' => ∃ r, v = .tuple #[r, .int .i64 (eachE a b)] ∧ Bytes H' r (addS c a b)) := by
  have hs := HS.init h0
  have hle := Hp.le.refl H0
  refine Calls.enter (args := [va, vb, B c]) Tryz.func139 rfl Tryz.ntmps139 rfl ?_
  refine WC.seq (WC.region (WO.step rfl (OR.box hs rfl ?_)))
  clear hs; intro g1 w hg1 hs
  refine WO.step rfl (OR.assign rfl (WO.step rfl (OR.assign rfl (WO.done (WX.seq (WC.seq (WC.region ?_)))))))
  refine WO.step rfl (OR.move rfl (WO.step rfl (OR.move rfl (WO.step rfl (OR.makeFunc rfl rfl ?_)))))
  obtain ⟨H, hle1, hp_g1, hs9⟩ := hs.pub1 hg1; clear hs; have hs := hs9; clear hs9; replace hle := hle.trans hle1; (try replace hlb := hlb.trans hle1)
  refine WO.step rfl (OR.call hs body164 rfl rfl (each_ok va vb a b (fun x y => x ^^^ mul y c) 172 [.pointer (some ⟨g1, 0, none⟩)] _ _ hs.toSub (ha.mono hle) (hb.mono hle) hl body172 (fun x y H w h hH => addScaled1_ok x y c g1 H w hH (hcell.mono h (hcell_of hp_g1 rfl)))) ?_)
  clear hs; rintro _ H w hs hle1 ⟨r, rfl, hr⟩; replace hle := hle.trans hle1; (try replace hlb := hlb.trans hle1)
  refine WO.step rfl (OR.extract rfl rfl (WO.step rfl (OR.extract rfl rfl (WO.step rfl (OR.assign rfl (WO.step rfl (OR.assign rfl ?_)))))))
  refine WO.done (WX.seq (WC.ret ?_))
  refine WX.ret2 rfl rfl rfl ?_
  exact .mk hs ⟨r, rfl, hr⟩

set_option maxRecDepth 20000 in
set_option maxHeartbeats 2000000 in
theorem scale1_ok (x y c : UInt8) (g : Nat) (H0 : Hp) (w0 : World) (h0 : Sub H0 w0) (hc : hcell H0 ⟨g, 0, none⟩ = some (B c)) :
    Calls Tryz.prog 165 #[B x, B y, .pointer (some ⟨g, 0, none⟩)] w0 (Pure H0 w0 fun v _ => v = B (mul x c)) := by
  have hs := HS.init h0
  have hle := Hp.le.refl H0
  refine Calls.enter (args := [B x, B y, .pointer (some ⟨g, 0, none⟩)]) Tryz.func165 rfl Tryz.ntmps165 rfl ?_
  refine WC.seq (WC.region (WO.step rfl (OR.assign rfl (WO.done (WX.seq (WC.seq (WC.region ?_)))))))
  refine WO.step rfl (OR.move rfl ?_)
  refine WO.step rfl (OR.load T5 rfl rfl (hs.cell hc) ?_)
  refine WO.step rfl (OR.call hs body166 rfl rfl (mul_ok x c _ _ hs.toSub) ?_)
  clear hs; rintro _ H w hs hle1 rfl; replace hle := hle.trans hle1; (try replace hlb := hlb.trans hle1)
  refine WO.step rfl (OR.assign rfl (WO.done (WX.seq (WC.ret ?_))))
  refine WX.ret1 rfl rfl ?_
  exact .mk hs rfl

set_option maxRecDepth 20000 in
set_option maxHeartbeats 2000000 in
theorem scale_ok (va : Value) (a : List UInt8) (c : UInt8) (H0 : Hp) (w0 : World) (h0 : Sub H0 w0) (ha : Bytes H0 va a) (hl : a.length ≤ 140737488355328) :
    Calls Tryz.prog 123 #[va, B c] w0 (Pure H0 w0 fun v H' => Bytes H' v (a.map (fun x => mul x c))) := by
  have hs := HS.init h0
  have hle := Hp.le.refl H0
  refine Calls.enter (args := [va, B c]) Tryz.func123 rfl Tryz.ntmps123 rfl ?_
  refine WC.seq (WC.region (WO.step rfl (OR.box hs rfl ?_)))
  clear hs; intro g1 w hg1 hs
  refine WO.step rfl (OR.assign rfl (WO.done (WX.seq (WC.seq (WC.region (WO.step rfl (OR.move rfl ?_)))))))
  refine WO.step rfl (OR.move rfl (WO.step rfl (OR.makeFunc rfl rfl ?_)))
  obtain ⟨H, hle1, hp_g1, hs9⟩ := hs.pub1 hg1; clear hs; have hs := hs9; clear hs9; replace hle := hle.trans hle1; (try replace hlb := hlb.trans hle1)
  refine WO.step rfl (OR.call hs body164 rfl rfl (each_ok va va a a (fun x _ => mul x c) 165 [.pointer (some ⟨g1, 0, none⟩)] _ _ hs.toSub (ha.mono hle) (ha.mono hle) hl body165 (fun x y H w h hH => scale1_ok x y c g1 H w hH (hcell.mono h (hcell_of hp_g1 rfl)))) ?_)
  clear hs; rintro _ H w hs hle1 ⟨r, rfl, hr⟩; replace hle := hle.trans hle1; (try replace hlb := hlb.trans hle1)
  refine WO.step rfl (OR.move rfl (WO.step rfl (OR.extract rfl rfl (WO.step rfl (OR.extract rfl rfl (WO.step rfl (OR.assign rfl ?_)))))))
  refine WO.step rfl (OR.assign rfl (WO.done (WX.seq (WC.seq (WC.region (WO.step rfl (OR.move rfl ?_)))))))
  refine WO.step rfl (OR.assign rfl (WO.done (WX.seq (WC.ret ?_))))
  refine WX.ret1 rfl rfl ?_
  refine .mk hs ?_
  have : eachR (fun x _ => mul x c) a a = a.map (fun x => mul x c) := by
    rw [eachR, if_pos rfl, List.zipWith_self]
  rwa [this] at hr

-- left out, for this seat has no vector.Add: theorem vadd_ok (va vb
-- left out, for this seat has no vector.Unit: theorem unit_ok (m i
/-- What Combine makes of rows of s bytes. -/
def comb (s : Nat) (rows : List (List UInt8)) (c : List UInt8) : List UInt8 := (rows.zip c).foldl (fun out p => addS p.2 out p.1) (List.replicate s 0)

theorem addS_length (c : UInt8) (a b : List UInt8) (h : a.length = b.length) : (addS c a b).length = a.length := by
  rw [addS, eachR, if_pos h]; simp; omega
theorem comb_step (s : Nat) (rows : List (List UInt8)) (c : List UInt8) (k : Nat) (h1 : k < rows.length) (h2 : k < c.length) :
    comb s (rows.take (k + 1)) (c.take (k + 1)) = addS c[k] (comb s (rows.take k) (c.take k)) rows[k] := by
  unfold comb
  rw [List.take_succ_eq_append_getElem h1, List.take_succ_eq_append_getElem h2, List.zip_append (by simp; omega), List.foldl_append]
  rfl
theorem comb_length (s : Nat) (rows : List (List UInt8)) (c : List UInt8) (h : ∀ r ∈ rows, r.length = s) : (comb s rows c).length = s := by
  have key : ∀ (l : List (List UInt8 × UInt8)) (out : List UInt8), out.length = s → (∀ p ∈ l, p.1.length = s) → (l.foldl (fun out p => addS p.2 out p.1) out).length = s := by
    intro l
    induction l with
    | nil => intro out h _; exact h
    | cons p l ih =>
      intro out ho hp
      rw [List.foldl_cons]
      exact ih _ (by rw [addS_length _ _ _ (by rw [ho, hp p (by simp)])]; exact ho) (fun q hq => hp q (by simp [hq]))
  refine key _ _ (by simp) ?_
  intro p hp
  exact h _ (List.of_mem_zip hp).1

set_option maxRecDepth 20000 in
set_option maxHeartbeats 2000000 in
theorem combine_ok (vr vc : Value) (rows : List (List UInt8)) (c : List UInt8) (s : Nat) (H0 : Hp) (w0 : World) (h0 : Sub H0 w0) (hr : BytesL H0 vr rows) (hc : Bytes H0 vc c)
    (hne : 0 < rows.length) (hrow : ∀ r ∈ rows, r.length = s) (hs1 : s ≤ 140737488355328) (hs2 : rows.length ≤ 140737488355328) :
    Calls Tryz.prog 91 #[vr, vc] w0 (Pure H0 w0 fun v H' => TupB H' v (if rows.length = c.length then comb s rows c else []) (if rows.length = c.length then 0 else 21)) := by
  have hs := HS.init h0
  have hle := Hp.le.refl H0
  obtain ⟨br, cr, rfl⟩ := hr.form
  obtain ⟨bc, cc, rfl⟩ := hc.form
  refine Calls.enter (args := [.slice br rows.length cr, .slice bc c.length cc]) Tryz.func91 rfl Tryz.ntmps91 rfl ?_
  refine WC.seq (WC.region (WO.step rfl (OR.assign rfl (WO.step rfl (OR.assign rfl (WO.done (WX.seq ?_)))))))
  refine WC.seq (WC.block (WC.seq (WC.region (WO.step rfl (OR.move rfl (WO.step rfl (OR.lenSlice T40.und rfl ?_)))))))
  refine WO.step rfl (OR.eql rfl rfl (WO.step rfl (OR.assign rfl (WO.done (WX.seq ?_)))))
  refine WC.no rfl (decide_eq_false (by omega : ¬ (rows.length : Int) = 0)) ?_
  refine WC.seq (WC.region (WO.step rfl (OR.move rfl (WO.step rfl (OR.lenSlice T40.und rfl (WO.step rfl (OR.move rfl ?_)))))))
  refine WO.step rfl (OR.lenSlice T43.und rfl (WO.step rfl (OR.neq rfl rfl (WO.step rfl (OR.assign rfl (WO.done (WX.seq ?_)))))))
  refine WC.condD rfl (fun hq => ?_) (fun hq => ?_)
  · refine WC.seq (WC.region (WO.step rfl (OR.assign rfl (WO.step rfl (OR.assign rfl (WO.done (WX.seq ?_)))))))
    refine WC.ret (WX.block_ret (WX.seq_ret ?_))
    refine WX.ret2 rfl rfl rfl ?_
    have : ¬ rows.length = c.length := by omega
    refine .mk hs ?_
    rw [if_neg this, if_neg this]
    exact ⟨_, rfl, Bytes.nil _⟩
  · have heq : rows.length = c.length := by omega
    obtain ⟨xr, or_, rfl, hcr⟩ := hr.pos hne
    obtain ⟨xc, oc, rfl, hcc⟩ := hc.pos (by omega)
    obtain ⟨e0, he0, hb0⟩ := hcr 0 hne
    obtain ⟨b00, c00, rfl⟩ := hb0.form
    have hl0 : rows[0].length = s := hrow _ (List.getElem_mem _)
    refine WC.skip (WX.block (WX.seq (WC.seq (WC.region (WO.step rfl (OR.move rfl ?_))))))
    refine WO.step rfl (OR.idx 0 T40.und T43 rfl rfl rfl hne ?_)
    refine WO.step rfl (OR.load T43 rfl rfl (hs.cell he0) ?_)
    rw [hl0]
    refine WO.step rfl (OR.lenSlice T43.und rfl ?_)
    refine WO.step rfl (OR.make1 hs T43.und T5 rfl rfl rfl (by omega) (by omega) ?_)
    clear hs; intro g1 w hg1 hs
    refine WO.step rfl (OR.assign rfl (WO.done (WX.seq (WC.seq (WC.seq (WC.region (WO.step rfl ?_)))))))
    refine OR.move rfl (WO.step rfl (OR.lenSlice T40.und rfl (WO.step rfl (OR.move rfl (WO.done (WX.seq (WC.block ?_)))))))
    obtain ⟨H, hle1, hp_g1, hs9⟩ := hs.pub1 hg1; clear hs; have hs := hs9; clear hs9; replace hle := hle.trans hle1; (try replace hlb := hlb.trans hle1)
    refine WC.loop (ι := Nat × Value) (fun ix => [(0, .slice (some ⟨xr, or_, none⟩) rows.length cr), (1, .slice (some ⟨xc, oc, none⟩) c.length cc), (6, ix.2), (26, .int .i64 (rows.length : Int)), (27, .int .i64 (ix.1 : Int))]) (fun ix w => (ix.1 ≤ rows.length ∧ ∃ H, Hp.le H0 H ∧ Bytes H ix.2 (comb s (rows.take ix.1) (c.take ix.1)) ∧ HS [] H0 w0 H [] w)) (fun ix => rows.length - ix.1) (0, .slice (some ⟨g1, 0, none⟩) s s) ⟨rfl, rfl, rfl, rfl, rfl,  trivial⟩ ?_ (fun ix w hW => ?_)
    · refine ⟨by omega, H, hle, ?_, hs⟩
      have hz : comb s (rows.take 0) (c.take 0) = List.replicate s 0 := by simp [comb]
      rw [hz]
      have := Bytes.block (l := List.replicate s 0) (cap := s) hp_g1 (by simp) (by simp)
      rwa [List.length_replicate] at this
    obtain ⟨k, vo⟩ := ix
    obtain ⟨hk, H, hle, hbo, hs⟩ := hW
    simp only at hk hbo
    refine WC.seq (WC.region (WO.step rfl (OR.lss rfl rfl (WO.done (WX.seq (WC.seq ?_))))))
    refine WC.condD rfl (fun hlt => ?_) (fun hlt => ?_)
    · have hk' : k < rows.length := by omega
      have hkc : k < c.length := by omega
      obtain ⟨ek, hek, hbk⟩ := hcr k hk'
      have hlk : rows[k].length = s := hrow _ (List.getElem_mem _)
      have hlo : (comb s (rows.take k) (c.take k)).length = s := comb_length _ _ _ (fun r hr => hrow r (List.mem_of_mem_take hr))
      have hE : eachE (comb s (rows.take k) (c.take k)) rows[k] = 0 := if_pos (by omega)
      have hstep := comb_step s rows c k hk' hkc
      refine WC.skip (WX.seq (WC.seq (WC.block (WC.seq (WC.region (WO.step rfl (OR.move rfl ?_)))))))
      refine WO.step rfl (OR.assign rfl (WO.done (WX.seq (WC.seq ?_))))
      refine WC.draw 15 mixed hs (by kernel_rfl) ?_
      refine ⟨MF.eq _, by intro Mx H w hle hs; refine forVals_nil (ORg.plain (OR.move rfl ?_)); exact ⟨_, [], Hp.le.refl _, hs, rfl, rfl⟩, ?_⟩
      refine ⟨MF.eq _, by intro Mx H w hle hs; refine forVals_nil (ORg.plain (OR.move rfl ?_)); exact ⟨_, [], Hp.le.refl _, hs, rfl, rfl⟩, ?_⟩
      refine ⟨MF.eq _, by intro Mx H w hle hs; refine forVals_nil (ORg.plain (OR.move rfl ?_)); exact ⟨_, [], Hp.le.refl _, hs, rfl, rfl⟩, ?_⟩
      refine ⟨MF.eq (.pointer (some ⟨xr, or_ + k, none⟩)), ?_, ?_⟩
      · intro Mx H w hle2 hs; (try replace hle := hle.trans hle2); (try replace hlb := hlb.trans hle2); refine forVals_eq rfl rfl rfl ?_; refine forVals_eq rfl rfl rfl ?_
        refine forVals_nil (ORg.plain (OR.idx k T40.und T43 rfl rfl rfl hk' ?_))
        exact ⟨_, [], Hp.le.refl _, hs, rfl, rfl⟩
      refine ⟨MF.eq ek, ?_, ?_⟩
      · intro Mx H w hle2 hs; (try replace hle := hle.trans hle2); (try replace hlb := hlb.trans hle2); refine forVals_eq rfl rfl rfl ?_
        refine forVals_nil (ORg.plain (OR.load T43 rfl rfl (hs.cell (hcell.mono hle hek)) ?_))
        exact ⟨_, [], Hp.le.refl _, hs, rfl, rfl⟩
      refine ⟨MF.eq _, by intro Mx H w hle hs; refine forVals_nil (ORg.plain (OR.move rfl ?_)); exact ⟨_, [], Hp.le.refl _, hs, rfl, rfl⟩, ?_⟩
      refine ⟨MF.eq _, by intro Mx H w hle hs; refine forVals_nil (ORg.plain (OR.move rfl ?_)); exact ⟨_, [], Hp.le.refl _, hs, rfl, rfl⟩, ?_⟩
      refine ⟨MF.eq (.pointer (some ⟨xc, oc + k, none⟩)), ?_, ?_⟩
      · intro Mx H w hle2 hs; (try replace hle := hle.trans hle2); (try replace hlb := hlb.trans hle2); refine forVals_eq rfl rfl rfl ?_; refine forVals_eq rfl rfl rfl ?_
        refine forVals_nil (ORg.plain (OR.idx k T43.und T5 rfl rfl rfl hkc ?_))
        exact ⟨_, [], Hp.le.refl _, hs, rfl, rfl⟩
      refine ⟨MF.eq (B c[k]), ?_, ?_⟩
      · intro Mx H w hle2 hs; (try replace hle := hle.trans hle2); (try replace hlb := hlb.trans hle2); refine forVals_eq rfl rfl rfl ?_
        refine forVals_nil (ORg.plain (OR.load T5 rfl rfl (hs.cell (hcell.mono hle (hcc k hkc))) ?_))
        exact ⟨_, [], Hp.le.refl _, hs, rfl, rfl⟩
      refine ⟨MF.tupB (addS c[k] (comb s (rows.take k) (c.take k)) rows[k]) 0, ?_, ?_⟩
      · intro Mx H w hle2 hs; (try replace hle := hle.trans hle2); (try replace hlb := hlb.trans hle2); refine forVals_eq rfl rfl rfl ?_; refine forVals_eq rfl rfl rfl ?_; refine forVals_eq rfl rfl rfl ?_
        refine forVals_nil (ORg.plain (OR.call hs body139 rfl rfl (addScaled_ok _ _ _ _ _ _ _ hs.toSub (hbo.mono hle2) (hbk.mono hle) (by omega)) ?_))
        clear hs; rintro _ H w hs hle1 ⟨r, rfl, hr⟩
        exact ⟨_, [], hle1, hs, ⟨r, by rw [hE], hr⟩, rfl⟩
      refine ⟨MF.tupB (addS c[k] (comb s (rows.take k) (c.take k)) rows[k]) 0, ?_, ?_⟩
      · intro Mx H w hle2 hs; (try replace hle := hle.trans hle2); (try replace hlb := hlb.trans hle2); refine forVals_of rfl rfl rfl ?_; intro v9 h9
        obtain ⟨r, rfl, hr⟩ := h9
        refine forVals_nil (ORg.plain (OR.move rfl ?_))
        exact ⟨_, [], Hp.le.refl _, hs, ⟨r, rfl, hr⟩, rfl⟩
      refine ⟨MF.bytes (addS c[k] (comb s (rows.take k) (c.take k)) rows[k]), ?_, ?_⟩
      · intro Mx H w hle2 hs; (try replace hle := hle.trans hle2); (try replace hlb := hlb.trans hle2); refine forVals_of rfl rfl rfl ?_; intro v10 h10
        obtain ⟨r, rfl, hr⟩ := h10
        refine forVals_nil (ORg.plain (OR.extract rfl rfl ?_))
        exact ⟨_, [], Hp.le.refl _, hs, hr, rfl⟩
      refine ⟨MF.eq (.int .i64 0), ?_, ?_⟩
      · intro Mx H w hle2 hs; (try replace hle := hle.trans hle2); (try replace hlb := hlb.trans hle2); refine forVals_of rfl rfl rfl ?_; intro v10 h10
        obtain ⟨r, rfl, hr⟩ := h10
        refine forVals_nil (ORg.plain (OR.extract rfl rfl ?_))
        exact ⟨_, [], Hp.le.refl _, hs, rfl, rfl⟩
      refine ⟨MF.bytes (addS c[k] (comb s (rows.take k) (c.take k)) rows[k]), ?_, ?_⟩
      · intro Mx H w hle2 hs; (try replace hle := hle.trans hle2); (try replace hlb := hlb.trans hle2); refine forVals_of rfl rfl rfl ?_; intro v11 h11
        refine forVals_nil (ORg.plain (OR.assign rfl ?_))
        exact ⟨_, [], Hp.le.refl _, hs, h11, rfl⟩
      refine ⟨MF.eq _, by intro Mx H w hle hs; refine forVals_eq rfl rfl rfl ?_; refine forVals_nil (ORg.plain (OR.assign rfl ?_)); exact ⟨_, [], Hp.le.refl _, hs, rfl, rfl⟩, ?_⟩
      intro H w hle2; (try replace hle := hle.trans hle2); (try replace hlb := hlb.trans hle2)
      refine forAllVals_eq rfl ?_
      refine forAllVals_eq rfl ?_
      refine forAllVals_eq rfl ?_
      refine forAllVals_eq rfl ?_
      refine forAllVals_eq rfl ?_
      refine forAllVals_eq rfl ?_
      refine forAllVals_eq rfl ?_
      refine forAllVals_eq rfl ?_
      refine forAllVals_eq rfl ?_
      refine forAllVals_of rfl ?_; intro v9 h9
      refine forAllVals_of rfl ?_; intro v10 h10
      refine forAllVals_of rfl ?_; intro v11 h11
      refine forAllVals_eq rfl ?_
      refine forAllVals_of rfl ?_; intro v13 h13
      refine forAllVals_eq rfl ?_
      refine forAllVals_nil ?_; (try clear hs); intro hs
      refine WO.done (WX.seq (WC.seq (WC.seq (WC.region (WO.step rfl (OR.move rfl (WO.step rfl ?_)))))))
      refine OR.neq rfl rfl (WO.done (WX.seq ?_))
      refine WC.no rfl (decide_eq_false (by omega : ¬ (0 : Int) ≠ 0)) ?_
      refine WC.skip (WX.seq (WC.region (WO.step rfl (OR.move rfl (WO.step rfl (OR.assign rfl (WO.done ?_)))))))
      refine WX.block (WX.seq (WC.region (WO.step rfl (OR.addI rfl rfl (by omega) (by omega) (WO.step rfl (OR.move rfl (WO.done ?_)))))))
      refine WX.again ((k + 1, v13)) ⟨rfl, rfl, rfl, rfl, rfl,  trivial⟩ ?_ ?_
      · refine ⟨hk', H, hle, ?_, hs⟩
        simp only
        rw [hstep]
        exact h13
      · simp only; omega
    · have e : k = rows.length := by omega
      subst e
      refine WC.exit (WX.seq_exit (WX.loop_exit (WX.block_hit (WX.seq (WC.seq (WC.region (WO.step rfl ?_)))))))
      refine OR.move rfl (WO.step rfl (OR.assign rfl (WO.step rfl (OR.assign rfl (WO.done (WX.seq (WC.ret ?_)))))))
      refine WX.ret2 rfl rfl rfl ?_
      refine .mk hs ?_
      rw [if_pos heq, if_pos heq]
      refine ⟨vo, rfl, ?_⟩
      rw [List.take_of_length_le (Nat.le_refl _), List.take_of_length_le (by omega)] at hbo
      exact hbo

end Go.Bw
namespace Go.Bw
set_option linter.unusedVariables false
set_option linter.unusedSimpArgs false
open Go.Proofs
/-- A row, and another one multiplied with an element. -/
def plusR (r x : RowD) (c : UInt8) : RowD := (addS c r.1 x.1, addS c r.2 x.2)
set_option maxRecDepth 20000 in
set_option maxHeartbeats 2000000 in
theorem plus_ok (r x : RowD) (c : UInt8) (rc rp xc xp : Value) (H0 : Hp) (w0 : World) (h0 : Sub H0 w0) (hrc : Bytes H0 rc r.1) (hrp : Bytes H0 rp r.2) (hxc : Bytes H0 xc x.1) (hxp : Bytes H0 xp x.2)
    (hl1 : r.1.length ≤ 140737488355328) (hl2 : r.2.length ≤ 140737488355328) :
    Calls Tryz.prog 125 #[.agg #[rc, rp], .agg #[xc, xp], B c] w0 (Pure H0 w0 fun v H' => RowV H' v (plusR r x c)) := by
  have hs := HS.init h0
  have hle := Hp.le.refl H0
  refine Calls.enter (args := [.agg #[rc, rp], .agg #[xc, xp], B c]) Tryz.func125 rfl Tryz.ntmps125 rfl ?_
  refine WC.seq (WC.region (WO.step rfl (OR.box hs rfl ?_)))
  clear hs; intro g1 w hg1 hs
  refine WO.step rfl (OR.box hs rfl ?_)
  clear hs; intro g2 w hg2 hs
  refine WO.step rfl (OR.alloc hs T45 ?_)
  clear hs; intro g3 w hg3 hs
  refine WO.done (WX.seq (WC.seq (WC.region (WO.step rfl (OR.fieldAddr FA45_0 rfl (WO.step rfl (OR.load T43 rfl rfl (hs.cellM (i := 2) rfl rfl) ?_)))))))
  refine WO.step rfl (OR.fieldAddr FA45_0 rfl (WO.step rfl (OR.load T43 rfl rfl (hs.cellM (i := 1) rfl rfl) (WO.step rfl (OR.move rfl ?_)))))
  refine WO.step rfl (OR.call hs body139 rfl rfl (addScaled_ok _ _ _ _ c _ _ hs.toSub hrc hxc hl1) ?_)
  clear hs; rintro _ H w hs hle1 ⟨r1, rfl, hr1⟩; replace hle := hle.trans hle1; (try replace hlb := hlb.trans hle1)
  refine WO.step rfl (OR.move rfl (WO.step rfl (OR.extract rfl rfl (WO.step rfl (OR.extract rfl rfl (WO.step rfl (OR.assign rfl ?_)))))))
  refine WO.step rfl (OR.assign rfl (WO.done (WX.seq (WC.seq (WC.region (WO.step rfl (OR.fieldAddr FA45_1 rfl ?_)))))))
  refine WO.step rfl (OR.load T43 rfl rfl (hs.cellM (i := 2) rfl rfl) (WO.step rfl (OR.fieldAddr FA45_1 rfl (WO.step rfl (OR.load T43 rfl rfl (hs.cellM (i := 1) rfl rfl) (WO.step rfl (OR.move rfl ?_)))))))
  refine WO.step rfl (OR.call hs body139 rfl rfl (addScaled_ok _ _ _ _ c _ _ hs.toSub (hrp.mono hle) (hxp.mono hle) hl2) ?_)
  clear hs; rintro _ H w hs hle1 ⟨r2, rfl, hr2⟩; replace hle := hle.trans hle1; (try replace hlb := hlb.trans hle1)
  replace hr1 := hr1.mono hle1
  obtain ⟨b1, c1, rfl⟩ := hr1.form
  obtain ⟨b2, c2, rfl⟩ := hr2.form
  refine WO.step rfl (OR.move rfl (WO.step rfl (OR.extract rfl rfl (WO.step rfl (OR.extract rfl rfl (WO.step rfl (OR.assign rfl ?_)))))))
  refine WO.step rfl (OR.assign rfl (WO.done (WX.seq (WC.seq (WC.region (WO.step rfl (OR.move rfl ?_)))))))
  refine WO.step rfl (OR.move rfl (WO.step rfl (OR.buildAll T45 rfl rfl PL45 rfl rfl (WO.stepN (OR.storeAll hs T45 rfl rfl rfl rfl rfl ?_)))))
  clear hs; intro w hs
  refine WO.done (WX.seq (WC.ret ?_))
  refine WX.retCell T45 rfl rfl rfl rfl (hs.blk (i := 0) rfl) ?_
  exact .mk hs ⟨_, _, rfl, hr1, hr2⟩

set_option maxRecDepth 20000 in
set_option maxHeartbeats 2000000 in
theorem own_ok (r : RowD) (rc rp : Value) (H0 : Hp) (w0 : World) (h0 : Sub H0 w0) (hrc : Bytes H0 rc r.1) (hrp : Bytes H0 rp r.2)
    (hl1 : r.1.length ≤ 140737488355328) (hl2 : r.2.length ≤ 140737488355328) :
    Calls Tryz.prog 121 #[.agg #[rc, rp]] w0 (Pure H0 w0 fun v H' => RowV H' v r) := by
  have hs := HS.init h0
  have hle := Hp.le.refl H0
  refine Calls.enter (args := [.agg #[rc, rp]]) Tryz.func121 rfl Tryz.ntmps121 rfl ?_
  refine WC.seq (WC.region (WO.step rfl (OR.box hs rfl ?_)))
  clear hs; intro g1 w hg1 hs
  refine WO.step rfl (OR.alloc hs T45 ?_)
  clear hs; intro g2 w hg2 hs
  refine WO.done (WX.seq (WC.seq ?_))
  refine WC.draw 6 mixed hs (by kernel_rfl) ?_
  refine ⟨MF.eq _, by intro Mx H w hle hs; refine forVals_nil (ORg.plain (OR.fieldAddr FA45_0 rfl ?_)); exact ⟨_, [], Hp.le.refl _, hs, rfl, rfl⟩, ?_⟩
  refine ⟨MF.eq _, by intro Mx H w hle hs; refine forVals_eq rfl rfl rfl ?_; refine forVals_nil (ORg.plain (OR.load T43 rfl rfl (hs.right.cellM (i := 1) rfl rfl) ?_)); exact ⟨_, [], Hp.le.refl _, hs, rfl, rfl⟩, ?_⟩
  refine ⟨MF.bytes r.1, ?_, ?_⟩
  · intro Mx H w hle2 hs; (try replace hle := hle.trans hle2); (try replace hlb := hlb.trans hle2); refine forVals_eq rfl rfl rfl ?_
    refine forVals_nil (ORg.plain (OR.call hs body87 rfl rfl (clone_pure _ _ _ _ hs.toSub (hrc.mono hle) hl1) ?_))
    clear hs; rintro _ H w hs hle1 hb
    exact ⟨_, [], hle1, hs, hb, rfl⟩
  refine ⟨MF.eq _, by intro Mx H w hle hs; refine forVals_nil (ORg.plain (OR.fieldAddr FA45_1 rfl ?_)); exact ⟨_, [], Hp.le.refl _, hs, rfl, rfl⟩, ?_⟩
  refine ⟨MF.eq _, by intro Mx H w hle hs; refine forVals_eq rfl rfl rfl ?_; refine forVals_nil (ORg.plain (OR.load T43 rfl rfl (hs.right.cellM (i := 1) rfl rfl) ?_)); exact ⟨_, [], Hp.le.refl _, hs, rfl, rfl⟩, ?_⟩
  refine ⟨MF.bytes r.2, ?_, ?_⟩
  · intro Mx H w hle2 hs; (try replace hle := hle.trans hle2); (try replace hlb := hlb.trans hle2); refine forVals_eq rfl rfl rfl ?_
    refine forVals_nil (ORg.plain (OR.call hs body87 rfl rfl (clone_pure _ _ _ _ hs.toSub (hrp.mono hle) hl2) ?_))
    clear hs; rintro _ H w hs hle1 hb
    exact ⟨_, [], hle1, hs, hb, rfl⟩
  intro H w hle2; (try replace hle := hle.trans hle2); (try replace hlb := hlb.trans hle2)
  refine forAllVals_eq rfl ?_
  refine forAllVals_eq rfl ?_
  refine forAllVals_of rfl ?_; intro v2 h2
  refine forAllVals_eq rfl ?_
  refine forAllVals_eq rfl ?_
  refine forAllVals_of rfl ?_; intro v5 h5
  refine forAllVals_nil ?_; (try clear hs); intro hs
  obtain ⟨b1, c1, rfl⟩ := h2.form
  obtain ⟨b2, c2, rfl⟩ := h5.form
  refine WO.step rfl (OR.buildAll T45 rfl rfl PL45 rfl rfl (WO.stepN (OR.storeAll hs T45 rfl rfl rfl rfl rfl ?_)))
  clear hs; intro w hs
  refine WO.done (WX.seq (WC.ret ?_))
  refine WX.retCell T45 rfl rfl rfl rfl (hs.blk (i := 0) rfl) ?_
  exact .mk hs ⟨_, _, rfl, h2, h5⟩

/-- A basis in memory: its block, g, s, and the value of its rows. -/
def basisObj (g s : Nat) (rv : Value) : Obj := .cells #[.int .i64 (g : Int), .int .i64 (s : Int), rv] 194
abbrev ptr (b : Nat) : Value := .pointer (some ⟨b, 0, none⟩)

theorem build_new (g s : Int) (w : World) : (Instr.build 194 #[(0, .int .i64 g), (1, .int .i64 s)]).run Tryz.prog w = .ok (.agg #[.int .i64 g, .int .i64 s, .slice none 0 0]) w := by
  have h := PL194 w
  simp only [Instr.build, Sem.run_bind, T194.run_zero, run_underlying T194.und, Result.andThen_ok, h]
  rfl

set_option maxRecDepth 20000 in
set_option maxHeartbeats 2000000 in
theorem made_yes (b g s : Nat) (rv : Value) (H0 : Hp) (w0 : World) (h0 : Sub H0 w0) (hb : w0.heap[b]? = some (basisObj g s rv)) (hn : H0 b = none) (hg : 0 < g) :
    Calls Tryz.prog 119 #[ptr b] w0 (Pure H0 w0 fun v _ => v = .bool true) := by
  have hs := HS.startR h0 hb hn
  refine Calls.enter (args := [ptr b]) Tryz.func119 rfl Tryz.ntmps119 rfl ?_
  refine WC.seq (WC.region (WO.step rfl (OR.assign rfl (WO.done (WX.seq (WC.seq (WC.region ?_)))))))
  refine WO.step rfl (OR.move rfl (WO.step rfl (OR.neqNilP T126.und rfl rfl (WO.step rfl (OR.move rfl (WO.guardYes rfl rfl rfl rfl (OR.move rfl ?_)))))))
  refine WO.guardYes rfl rfl rfl rfl (OR.nilCheck rfl (WO.guardYes rfl rfl rfl rfl (OR.fieldAddr FA194_0 rfl (WO.guardYes rfl rfl rfl rfl (OR.load T3 rfl rfl (hs.cellM (i := 0) rfl rfl) (WO.guardYes rfl rfl rfl rfl (OR.gtr rfl rfl ?_)))))))
  refine WO.step rfl (OR.pickT rfl rfl rfl (WO.step rfl (OR.assign rfl (WO.done (WX.seq (WC.ret ?_))))))
  refine WX.ret1 rfl rfl ?_
  exact .mk hs (by rw [decide_eq_true (by omega)])

set_option maxRecDepth 20000 in
set_option maxHeartbeats 2000000 in
/-- What New answers. -/
theorem new_ok (g s : Int) (H0 : Hp) (w0 : World) (h0 : Sub H0 w0) :
    Calls Tryz.prog 65 #[.int .i64 g, .int .i64 s] w0 (Ret [] H0 w0 fun v H' M' => H' = H0 ∧ if 1 ≤ g ∧ g ≤ 255 ∧ 1 ≤ s ∧ s ≤ 65535 then
      ∃ b, w0.heap.size ≤ b ∧ v = .tuple #[ptr b, .int .i64 0] ∧ M' = [(b, basisObj g.toNat s.toNat (.slice none 0 0), true)] else v = .tuple #[.pointer none, .int .i64 1] ∧ M' = []) := by
  have hs := HS.init h0
  by_cases hall : 1 ≤ g ∧ g ≤ 255 ∧ 1 ≤ s ∧ s ≤ 65535
  · simp only [if_pos hall]
    obtain ⟨h1, h2, h3, h4⟩ := hall
    obtain ⟨g', rfl⟩ := Int.eq_ofNat_of_zero_le (by omega : 0 ≤ g)
    obtain ⟨s', rfl⟩ := Int.eq_ofNat_of_zero_le (by omega : 0 ≤ s)
    refine Calls.enter (args := [.int .i64 (g' : Int), .int .i64 (s' : Int)]) Tryz.func65 rfl Tryz.ntmps65 rfl ?_
    refine WC.seq (WC.region (WO.step rfl (OR.assign rfl (WO.step rfl (OR.assign rfl (WO.done (WX.seq ?_)))))))
    refine WC.seq (WC.seq (WC.region (WO.step rfl (OR.move rfl (WO.step rfl (OR.lss rfl rfl (WO.step rfl ?_)))))))
    refine OR.move rfl ?_
    refine WO.guardYes rfl (decide_eq_false (by omega : ¬ (g' : Int) < 1)) rfl rfl (OR.move rfl (WO.guardYes rfl (decide_eq_false (by omega : ¬ (g' : Int) < 1)) rfl rfl (OR.gtr rfl rfl (WO.step rfl (OR.pickF rfl (decide_eq_false (by omega : ¬ (g' : Int) < 1)) rfl (WO.step rfl (OR.move rfl ?_)))))))
    refine WO.guardYes rfl (decide_eq_false (by omega : ¬ (g' : Int) > 255)) rfl rfl (OR.move rfl (WO.guardYes rfl (decide_eq_false (by omega : ¬ (g' : Int) > 255)) rfl rfl (OR.lss rfl rfl (WO.step rfl (OR.pickF rfl (decide_eq_false (by omega : ¬ (g' : Int) > 255)) rfl (WO.step rfl (OR.move rfl ?_)))))))
    refine WO.guardYes rfl (decide_eq_false (by omega : ¬ (s' : Int) < 1)) rfl rfl (OR.move rfl (WO.guardYes rfl (decide_eq_false (by omega : ¬ (s' : Int) < 1)) rfl rfl (OR.gtr rfl rfl (WO.step rfl (OR.pickF rfl (decide_eq_false (by omega : ¬ (s' : Int) < 1)) rfl (WO.done (WX.seq ?_)))))))
    refine WC.no rfl (decide_eq_false (by omega : ¬ (s' : Int) > 65535)) ?_
    refine WC.skip (WX.seq (WC.seq (WC.region (WO.step rfl (OR.move rfl (WO.step rfl (OR.move rfl ?_)))))))
    refine WO.step rfl (OR.build (cs := #[.int .i64 (g' : Int), .int .i64 (s' : Int), .slice none 0 0]) rfl (by intro w; exact build_new _ _ w) ?_)
    refine WO.step rfl (OR.box hs rfl ?_)
    clear hs; intro g1 w hg1 hs
    refine WO.step rfl (OR.assign rfl (WO.step rfl (OR.assign rfl (WO.done (WX.seq (WC.ret ?_))))))
    refine WX.ret2 rfl rfl rfl ?_
    exact ⟨_, H0, _, rfl, hs, by simp, rfl, g1, hg1, rfl, rfl⟩
  · simp only [if_neg hall]
    refine Calls.enter (args := [.int .i64 g, .int .i64 s]) Tryz.func65 rfl Tryz.ntmps65 rfl ?_
    refine WC.seq (WC.region (WO.step rfl (OR.assign rfl (WO.step rfl (OR.assign rfl (WO.done (WX.seq ?_)))))))
    refine WC.seq (WC.seq (WC.region (WO.step rfl (OR.move rfl (WO.step rfl (OR.lss rfl rfl (WO.step rfl ?_)))))))
    refine OR.move rfl ?_
    refine WO.guardSplit (j := 2) rfl (fun q1 => ?_) (fun q1 => ?_)
    · refine WO.guardNo rfl (decide_eq_true q1) rfl rfl (WO.guardNo rfl (decide_eq_true q1) rfl rfl (WO.step rfl (OR.pickT rfl (decide_eq_true q1) rfl (WO.step rfl (OR.move rfl (WO.guardNo rfl rfl rfl rfl (WO.guardNo rfl rfl rfl rfl ?_)))))))
      refine WO.step rfl (OR.pickT rfl rfl rfl (WO.step rfl (OR.move rfl (WO.guardNo rfl rfl rfl rfl (WO.guardNo rfl rfl rfl rfl (WO.step rfl (OR.pickT rfl rfl rfl ?_)))))))
      refine WO.done (WX.seq (WC.yes rfl rfl (WC.seq (WC.region (WO.step rfl (OR.assign rfl (WO.step rfl ?_)))))))
      refine OR.assign rfl (WO.done (WX.seq (WC.ret (WX.seq_ret ?_))))
      refine WX.ret2 rfl rfl rfl ?_
      exact ⟨_, H0, [], rfl, hs, by simp, rfl, rfl, rfl⟩
    · refine WO.guardYes rfl (decide_eq_false q1) rfl rfl (OR.move rfl (WO.guardYes rfl (decide_eq_false q1) rfl rfl (OR.gtr rfl rfl (WO.step rfl (OR.pickF rfl (decide_eq_false q1) rfl (WO.step rfl (OR.move rfl ?_)))))))
      refine WO.guardSplit (j := 6) rfl (fun q2 => ?_) (fun q2 => ?_)
      · refine WO.guardNo rfl (decide_eq_true q2) rfl rfl (WO.guardNo rfl (decide_eq_true q2) rfl rfl (WO.step rfl (OR.pickT rfl (decide_eq_true q2) rfl (WO.step rfl (OR.move rfl (WO.guardNo rfl rfl rfl rfl (WO.guardNo rfl rfl rfl rfl ?_)))))))
        refine WO.step rfl (OR.pickT rfl rfl rfl (WO.done (WX.seq (WC.yes rfl rfl (WC.seq (WC.region (WO.step rfl ?_)))))))
        refine OR.assign rfl (WO.step rfl (OR.assign rfl (WO.done (WX.seq (WC.ret (WX.seq_ret ?_))))))
        refine WX.ret2 rfl rfl rfl ?_
        exact ⟨_, H0, [], rfl, hs, by simp, rfl, rfl, rfl⟩
      · refine WO.guardYes rfl (decide_eq_false q2) rfl rfl (OR.move rfl (WO.guardYes rfl (decide_eq_false q2) rfl rfl (OR.lss rfl rfl (WO.step rfl (OR.pickF rfl (decide_eq_false q2) rfl (WO.step rfl (OR.move rfl ?_)))))))
        refine WO.guardSplit (j := 10) rfl (fun q3 => ?_) (fun q3 => ?_)
        · refine WO.guardNo rfl (decide_eq_true q3) rfl rfl (WO.guardNo rfl (decide_eq_true q3) rfl rfl (WO.step rfl (OR.pickT rfl (decide_eq_true q3) rfl (WO.done (WX.seq (WC.yes rfl rfl (WC.seq ?_)))))))
          refine WC.region (WO.step rfl (OR.assign rfl (WO.step rfl (OR.assign rfl (WO.done (WX.seq (WC.ret ?_)))))))
          refine WX.seq_ret ?_
          refine WX.ret2 rfl rfl rfl ?_
          exact ⟨_, H0, [], rfl, hs, by simp, rfl, rfl, rfl⟩
        · refine WO.guardYes rfl (decide_eq_false q3) rfl rfl (OR.move rfl (WO.guardYes rfl (decide_eq_false q3) rfl rfl (OR.gtr rfl rfl (WO.step rfl (OR.pickF rfl (decide_eq_false q3) rfl (WO.done (WX.seq ?_)))))))
          refine WC.condD rfl (fun q4 => ?_) (fun q4 => ?_)
          · refine WC.seq (WC.region (WO.step rfl (OR.assign rfl (WO.step rfl (OR.assign rfl (WO.done (WX.seq ?_)))))))
            refine WC.ret (WX.seq_ret ?_)
            refine WX.ret2 rfl rfl rfl ?_
            exact ⟨_, H0, [], rfl, hs, by simp, rfl, rfl, rfl⟩
          · exact (hall (by omega)).elim

theorem lead_lt {l : List UInt8} (h : 0 ≤ lead l) : (lead l).toNat < l.length := by
  unfold lead idxFrom at *
  rw [List.drop_zero] at *
  cases hf : l.findIdx? (fun x => decide (x ≠ 0)) with
  | none => rw [hf] at h; simp at h
  | some i =>
    have := (List.findIdx?_eq_some_iff_getElem.1 hf).1
    simp; omega

/-- What is left of a row behind one of the basis's. -/
def stepR (r x : RowD) : RowD := plusR r x (r.1.getD (lead x.1).toNat 0)
/-- What the rows leave of one. -/
def redR (rows : List RowD) (r : RowD) : RowD := rows.foldl stepR r
/-- A row of g and s. -/
def RowGS (g s : Nat) (r : RowD) : Prop := r.1.length = g ∧ r.2.length = s

theorem plusR_gs {g s : Nat} {r x : RowD} (hr : RowGS g s r) (hx : RowGS g s x) (c : UInt8) : RowGS g s (plusR r x c) :=
  ⟨by rw [plusR, addS_length _ _ _ (hr.1.trans hx.1.symm)]; exact hr.1, by rw [plusR, addS_length _ _ _ (hr.2.trans hx.2.symm)]; exact hr.2⟩
theorem redR_gs {g s : Nat} : ∀ (rows : List RowD) (r : RowD), RowGS g s r → (∀ x ∈ rows, RowGS g s x) → RowGS g s (redR rows r)
  | [], r, h, _ => h
  | x :: rows, r, h, hx => redR_gs rows (stepR r x) (plusR_gs h (hx x (by simp)) _) (fun y hy => hx y (by simp [hy]))
theorem redR_step (rows : List RowD) (r : RowD) (k : Nat) (h : k < rows.length) : redR (rows.take (k + 1)) r = stepR (redR (rows.take k) r) rows[k] := by
  unfold redR
  rw [List.take_succ_eq_append_getElem h, List.foldl_append]
  rfl

set_option maxRecDepth 20000 in
set_option maxHeartbeats 2000000 in
theorem reduced1_ok (r x : RowD) (rc rp xc xp : Value) (b : Nat) (H0 : Hp) (w0 : World) (h0 : Sub H0 w0) (hb : w0.heap[b]? = some (.cells #[rc, rp] 45)) (hn : H0 b = none)
    (hrc : Bytes H0 rc r.1) (hrp : Bytes H0 rp r.2) (hxc : Bytes H0 xc x.1) (hxp : Bytes H0 xp x.2) (hl1 : r.1.length ≤ 140737488355328) (hl2 : r.2.length ≤ 140737488355328) (hlx : x.1.length < 9223372036854775807)
    (hlead : 0 ≤ lead x.1) (hlt : (lead x.1).toNat < r.1.length) :
    Calls Tryz.prog 162 #[.agg #[xc, xp], ptr b] w0 (Ret [b] H0 w0 fun v H' M' => v = .tuple #[] ∧ ∃ rc' rp', M' = [(b, .cells #[rc', rp'] 45, true)] ∧
      Bytes H' rc' (stepR r x).1 ∧ Bytes H' rp' (stepR r x).2) := by
  have hs := HS.start1 h0 hb hn
  have hle := Hp.le.refl H0
  obtain ⟨b1, c1, rfl⟩ := hrc.form
  obtain ⟨xb, xo, rfl, hcr⟩ := hrc.pos (by omega)
  obtain ⟨k, hk⟩ := Int.eq_ofNat_of_zero_le hlead
  have hk' : k < r.1.length := by rw [hk] at hlt; exact hlt
  have hcoef : r.1.getD (lead x.1).toNat 0 = r.1[k] := by rw [hk]; simp [hk']
  refine Calls.enter (args := [.agg #[xc, xp], ptr b]) Tryz.func162 rfl Tryz.ntmps162 rfl ?_
  refine WC.seq (WC.region (WO.step rfl (OR.box hs rfl ?_)))
  clear hs; intro g1 w hg1 hs
  refine WO.done (WX.seq ?_)
  refine WC.draw 10 mixed hs (by kernel_rfl) ?_
  refine ⟨MF.eq _, by intro Mx H w hle hs; refine forVals_nil (ORg.plain (OR.loadAll T45 rfl rfl (hs.right.blk (i := 1) rfl) rfl ?_)); exact ⟨_, [], Hp.le.refl _, hs, rfl, rfl⟩, ?_⟩
  refine ⟨MF.eq _, by intro Mx H w hle hs; refine forVals_nil (ORg.plain (OR.loadAll T45 rfl rfl (hs.right.blk (i := 0) rfl) rfl ?_)); exact ⟨_, [], Hp.le.refl _, hs, rfl, rfl⟩, ?_⟩
  refine ⟨MF.eq _, by intro Mx H w hle hs; refine forVals_nil (ORg.plain (OR.fieldAddr FA45_0 rfl ?_)); exact ⟨_, [], Hp.le.refl _, hs, rfl, rfl⟩, ?_⟩
  refine ⟨MF.eq _, by intro Mx H w hle hs; refine forVals_eq rfl rfl rfl ?_; refine forVals_nil (ORg.plain (OR.load T43 rfl rfl (hs.right.cellM (i := 1) rfl rfl) ?_)); exact ⟨_, [], Hp.le.refl _, hs, rfl, rfl⟩, ?_⟩
  refine ⟨MF.eq _, by intro Mx H w hle hs; refine forVals_nil (ORg.plain (OR.fieldAddr FA45_0 rfl ?_)); exact ⟨_, [], Hp.le.refl _, hs, rfl, rfl⟩, ?_⟩
  refine ⟨MF.eq _, by intro Mx H w hle hs; refine forVals_eq rfl rfl rfl ?_; refine forVals_nil (ORg.plain (OR.load T43 rfl rfl (hs.right.cellM (i := 0) rfl rfl) ?_)); exact ⟨_, [], Hp.le.refl _, hs, rfl, rfl⟩, ?_⟩
  refine ⟨MF.eq (.int .i64 (lead x.1)), ?_, ?_⟩
  · intro Mx H w hle2 hs; (try replace hle := hle.trans hle2); (try replace hlb := hlb.trans hle2); refine forVals_eq rfl rfl rfl ?_
    refine forVals_nil (ORg.plain (OR.call hs body110 rfl rfl (lead_ok _ _ _ _ hs.toSub (hxc.mono hle) hlx) ?_))
    clear hs; rintro _ H w hs hle1 rfl
    exact ⟨_, [], hle1, hs, rfl, rfl⟩
  refine ⟨MF.eq (.pointer (some ⟨xb, xo + k, none⟩)), ?_, ?_⟩
  · intro Mx H w hle2 hs; (try replace hle := hle.trans hle2); (try replace hlb := hlb.trans hle2); refine forVals_eq rfl rfl rfl ?_; refine forVals_eq rfl rfl rfl ?_
    refine forVals_nil (ORg.plain (OR.idx k T43.und T5 rfl rfl hk hk' ?_))
    exact ⟨_, [], Hp.le.refl _, hs, rfl, rfl⟩
  refine ⟨MF.eq (B r.1[k]), ?_, ?_⟩
  · intro Mx H w hle2 hs; (try replace hle := hle.trans hle2); (try replace hlb := hlb.trans hle2); refine forVals_eq rfl rfl rfl ?_
    refine forVals_nil (ORg.plain (OR.load T5 rfl rfl (hs.cell (hcell.mono hle (hcr k hk'))) ?_))
    exact ⟨_, [], Hp.le.refl _, hs, rfl, rfl⟩
  refine ⟨MF.row (stepR r x), ?_, ?_⟩
  · intro Mx H w hle2 hs; (try replace hle := hle.trans hle2); (try replace hlb := hlb.trans hle2); refine forVals_eq rfl rfl rfl ?_; refine forVals_eq rfl rfl rfl ?_; refine forVals_eq rfl rfl rfl ?_
    refine forVals_nil (ORg.plain (OR.call hs body125 rfl rfl (plus_ok r x _ _ _ _ _ _ _ hs.toSub (hrc.mono hle) (hrp.mono hle) (hxc.mono hle) (hxp.mono hle) hl1 hl2) ?_))
    clear hs; rintro _ H w hs hle1 hr
    exact ⟨_, [], hle1, hs, (by rw [stepR, hcoef]; exact hr), rfl⟩
  intro H w hle2; (try replace hle := hle.trans hle2); (try replace hlb := hlb.trans hle2)
  refine forAllVals_eq rfl ?_
  refine forAllVals_eq rfl ?_
  refine forAllVals_eq rfl ?_
  refine forAllVals_eq rfl ?_
  refine forAllVals_eq rfl ?_
  refine forAllVals_eq rfl ?_
  refine forAllVals_eq rfl ?_
  refine forAllVals_eq rfl ?_
  refine forAllVals_eq rfl ?_
  refine forAllVals_of rfl ?_; intro v9 h9
  refine forAllVals_nil ?_; (try clear hs); intro hs
  obtain ⟨rc', rp', rfl, q1, q2⟩ := h9
  obtain ⟨_, _, rfl⟩ := q1.form
  obtain ⟨_, _, rfl⟩ := q2.form
  replace hs := hs.front (i := 1) rfl
  refine WO.stepN (OR.storeAll hs T45 rfl rfl rfl rfl rfl ?_)
  clear hs; intro w hs
  refine WO.done ?_
  replace hs := hs.drop (i := 1)
  refine WX.end0 rfl ?_
  exact ⟨_, H, _, rfl, hs, by simp [dropAt], rfl, _, _, rfl, q1, q2⟩

set_option maxRecDepth 20000 in
set_option maxHeartbeats 2000000 in
theorem reduced_ok (r : RowD) (rows : List RowD) (rc rp rv : Value) (b g s : Nat) (H0 : Hp) (w0 : World) (h0 : Sub H0 w0) (hb : w0.heap[b]? = some (basisObj g s rv)) (hn : H0 b = none) (hv : Rws H0 rv rows)
    (hrc : Bytes H0 rc r.1) (hrp : Bytes H0 rp r.2) (hr : RowGS g s r) (hrs : ∀ x ∈ rows, RowGS g s x ∧ 0 ≤ lead x.1) (hg : g ≤ 255) (hsm : s ≤ 65535) (hlen : rows.length ≤ 255) :
    Calls Tryz.prog 120 #[ptr b, .agg #[rc, rp]] w0 (Pure H0 w0 fun v H' => RowV H' v (redR rows r)) := by
  have hs := HS.startR h0 hb hn
  have hle := Hp.le.refl H0
  obtain ⟨br, cr, rfl⟩ := hv.form
  refine Calls.enter (args := [ptr b, .agg #[rc, rp]]) Tryz.func120 rfl Tryz.ntmps120 rfl ?_
  refine WC.seq (WC.region (WO.step rfl (OR.box hs rfl ?_)))
  clear hs; intro g1 w hg1 hs
  refine WO.step rfl (OR.alloc hs T45 ?_)
  clear hs; intro g2 w hg2 hs
  refine WO.done (WX.seq (WC.seq (WC.region (WO.step rfl (OR.makeFunc rfl rfl (WO.step rfl (OR.assign rfl ?_)))))))
  refine WO.done (WX.seq (WC.seq (WC.seq (WC.region (WO.step rfl (OR.move rfl (WO.step rfl ?_)))))))
  refine OR.nilCheck rfl (WO.step rfl (OR.fieldAddr FA194_2 rfl (WO.step rfl (OR.load T97 rfl rfl (hs.cellM (i := 2) rfl rfl) (WO.step rfl (OR.lenSlice T97.und rfl (WO.step rfl ?_)))))))
  refine OR.move rfl (WO.done (WX.seq (WC.block ?_)))
  refine WC.loop (ι := Nat × Value × Value) (fun ix => [(0, ptr b), (3, ptr g1), (4, ptr g2), (5, .func (.func 162) #[] #[ptr g1]), (12, .slice br rows.length cr), (13, .int .i64 (rows.length : Int)), (14, .int .i64 (ix.1 : Int))]) (fun ix w => (ix.1 ≤ rows.length ∧ ∃ H, Hp.le H0 H ∧ Bytes H ix.2.1 (redR (rows.take ix.1) r).1 ∧ Bytes H ix.2.2 (redR (rows.take ix.1) r).2 ∧ HS [] H0 w0 H [(g1, .cells #[ix.2.1, ix.2.2] 45, true), (g2, .cells #[.slice none 0 0, .slice none 0 0] 45, true), (b, basisObj g s (.slice br rows.length cr), false)] w)) (fun ix => rows.length - ix.1) (0, rc, rp) ⟨rfl, rfl, rfl, rfl, rfl, rfl, rfl,  trivial⟩ ?_ (fun ix w hW => ?_)
  · exact ⟨by omega, H0, hle, hrc, hrp, hs.front (i := 1) rfl⟩
  obtain ⟨k, qc, qp⟩ := ix
  obtain ⟨hk, H, hle, hqc, hqp, hs⟩ := hW
  simp only at hk hqc hqp hs
  refine WC.seq (WC.region (WO.step rfl (OR.lss rfl rfl (WO.done (WX.seq (WC.seq ?_))))))
  refine WC.condD rfl (fun hlt => ?_) (fun hlt => ?_)
  · have hk' : k < rows.length := by omega
    obtain ⟨xb, xo, rfl, hcr⟩ := hv.pos (by omega)
    obtain ⟨ec, ep, hcc, hec, hep⟩ := hcr k hk'
    obtain ⟨hgs, hld⟩ := hrs rows[k] (List.getElem_mem _)
    have hq := redR_gs (rows.take k) r hr (fun x hx => (hrs x (List.mem_of_mem_take hx)).1)
    have hldlt := lead_lt hld
    obtain ⟨_, _, rfl⟩ := hec.form
    obtain ⟨_, _, rfl⟩ := hep.form
    refine WC.skip (WX.seq (WC.seq (WC.block (WC.seq (WC.region ?_)))))
    refine WO.step rfl (OR.idxN k T97.und T45 rfl rfl rfl hk' ?_)
    refine WO.step rfl (OR.loadN (cs := [_, _]) T45 rfl rfl rfl (fun j u hj => hs.cell (hcell.mono hle (hcc j u hj))) ?_)
    refine WO.step rfl (OR.alloc hs T45 ?_)
    clear hs; intro g3 w hg3 hs
    refine WO.stepN (OR.storeAll hs T45 rfl rfl rfl rfl rfl ?_)
    clear hs; intro w hs
    refine WO.done (WX.seq (WC.region (WO.step rfl (OR.move rfl (WO.step rfl (OR.loadAll T45 rfl rfl (hs.blk (i := 0) rfl) rfl ?_))))))
    replace hs := hs.front (i := 1) rfl
    refine WO.step rfl (OR.callX (Mx := [(g1, _, true)]) hs body162 rfl rfl (reduced1_ok (redR (rows.take k) r) rows[k] qc qp _ _ g1 _ _ hs.toSub (hs.blk (i := 0) rfl) (hs.mem g1 _ true (List.mem_cons_self ..)).2.1 hqc hqp (hec.mono hle) (hep.mono hle) (by rw [hq.1]; omega) (by rw [hq.2]; omega) (by rw [hgs.1]; omega) hld (by rw [hq.1, ← hgs.1]; exact hldlt)) rfl rfl ?_)
    clear hs; rintro _ H M' w hs hle1 hnew ⟨rfl, qc', qp', rfl, hqc', hqp'⟩; replace hle := hle.trans hle1; (try replace hlb := hlb.trans hle1)
    refine WO.done (WX.block (WX.seq (WC.region (WO.step rfl (OR.addI rfl rfl (by omega) (by omega) (WO.step rfl (OR.move rfl ?_)))))))
    refine WO.done ?_
    replace hs := hs.drop (i := 1)
    refine WX.again ((k + 1, qc', qp')) ⟨rfl, rfl, rfl, rfl, rfl, rfl, rfl,  trivial⟩ ?_ ?_
    · refine ⟨hk', H, hle, ?_, ?_, hs⟩
      · simp only; rw [redR_step _ _ _ hk']; exact hqc'
      · simp only; rw [redR_step _ _ _ hk']; exact hqp'
    · simp only; omega
  · have e : k = rows.length := by omega
    subst e
    rw [List.take_of_length_le (Nat.le_refl _)] at hqc hqp
    obtain ⟨_, _, rfl⟩ := hqc.form
    obtain ⟨_, _, rfl⟩ := hqp.form
    refine WC.exit (WX.seq_exit (WX.loop_exit (WX.block_hit (WX.seq (WC.seq (WC.region (WO.step rfl ?_)))))))
    refine OR.loadAll T45 rfl rfl (hs.blk (i := 0) rfl) rfl ?_
    replace hs := hs.front (i := 1) rfl
    refine WO.stepN (OR.storeAll hs T45 rfl rfl rfl rfl rfl ?_)
    clear hs; intro w hs
    refine WO.done (WX.seq (WC.ret ?_))
    refine WX.retCell T45 rfl rfl rfl rfl (hs.blk (i := 0) rfl) ?_
    exact .mk hs ⟨_, _, rfl, hqc, hqp⟩

/-- Where a row of a lead belongs. -/
def placeOf : List RowD → Int → Nat
  | [], _ => 0
  | x :: rows, l => if lead x.1 > l then 0 else placeOf rows l + 1

theorem placeOf_le : ∀ (rows : List RowD) (l : Int), placeOf rows l ≤ rows.length
  | [], _ => Nat.le_refl _
  | x :: rows, l => by
    unfold placeOf
    split
    · omega
    · have := placeOf_le rows l; simp; omega
theorem placeOf_at : ∀ (rows : List RowD) (l : Int) (k : Nat) (hk : k < rows.length), (∀ j (hj : j < k), ¬ lead (rows[j]'(by omega)).1 > l) → lead rows[k].1 > l → placeOf rows l = k
  | [], _, k, hk, _, _ => by simp at hk
  | x :: rows, l, 0, _, _, h => by simp at h; simp [placeOf, h]
  | x :: rows, l, k + 1, hk, hno, h => by
    have h0 := hno 0 (by omega)
    simp only [List.getElem_cons_zero] at h0
    unfold placeOf
    rw [if_neg h0, placeOf_at rows l k (by simpa using hk) (fun j hj => by have := hno (j + 1) (by omega); simpa using this) (by simpa using h)]
theorem placeOf_end : ∀ (rows : List RowD) (l : Int), (∀ j (hj : j < rows.length), ¬ lead rows[j].1 > l) → placeOf rows l = rows.length
  | [], _, _ => rfl
  | x :: rows, l, hno => by
    have h0 := hno 0 (by simp)
    simp only [List.getElem_cons_zero] at h0
    unfold placeOf
    rw [if_neg h0, placeOf_end rows l (fun j hj => by have := hno (j + 1) (by simpa using hj); simpa using this)]
    rfl

set_option maxRecDepth 20000 in
set_option maxHeartbeats 2000000 in
theorem place_ok (rows : List RowD) (rv : Value) (l : Int) (b g s : Nat) (H0 : Hp) (w0 : World) (h0 : Sub H0 w0) (hb : w0.heap[b]? = some (basisObj g s rv)) (hn : H0 b = none) (hv : Rws H0 rv rows)
    (hrs : ∀ x ∈ rows, RowGS g s x) (hg : g ≤ 255) (hlen : rows.length ≤ 255) :
    Calls Tryz.prog 127 #[ptr b, .int .i64 l] w0 (Pure H0 w0 fun v _ => v = .int .i64 (placeOf rows l : Int)) := by
  have hs := HS.startR h0 hb hn
  have hle := Hp.le.refl H0
  obtain ⟨br, cr, rfl⟩ := hv.form
  refine Calls.enter (args := [ptr b, .int .i64 l]) Tryz.func127 rfl Tryz.ntmps127 rfl ?_
  refine WC.seq (WC.region (WO.step rfl (OR.assign rfl (WO.done (WX.seq (WC.scope (WC.seq ?_)))))))
  refine WC.region (WO.step rfl (OR.assign rfl (WO.done (WX.seq (WC.seq (WC.label (WX.seq ?_)))))))
  refine WC.seq (WC.block ?_)
  refine WC.loop (ι := Nat) (fun k => [(0, ptr b), (1, .int .i64 l), (5, .int .i64 (k : Int))]) (fun k w => (k ≤ rows.length ∧ (∀ j (hj : j < rows.length), j < k → ¬ lead rows[j].1 > l) ∧ ∃ H, Hp.le H0 H ∧ HS [] H0 w0 H [(b, basisObj g s (.slice br rows.length cr), false)] w)) (fun k => rows.length - k) 0 ⟨rfl, rfl, rfl,  trivial⟩ ?_ (fun k w hW => ?_)
  · exact ⟨by omega, fun j _ hj => by omega, H0, hle, hs⟩
  obtain ⟨hk, hno, H, hle, hs⟩ := hW
  refine WC.seq (WC.seq (WC.region (WO.step rfl (OR.move rfl (WO.step rfl (OR.move rfl (WO.step rfl ?_)))))))
  refine OR.nilCheck rfl (WO.step rfl (OR.fieldAddr FA194_2 rfl (WO.step rfl (OR.load T97 rfl rfl (hs.cellM (i := 0) rfl rfl) (WO.step rfl (OR.lenSlice T97.und rfl (WO.step rfl ?_)))))))
  refine OR.lss rfl rfl (WO.done (WX.seq ?_))
  refine WC.condD rfl (fun hlt => ?_) (fun hlt => ?_)
  · have hk' : k < rows.length := by omega
    obtain ⟨xb, xo, rfl, hcr⟩ := hv.pos (by omega)
    obtain ⟨ec, ep, hcc, hec, hep⟩ := hcr k hk'
    have hgs := hrs rows[k] (List.getElem_mem _)
    refine WC.skip (WX.seq (WC.block (WC.seq (WC.seq (WC.region (WO.step rfl (OR.move rfl ?_)))))))
    refine WO.step rfl (OR.nilCheck rfl (WO.step rfl (OR.fieldAddr FA194_2 rfl (WO.step rfl (OR.load T97 rfl rfl (hs.cellM (i := 0) rfl rfl) (WO.step rfl (OR.move rfl ?_)))))))
    refine WO.step rfl (OR.idxN k T97.und T45 rfl rfl rfl hk' ?_)
    refine WO.step rfl (OR.fieldAddr FA45_0 rfl ?_)
    refine WO.step rfl (OR.load T43 rfl rfl (hs.cell (hcell.mono hle (by have := hcc 0 ec rfl; rw [add_off] at this; exact this))) ?_)
    refine WO.step rfl (OR.call hs body110 rfl rfl (lead_ok _ _ _ _ hs.toSub (hec.mono hle) (by rw [hgs.1]; omega)) ?_)
    clear hs; rintro _ H w hs hle1 rfl; replace hle := hle.trans hle1; (try replace hlb := hlb.trans hle1)
    refine WO.step rfl (OR.move rfl (WO.step rfl (OR.gtr rfl rfl (WO.done (WX.seq ?_)))))
    refine WC.condD rfl (fun hgt => ?_) (fun hgt => ?_)
    · refine WC.exit (WX.seq_exit (WX.block_miss rfl (WX.loop_exit (WX.block_hit (WX.seq (WC.seq (WC.region ?_)))))))
      refine WO.step rfl (OR.move rfl (WO.step rfl (OR.assign rfl (WO.done (WX.seq (WC.ret (WX.scope_ret ?_)))))))
      refine WX.ret1 rfl rfl ?_
      refine .mk hs ?_
      rw [placeOf_at rows l k hk' (fun j hj => hno j (by omega) hj) hgt]
    · refine WC.skip (WX.seq (WC.region (WO.step rfl (OR.move rfl (WO.step rfl (OR.addI rfl rfl (by omega) (by omega) (WO.step rfl ?_)))))))
      refine OR.assign rfl (WO.done (WX.block ?_))
      refine WX.again (k + 1) ⟨rfl, rfl, rfl,  trivial⟩ ?_ ?_
      · refine ⟨hk', fun j hj hjk => ?_, H, hle, hs⟩
        by_cases e : j = k
        · subst e; exact hgt
        · exact hno j hj (by omega)
      · omega
  · have e : k = rows.length := by omega
    subst e
    refine WC.exit (WX.seq_exit (WX.loop_exit (WX.block_hit (WX.seq (WC.seq (WC.region (WO.step rfl ?_)))))))
    refine OR.move rfl (WO.step rfl (OR.assign rfl (WO.done (WX.seq (WC.ret (WX.scope_ret ?_))))))
    refine WX.ret1 rfl rfl ?_
    refine .mk hs ?_
    rw [placeOf_end rows l (fun j hj => hno j hj hj)]

-- left out, for this seat has no (*braidwork/basis.Basis).Contains: theorem contains_nil (vc
-- left out, for this seat has no (*braidwork/basis.Basis).Contains: theorem contains_ok (rows
end Go.Bw
namespace Go.Bw
set_option linter.unusedVariables false
set_option linter.unusedSimpArgs false
open Go.Proofs
set_option maxRecDepth 20000 in
set_option maxHeartbeats 2000000 in
theorem solve_ok (rows : List RowD) (rv : Value) (b g s : Nat) (H0 : Hp) (w0 : World) (h0 : Sub H0 w0) (hb : w0.heap[b]? = some (basisObj g s rv)) (hn : H0 b = none) (hv : Rws H0 rv rows)
    (hrs : ∀ x ∈ rows, RowGS g s x) (hg0 : 0 < g) (hg : g ≤ 255) (hsm : s ≤ 65535) (hlen : rows.length ≤ 255) :
    Calls Tryz.prog 152 #[ptr b] w0 (Pure H0 w0 fun v H' => ∃ r, v = .tuple #[r, .int .i64 (if rows.length < g then 24 else 0)] ∧ BytesL H' r (if rows.length < g then [] else rows.map (·.2))) := by
  have hs := HS.startR h0 hb hn
  have hle := Hp.le.refl H0
  obtain ⟨br, cr, rfl⟩ := hv.form
  refine Calls.enter (args := [ptr b]) Tryz.func152 rfl Tryz.ntmps152 rfl ?_
  refine WC.seq (WC.region (WO.step rfl (OR.assign rfl (WO.step rfl (OR.assign rfl (WO.done (WX.seq ?_)))))))
  refine WC.seq (WC.block (WC.seq (WC.region (WO.step rfl (OR.move rfl ?_)))))
  refine WO.step rfl (OR.call hs body119 rfl rfl (made_yes b g s _ _ _ hs.toSub hb hn hg0) ?_)
  clear hs; rintro _ H w hs hle1 rfl; replace hle := hle.trans hle1; (try replace hlb := hlb.trans hle1)
  refine WO.step rfl (OR.not rfl (WO.step rfl (OR.assign rfl (WO.done (WX.seq ?_)))))
  refine WC.no rfl rfl ?_
  refine WC.seq ?_
  refine WC.draw 11 mixed hs (by kernel_rfl) ?_
  refine ⟨MF.eq _, by intro Mx H w hle hs; refine forVals_nil (ORg.plain (OR.move rfl ?_)); exact ⟨_, [], Hp.le.refl _, hs, rfl, rfl⟩, ?_⟩
  refine ⟨MF.eq _, by intro Mx H w hle hs; refine forVals_eq rfl rfl rfl ?_; refine forVals_nil (ORg.plain (OR.nilCheck rfl ?_)); exact ⟨_, [], Hp.le.refl _, hs, rfl, rfl⟩, ?_⟩
  refine ⟨MF.eq _, by intro Mx H w hle hs; refine forVals_eq rfl rfl rfl ?_; refine forVals_nil (ORg.plain (OR.fieldAddr FA194_2 rfl ?_)); exact ⟨_, [], Hp.le.refl _, hs, rfl, rfl⟩, ?_⟩
  refine ⟨MF.eq _, by intro Mx H w hle hs; refine forVals_eq rfl rfl rfl ?_; refine forVals_nil (ORg.plain (OR.load T97 rfl rfl (hs.right.cellM (i := 0) rfl rfl) ?_)); exact ⟨_, [], Hp.le.refl _, hs, rfl, rfl⟩, ?_⟩
  refine ⟨MF.eq _, by intro Mx H w hle hs; refine forVals_eq rfl rfl rfl ?_; refine forVals_nil (ORg.plain (OR.lenSlice T97.und rfl ?_)); exact ⟨_, [], Hp.le.refl _, hs, rfl, rfl⟩, ?_⟩
  refine ⟨MF.eq _, by intro Mx H w hle hs; refine forVals_nil (ORg.plain (OR.move rfl ?_)); exact ⟨_, [], Hp.le.refl _, hs, rfl, rfl⟩, ?_⟩
  refine ⟨MF.eq _, by intro Mx H w hle hs; refine forVals_eq rfl rfl rfl ?_; refine forVals_nil (ORg.plain (OR.nilCheck rfl ?_)); exact ⟨_, [], Hp.le.refl _, hs, rfl, rfl⟩, ?_⟩
  refine ⟨MF.eq _, by intro Mx H w hle hs; refine forVals_eq rfl rfl rfl ?_; refine forVals_nil (ORg.plain (OR.fieldAddr FA194_0 rfl ?_)); exact ⟨_, [], Hp.le.refl _, hs, rfl, rfl⟩, ?_⟩
  refine ⟨MF.eq _, by intro Mx H w hle hs; refine forVals_eq rfl rfl rfl ?_; refine forVals_nil (ORg.plain (OR.load T3 rfl rfl (hs.right.cellM (i := 0) rfl rfl) ?_)); exact ⟨_, [], Hp.le.refl _, hs, rfl, rfl⟩, ?_⟩
  refine ⟨MF.eq _, by intro Mx H w hle hs; refine forVals_eq rfl rfl rfl ?_; refine forVals_eq rfl rfl rfl ?_; refine forVals_nil (ORg.plain (OR.lss rfl rfl ?_)); exact ⟨_, [], Hp.le.refl _, hs, rfl, rfl⟩, ?_⟩
  refine ⟨MF.eq _, by intro Mx H w hle hs; refine forVals_eq rfl rfl rfl ?_; refine forVals_nil (ORg.plain (OR.assign rfl ?_)); exact ⟨_, [], Hp.le.refl _, hs, rfl, rfl⟩, ?_⟩
  intro H w hle2; (try replace hle := hle.trans hle2); (try replace hlb := hlb.trans hle2)
  refine forAllVals_eq rfl ?_
  refine forAllVals_eq rfl ?_
  refine forAllVals_eq rfl ?_
  refine forAllVals_eq rfl ?_
  refine forAllVals_eq rfl ?_
  refine forAllVals_eq rfl ?_
  refine forAllVals_eq rfl ?_
  refine forAllVals_eq rfl ?_
  refine forAllVals_eq rfl ?_
  refine forAllVals_eq rfl ?_
  refine forAllVals_eq rfl ?_
  refine forAllVals_nil ?_; (try clear hs); intro hs
  refine WO.done (WX.seq ?_)
  refine WC.condD rfl (fun hlt => ?_) (fun hlt => ?_)
  · refine WC.seq (WC.region (WO.step rfl (OR.assign rfl (WO.step rfl (OR.assign rfl (WO.done (WX.seq ?_)))))))
    refine WC.ret (WX.block_ret (WX.seq_ret ?_))
    refine WX.ret2 rfl rfl rfl ?_
    have : rows.length < g := by omega
    refine .mk hs ⟨_, by rw [if_pos this], ?_⟩
    rw [if_pos this]
    exact ⟨[], Sl.nil _ _, rfl, fun i h => by simp at h⟩
  · have hge : ¬ rows.length < g := by omega
    refine WC.skip (WX.block (WX.seq (WC.seq (WC.region (WO.step rfl (OR.assign rfl (WO.done ?_)))))))
    refine WX.seq (WC.seq (WC.seq (WC.region (WO.step rfl (OR.move rfl (WO.step rfl (OR.nilCheck rfl ?_)))))))
    refine WO.step rfl (OR.fieldAddr FA194_2 rfl (WO.step rfl (OR.load T97 rfl rfl (hs.cellM (i := 0) rfl rfl) (WO.step rfl (OR.lenSlice T97.und rfl (WO.step rfl (OR.move rfl ?_)))))))
    refine WO.done (WX.seq (WC.block ?_))
    refine WC.loop (ι := Nat × Value) (fun ix => [(4, ix.2), (25, .slice br rows.length cr), (26, .int .i64 (rows.length : Int)), (27, .int .i64 (ix.1 : Int))]) (fun ix w => (ix.1 ≤ rows.length ∧ ∃ H cs Mo, Hp.le H0 H ∧ BLOk H cs ((rows.take ix.1).map (·.2)) ∧ Own w0.heap.size 43 1 ix.2 ix.1 cs Mo ∧ HS [] H0 w0 H (Mo ++ [(b, basisObj g s (.slice br rows.length cr), false)]) w)) (fun ix => rows.length - ix.1) (0, .slice none 0 0) ⟨rfl, rfl, rfl, rfl,  trivial⟩ ?_ (fun ix w hW => ?_)
    · exact ⟨by omega, H, [], [], hle, BLOk.nil _, Own.nil _ _ _, hs⟩
    obtain ⟨k, vo⟩ := ix
    obtain ⟨hk, H, cs, Mo, hle, hok, ho, hs⟩ := hW
    simp only at hk hok ho
    refine WC.seq (WC.region (WO.step rfl (OR.lss rfl rfl (WO.done (WX.seq (WC.seq ?_))))))
    refine WC.condD rfl (fun hlt => ?_) (fun hlt => ?_)
    · have hk' : k < rows.length := by omega
      obtain ⟨xb, xo, rfl, hcr⟩ := hv.pos (by omega)
      obtain ⟨ec, ep, hcc, hec, hep⟩ := hcr k hk'
      have hgs := hrs rows[k] (List.getElem_mem _)
      obtain ⟨b1, c1, rfl⟩ := hec.form
      obtain ⟨b2, c2, rfl⟩ := hep.form
      refine WC.skip (WX.seq (WC.seq (WC.block (WC.seq (WC.region ?_)))))
      refine WO.step rfl (OR.idxN k T97.und T45 rfl rfl rfl hk' ?_)
      refine WO.step rfl (OR.loadN (cs := [_, _]) T45 rfl rfl rfl (fun j u hj => hs.cell (hcell.mono hle (hcc j u hj))) ?_)
      refine WO.step rfl (OR.alloc hs T45 ?_)
      clear hs; intro g1 w hg1 hs
      refine WO.stepN (OR.storeAll hs T45 rfl rfl rfl rfl rfl ?_)
      clear hs; intro w hs
      refine WO.done (WX.seq (WC.region (WO.step rfl (OR.move rfl (WO.step rfl (OR.fieldAddr FA45_1 rfl (WO.step rfl ?_)))))))
      refine OR.load T43 rfl rfl (hs.cellM (i := 0) rfl rfl) ?_
      refine WO.step rfl (OR.call hs body87 rfl rfl (clone_pure _ _ _ _ hs.toSub (hep.mono hle) (by rw [hgs.2]; omega)) ?_)
      clear hs; rintro _ H w hs hle1 hcl; replace hle := hle.trans hle1; (try replace hlb := hlb.trans hle1)
      obtain ⟨b3, c3, rfl⟩ := hcl.form
      refine WO.step rfl (OR.buildSlice (vs := [_]) hs T40.und T43 rfl rfl rfl rfl (by simp) ?_)
      clear hs; intro g2 w hg2 hs
      have hb1 := hs.blk (i := 0) rfl
      replace hs := (hs.drop 1).sink
      have hs := hs
      refine WO.step rfl (OR.append (m := 1) (news := [_]) hs ho T40.und T43 rfl (by omega) rfl rfl rfl (cells_of hb1) (fun h => by cases h) rfl (by omega) (by omega) ?_)
      clear hs ho; intro vo' w Mo' hs ho hge
      replace hs := hs.dropMid
      refine WO.step rfl (OR.assign rfl (WO.done (WX.block (WX.seq (WC.region (WO.step rfl (OR.addI rfl rfl (by omega) (by omega) ?_)))))))
      refine WO.step rfl (OR.move rfl (WO.done ?_))
      refine WX.again ((k + 1, vo')) ⟨rfl, rfl, rfl, rfl,  trivial⟩ ?_ ?_
      · refine ⟨hk', H, cs ++ [_], Mo', hle, ?_, ho, hs⟩
        rw [List.take_succ_eq_append_getElem hk', List.map_append]
        exact (hok.mono hle1).snoc hcl
      · simp only; omega
    · have e : k = rows.length := by omega
      subst e
      refine WC.exit (WX.seq_exit (WX.loop_exit (WX.block_hit (WX.seq (WC.seq (WC.region (WO.step rfl ?_)))))))
      refine OR.move rfl (WO.step rfl (OR.assign rfl (WO.step rfl (OR.assign rfl (WO.done (WX.seq (WC.ret ?_)))))))
      refine WX.ret2 rfl rfl rfl ?_
      obtain ⟨H2, hle2, hs2, hsl, _⟩ := HS.pub hs ho
      rw [List.take_of_length_le (Nat.le_refl _)] at hok
      refine .mk hs2 ⟨vo, by rw [if_neg hge], ?_⟩
      rw [if_neg hge]
      exact (hok.mono hle2).bytesL (by simpa using hsl)

-- left out, for this seat has no (*braidwork/basis.Basis).Copy: theorem copy_nil (H0
-- left out, for this seat has no (*braidwork/basis.Basis).Copy: theorem copy_ok (rows
end Go.Bw
namespace Go.Bw
set_option linter.unusedVariables false
set_option linter.unusedSimpArgs false
open Go.Proofs
set_option maxRecDepth 20000 in
set_option maxHeartbeats 2000000 in
theorem cloneRows_ok (v : Value) (n : Nat) (cs : List Value) (H0 : Hp) (w0 : World) (h0 : Sub H0 w0) (hv : Sl H0 2 v n cs) (h1 : cs.all (·.oneCell') = true) (hl : n ≤ 100000) :
    Calls Tryz.prog 124 #[v] w0 (Ret [] H0 w0 fun v H' M' => H' = H0 ∧ Own w0.heap.size 45 2 v n cs M') := by
  have hs := HS.init h0
  obtain ⟨base, cp, rfl⟩ := hv.form
  refine Calls.enter (args := [.slice base n cp]) Tryz.func124 rfl Tryz.ntmps124 rfl ?_
  refine WC.seq (WC.region (WO.step rfl (OR.assign rfl (WO.done (WX.seq (WC.seq (WC.seq ?_)))))))
  refine WC.region (WO.step rfl (OR.move rfl (WO.step rfl (OR.eqlNil T97.und rfl rfl (WO.done (WX.seq ?_))))))
  refine WC.cond rfl (fun hb => ?_) (fun hb => ?_)
  · refine WC.seq (WC.region (WO.step rfl (OR.assign rfl (WO.done (WX.seq (WC.ret (WX.seq_ret ?_)))))))
    refine WX.ret1 rfl rfl ?_
    have hb' : base = none := by cases base with | none => rfl | some a => cases hb
    subst hb'
    have h2 := Sl.src0 hv rfl
    subst h2
    refine ⟨_, H0, [], rfl, hs, by simp, rfl, ?_⟩
    have : cs = [] := List.eq_nil_of_length_eq_zero (by simpa using hv.1)
    subst this
    exact Own.nil _ _ _
  · refine WC.skip (WX.seq (WC.seq (WC.region ?_)))
    refine WO.step rfl (OR.buildSlice (vs := []) hs T97.und T45 rfl rfl rfl rfl (by simp) ?_)
    clear hs; intro g1 w hg1 hs
    refine WO.step rfl (OR.move rfl ?_)
    refine WO.step rfl (OR.append (n := 0) (cs := []) (news := cs) (Mo := [_]) (M := []) hs (Own.block (cap := 0) (by omega) rfl rfl hg1) T97.und T45 rfl (by omega) rfl rfl hv.1 (Sl.src hv hs) (Sl.src0 hv) h1 (by omega) (by omega) ?_)
    clear hs; intro v' w Mo hs ho hge
    refine WO.step rfl (OR.assign rfl (WO.done (WX.seq (WC.ret ?_))))
    refine WX.ret1 rfl rfl ?_
    rw [Nat.zero_add, List.nil_append] at ho
    refine ⟨_, H0, Mo, rfl, by simpa using hs, ?_, rfl, ho⟩
    rcases ho.2 with ⟨rfl, _⟩ | ⟨g, c, cap, rfl, _⟩ <;> simp

theorem take_ins (cs Z : List Value) (a b : Value) (n i : Nat) (hl : cs.length = n * 2) (hi : i < n) (hz : 2 ≤ Z.length + i * 2) (h9 : i * 2 + Z.length ≥ (n + 1) * 2) :
    (setL (setL (cs.take (i * 2) ++ Z) (i * 2) [a, b]) ((i + 1) * 2) (cs.drop (i * 2))).take ((n + 1) * 2) = cs.take (i * 2) ++ [a, b] ++ cs.drop (i * 2) := by
  have e1 : (cs.take (i * 2)).length = i * 2 := by rw [List.length_take]; omega
  have e2 : (cs.drop (i * 2)).length = (n - i) * 2 := by rw [List.length_drop, hl, ← Nat.sub_mul]
  rw [setL_at [a, b] _ _ (by simp [e1]; omega)]
  rw [show (cs.take (i * 2) ++ Z).take (i * 2) = cs.take (i * 2) by rw [List.take_left' e1]]
  rw [setL_at _ _ _ (by simp [e1, e2]; omega)]
  have e3 : (cs.take (i * 2) ++ [a, b]).length = (i + 1) * 2 := by simp [e1]; omega
  rw [List.take_left' e3]
  rw [List.take_left' (by simp only [List.length_append, e1, e2, List.length_cons, List.length_nil]; omega)]

theorem take_ins2 (cc : List Value) (a b : Value) (n i : Nat) (hl : (n + 1) * 2 ≤ cc.length) (hi : i < n) :
    (setL (setL cc ((i + 1) * 2) ((cc.take (n * 2)).drop (i * 2))) (i * 2) [a, b]).take ((n + 1) * 2) = (cc.take (n * 2)).take (i * 2) ++ [a, b] ++ (cc.take (n * 2)).drop (i * 2) := by
  have e2 : ((cc.take (n * 2)).drop (i * 2)).length = (n - i) * 2 := by rw [List.length_drop, List.length_take, Nat.min_eq_left (by omega), ← Nat.sub_mul]
  have e1 : (cc.take (i * 2)).length = i * 2 := by rw [List.length_take]; omega
  have e3 : (cc.take ((i + 1) * 2)).length = (i + 1) * 2 := by rw [List.length_take]; omega
  have A : (cc.take ((i + 1) * 2) ++ (cc.take (n * 2)).drop (i * 2) ++ cc.drop ((i + 1) * 2 + ((cc.take (n * 2)).drop (i * 2)).length)).take (i * 2) = (cc.take (n * 2)).take (i * 2) := by
    rw [List.append_assoc, List.take_append_of_le_length (by omega), List.take_take, List.take_take]
    congr 1; omega
  have B : (cc.take ((i + 1) * 2) ++ (cc.take (n * 2)).drop (i * 2) ++ cc.drop ((i + 1) * 2 + ((cc.take (n * 2)).drop (i * 2)).length)).drop (i * 2 + [a, b].length) = (cc.take (n * 2)).drop (i * 2) ++ cc.drop ((i + 1) * 2 + ((cc.take (n * 2)).drop (i * 2)).length) := by
    rw [List.append_assoc, List.drop_left' (by rw [e3]; simp; omega)]
  rw [setL_at _ cc _ (by rw [e2]; omega), setL_at [a, b] _ _ (by simp [e2, e3]; omega), A, B, ← List.append_assoc]
  have e1' : ((cc.take (n * 2)).take (i * 2)).length = i * 2 := by rw [List.length_take, List.length_take]; omega
  rw [List.take_left' (by simp only [List.length_append, e1', e2, List.length_cons, List.length_nil]; omega)]

set_option maxRecDepth 20000 in
set_option maxHeartbeats 2000000 in
theorem insRows_ok (N n i : Nat) (rv a b : Value) (cs : List Value) (Mo : Mem) (gv : Nat) (H0 : Hp) (w0 : World) (h0 : Sub H0 w0) (hi : i ≤ n) (ho : Own N 45 2 rv n cs Mo) (hN : N ≤ w0.heap.size)
    (hM : ∀ q ∈ Mo, w0.heap[q.1]? = some q.2.1 ∧ H0 q.1 = none) (hgv : w0.heap[gv]? = some (.cells #[a, b] 45)) (hgn : H0 gv = none) (hne : ∀ q ∈ Mo, gv ≠ q.1)
    (h1 : a.oneCell' = true) (h2 : b.oneCell' = true) (hcs : cs.all (·.oneCell') = true) (hn : n ≤ 255) :
    Calls Tryz.prog 126 #[rv, .int .i64 (i : Int), .slice (some ⟨gv, 0, none⟩) 1 1] w0
      (Ret (Mem.keys Mo) H0 w0 fun v H' M' => Own N 45 2 v (n + 1) (cs.take (i * 2) ++ [a, b] ++ cs.drop (i * 2)) M') := by
  have hnews : ∀ w : World, w.heap[gv]? = some (.cells #[a, b] 45) → ∀ ad, some (⟨gv, 0, none⟩ : Addr) = some ad → ∀ j u, [a, b][j]? = some u → w.cell? (ad.add j) = some u := fun w h => cells_of h
  have hab : [a, b].all (·.oneCell') = true := by simp [h1, h2]
  rcases Nat.lt_or_ge i n with hlt | hge
  · obtain ⟨hcl, ⟨rfl, ⟨b9, rfl⟩, rfl⟩ | ⟨g, c, cap, rfl, rfl, hnc, hc, hx, hg⟩⟩ := ho
    · omega
    have hgb := (hM _ (List.mem_singleton_self _)).1
    have hgn' := (hM _ (List.mem_singleton_self _)).2
    have hgg := hne _ (List.mem_singleton_self _)
    simp only at hgb hgn' hgg
    have hs : HS [g] H0 w0 H0 [(g, .cells c 45, true), (gv, .cells #[a, b] 45, false)] w0 :=
      HS.start2 h0 hgb hgn' hgv hgn hgg rfl
    refine Calls.enter (args := [.slice (some ⟨g, 0, none⟩) n cap, .int .i64 (i : Int), .slice (some ⟨gv, 0, none⟩) 1 1]) Tryz.func126 rfl Tryz.ntmps126 rfl ?_
    refine WC.seq (WC.region (WO.step rfl (OR.assign rfl (WO.done (WX.seq (WC.seq (WC.region ?_)))))))
    refine WO.step rfl (OR.move rfl (WO.step rfl (OR.move rfl ?_)))
    refine WO.step rfl (OR.sliceLoG i T97.und T45 rfl rfl rfl hi ?_)
    refine WO.done (WX.seq (WC.seq (WC.region (WO.step rfl (OR.move rfl (WO.step rfl (OR.lenSlice T97.und rfl ?_)))))))
    refine WO.step rfl (OR.assign rfl (WO.done (WX.seq (WC.seq (WC.seq (WC.region (WO.step rfl ?_)))))))
    refine OR.move rfl (WO.step rfl (OR.eql rfl rfl (WO.done (WX.seq ?_))))
    refine WC.no rfl (decide_eq_false (by omega)) ?_
    refine WC.skip (WX.seq (WC.seq (WC.region (WO.step rfl (OR.move rfl (WO.step rfl (OR.lenSlice T97.und rfl ?_)))))))
    refine WO.step rfl (OR.assign rfl (WO.done (WX.seq (WC.seq (WC.seq (WC.region (WO.step rfl ?_)))))))
    refine OR.move rfl (WO.step rfl (OR.move rfl (WO.step rfl (OR.eql rfl rfl (WO.done (WX.seq ?_))))))
    refine WC.no rfl (decide_eq_false (by omega)) ?_
    refine WC.skip (WX.seq (WC.seq (WC.seq (WC.region (WO.step rfl (OR.move rfl (WO.step rfl ?_)))))))
    refine OR.move rfl (WO.step rfl (OR.addI rfl rfl (by omega) (by omega) (WO.step rfl (OR.move rfl (WO.step rfl (OR.capSlice T97.und rfl (WO.step rfl ?_)))))))
    refine OR.gtr rfl rfl (WO.done (WX.seq ?_))
    refine WC.condD rfl (fun hroom => ?_) (fun hroom => ?_)
    · refine WC.seq (WC.region (WO.step rfl (OR.move rfl (WO.step rfl (OR.move rfl ?_)))))
      refine WO.step rfl (OR.sliceHi i T97.und T45 rfl rfl rfl (by omega) ?_)
      refine WO.step rfl (OR.move rfl (WO.step rfl (OR.move rfl (WO.step rfl (OR.addI rfl rfl (by omega) (by omega) (WO.step rfl (OR.move rfl ?_)))))))
      refine WO.step rfl (OR.subI rfl rfl (by omega) (by omega) ?_)
      refine WO.step rfl (OR.appendZeros (l := i) (m := n + 1 - i) (cs := cs.take (i * 2)) hN hs T97.und T45 rfl (by omega) T3.und rfl rfl (by omega) (by rw [List.length_take]; omega) (fun ad hb j u hj => by subst hx; exact cells_of hgb ad hb j u (get_take (get_take hj))) (by simp) (by omega) (by omega) (by omega) (by omega) ?_)
      clear hs; intro g2 w c2 Z hg2 hc2 hZ hs
      have hZ' : Z.length + i * 2 = c2 * 2 := by rw [hZ, ← Nat.add_mul]; congr 1; omega
      have e1 : (cs.take (i * 2)).length = i * 2 := by rw [List.length_take]; omega
      have hgw := hs.blk (i := 2) rfl
      refine WO.step rfl (OR.assign rfl (WO.done (WX.seq (WC.seq (WC.region (WO.step rfl (OR.move rfl ?_)))))))
      refine WO.step rfl (OR.move rfl ?_)
      refine WO.step rfl (OR.sliceLo i T97.und T45 rfl rfl rfl (by omega) (by omega) ?_)
      refine WO.step rfl (OR.move rfl ?_)
      refine WO.step rfl (OR.copy hs [a, b] T97.und T45 rfl rfl (by rw [natmin (c := 1) (by omega)]; rfl) (hnews _ hgw _ rfl) (by simp only [List.size_toArray, List.length_append, e1, List.length_cons, List.length_nil]; omega) hab ?_)
      clear hs; intro w hs
      have hgw := hs.blk (i := 1) rfl
      refine WO.done (WX.seq (WC.seq ?_))
      refine WC.draw 8 mixed hs (by kernel_rfl) ?_
      refine ⟨MF.eq _, by intro Mx H w hle hs; refine forVals_nil (ORg.plain (OR.move rfl ?_)); exact ⟨_, [], Hp.le.refl _, hs, rfl, rfl⟩, ?_⟩
      refine ⟨MF.eq _, by intro Mx H w hle hs; refine forVals_nil (ORg.plain (OR.move rfl ?_)); exact ⟨_, [], Hp.le.refl _, hs, rfl, rfl⟩, ?_⟩
      refine ⟨MF.eq _, by intro Mx H w hle hs; refine forVals_nil (ORg.plain (OR.move rfl ?_)); exact ⟨_, [], Hp.le.refl _, hs, rfl, rfl⟩, ?_⟩
      refine ⟨MF.eq _, by intro Mx H w hle hs; refine forVals_eq rfl rfl rfl ?_; refine forVals_eq rfl rfl rfl ?_; refine forVals_nil (ORg.plain (OR.addI rfl rfl (by omega) (by omega) ?_)); exact ⟨_, [], Hp.le.refl _, hs, rfl, rfl⟩, ?_⟩
      refine ⟨MF.eq (.slice (some ⟨g2, 0 + (i + 1) * 2, none⟩) (i + (n + 1 - i) - (i + 1)) (c2 - (i + 1))), ?_, ?_⟩
      · intro Mx H w hle2 hs; (try replace hle := hle.trans hle2); (try replace hlb := hlb.trans hle2); refine forVals_eq rfl rfl rfl ?_; refine forVals_eq rfl rfl rfl ?_
        refine forVals_nil (ORg.plain (OR.sliceLo (i + 1) T97.und T45 rfl rfl (by omega) (by omega) (by omega) ?_))
        exact ⟨_, [], Hp.le.refl _, hs, rfl, rfl⟩
      refine ⟨MF.eq _, by intro Mx H w hle hs; refine forVals_nil (ORg.plain (OR.move rfl ?_)); exact ⟨_, [], Hp.le.refl _, hs, rfl, rfl⟩, ?_⟩
      refine ⟨MF.eq _, by intro Mx H w hle hs; refine forVals_nil (ORg.plain (OR.move rfl ?_)); exact ⟨_, [], Hp.le.refl _, hs, rfl, rfl⟩, ?_⟩
      refine ⟨MF.eq (.slice (some ⟨g, 0 + i * 2, none⟩) (n - i) (cap - i)), ?_, ?_⟩
      · intro Mx H w hle2 hs; (try replace hle := hle.trans hle2); (try replace hlb := hlb.trans hle2); refine forVals_eq rfl rfl rfl ?_; refine forVals_eq rfl rfl rfl ?_
        refine forVals_nil (ORg.plain (OR.sliceLo i T97.und T45 rfl rfl rfl (by omega) (by omega) ?_))
        exact ⟨_, [], Hp.le.refl _, hs, rfl, rfl⟩
      intro H w hle2; (try replace hle := hle.trans hle2); (try replace hlb := hlb.trans hle2)
      refine forAllVals_eq rfl ?_
      refine forAllVals_eq rfl ?_
      refine forAllVals_eq rfl ?_
      refine forAllVals_eq rfl ?_
      refine forAllVals_eq rfl ?_
      refine forAllVals_eq rfl ?_
      refine forAllVals_eq rfl ?_
      refine forAllVals_eq rfl ?_
      refine forAllVals_nil ?_; (try clear hs); intro hs
      have hgw := hs.blk (i := 1) rfl
      refine WO.step rfl (OR.copy hs (cs.drop (i * 2)) T97.und T45 rfl rfl (by rw [List.length_drop, natmin (a := n - i) (b := i + (n + 1 - i) - (i + 1)) (c := n - i) (by omega), Nat.sub_mul]; omega) (fun j u hj => by subst hx; rw [Nat.zero_add]; exact cells_at hgw (get_take (get_drop hj))) (by simp only [List.size_toArray, setL_length, List.length_append, e1, List.length_drop]; omega) (List.all_eq_true.2 fun v hv => List.all_eq_true.1 hcs v (List.mem_of_mem_drop hv)) ?_)
      clear hs; intro w hs
      refine WO.done (WX.seq (WC.seq (WC.region (WO.step rfl (OR.move rfl (WO.step rfl (OR.assign rfl ?_)))))))
      refine WO.done (WX.seq (WC.ret (WX.seq_ret ?_)))
      refine WX.ret1 rfl rfl ?_
      have e9 : i + (n + 1 - i) = n + 1 := by omega
      rw [e9]
      refine ⟨_, H, [_], rfl, (hs.drop 2).drop 1, by simp, Own.block (by omega) (by simp [setL_length, e1]; omega) ?_ hg2⟩
      simp only [Nat.zero_add]
      exact take_ins cs Z a b n i hcl hlt (by omega) (by omega)
    · refine WC.skip (WX.seq (WC.seq (WC.region (WO.step rfl (OR.move rfl (WO.step rfl (OR.move rfl ?_)))))))
      refine WO.step rfl (OR.move rfl (WO.step rfl (OR.addI rfl rfl (by omega) (by omega) ?_)))
      refine WO.step rfl (OR.sliceHi (n + 1) T97.und T45 rfl rfl rfl (by omega) ?_)
      refine WO.step rfl (OR.assign rfl (WO.done (WX.seq (WC.seq (WC.seq (WC.region (WO.step rfl ?_)))))))
      refine OR.move rfl (WO.step rfl (OR.move rfl (WO.step rfl (OR.move rfl (WO.step rfl (OR.move rfl (WO.step rfl ?_)))))))
      refine OR.addI rfl rfl (by omega) (by omega) ?_
      refine WO.step rfl (OR.sliceLo (i + 1) T97.und T45 rfl rfl rfl (by omega) (by omega) ?_)
      refine WO.step rfl (OR.callAt rfl rfl (apart_run (P := Tryz.prog) Tryz.func167 rfl rfl rfl rfl T97.und T45 hgv hgb hgg (by omega)) ?_)
      refine WO.step rfl (OR.not rfl (WO.done (WX.seq ?_)))
      refine WC.yes rfl rfl ?_
      have hdl : ((c.toList.take (n * 2)).drop (i * 2)).length = (n - i) * 2 := by rw [List.length_drop, List.length_take, Array.length_toList, Nat.min_eq_left (by omega), ← Nat.sub_mul]
      refine WC.seq ?_
      refine WC.draw 8 mixed hs (by kernel_rfl) ?_
      refine ⟨MF.eq _, by intro Mx H w hle hs; refine forVals_nil (ORg.plain (OR.move rfl ?_)); exact ⟨_, [], Hp.le.refl _, hs, rfl, rfl⟩, ?_⟩
      refine ⟨MF.eq _, by intro Mx H w hle hs; refine forVals_nil (ORg.plain (OR.move rfl ?_)); exact ⟨_, [], Hp.le.refl _, hs, rfl, rfl⟩, ?_⟩
      refine ⟨MF.eq _, by intro Mx H w hle hs; refine forVals_nil (ORg.plain (OR.move rfl ?_)); exact ⟨_, [], Hp.le.refl _, hs, rfl, rfl⟩, ?_⟩
      refine ⟨MF.eq _, by intro Mx H w hle hs; refine forVals_eq rfl rfl rfl ?_; refine forVals_eq rfl rfl rfl ?_; refine forVals_nil (ORg.plain (OR.addI rfl rfl (by omega) (by omega) ?_)); exact ⟨_, [], Hp.le.refl _, hs, rfl, rfl⟩, ?_⟩
      refine ⟨MF.eq (.slice (some ⟨g, 0 + (i + 1) * 2, none⟩) (n + 1 - (i + 1)) (cap - (i + 1))), ?_, ?_⟩
      · intro Mx H w hle2 hs; (try replace hle := hle.trans hle2); (try replace hlb := hlb.trans hle2); refine forVals_eq rfl rfl rfl ?_; refine forVals_eq rfl rfl rfl ?_
        refine forVals_nil (ORg.plain (OR.sliceLo (i + 1) T97.und T45 rfl rfl (by omega) (by omega) (by omega) ?_))
        exact ⟨_, [], Hp.le.refl _, hs, rfl, rfl⟩
      refine ⟨MF.eq _, by intro Mx H w hle hs; refine forVals_nil (ORg.plain (OR.move rfl ?_)); exact ⟨_, [], Hp.le.refl _, hs, rfl, rfl⟩, ?_⟩
      refine ⟨MF.eq _, by intro Mx H w hle hs; refine forVals_nil (ORg.plain (OR.move rfl ?_)); exact ⟨_, [], Hp.le.refl _, hs, rfl, rfl⟩, ?_⟩
      refine ⟨MF.eq (.slice (some ⟨g, 0 + i * 2, none⟩) (n + 1 - i) (cap - i)), ?_, ?_⟩
      · intro Mx H w hle2 hs; (try replace hle := hle.trans hle2); (try replace hlb := hlb.trans hle2); refine forVals_eq rfl rfl rfl ?_; refine forVals_eq rfl rfl rfl ?_
        refine forVals_nil (ORg.plain (OR.sliceLo i T97.und T45 rfl rfl rfl (by omega) (by omega) ?_))
        exact ⟨_, [], Hp.le.refl _, hs, rfl, rfl⟩
      intro H w hle2; (try replace hle := hle.trans hle2); (try replace hlb := hlb.trans hle2)
      refine forAllVals_eq rfl ?_
      refine forAllVals_eq rfl ?_
      refine forAllVals_eq rfl ?_
      refine forAllVals_eq rfl ?_
      refine forAllVals_eq rfl ?_
      refine forAllVals_eq rfl ?_
      refine forAllVals_eq rfl ?_
      refine forAllVals_eq rfl ?_
      refine forAllVals_nil ?_; (try clear hs); intro hs
      have hgw := hs.blk (i := 0) rfl
      refine WO.step rfl (OR.copy hs ((c.toList.take (n * 2)).drop (i * 2)) T97.und T45 rfl rfl (by rw [hdl, natmin (a := n + 1 - i) (b := n + 1 - (i + 1)) (c := n - i) (by omega)]) (fun j u hj => by rw [Nat.zero_add]; exact cells_at hgw (get_take (get_drop hj))) (by rw [hdl]; omega) (by rw [hx]; exact List.all_eq_true.2 fun v hv => List.all_eq_true.1 hcs v (List.mem_of_mem_drop hv)) ?_)
      clear hs; intro w hs
      have hgw := hs.blk (i := 1) rfl
      refine WO.done (WX.seq (WC.seq (WC.region (WO.step rfl (OR.move rfl (WO.step rfl (OR.move rfl ?_)))))))
      refine WO.step rfl (OR.sliceLo i T97.und T45 rfl rfl rfl (by omega) (by omega) ?_)
      refine WO.step rfl (OR.move rfl ?_)
      refine WO.step rfl (OR.copy hs [a, b] T97.und T45 rfl rfl (by rw [natmin (c := 1) (by omega)]; rfl) (hnews _ hgw _ rfl) (by simp only [List.size_toArray, setL_length, Array.length_toList, List.length_cons, List.length_nil]; omega) hab ?_)
      clear hs; intro w hs
      refine WO.done (WX.seq (WC.seq (WC.region (WO.step rfl (OR.move rfl (WO.step rfl (OR.assign rfl ?_)))))))
      refine WO.done (WX.seq (WC.ret (WX.seq_ret ?_)))
      refine WX.ret1 rfl rfl ?_
      refine ⟨_, H, [_], rfl, hs.drop 1, by simp, Own.block (by omega) (by simp [setL_length, hc]) ?_ hg⟩
      simp only [Nat.zero_add]
      subst hx
      exact take_ins2 c.toList a b n i (by rw [Array.length_toList]; omega) hlt
  · have : i = n := by omega
    subst this
    have hM' : ∀ q ∈ Mo, q.2.2 = true := ho.tt
    have hs : HS (Mem.keys Mo) H0 w0 H0 (Mo ++ [(gv, .cells #[a, b] 45, false)]) w0 := by
      refine HS.start _ h0 (fun q o t hm => ?_) ?_
      · rcases List.mem_append.1 hm with hm | hm
        · exact ⟨(hM _ hm).1, (hM _ hm).2, fun _ => List.mem_map.2 ⟨_, hm, rfl⟩⟩
        · have := List.mem_singleton.1 hm; cases this; exact ⟨hgv, hgn, fun h => by cases h⟩
      · rcases ho.2 with ⟨rfl, _⟩ | ⟨g, c, cap, rfl, _⟩
        · simp [Mem.keys]
        · have := hne _ (List.mem_singleton_self _); simp [Mem.keys]; exact Ne.symm this
    obtain ⟨br, cr, rfl⟩ := ho.form
    refine Calls.enter (args := [.slice br i cr, .int .i64 (i : Int), .slice (some ⟨gv, 0, none⟩) 1 1]) Tryz.func126 rfl Tryz.ntmps126 rfl ?_
    refine WC.seq (WC.region (WO.step rfl (OR.assign rfl (WO.done (WX.seq (WC.seq (WC.region ?_)))))))
    refine WO.step rfl (OR.move rfl (WO.step rfl (OR.move rfl ?_)))
    refine WO.step rfl (OR.sliceLoG i T97.und T45 rfl rfl rfl (Nat.le_refl _) ?_)
    refine WO.done (WX.seq (WC.seq (WC.region (WO.step rfl (OR.move rfl (WO.step rfl (OR.lenSlice T97.und rfl ?_)))))))
    refine WO.step rfl (OR.assign rfl (WO.done (WX.seq (WC.seq (WC.seq (WC.region (WO.step rfl ?_)))))))
    refine OR.move rfl (WO.step rfl (OR.eql rfl rfl (WO.done (WX.seq ?_))))
    refine WC.no rfl (decide_eq_false (by omega)) ?_
    refine WC.skip (WX.seq (WC.seq (WC.region (WO.step rfl (OR.move rfl (WO.step rfl (OR.lenSlice T97.und rfl ?_)))))))
    refine WO.step rfl (OR.assign rfl (WO.done (WX.seq (WC.seq (WC.seq (WC.region (WO.step rfl ?_)))))))
    refine OR.move rfl (WO.step rfl (OR.move rfl (WO.step rfl (OR.eql rfl rfl (WO.done (WX.seq ?_))))))
    refine WC.yes rfl (decide_eq_true rfl) ?_
    refine WC.seq (WC.region (WO.step rfl (OR.move rfl (WO.step rfl (OR.move rfl ?_)))))
    refine WO.step rfl (OR.appendN (m := 1) (news := [a, b]) hN hs ho T97.und T45 rfl (by omega) rfl rfl rfl (hnews _ hgv) (fun h => by cases h) hab (by omega) (by omega) ?_)
    have ho0 := ho
    clear hs ho; intro vo' w Mo' hs ho hge
    replace hs := hs.dropMid
    refine WO.step rfl (OR.assign rfl (WO.done (WX.seq (WC.ret (WX.seq_ret ?_)))))
    refine WX.ret1 rfl rfl ?_
    refine ⟨_, H0, Mo', rfl, by simpa using hs, ho.tt, ?_⟩
    have e1 : i * 2 = cs.length := ho0.1.symm
    rw [e1, List.take_length, List.drop_length, List.append_nil]
    exact ho

end Go.Bw
namespace Go.Bw
set_option linter.unusedVariables false
set_option linter.unusedSimpArgs false
open Go.Proofs
/-- A row made 1 at its lead. -/
def normR (q : RowD) : RowD :=
  (q.1.map (fun x => mul x (pw ((255 - lg (q.1.getD (lead q.1).toNat 0)) % 255))), q.2.map (fun x => mul x (pw ((255 - lg (q.1.getD (lead q.1).toNat 0)) % 255))))
/-- One put into a list. -/
def insAt {α : Type} (l : List α) (i : Nat) (x : α) : List α := l.take i ++ [x] ++ l.drop i
/-- A row of the basis, freed of the new one's lead. -/
def freeR (q : RowD) (x : RowD) : RowD := plusR x (normR q) (x.1.getD (lead q.1).toNat 0)
/-- What Insert does. -/
def insR (g s : Nat) (rows : List RowD) (r : RowD) : Bool × List RowD :=
  if r.1.length = g ∧ r.2.length = s then
    if lead (redR rows r).1 < 0 then (false, rows)
    else (true, insAt (rows.map (freeR (redR rows r))) (placeOf rows (lead (redR rows r).1)) (normR (redR rows r)))
  else (false, rows)

theorem rowCells_take : ∀ (cs : List (Value × Value)) (i : Nat), (rowCells cs).take (i * 2) = rowCells (cs.take i)
  | [], i => by simp [rowCells]
  | (c, p) :: l, 0 => by simp [rowCells]
  | (c, p) :: l, i + 1 => by rw [show (i + 1) * 2 = i * 2 + 1 + 1 by omega]; simp [rowCells, rowCells_take l i]
theorem rowCells_drop : ∀ (cs : List (Value × Value)) (i : Nat), (rowCells cs).drop (i * 2) = rowCells (cs.drop i)
  | [], i => by simp [rowCells]
  | (c, p) :: l, 0 => by simp [rowCells]
  | (c, p) :: l, i + 1 => by rw [show (i + 1) * 2 = i * 2 + 1 + 1 by omega]; simp [rowCells, rowCells_drop l i]
theorem rowCells_set : ∀ (cs : List (Value × Value)) (i : Nat) (a b : Value), setL (rowCells cs) (i * 2) [a, b] = rowCells (cs.set i (a, b))
  | [], i, a, b => by cases i <;> simp [rowCells, setL]
  | (c, p) :: l, 0, a, b => by simp [rowCells, setL, setL_nil]
  | (c, p) :: l, i + 1, a, b => by
    rw [show (i + 1) * 2 = i * 2 + 1 + 1 by omega, List.set_cons_succ]
    show c :: p :: setL (rowCells l) (i * 2) [a, b] = c :: p :: rowCells (l.set i (a, b))
    rw [rowCells_set l i a b]
theorem take_setL (c : List Value) (k m : Nat) (vs : List Value) (h : k + vs.length ≤ m) (hm : m ≤ c.length) : (setL c k vs).take m = setL (c.take m) k vs := by
  rw [setL_at _ _ _ (by omega), setL_at _ _ _ (by rw [List.length_take]; omega)]
  rw [List.take_take, Nat.min_eq_left (by omega)]
  have e1 : (c.take k ++ vs).length = k + vs.length := by rw [List.length_append, List.length_take]; omega
  rw [List.take_append, List.take_of_length_le (by omega : (c.take k ++ vs).length ≤ m), e1, List.drop_take]
theorem RowsOk.set {H : Hp} {cs : List (Value × Value)} {rs : List RowD} (h : RowsOk H cs rs) (k : Nat) {c p : Value} {r : RowD} (hc : Bytes H c r.1) (hp : Bytes H p r.2) : RowsOk H (cs.set k (c, p)) (rs.set k r) := by
  refine ⟨by simp [h.1], fun i a b => ?_⟩
  simp only [List.getElem_set]
  split
  · exact ⟨hc, hp⟩
  · exact h.2 i (by simpa using a) (by simpa using b)
theorem RowsOk.ins {H : Hp} {cs : List (Value × Value)} {rs : List RowD} (h : RowsOk H cs rs) (k : Nat) (hk : k ≤ rs.length) {c p : Value} {r : RowD} (hc : Bytes H c r.1) (hp : Bytes H p r.2) : RowsOk H (insAt cs k (c, p)) (insAt rs k r) := by
  have hl := h.1
  have e1 : (cs.take k ++ [(c, p)]).length = k + 1 := by simp; omega
  have e2 : (rs.take k ++ [r]).length = k + 1 := by simp; omega
  refine ⟨by simp [insAt]; omega, fun i a b => ?_⟩
  unfold insAt at a b ⊢
  simp only [List.getElem_append, e1, e2, List.length_take, Nat.min_eq_left hk, Nat.min_eq_left (hl ▸ hk : k ≤ cs.length), List.getElem_take, List.getElem_drop]
  by_cases h1 : i < k + 1
  · simp only [h1, dif_pos]
    by_cases h2 : i < k
    · simp only [h2, dif_pos]
      exact h.2 i _ _
    · simp only [h2, dif_neg, not_false_iff]
      have : i - k = 0 := by omega
      simp only [this, List.getElem_cons_zero]
      exact ⟨hc, hp⟩
  · simp only [h1, dif_neg, not_false_iff]
    exact h.2 _ _ _
theorem rows_one {H : Hp} {cs : List (Value × Value)} {rs : List RowD} (h : RowsOk H cs rs) : (rowCells cs).all (·.oneCell') = true := by
  rw [List.all_eq_true]
  intro v hv
  obtain ⟨i, hi, e⟩ := List.mem_iff_getElem.1 hv
  rw [rowCells_length] at hi
  have h1 := rowCells_get cs (i / 2) (by omega)
  have hok := h.2 (i / 2) (by have := h.1; omega) (by omega)
  obtain ⟨_, _, e1⟩ := hok.1.form
  obtain ⟨_, _, e2⟩ := hok.2.form
  have h4 : (rowCells cs)[i]? = some v := by rw [List.getElem?_eq_getElem (by rw [rowCells_length]; omega), e]
  rcases Nat.mod_two_eq_zero_or_one i with h2 | h2
  · have h3 := h1.1
    rw [show i / 2 * 2 = i by omega, h4] at h3
    rw [Option.some.inj h3, e1]; rfl
  · have h3 := h1.2
    rw [show i / 2 * 2 + 1 = i by omega, h4] at h3
    rw [Option.some.inj h3, e2]; rfl
theorem two_cells {w : World} {g o : Nat} {c : Array Value} {e : TypeId} {fr : Nat × Nat} {x y : Value} (hb : w.heap[g]? = some (.cells c e fr)) (h0 : c.toList[o]? = some x) (h1 : c.toList[o + 1]? = some y) :
    ∀ j u, [x, y][j]? = some u → w.cell? ((⟨g, o, none⟩ : Addr).add j) = some u := by
  intro j u hj
  match j, hj with
  | 0, hj => simp at hj; subst hj; exact cells_at hb h0
  | 1, hj => simp at hj; subst hj; exact cells_at hb h1
/-- The first k freed. -/
def updR (f : RowD → RowD) (rows : List RowD) (k : Nat) : List RowD := (rows.take k).map f ++ rows.drop k
theorem updR_len (f : RowD → RowD) (rows : List RowD) (k : Nat) : (updR f rows k).length = rows.length := by simp [updR]; omega
theorem updR_step (f : RowD → RowD) (rows : List RowD) (k : Nat) (h : k < rows.length) : (updR f rows k).set k (f rows[k]) = updR f rows (k + 1) := by
  unfold updR
  rw [List.take_succ_eq_append_getElem h, List.map_append, List.set_append_right _ _ (by simp; omega)]
  have : k - ((rows.take k).map f).length = 0 := by simp; omega
  rw [this, List.drop_eq_getElem_cons h, List.set_cons_zero, List.append_assoc]
  rfl
theorem updR_at (f : RowD → RowD) (rows : List RowD) (k : Nat) (h : k < rows.length) (h' : k < (updR f rows k).length) : (updR f rows k)[k] = rows[k] := by
  have : (updR f rows k)[k]? = some rows[k] := by
    unfold updR
    rw [List.getElem?_append_right (by simp; omega)]
    have e : k - ((rows.take k).map f).length = 0 := by simp; omega
    rw [e, List.drop_eq_getElem_cons h]
    rfl
  rw [List.getElem?_eq_getElem h'] at this
  exact Option.some.inj this

theorem lead_some {l : List UInt8} {i : Nat} (h : lead l = (i : Int)) : ∃ h : i < l.length, l[i] ≠ 0 ∧ ∀ j (hj : j < i), l[j]'(by omega) = 0 := by
  unfold lead idxFrom at h
  rw [List.drop_zero] at h
  cases hf : l.findIdx? (fun x => decide (x ≠ 0)) with
  | none => rw [hf] at h; simp only at h; omega
  | some k =>
    rw [hf] at h
    simp only at h
    have : k = i := by omega
    subst this
    obtain ⟨h1, h2, h3⟩ := List.findIdx?_eq_some_iff_getElem.1 hf
    exact ⟨h1, by simpa using h2, fun j hj => by simpa using h3 j hj⟩

set_option maxRecDepth 20000 in
set_option maxHeartbeats 2000000 in
theorem insert_ok (rows : List RowD) (r : RowD) (rv rc rp : Value) (b g s : Nat) (H0 : Hp) (w0 : World) (h0 : Sub H0 w0) (hb : w0.heap[b]? = some (basisObj g s rv)) (hn : H0 b = none) (hv : Rws H0 rv rows)
    (hrc : Bytes H0 rc r.1) (hrp : Bytes H0 rp r.2) (hrs : ∀ x ∈ rows, RowGS g s x ∧ 0 ≤ lead x.1) (hg0 : 0 < g) (hg : g ≤ 255) (hsm : s ≤ 65535) (hlen : rows.length ≤ 255) :
    Calls Tryz.prog 72 #[ptr b, .agg #[rc, rp]] w0 (Ret [b] H0 w0 fun v H' M' => ∃ rv', M' = [(b, basisObj g s rv', true)] ∧ Rws H' rv' (insR g s rows r).2 ∧
      v = .tuple #[.bool (insR g s rows r).1, .int .i64 (if r.1.length = g ∧ r.2.length = s then 0 else 21)]) := by
  have hs := HS.start1 h0 hb hn
  have hle := Hp.le.refl H0
  have hv0 := hv
  obtain ⟨br, cr, rfl⟩ := hv.form
  obtain ⟨b1, c1, rfl⟩ := hrc.form
  obtain ⟨b2, c2, rfl⟩ := hrp.form
  refine Calls.enter (args := [ptr b, .agg #[.slice b1 r.1.length c1, .slice b2 r.2.length c2]]) Tryz.func72 rfl Tryz.ntmps72 rfl ?_
  refine WC.seq (WC.region (WO.step rfl (OR.box hs rfl ?_)))
  clear hs; intro g1 w hg1 hs
  refine WO.step rfl (OR.assign rfl (WO.step rfl (OR.assign rfl (WO.done (WX.seq (WC.seq (WC.block ?_)))))))
  refine WC.seq (WC.region (WO.step rfl (OR.move rfl ?_)))
  have hbw := hs.blk (i := 1) rfl
  refine WO.step rfl (OR.call hs body119 rfl rfl (made_yes b g s _ _ _ hs.toSub hbw hn hg0) ?_)
  clear hs; rintro _ H w hs hle1 rfl; replace hle := hle.trans hle1; (try replace hlb := hlb.trans hle1)
  refine WO.step rfl (OR.not rfl (WO.step rfl (OR.assign rfl (WO.done (WX.seq ?_)))))
  refine WC.no rfl rfl ?_
  by_cases hdim : r.1.length = g ∧ r.2.length = s
  · have hone : insR g s rows r = if lead (redR rows r).1 < 0 then (false, rows) else (true, insAt (rows.map (freeR (redR rows r))) (placeOf rows (lead (redR rows r).1)) (normR (redR rows r))) := by rw [insR, if_pos hdim]
    rw [hone]
    simp only [if_pos hdim]
    refine WC.seq ?_
    refine WC.draw 19 mixed hs (by kernel_rfl) ?_
    refine ⟨MF.eq _, by intro Mx H w hle hs; refine forVals_nil (ORg.plain (OR.fieldAddr FA45_0 rfl ?_)); exact ⟨_, [], Hp.le.refl _, hs, rfl, rfl⟩, ?_⟩
    refine ⟨MF.eq _, by intro Mx H w hle hs; refine forVals_eq rfl rfl rfl ?_; refine forVals_nil (ORg.plain (OR.load T43 rfl rfl (hs.right.cellM (i := 0) rfl rfl) ?_)); exact ⟨_, [], Hp.le.refl _, hs, rfl, rfl⟩, ?_⟩
    refine ⟨MF.eq _, by intro Mx H w hle hs; refine forVals_eq rfl rfl rfl ?_; refine forVals_nil (ORg.plain (OR.lenSlice T43.und rfl ?_)); exact ⟨_, [], Hp.le.refl _, hs, rfl, rfl⟩, ?_⟩
    refine ⟨MF.eq _, by intro Mx H w hle hs; refine forVals_nil (ORg.plain (OR.move rfl ?_)); exact ⟨_, [], Hp.le.refl _, hs, rfl, rfl⟩, ?_⟩
    refine ⟨MF.eq _, by intro Mx H w hle hs; refine forVals_eq rfl rfl rfl ?_; refine forVals_nil (ORg.plain (OR.nilCheck rfl ?_)); exact ⟨_, [], Hp.le.refl _, hs, rfl, rfl⟩, ?_⟩
    refine ⟨MF.eq _, by intro Mx H w hle hs; refine forVals_eq rfl rfl rfl ?_; refine forVals_nil (ORg.plain (OR.fieldAddr FA194_0 rfl ?_)); exact ⟨_, [], Hp.le.refl _, hs, rfl, rfl⟩, ?_⟩
    refine ⟨MF.eq _, by intro Mx H w hle hs; refine forVals_eq rfl rfl rfl ?_; refine forVals_nil (ORg.plain (OR.load T3 rfl rfl (hs.right.cellM (i := 1) rfl rfl) ?_)); exact ⟨_, [], Hp.le.refl _, hs, rfl, rfl⟩, ?_⟩
    refine ⟨MF.eq _, by intro Mx H w hle hs; refine forVals_eq rfl rfl rfl ?_; refine forVals_eq rfl rfl rfl ?_; refine forVals_nil (ORg.plain (OR.neq rfl rfl ?_)); exact ⟨_, [], Hp.le.refl _, hs, rfl, rfl⟩, ?_⟩
    refine ⟨MF.eq _, by intro Mx H w hle hs; refine forVals_eq rfl rfl rfl ?_; refine forVals_nil (ORg.plain (OR.move rfl ?_)); exact ⟨_, [], Hp.le.refl _, hs, rfl, rfl⟩, ?_⟩
    refine ⟨MF.eq _, by intro Mx H w hle hs; refine forVals_eq rfl rfl rfl ?_; refine forVals_nil (ORg.yes rfl (decide_eq_false (by omega : ¬ ((r.1.length : Int) ≠ (g : Int)))) rfl (OR.fieldAddr FA45_1 rfl ?_)); exact ⟨_, [], Hp.le.refl _, hs, rfl, rfl⟩, ?_⟩
    refine ⟨MF.eq _, by intro Mx H w hle hs; refine forVals_eq rfl rfl rfl ?_; refine forVals_eq rfl rfl rfl ?_; refine forVals_nil (ORg.yes rfl (decide_eq_false (by omega : ¬ ((r.1.length : Int) ≠ (g : Int)))) rfl (OR.load T43 rfl rfl (hs.right.cellM (i := 0) rfl rfl) ?_)); exact ⟨_, [], Hp.le.refl _, hs, rfl, rfl⟩, ?_⟩
    refine ⟨MF.eq _, by intro Mx H w hle hs; refine forVals_eq rfl rfl rfl ?_; refine forVals_eq rfl rfl rfl ?_; refine forVals_nil (ORg.yes rfl (decide_eq_false (by omega : ¬ ((r.1.length : Int) ≠ (g : Int)))) rfl (OR.lenSlice T43.und rfl ?_)); exact ⟨_, [], Hp.le.refl _, hs, rfl, rfl⟩, ?_⟩
    refine ⟨MF.eq _, by intro Mx H w hle hs; refine forVals_eq rfl rfl rfl ?_; refine forVals_nil (ORg.yes rfl (decide_eq_false (by omega : ¬ ((r.1.length : Int) ≠ (g : Int)))) rfl (OR.move rfl ?_)); exact ⟨_, [], Hp.le.refl _, hs, rfl, rfl⟩, ?_⟩
    refine ⟨MF.eq _, by intro Mx H w hle hs; refine forVals_eq rfl rfl rfl ?_; refine forVals_eq rfl rfl rfl ?_; refine forVals_nil (ORg.yes rfl (decide_eq_false (by omega : ¬ ((r.1.length : Int) ≠ (g : Int)))) rfl (OR.nilCheck rfl ?_)); exact ⟨_, [], Hp.le.refl _, hs, rfl, rfl⟩, ?_⟩
    refine ⟨MF.eq _, by intro Mx H w hle hs; refine forVals_eq rfl rfl rfl ?_; refine forVals_eq rfl rfl rfl ?_; refine forVals_nil (ORg.yes rfl (decide_eq_false (by omega : ¬ ((r.1.length : Int) ≠ (g : Int)))) rfl (OR.fieldAddr FA194_1 rfl ?_)); exact ⟨_, [], Hp.le.refl _, hs, rfl, rfl⟩, ?_⟩
    refine ⟨MF.eq _, by intro Mx H w hle hs; refine forVals_eq rfl rfl rfl ?_; refine forVals_eq rfl rfl rfl ?_; refine forVals_nil (ORg.yes rfl (decide_eq_false (by omega : ¬ ((r.1.length : Int) ≠ (g : Int)))) rfl (OR.load T3 rfl rfl (hs.right.cellM (i := 1) rfl rfl) ?_)); exact ⟨_, [], Hp.le.refl _, hs, rfl, rfl⟩, ?_⟩
    refine ⟨MF.eq _, by intro Mx H w hle hs; refine forVals_eq rfl rfl rfl ?_; refine forVals_eq rfl rfl rfl ?_; refine forVals_eq rfl rfl rfl ?_; refine forVals_nil (ORg.yes rfl (decide_eq_false (by omega : ¬ ((r.1.length : Int) ≠ (g : Int)))) rfl (OR.neq rfl rfl ?_)); exact ⟨_, [], Hp.le.refl _, hs, rfl, rfl⟩, ?_⟩
    refine ⟨MF.eq _, by intro Mx H w hle hs; refine forVals_eq rfl rfl rfl ?_; refine forVals_eq rfl rfl rfl ?_; refine forVals_nil (ORg.plain (OR.pickF rfl (decide_eq_false (by omega : ¬ ((r.1.length : Int) ≠ (g : Int)))) rfl ?_)); exact ⟨_, [], Hp.le.refl _, hs, rfl, rfl⟩, ?_⟩
    refine ⟨MF.eq _, by intro Mx H w hle hs; refine forVals_eq rfl rfl rfl ?_; refine forVals_nil (ORg.plain (OR.assign rfl ?_)); exact ⟨_, [], Hp.le.refl _, hs, rfl, rfl⟩, ?_⟩
    intro H w hle2; (try replace hle := hle.trans hle2); (try replace hlb := hlb.trans hle2)
    refine forAllVals_eq rfl ?_
    refine forAllVals_eq rfl ?_
    refine forAllVals_eq rfl ?_
    refine forAllVals_eq rfl ?_
    refine forAllVals_eq rfl ?_
    refine forAllVals_eq rfl ?_
    refine forAllVals_eq rfl ?_
    refine forAllVals_eq rfl ?_
    refine forAllVals_eq rfl ?_
    refine forAllVals_eq rfl ?_
    refine forAllVals_eq rfl ?_
    refine forAllVals_eq rfl ?_
    refine forAllVals_eq rfl ?_
    refine forAllVals_eq rfl ?_
    refine forAllVals_eq rfl ?_
    refine forAllVals_eq rfl ?_
    refine forAllVals_eq rfl ?_
    refine forAllVals_eq rfl ?_
    refine forAllVals_eq rfl ?_
    refine forAllVals_nil ?_; (try clear hs); intro hs
    refine WO.done (WX.seq ?_)
    refine WC.no rfl (decide_eq_false (by omega)) ?_
    refine WC.skip (WX.block (WX.seq (WC.seq (WC.region (WO.step rfl (OR.move rfl (WO.step rfl ?_)))))))
    refine OR.loadAll T45 rfl rfl (hs.blk (i := 0) rfl) rfl ?_
    refine WO.step rfl (OR.call hs body121 rfl rfl (own_ok r _ _ _ _ hs.toSub (hrc.mono hle) (hrp.mono hle) (by omega) (by omega)) ?_)
    clear hs; rintro _ H w hs hle1 ⟨q1, q2, rfl, hq1, hq2⟩; replace hle := hle.trans hle1; (try replace hlb := hlb.trans hle1)
    have hbw := hs.blk (i := 1) rfl
    refine WO.step rfl (OR.call hs body120 rfl rfl (reduced_ok r rows _ _ _ b g s _ _ hs.toSub hbw (hs.mem b _ true (List.mem_cons_of_mem _ (List.mem_cons_self ..))).2.1 (hv.mono hle) hq1 hq2 hdim hrs hg hsm hlen) ?_)
    clear hs; rintro _ H w hs hle1 ⟨q3, q4, rfl, hq3, hq4⟩; replace hle := hle.trans hle1; (try replace hlb := hlb.trans hle1)
    have hq := redR_gs rows r hdim (fun x hx => (hrs x hx).1)
    generalize hqd : redR rows r = q at hq hq3 hq4 ⊢
    obtain ⟨b3, c3, rfl⟩ := hq3.form
    obtain ⟨b4, c4, rfl⟩ := hq4.form
    have hlb := Hp.le.refl H
    refine WO.stepN (OR.storeAll hs T45 rfl rfl rfl rfl rfl ?_)
    clear hs; intro w hs
    refine WO.done (WX.seq (WC.seq (WC.seq (WC.region (WO.step rfl (OR.fieldAddr FA45_0 rfl (WO.step rfl ?_)))))))
    refine OR.load T43 rfl rfl (hs.cellM (i := 0) rfl rfl) ?_
    refine WO.step rfl (OR.call hs body50 rfl rfl (isZero_ok _ _ _ _ hs.toSub hq3 (by rw [hq.1]; omega)) ?_)
    clear hs; rintro _ H w hs hle1 rfl; replace hle := hle.trans hle1; (try replace hlb := hlb.trans hle1)
    refine WO.done (WX.seq ?_)
    refine WC.condD rfl (fun hz => ?_) (fun hz => ?_)
    · refine WC.seq (WC.region (WO.step rfl (OR.assign rfl (WO.step rfl (OR.assign rfl (WO.done (WX.seq ?_)))))))
      refine WC.ret (WX.seq_ret ?_)
      replace hs := hs.drop (i := 0)
      refine WX.ret2 rfl rfl rfl ?_
      simp only [if_pos hz]
      exact ⟨_, H, _, rfl, hs, by simp, _, rfl, hv.mono hle, rfl⟩
    · simp only [if_neg hz]
      have hld : 0 ≤ lead q.1 := by omega
      obtain ⟨L, hL⟩ := Int.eq_ofNat_of_zero_le hld
      obtain ⟨hLt, hne, _⟩ := lead_some hL
      have hcoef : q.1.getD (lead q.1).toNat 0 = q.1[L] := by rw [hL]; simp [hLt]
      obtain ⟨xb, xo, rfl, hcr⟩ := hq3.pos (by omega)
      refine WC.skip (WX.seq (WC.seq (WC.region (WO.step rfl (OR.fieldAddr FA45_0 rfl (WO.step rfl (OR.load T43 rfl rfl (hs.cellM (i := 0) rfl rfl) ?_)))))))
      refine WO.step rfl (OR.call hs body110 rfl rfl (lead_ok _ _ _ _ hs.toSub (hq3.mono hlb) (by rw [hq.1]; omega)) ?_)
      clear hs; rintro _ H w hs hle1 rfl; replace hle := hle.trans hle1; (try replace hlb := hlb.trans hle1)
      refine WO.step rfl (OR.assign rfl (WO.done (WX.seq (WC.seq (WC.region (WO.step rfl (OR.fieldAddr FA45_0 rfl ?_)))))))
      refine WO.step rfl (OR.load T43 rfl rfl (hs.cellM (i := 0) rfl rfl) (WO.step rfl (OR.move rfl ?_)))
      refine WO.step rfl (OR.idx L T43.und T5 rfl rfl hL hLt ?_)
      refine WO.step rfl (OR.load T5 rfl rfl (hs.cell (hcell.mono hlb (hcr L hLt))) ?_)
      refine WO.step rfl (OR.call hs body122 rfl rfl (inv_ok q.1[L] _ _ hs.toSub) ?_)
      clear hs; rintro _ H w hs hle1 rfl; replace hle := hle.trans hle1; (try replace hlb := hlb.trans hle1)
      rw [if_neg hne]
      refine WO.step rfl (OR.move rfl (WO.step rfl (OR.extract rfl rfl (WO.step rfl (OR.extract rfl rfl (WO.step rfl (OR.assign rfl ?_)))))))
      refine WO.step rfl (OR.assign rfl (WO.done (WX.seq (WC.seq ?_))))
      have hnorm : normR q = (q.1.map (fun x => mul x (pw ((255 - lg q.1[L]) % 255))), q.2.map (fun x => mul x (pw ((255 - lg q.1[L]) % 255)))) := by rw [normR, hcoef]
      refine WC.draw 9 mixed hs (by kernel_rfl) ?_
      refine ⟨MF.eq _, by intro Mx H w hle hs; refine forVals_nil (ORg.plain (OR.fieldAddr FA45_0 rfl ?_)); exact ⟨_, [], Hp.le.refl _, hs, rfl, rfl⟩, ?_⟩
      refine ⟨MF.eq _, by intro Mx H w hle hs; refine forVals_eq rfl rfl rfl ?_; refine forVals_nil (ORg.plain (OR.load T43 rfl rfl (hs.right.cellM (i := 0) rfl rfl) ?_)); exact ⟨_, [], Hp.le.refl _, hs, rfl, rfl⟩, ?_⟩
      refine ⟨MF.eq _, by intro Mx H w hle hs; refine forVals_nil (ORg.plain (OR.move rfl ?_)); exact ⟨_, [], Hp.le.refl _, hs, rfl, rfl⟩, ?_⟩
      refine ⟨MF.bytes (normR q).1, ?_, ?_⟩
      · intro Mx H w hle2 hs; (try replace hle := hle.trans hle2); (try replace hlb := hlb.trans hle2); refine forVals_eq rfl rfl rfl ?_; refine forVals_eq rfl rfl rfl ?_
        refine forVals_nil (ORg.plain (OR.call hs body123 rfl rfl (scale_ok _ q.1 (pw ((255 - lg q.1[L]) % 255)) _ _ hs.toSub (hq3.mono hlb) (by rw [hq.1]; omega)) ?_))
        clear hs; rintro _ H w hs hle1 hr
        exact ⟨_, [], hle1, hs, (by rw [hnorm]; exact hr), rfl⟩
      refine ⟨MF.eq _, by intro Mx H w hle hs; refine forVals_nil (ORg.plain (OR.fieldAddr FA45_1 rfl ?_)); exact ⟨_, [], Hp.le.refl _, hs, rfl, rfl⟩, ?_⟩
      refine ⟨MF.eq _, by intro Mx H w hle hs; refine forVals_eq rfl rfl rfl ?_; refine forVals_nil (ORg.plain (OR.load T43 rfl rfl (hs.right.cellM (i := 0) rfl rfl) ?_)); exact ⟨_, [], Hp.le.refl _, hs, rfl, rfl⟩, ?_⟩
      refine ⟨MF.eq _, by intro Mx H w hle hs; refine forVals_nil (ORg.plain (OR.move rfl ?_)); exact ⟨_, [], Hp.le.refl _, hs, rfl, rfl⟩, ?_⟩
      refine ⟨MF.bytes (normR q).2, ?_, ?_⟩
      · intro Mx H w hle2 hs; (try replace hle := hle.trans hle2); (try replace hlb := hlb.trans hle2); refine forVals_eq rfl rfl rfl ?_; refine forVals_eq rfl rfl rfl ?_
        refine forVals_nil (ORg.plain (OR.call hs body123 rfl rfl (scale_ok _ q.2 (pw ((255 - lg q.1[L]) % 255)) _ _ hs.toSub (hq4.mono hlb) (by rw [hq.2]; omega)) ?_))
        clear hs; rintro _ H w hs hle1 hr
        exact ⟨_, [], hle1, hs, (by rw [hnorm]; exact hr), rfl⟩
      refine ⟨MF.row (normR q), ?_, ?_⟩
      · intro Mx H w hle2 hs; (try replace hle := hle.trans hle2); (try replace hlb := hlb.trans hle2); refine forVals_of rfl rfl rfl ?_; intro v3 h3; refine forVals_of rfl rfl rfl ?_; intro v7 h7
        obtain ⟨_, _, rfl⟩ := h3.form
        obtain ⟨_, _, rfl⟩ := h7.form
        refine forVals_nil (ORg.plain (OR.buildAll T45 rfl rfl PL45 rfl rfl ?_))
        exact ⟨_, [], Hp.le.refl _, hs, ⟨_, _, rfl, h3, h7⟩, rfl⟩
      intro H w hle2; (try replace hle := hle.trans hle2); (try replace hlb := hlb.trans hle2)
      refine forAllVals_eq rfl ?_
      refine forAllVals_eq rfl ?_
      refine forAllVals_eq rfl ?_
      refine forAllVals_of rfl ?_; intro v3 h3
      refine forAllVals_eq rfl ?_
      refine forAllVals_eq rfl ?_
      refine forAllVals_eq rfl ?_
      refine forAllVals_of rfl ?_; intro v7 h7
      refine forAllVals_of rfl ?_; intro v8 h8
      refine forAllVals_nil ?_; (try clear hs); intro hs
      obtain ⟨nc, np, rfl, hnc, hnp⟩ := h8
      obtain ⟨b5, c5, rfl⟩ := hnc.form
      obtain ⟨b6, c6, rfl⟩ := hnp.form
      have hngs : RowGS g s (normR q) := by rw [hnorm]; exact ⟨by simpa using hq.1, by simpa using hq.2⟩
      clear hlb; have hlb := Hp.le.refl H
      obtain ⟨cs, hsl, hok⟩ := hv0
      refine WO.stepN (OR.storeAll hs T45 rfl rfl rfl rfl rfl ?_)
      clear hs; intro w hs
      refine WO.done (WX.seq (WC.seq (WC.region (WO.step rfl (OR.move rfl (WO.step rfl (OR.nilCheck rfl ?_)))))))
      refine WO.step rfl (OR.fieldAddr FA194_2 rfl (WO.step rfl (OR.load T97 rfl rfl (hs.cellM (i := 1) rfl rfl) ?_)))
      have hsz := hs.size
      refine WO.step rfl (OR.callX (Mx := []) hs body124 rfl rfl (cloneRows_ok _ rows.length (rowCells cs) _ _ hs.toSub (hsl.mono hle) (rows_one hok) (by omega)) rfl rfl ?_)
      clear hs; rintro _ H M' w hs hle1 hnew ⟨rfl, ho⟩; replace hle := hle.trans hle1; (try replace hlb := hlb.trans hle1)
      replace hs := hs.perm (List.perm_append_comm (l₁ := [_, _]) (l₂ := _))
      replace ho := ho
      obtain ⟨bo, co, rfl⟩ := ho.form
      refine WO.step rfl (OR.assign rfl (WO.done (WX.seq (WC.seq (WC.seq (WC.region (WO.step rfl ?_)))))))
      refine OR.move rfl (WO.step rfl (OR.lenSlice T97.und rfl (WO.step rfl (OR.move rfl (WO.done (WX.seq (WC.block ?_)))))))
      refine WC.loop (ι := Nat) (fun k => [(0, ptr b), (3, ptr g1), (6, .int .i64 (lead q.1)), (9, .slice bo rows.length co), (68, .slice bo rows.length co), (69, .int .i64 (rows.length : Int)), (70, .int .i64 (k : Int))]) (fun k w => (k ≤ rows.length ∧ ∃ H2 cs Mo, Hp.le H0 H2 ∧ Hp.le H H2 ∧ RowsOk H2 cs (updR (freeR q) rows k) ∧ Own w0.heap.size 45 2 (.slice bo rows.length co) rows.length (rowCells cs) Mo ∧ HS [b] H0 w0 H2 ((g1, .cells #[.slice b5 (normR q).1.length c5, .slice b6 (normR q).2.length c6] 45, true) :: (b, basisObj g s (.slice br rows.length cr), true) :: Mo) w)) (fun k => rows.length - k) 0 ⟨rfl, rfl, rfl, rfl, rfl, rfl, rfl,  trivial⟩ ?_ (fun k w hW => ?_)
      · refine ⟨by omega, H, cs, _, hle, Hp.le.refl H, ?_, ho.mono hsz, hs⟩
        have : updR (freeR q) rows 0 = rows := by simp [updR]
        rw [this]; exact hok.mono hle
      obtain ⟨hk, H2, cs2, Mo, hle', hlb2, hok2, ho2, hs⟩ := hW
      clear hle; have hle := hle'
      refine WC.seq (WC.region (WO.step rfl (OR.lss rfl rfl (WO.done (WX.seq (WC.seq ?_))))))
      refine WC.condD rfl (fun hlt => ?_) (fun hlt => ?_)
      · have hk' : k < rows.length := by omega
        obtain ⟨hcl, ⟨rfl, hq9, h09⟩ | ⟨g3, cc, cap, rfl, hveq, hnc9, hcc, hxx, hg3⟩⟩ := ho2
        · omega
        cases hveq
        obtain ⟨ec, ep, hec0, hep0, hec, hep⟩ := hok2.get k (by rw [updR_len]; exact hk')
        rw [updR_at _ _ _ hk'] at hec hep
        have hgs := (hrs rows[k] (List.getElem_mem _)).1
        obtain ⟨be, ce, rfl⟩ := hec.form
        obtain ⟨bp, cp, rfl⟩ := hep.form
        obtain ⟨yb, yo, rfl, hcy⟩ := hec.pos (by rw [hgs.1]; omega)
        have hb3 := hs.blk (i := 2) rfl
        rw [← hxx] at hec0 hep0
        have hlb := Hp.le.refl H2
        refine WC.skip (WX.seq (WC.seq (WC.block (WC.seq (WC.region (WO.step rfl (OR.move rfl ?_)))))))
        refine WO.step rfl (OR.idxN k T97.und T45 rfl rfl rfl hk' ?_)
        refine WO.step rfl (OR.loadN (cs := [.slice (some ⟨yb, yo, none⟩) rows[k].1.length ce, .slice bp rows[k].2.length cp]) T45 rfl rfl rfl (two_cells hb3 (by rw [Nat.zero_add]; exact get_take hec0) (by rw [Nat.zero_add]; exact get_take hep0)) ?_)
        refine WO.step rfl (OR.alloc hs T45 ?_)
        clear hs; intro g2 w hg2 hs
        refine WO.step rfl (OR.assign rfl (WO.stepN (OR.storeAll hs T45 rfl rfl rfl rfl rfl ?_)))
        clear hs; intro w hs
        refine WO.done (WX.seq ?_)
        refine WC.draw 10 mixed hs (by kernel_rfl) ?_
        refine ⟨MF.eq _, by intro Mx H w hle hs; refine forVals_nil (ORg.plain (OR.move rfl ?_)); exact ⟨_, [], Hp.le.refl _, hs, rfl, rfl⟩, ?_⟩
        refine ⟨MF.eq _, by intro Mx H w hle hs; refine forVals_nil (ORg.plain (OR.move rfl ?_)); exact ⟨_, [], Hp.le.refl _, hs, rfl, rfl⟩, ?_⟩
        refine ⟨MF.eq _, by intro Mx H w hle hs; refine forVals_nil (ORg.plain (OR.loadAll T45 rfl rfl (hs.right.blk (i := 0) rfl) rfl ?_)); exact ⟨_, [], Hp.le.refl _, hs, rfl, rfl⟩, ?_⟩
        refine ⟨MF.eq _, by intro Mx H w hle hs; refine forVals_nil (ORg.plain (OR.loadAll T45 rfl rfl (hs.right.blk (i := 1) rfl) rfl ?_)); exact ⟨_, [], Hp.le.refl _, hs, rfl, rfl⟩, ?_⟩
        refine ⟨MF.eq _, by intro Mx H w hle hs; refine forVals_nil (ORg.plain (OR.fieldAddr FA45_0 rfl ?_)); exact ⟨_, [], Hp.le.refl _, hs, rfl, rfl⟩, ?_⟩
        refine ⟨MF.eq _, by intro Mx H w hle hs; refine forVals_eq rfl rfl rfl ?_; refine forVals_nil (ORg.plain (OR.load T43 rfl rfl (hs.right.cellM (i := 0) rfl rfl) ?_)); exact ⟨_, [], Hp.le.refl _, hs, rfl, rfl⟩, ?_⟩
        refine ⟨MF.eq _, by intro Mx H w hle hs; refine forVals_nil (ORg.plain (OR.move rfl ?_)); exact ⟨_, [], Hp.le.refl _, hs, rfl, rfl⟩, ?_⟩
        refine ⟨MF.eq (.pointer (some ⟨yb, yo + L, none⟩)), ?_, ?_⟩
        · intro Mx H w hle2 hs; (try replace hle := hle.trans hle2); (try replace hlb := hlb.trans hle2); refine forVals_eq rfl rfl rfl ?_; refine forVals_eq rfl rfl rfl ?_
          refine forVals_nil (ORg.plain (OR.idx L T43.und T5 rfl rfl hL (by rw [hgs.1, ← hq.1]; exact hLt) ?_))
          exact ⟨_, [], Hp.le.refl _, hs, rfl, rfl⟩
        refine ⟨MF.eq (B (rows[k].1[L]'(by rw [hgs.1, ← hq.1]; exact hLt))), ?_, ?_⟩
        · intro Mx H w hle2 hs; (try replace hle := hle.trans hle2); (try replace hlb := hlb.trans hle2); refine forVals_eq rfl rfl rfl ?_
          refine forVals_nil (ORg.plain (OR.load T5 rfl rfl (hs.cell (hcell.mono hlb (hcy L (by rw [hgs.1, ← hq.1]; exact hLt)))) ?_))
          exact ⟨_, [], Hp.le.refl _, hs, rfl, rfl⟩
        refine ⟨MF.row (freeR q rows[k]), ?_, ?_⟩
        · intro Mx H w hle2 hs; (try replace hle := hle.trans hle2); (try replace hlb := hlb.trans hle2); refine forVals_eq rfl rfl rfl ?_; refine forVals_eq rfl rfl rfl ?_; refine forVals_eq rfl rfl rfl ?_
          refine forVals_nil (ORg.plain (OR.call hs body125 rfl rfl (plus_ok rows[k] (normR q) _ _ _ _ _ _ _ hs.toSub (hec.mono hlb) (hep.mono hlb) (hnc.mono (hlb2.trans hlb)) (hnp.mono (hlb2.trans hlb)) (by rw [hgs.1]; omega) (by rw [hgs.2]; omega)) ?_))
          clear hs; rintro _ H w hs hle1 hr
          exact ⟨_, [], hle1, hs, (by rw [freeR, hL]; simpa [hgs.1, ← hq.1, hLt] using hr), rfl⟩
        intro H w hle2; (try replace hle := hle.trans hle2); (try replace hlb := hlb.trans hle2)
        refine forAllVals_eq rfl ?_
        refine forAllVals_eq rfl ?_
        refine forAllVals_eq rfl ?_
        refine forAllVals_eq rfl ?_
        refine forAllVals_eq rfl ?_
        refine forAllVals_eq rfl ?_
        refine forAllVals_eq rfl ?_
        refine forAllVals_eq rfl ?_
        refine forAllVals_eq rfl ?_
        refine forAllVals_of rfl ?_; intro v9 h9
        refine forAllVals_nil ?_; (try clear hs); intro hs
        obtain ⟨wc, wp, rfl, hwc, hwp⟩ := h9
        obtain ⟨b7, c7, rfl⟩ := hwc.form
        obtain ⟨b8, c8, rfl⟩ := hwp.form
        refine WO.step rfl (OR.idxN k T97.und T45 rfl rfl rfl hk' ?_)
        replace hs := hs.front (i := 3) rfl
        refine WO.stepN (OR.store hs T45 rfl rfl rfl (by rw [hcc]; omega) rfl ?_)
        clear hs; intro w hs
        refine WO.done (WX.block (WX.seq (WC.region (WO.step rfl (OR.addI rfl rfl (by omega) (by omega) (WO.step rfl (OR.move rfl ?_)))))))
        refine WO.done ?_
        replace hs := hs.drop (i := 1)
        replace hs := hs.front (i := 2) rfl
        replace hs := hs.front (i := 2) rfl
        refine WX.again (k + 1) ⟨rfl, rfl, rfl, rfl, rfl, rfl, rfl,  trivial⟩ ?_ ?_
        · refine ⟨hk', _, cs2.set k (.slice b7 (freeR q rows[k]).1.length c7, .slice b8 (freeR q rows[k]).2.length c8), _, hle, hlb2.trans hlb, ?_, Own.block hnc9 ?_ ?_ hg3, hs⟩
          · rw [← updR_step _ _ _ hk']
            exact (hok2.mono hlb).set k hwc hwp
          · simp [setL_length, hcc]
          · rw [Nat.zero_add, ← rowCells_set, ← hxx]
            exact take_setL _ _ _ _ (by show k * 2 + 2 ≤ rows.length * 2; omega) (Nat.le_trans (Nat.mul_le_mul_right 2 hnc9) (Nat.le_of_eq hcc.symm))
        · omega
      · have e : k = rows.length := by omega
        subst e
        have hup : updR (freeR q) rows rows.length = rows.map (freeR q) := by simp [updR]
        rw [hup] at hok2
        have hbw := hs.blk (i := 1) rfl
        have hnw := (hs.mem b _ true (List.mem_cons_of_mem _ (List.mem_cons_self ..))).2.1
        have hlb := Hp.le.refl H2
        refine WC.exit (WX.seq_exit (WX.loop_exit (WX.block_hit (WX.seq (WC.seq ?_)))))
        refine WC.drawF 7 [0] mixed hs (by kernel_rfl) ?_
        refine ⟨MF.eq _, by intro Mx H w hle hs; refine forVals_nil (ORg.plain (OR.move rfl ?_)); exact ⟨_, [], Hp.le.refl _, hs, rfl, rfl⟩, ?_⟩
        refine ⟨MF.eq _, by intro Mx H w hle hs; refine forVals_nil (ORg.plain (OR.move rfl ?_)); exact ⟨_, [], Hp.le.refl _, hs, rfl, rfl⟩, ?_⟩
        refine ⟨MF.eq _, by intro Mx H w hle hs; refine forVals_nil (ORg.plain (OR.move rfl ?_)); exact ⟨_, [], Hp.le.refl _, hs, rfl, rfl⟩, ?_⟩
        refine ⟨MF.eq _, by intro Mx H w hle hs; refine forVals_nil (ORg.plain (OR.move rfl ?_)); exact ⟨_, [], Hp.le.refl _, hs, rfl, rfl⟩, ?_⟩
        refine ⟨MF.eq (.int .i64 (placeOf rows (lead q.1) : Int)), ?_, ?_⟩
        · intro Mx H w hle2 hs; (try replace hle := hle.trans hle2); (try replace hlb := hlb.trans hle2); refine forVals_eq rfl rfl rfl ?_; refine forVals_eq rfl rfl rfl ?_
          have hbw := hs.right.blk (i := 1) rfl
          have hnw := (hs.right.mem b _ true (List.mem_cons_of_mem _ (List.mem_cons_self ..))).2.1
          refine forVals_nil (ORg.plain (OR.call hs body127 rfl rfl (place_ok rows _ (lead q.1) b g s _ _ hs.toSub hbw hnw (hv.mono hle) (fun x hx => (hrs x hx).1) hg hlen) ?_))
          clear hs; rintro _ H w hs hle1 rfl
          exact ⟨_, [], hle1, hs, rfl, rfl⟩
        refine ⟨MF.eq _, by intro Mx H w hle hs; refine forVals_nil (ORg.plain (OR.loadAll T45 rfl rfl (hs.right.blk (i := 0) rfl) rfl ?_)); exact ⟨_, [], Hp.le.refl _, hs, rfl, rfl⟩, ?_⟩
        refine ⟨MF.sl w0.heap.size 1 (.cells #[.slice b5 (normR q).1.length c5, .slice b6 (normR q).2.length c6] 45), ?_, ?_⟩
        · intro Mx H w hle2 hs; (try replace hle := hle.trans hle2); (try replace hlb := hlb.trans hle2); refine forVals_eq rfl rfl rfl ?_
          refine forVals_nil (ORg.plain (OR.buildSlice (vs := [_]) hs T97.und T45 rfl rfl rfl rfl (by simp) ?_))
          intro g w hg hs; exact ⟨_, [_], Hp.le.refl _, hs, g, hg, rfl, rfl⟩
        intro H w hle2; (try replace hle := hle.trans hle2); (try replace hlb := hlb.trans hle2)
        refine forAllVals_eq rfl ?_
        refine forAllVals_eq rfl ?_
        refine forAllVals_eq rfl ?_
        refine forAllVals_eq rfl ?_
        refine forAllVals_eq rfl ?_
        refine forAllVals_eq rfl ?_
        refine forAllVals_sl rfl ?_; intro g9 hg9
        refine forAllVals_nil ?_; (try clear hs); intro hs
        replace hs := hs.perm (List.perm_append_comm (l₁ := Mo) (l₂ := [_, _, _]))
        refine WO.step rfl (OR.callX (Mx := Mo) hs body126 rfl rfl (insRows_ok w0.heap.size rows.length (placeOf rows (lead q.1)) _ _ _ _ Mo g9 _ _ hs.toSub (placeOf_le _ _) ho2 hs.size hs.known (hs.mem g9 _ true (List.mem_append_right _ (List.mem_cons_self ..))).1 (hs.mem g9 _ true (List.mem_append_right _ (List.mem_cons_self ..))).2.1 hs.apart rfl rfl (rows_one hok2) hlen) rfl (List.all_eq_true.2 ho2.tt) ?_)
        clear hs; rintro v H3 M3 w hs hle1 hnew ho3; replace hle := hle.trans hle1; replace hlb := hlb.trans hle1
        obtain ⟨H4, hle4, hs, hsl4, _⟩ := HS.pub hs ho3
        obtain ⟨bf, cf, rfl⟩ := ho3.form
        refine WO.step rfl (OR.nilCheck rfl (WO.step rfl (OR.fieldAddr FA194_2 rfl ?_)))
        replace hs := hs.front (i := 2) rfl
        refine WO.stepN (OR.store hs T97 rfl rfl rfl (Nat.le_of_ble_eq_true rfl) rfl ?_)
        clear hs; intro w hs
        refine WO.done (WX.seq (WC.seq (WC.region (WO.step rfl (OR.assign rfl (WO.step rfl (OR.assign rfl ?_)))))))
        refine WO.done (WX.seq (WC.ret ?_))
        refine WX.ret2 rfl rfl rfl ?_
        refine ⟨_, H4, _, rfl, (hs.drop 1).drop 1, by simp [dropAt], _, rfl, ?_, rfl⟩
        have hpl := placeOf_le rows (lead q.1)
        refine ⟨insAt cs2 (placeOf rows (lead q.1)) (.slice b5 (normR q).1.length c5, .slice b6 (normR q).2.length c6), ?_, ?_⟩
        · have e1 : (insAt (rows.map (freeR q)) (placeOf rows (lead q.1)) (normR q)).length = rows.length + 1 := by simp [insAt]; omega
          rw [e1]
          have e2 : rowCells (insAt cs2 (placeOf rows (lead q.1)) (.slice b5 (normR q).1.length c5, .slice b6 (normR q).2.length c6)) = (rowCells cs2).take (placeOf rows (lead q.1) * 2) ++ [.slice b5 (normR q).1.length c5, .slice b6 (normR q).2.length c6] ++ (rowCells cs2).drop (placeOf rows (lead q.1) * 2) := by
            rw [insAt, rowCells_append, rowCells_append, rowCells_take, rowCells_drop]; rfl
          rw [e2]
          exact hsl4
        · exact RowsOk.ins (hok2.mono (hlb.trans hle4)) _ (by simpa using hpl) (hnc.mono (hlb2.trans (hlb.trans hle4))) (hnp.mono (hlb2.trans (hlb.trans hle4)))
  · have hone : insR g s rows r = (false, rows) := by rw [insR, if_neg hdim]
    rw [hone]
    simp only [if_neg hdim]
    by_cases hd1 : r.1.length = g
    · have hd2 : ¬ r.2.length = s := fun h => hdim ⟨hd1, h⟩
      refine WC.seq ?_
      refine WC.draw 19 mixed hs (by kernel_rfl) ?_
      refine ⟨MF.eq _, by intro Mx H w hle hs; refine forVals_nil (ORg.plain (OR.fieldAddr FA45_0 rfl ?_)); exact ⟨_, [], Hp.le.refl _, hs, rfl, rfl⟩, ?_⟩
      refine ⟨MF.eq _, by intro Mx H w hle hs; refine forVals_eq rfl rfl rfl ?_; refine forVals_nil (ORg.plain (OR.load T43 rfl rfl (hs.right.cellM (i := 0) rfl rfl) ?_)); exact ⟨_, [], Hp.le.refl _, hs, rfl, rfl⟩, ?_⟩
      refine ⟨MF.eq _, by intro Mx H w hle hs; refine forVals_eq rfl rfl rfl ?_; refine forVals_nil (ORg.plain (OR.lenSlice T43.und rfl ?_)); exact ⟨_, [], Hp.le.refl _, hs, rfl, rfl⟩, ?_⟩
      refine ⟨MF.eq _, by intro Mx H w hle hs; refine forVals_nil (ORg.plain (OR.move rfl ?_)); exact ⟨_, [], Hp.le.refl _, hs, rfl, rfl⟩, ?_⟩
      refine ⟨MF.eq _, by intro Mx H w hle hs; refine forVals_eq rfl rfl rfl ?_; refine forVals_nil (ORg.plain (OR.nilCheck rfl ?_)); exact ⟨_, [], Hp.le.refl _, hs, rfl, rfl⟩, ?_⟩
      refine ⟨MF.eq _, by intro Mx H w hle hs; refine forVals_eq rfl rfl rfl ?_; refine forVals_nil (ORg.plain (OR.fieldAddr FA194_0 rfl ?_)); exact ⟨_, [], Hp.le.refl _, hs, rfl, rfl⟩, ?_⟩
      refine ⟨MF.eq _, by intro Mx H w hle hs; refine forVals_eq rfl rfl rfl ?_; refine forVals_nil (ORg.plain (OR.load T3 rfl rfl (hs.right.cellM (i := 1) rfl rfl) ?_)); exact ⟨_, [], Hp.le.refl _, hs, rfl, rfl⟩, ?_⟩
      refine ⟨MF.eq _, by intro Mx H w hle hs; refine forVals_eq rfl rfl rfl ?_; refine forVals_eq rfl rfl rfl ?_; refine forVals_nil (ORg.plain (OR.neq rfl rfl ?_)); exact ⟨_, [], Hp.le.refl _, hs, rfl, rfl⟩, ?_⟩
      refine ⟨MF.eq _, by intro Mx H w hle hs; refine forVals_eq rfl rfl rfl ?_; refine forVals_nil (ORg.plain (OR.move rfl ?_)); exact ⟨_, [], Hp.le.refl _, hs, rfl, rfl⟩, ?_⟩
      refine ⟨MF.eq _, by intro Mx H w hle hs; refine forVals_eq rfl rfl rfl ?_; refine forVals_nil (ORg.yes rfl (decide_eq_false (by omega : ¬ ((r.1.length : Int) ≠ (g : Int)))) rfl (OR.fieldAddr FA45_1 rfl ?_)); exact ⟨_, [], Hp.le.refl _, hs, rfl, rfl⟩, ?_⟩
      refine ⟨MF.eq _, by intro Mx H w hle hs; refine forVals_eq rfl rfl rfl ?_; refine forVals_eq rfl rfl rfl ?_; refine forVals_nil (ORg.yes rfl (decide_eq_false (by omega : ¬ ((r.1.length : Int) ≠ (g : Int)))) rfl (OR.load T43 rfl rfl (hs.right.cellM (i := 0) rfl rfl) ?_)); exact ⟨_, [], Hp.le.refl _, hs, rfl, rfl⟩, ?_⟩
      refine ⟨MF.eq _, by intro Mx H w hle hs; refine forVals_eq rfl rfl rfl ?_; refine forVals_eq rfl rfl rfl ?_; refine forVals_nil (ORg.yes rfl (decide_eq_false (by omega : ¬ ((r.1.length : Int) ≠ (g : Int)))) rfl (OR.lenSlice T43.und rfl ?_)); exact ⟨_, [], Hp.le.refl _, hs, rfl, rfl⟩, ?_⟩
      refine ⟨MF.eq _, by intro Mx H w hle hs; refine forVals_eq rfl rfl rfl ?_; refine forVals_nil (ORg.yes rfl (decide_eq_false (by omega : ¬ ((r.1.length : Int) ≠ (g : Int)))) rfl (OR.move rfl ?_)); exact ⟨_, [], Hp.le.refl _, hs, rfl, rfl⟩, ?_⟩
      refine ⟨MF.eq _, by intro Mx H w hle hs; refine forVals_eq rfl rfl rfl ?_; refine forVals_eq rfl rfl rfl ?_; refine forVals_nil (ORg.yes rfl (decide_eq_false (by omega : ¬ ((r.1.length : Int) ≠ (g : Int)))) rfl (OR.nilCheck rfl ?_)); exact ⟨_, [], Hp.le.refl _, hs, rfl, rfl⟩, ?_⟩
      refine ⟨MF.eq _, by intro Mx H w hle hs; refine forVals_eq rfl rfl rfl ?_; refine forVals_eq rfl rfl rfl ?_; refine forVals_nil (ORg.yes rfl (decide_eq_false (by omega : ¬ ((r.1.length : Int) ≠ (g : Int)))) rfl (OR.fieldAddr FA194_1 rfl ?_)); exact ⟨_, [], Hp.le.refl _, hs, rfl, rfl⟩, ?_⟩
      refine ⟨MF.eq _, by intro Mx H w hle hs; refine forVals_eq rfl rfl rfl ?_; refine forVals_eq rfl rfl rfl ?_; refine forVals_nil (ORg.yes rfl (decide_eq_false (by omega : ¬ ((r.1.length : Int) ≠ (g : Int)))) rfl (OR.load T3 rfl rfl (hs.right.cellM (i := 1) rfl rfl) ?_)); exact ⟨_, [], Hp.le.refl _, hs, rfl, rfl⟩, ?_⟩
      refine ⟨MF.eq _, by intro Mx H w hle hs; refine forVals_eq rfl rfl rfl ?_; refine forVals_eq rfl rfl rfl ?_; refine forVals_eq rfl rfl rfl ?_; refine forVals_nil (ORg.yes rfl (decide_eq_false (by omega : ¬ ((r.1.length : Int) ≠ (g : Int)))) rfl (OR.neq rfl rfl ?_)); exact ⟨_, [], Hp.le.refl _, hs, rfl, rfl⟩, ?_⟩
      refine ⟨MF.eq _, by intro Mx H w hle hs; refine forVals_eq rfl rfl rfl ?_; refine forVals_eq rfl rfl rfl ?_; refine forVals_nil (ORg.plain (OR.pickF rfl (decide_eq_false (by omega : ¬ ((r.1.length : Int) ≠ (g : Int)))) rfl ?_)); exact ⟨_, [], Hp.le.refl _, hs, rfl, rfl⟩, ?_⟩
      refine ⟨MF.eq _, by intro Mx H w hle hs; refine forVals_eq rfl rfl rfl ?_; refine forVals_nil (ORg.plain (OR.assign rfl ?_)); exact ⟨_, [], Hp.le.refl _, hs, rfl, rfl⟩, ?_⟩
      intro H w hle2; (try replace hle := hle.trans hle2); (try replace hlb := hlb.trans hle2)
      refine forAllVals_eq rfl ?_
      refine forAllVals_eq rfl ?_
      refine forAllVals_eq rfl ?_
      refine forAllVals_eq rfl ?_
      refine forAllVals_eq rfl ?_
      refine forAllVals_eq rfl ?_
      refine forAllVals_eq rfl ?_
      refine forAllVals_eq rfl ?_
      refine forAllVals_eq rfl ?_
      refine forAllVals_eq rfl ?_
      refine forAllVals_eq rfl ?_
      refine forAllVals_eq rfl ?_
      refine forAllVals_eq rfl ?_
      refine forAllVals_eq rfl ?_
      refine forAllVals_eq rfl ?_
      refine forAllVals_eq rfl ?_
      refine forAllVals_eq rfl ?_
      refine forAllVals_eq rfl ?_
      refine forAllVals_eq rfl ?_
      refine forAllVals_nil ?_; (try clear hs); intro hs
      refine WO.done (WX.seq ?_)
      refine WC.yes rfl (decide_eq_true (by omega)) ?_
      refine WC.seq (WC.region (WO.step rfl (OR.assign rfl (WO.step rfl (OR.assign rfl (WO.done (WX.seq ?_)))))))
      refine WC.ret (WX.block_ret (WX.seq_ret ?_))
      replace hs := hs.drop (i := 0)
      refine WX.ret2 rfl rfl rfl ?_
      exact ⟨_, H, _, rfl, hs, by simp, _, rfl, hv.mono hle, rfl⟩
    · have hd2 : True := trivial
      refine WC.seq ?_
      refine WC.draw 19 mixed hs (by kernel_rfl) ?_
      refine ⟨MF.eq _, by intro Mx H w hle hs; refine forVals_nil (ORg.plain (OR.fieldAddr FA45_0 rfl ?_)); exact ⟨_, [], Hp.le.refl _, hs, rfl, rfl⟩, ?_⟩
      refine ⟨MF.eq _, by intro Mx H w hle hs; refine forVals_eq rfl rfl rfl ?_; refine forVals_nil (ORg.plain (OR.load T43 rfl rfl (hs.right.cellM (i := 0) rfl rfl) ?_)); exact ⟨_, [], Hp.le.refl _, hs, rfl, rfl⟩, ?_⟩
      refine ⟨MF.eq _, by intro Mx H w hle hs; refine forVals_eq rfl rfl rfl ?_; refine forVals_nil (ORg.plain (OR.lenSlice T43.und rfl ?_)); exact ⟨_, [], Hp.le.refl _, hs, rfl, rfl⟩, ?_⟩
      refine ⟨MF.eq _, by intro Mx H w hle hs; refine forVals_nil (ORg.plain (OR.move rfl ?_)); exact ⟨_, [], Hp.le.refl _, hs, rfl, rfl⟩, ?_⟩
      refine ⟨MF.eq _, by intro Mx H w hle hs; refine forVals_eq rfl rfl rfl ?_; refine forVals_nil (ORg.plain (OR.nilCheck rfl ?_)); exact ⟨_, [], Hp.le.refl _, hs, rfl, rfl⟩, ?_⟩
      refine ⟨MF.eq _, by intro Mx H w hle hs; refine forVals_eq rfl rfl rfl ?_; refine forVals_nil (ORg.plain (OR.fieldAddr FA194_0 rfl ?_)); exact ⟨_, [], Hp.le.refl _, hs, rfl, rfl⟩, ?_⟩
      refine ⟨MF.eq _, by intro Mx H w hle hs; refine forVals_eq rfl rfl rfl ?_; refine forVals_nil (ORg.plain (OR.load T3 rfl rfl (hs.right.cellM (i := 1) rfl rfl) ?_)); exact ⟨_, [], Hp.le.refl _, hs, rfl, rfl⟩, ?_⟩
      refine ⟨MF.eq _, by intro Mx H w hle hs; refine forVals_eq rfl rfl rfl ?_; refine forVals_eq rfl rfl rfl ?_; refine forVals_nil (ORg.plain (OR.neq rfl rfl ?_)); exact ⟨_, [], Hp.le.refl _, hs, rfl, rfl⟩, ?_⟩
      refine ⟨MF.eq _, by intro Mx H w hle hs; refine forVals_eq rfl rfl rfl ?_; refine forVals_nil (ORg.plain (OR.move rfl ?_)); exact ⟨_, [], Hp.le.refl _, hs, rfl, rfl⟩, ?_⟩
      refine ⟨MF.eq undef, by intro Mx H w hle hs; refine forVals_eq rfl rfl rfl ?_; refine forVals_nil (ORg.no rfl (decide_eq_true (by omega : ((r.1.length : Int) ≠ (g : Int)))) rfl ?_); exact ⟨_, [], Hp.le.refl _, hs, rfl, rfl⟩, ?_⟩
      refine ⟨MF.eq undef, by intro Mx H w hle hs; refine forVals_eq rfl rfl rfl ?_; refine forVals_eq rfl rfl rfl ?_; refine forVals_nil (ORg.no rfl (decide_eq_true (by omega : ((r.1.length : Int) ≠ (g : Int)))) rfl ?_); exact ⟨_, [], Hp.le.refl _, hs, rfl, rfl⟩, ?_⟩
      refine ⟨MF.eq undef, by intro Mx H w hle hs; refine forVals_eq rfl rfl rfl ?_; refine forVals_eq rfl rfl rfl ?_; refine forVals_nil (ORg.no rfl (decide_eq_true (by omega : ((r.1.length : Int) ≠ (g : Int)))) rfl ?_); exact ⟨_, [], Hp.le.refl _, hs, rfl, rfl⟩, ?_⟩
      refine ⟨MF.eq undef, by intro Mx H w hle hs; refine forVals_eq rfl rfl rfl ?_; refine forVals_nil (ORg.no rfl (decide_eq_true (by omega : ((r.1.length : Int) ≠ (g : Int)))) rfl ?_); exact ⟨_, [], Hp.le.refl _, hs, rfl, rfl⟩, ?_⟩
      refine ⟨MF.eq undef, by intro Mx H w hle hs; refine forVals_eq rfl rfl rfl ?_; refine forVals_eq rfl rfl rfl ?_; refine forVals_nil (ORg.no rfl (decide_eq_true (by omega : ((r.1.length : Int) ≠ (g : Int)))) rfl ?_); exact ⟨_, [], Hp.le.refl _, hs, rfl, rfl⟩, ?_⟩
      refine ⟨MF.eq undef, by intro Mx H w hle hs; refine forVals_eq rfl rfl rfl ?_; refine forVals_eq rfl rfl rfl ?_; refine forVals_nil (ORg.no rfl (decide_eq_true (by omega : ((r.1.length : Int) ≠ (g : Int)))) rfl ?_); exact ⟨_, [], Hp.le.refl _, hs, rfl, rfl⟩, ?_⟩
      refine ⟨MF.eq undef, by intro Mx H w hle hs; refine forVals_eq rfl rfl rfl ?_; refine forVals_eq rfl rfl rfl ?_; refine forVals_nil (ORg.no rfl (decide_eq_true (by omega : ((r.1.length : Int) ≠ (g : Int)))) rfl ?_); exact ⟨_, [], Hp.le.refl _, hs, rfl, rfl⟩, ?_⟩
      refine ⟨MF.eq undef, by intro Mx H w hle hs; refine forVals_eq rfl rfl rfl ?_; refine forVals_eq rfl rfl rfl ?_; refine forVals_eq rfl rfl rfl ?_; refine forVals_nil (ORg.no rfl (decide_eq_true (by omega : ((r.1.length : Int) ≠ (g : Int)))) rfl ?_); exact ⟨_, [], Hp.le.refl _, hs, rfl, rfl⟩, ?_⟩
      refine ⟨MF.eq _, by intro Mx H w hle hs; refine forVals_eq rfl rfl rfl ?_; refine forVals_eq rfl rfl rfl ?_; refine forVals_nil (ORg.plain (OR.pickT rfl (decide_eq_true (by omega : ((r.1.length : Int) ≠ (g : Int)))) rfl ?_)); exact ⟨_, [], Hp.le.refl _, hs, rfl, rfl⟩, ?_⟩
      refine ⟨MF.eq _, by intro Mx H w hle hs; refine forVals_eq rfl rfl rfl ?_; refine forVals_nil (ORg.plain (OR.assign rfl ?_)); exact ⟨_, [], Hp.le.refl _, hs, rfl, rfl⟩, ?_⟩
      intro H w hle2; (try replace hle := hle.trans hle2); (try replace hlb := hlb.trans hle2)
      refine forAllVals_eq rfl ?_
      refine forAllVals_eq rfl ?_
      refine forAllVals_eq rfl ?_
      refine forAllVals_eq rfl ?_
      refine forAllVals_eq rfl ?_
      refine forAllVals_eq rfl ?_
      refine forAllVals_eq rfl ?_
      refine forAllVals_eq rfl ?_
      refine forAllVals_eq rfl ?_
      refine forAllVals_eq rfl ?_
      refine forAllVals_eq rfl ?_
      refine forAllVals_eq rfl ?_
      refine forAllVals_eq rfl ?_
      refine forAllVals_eq rfl ?_
      refine forAllVals_eq rfl ?_
      refine forAllVals_eq rfl ?_
      refine forAllVals_eq rfl ?_
      refine forAllVals_eq rfl ?_
      refine forAllVals_eq rfl ?_
      refine forAllVals_nil ?_; (try clear hs); intro hs
      refine WO.done (WX.seq (WC.yes rfl rfl (WC.seq (WC.region (WO.step rfl (OR.assign rfl (WO.step rfl ?_)))))))
      refine OR.assign rfl (WO.done (WX.seq (WC.ret (WX.block_ret (WX.seq_ret ?_)))))
      replace hs := hs.drop (i := 0)
      refine WX.ret2 rfl rfl rfl ?_
      exact ⟨_, H, _, rfl, hs, by simp, _, rfl, hv.mono hle, rfl⟩

end Go.Bw
namespace Go.Bw
set_option linter.unusedVariables false
set_option linter.unusedSimpArgs false
open Go.Proofs
end Go.Bw
namespace Go.Bw
set_option linter.unusedVariables false
set_option linter.unusedSimpArgs false
theorem all256 {p : UInt8 → Bool} (h : (List.range 256).all (fun i => p (UInt8.ofNat i)) = true) (a : UInt8) : p a = true := by
  have := List.all_eq_true.1 h a.toNat (List.mem_range.2 a.toNat_lt)
  simpa using this

theorem xor_self8 (a : UInt8) : a ^^^ a = 0 := UInt8.xor_self
theorem xor_zero8 (a : UInt8) : a ^^^ 0 = a := UInt8.xor_zero
theorem zero_xor8 (a : UInt8) : 0 ^^^ a = a := UInt8.zero_xor
theorem xor_assoc8 (a b c : UInt8) : a ^^^ b ^^^ c = a ^^^ (b ^^^ c) := UInt8.xor_assoc a b c
theorem t3_zero : t3 0 = 0 := by decide

def it : Nat → UInt8 → UInt8
  | 0, a => a
  | n + 1, a => t3 (it n a)
theorem it_zero : ∀ n, it n 0 = 0
  | 0 => rfl
  | n + 1 => by rw [it, it_zero n, t3_zero]
theorem it_add : ∀ (m n : Nat) (a : UInt8), it m (it n a) = it (n + m) a
  | 0, _, _ => rfl
  | m + 1, n, a => by rw [it, it_add m]; rfl
theorem pw_it : ∀ n, pw n = it n 1
  | 0 => rfl
  | n + 1 => by rw [pw, pw_it n]; rfl
theorem it_pw (m n : Nat) : it m (pw n) = pw (n + m) := by rw [pw_it, pw_it, it_add]

/-- The powers in a row. -/
def pwL : Nat → UInt8 → List UInt8
  | 0, _ => []
  | n + 1, x => x :: pwL n (t3 x)
theorem pwL_len : ∀ n x, (pwL n x).length = n
  | 0, _ => rfl
  | n + 1, x => by simp [pwL, pwL_len n]
theorem pwL_get : ∀ (n : Nat) (x : UInt8) (k : Nat) (h : k < n), (pwL n x)[k]? = some (it k x)
  | 0, _, _, h => by omega
  | n + 1, x, 0, _ => rfl
  | n + 1, x, k + 1, h => by
    rw [pwL, List.getElem?_cons_succ, pwL_get n (t3 x) k (by omega)]
    have := it_add k 1 x
    rw [show it 1 x = t3 x from rfl, Nat.add_comm] at this
    rw [this]
def memB : List UInt8 → Nat → Bool
  | [], _ => false
  | x :: l, a => Nat.beq x.toNat a || memB l a
def nodupB : List UInt8 → Bool
  | [] => true
  | x :: l => !memB l x.toNat && nodupB l
theorem memB_iff : ∀ (l : List UInt8) (a : UInt8), memB l a.toNat = true ↔ a ∈ l
  | [], a => by simp [memB]
  | x :: l, a => by
    rw [memB, Bool.or_eq_true, memB_iff l a, List.mem_cons]
    refine or_congr ⟨fun h => ?_, fun h => ?_⟩ Iff.rfl
    · exact (UInt8.toNat_inj.1 (Nat.eq_of_beq_eq_true h)).symm
    · rw [h]; exact Nat.beq_refl _
theorem nodupB_ok : ∀ (l : List UInt8), nodupB l = true → l.Nodup
  | [], _ => List.nodup_nil
  | x :: l, h => by
    rw [nodupB, Bool.and_eq_true, Bool.not_eq_true', ← Bool.not_eq_true, memB_iff] at h
    exact List.nodup_cons.2 ⟨h.1, nodupB_ok l h.2⟩
theorem pwL_nodup : (pwL 255 1).Nodup := nodupB_ok _ (by kernel_rfl)
theorem pwL_all (a : UInt8) (h : a ≠ 0) : a ∈ pwL 255 1 := by
  have := all256 (p := fun a => Nat.beq a.toNat 0 || memB (pwL 255 1) a.toNat) (by kernel_rfl) a
  rw [Bool.or_eq_true, memB_iff] at this
  rcases this with h1 | h1
  · exact absurd (UInt8.toNat_inj.1 (Nat.eq_of_beq_eq_true h1)) h
  · exact h1
theorem pw_255 : pw 255 = 1 := by kernel_rfl

theorem pw_inj (i j : Nat) (hi : i < 255) (hj : j < 255) (h : pw i = pw j) : i = j := by
  have h1 := pwL_get 255 1 i hi
  have h2 := pwL_get 255 1 j hj
  rw [← pw_it] at h1 h2
  rw [← h] at h2
  exact (List.getElem?_inj (by rw [pwL_len]; exact hi) pwL_nodup).1 (h1.trans h2.symm)
theorem exists_pw (a : UInt8) (h : a ≠ 0) : ∃ k, k < 255 ∧ pw k = a := by
  obtain ⟨k, hk, e⟩ := List.mem_iff_getElem.1 (pwL_all a h)
  rw [pwL_len] at hk
  have := pwL_get 255 1 k hk
  rw [List.getElem?_eq_getElem (by rw [pwL_len]; exact hk), e, ← pw_it] at this
  exact ⟨k, hk, (Option.some.inj this).symm⟩
theorem pw_ne (k : Nat) : pw k ≠ 0 := by
  have key : ∀ a : UInt8, t3 a = 0 → a = 0 := by
    intro a h
    have := all256 (p := fun a => !Nat.beq (t3 a).toNat 0 || Nat.beq a.toNat 0) (by kernel_rfl) a
    rw [h] at this
    exact UInt8.toNat_inj.1 (Nat.eq_of_beq_eq_true (by simpa using this))
  induction k with
  | zero => decide
  | succ k ih => exact fun h => ih (key _ h)
theorem pw_add255 (k : Nat) : pw (k + 255) = pw k := by
  have := it_pw k 255
  rw [pw_255, ← pw_it, Nat.add_comm] at this
  exact this.symm
theorem pw_mod (k : Nat) : pw (k % 255) = pw k := by
  have key : ∀ q r, pw (r + 255 * q) = pw r := by
    intro q
    induction q with
    | zero => intro r; rfl
    | succ q ih => intro r; rw [Nat.mul_succ, ← Nat.add_assoc, pw_add255, ih]
  have := key (k / 255) (k % 255)
  rw [Nat.mod_add_div] at this
  exact this.symm
theorem lgTo_pw (k : Nat) (hk : k < 255) : ∀ n, n ≤ 255 → k < n → lgTo (pw k) n = k
  | 0, _, h => by omega
  | n + 1, hn, h => by
    unfold lgTo
    by_cases e : n = k
    · subst e; simp
    · have : pw n ≠ pw k := fun h2 => e (pw_inj n k (by omega) hk h2)
      rw [if_neg this]
      exact lgTo_pw k hk n (by omega) (by omega)
theorem lg_pw (k : Nat) : lg (pw k) = k % 255 := by
  rw [← pw_mod]
  exact lgTo_pw _ (Nat.mod_lt _ (by omega)) 255 (Nat.le_refl _) (Nat.mod_lt _ (by omega))
theorem pw_lg (a : UInt8) (h : a ≠ 0) : pw (lg a) = a := by
  obtain ⟨k, hk, rfl⟩ := exists_pw a h
  rw [lg_pw, pw_mod]

theorem mul_pw (a : UInt8) (k : Nat) : mul a (pw k) = it k a := by
  unfold mul
  by_cases h : a = 0
  · subst h; rw [if_pos (.inl rfl), it_zero]
  · rw [if_neg (by simp [h, pw_ne]), lg_pw, Nat.add_mod_mod, pw_mod, ← it_pw, pw_lg a h]
theorem mul_zero (a : UInt8) : mul a 0 = 0 := by simp [mul]
theorem zero_mul (a : UInt8) : mul 0 a = 0 := by simp [mul]
theorem mul_comm (a b : UInt8) : mul a b = mul b a := by
  unfold mul
  rw [Nat.add_comm]
  simp only [or_comm]
theorem mul_assoc (a b c : UInt8) : mul (mul a b) c = mul a (mul b c) := by
  by_cases h : c = 0
  · subst h; simp [mul_zero]
  · by_cases h2 : b = 0
    · subst h2; simp [mul_zero, zero_mul]
    · obtain ⟨k, _, rfl⟩ := exists_pw c h
      obtain ⟨j, _, rfl⟩ := exists_pw b h2
      rw [mul_pw, mul_pw, mul_pw, it_pw, mul_pw, it_add]
theorem mul_one (a : UInt8) : mul a 1 = a := mul_pw a 0
theorem one_mul (a : UInt8) : mul 1 a = a := by rw [mul_comm, mul_one]
/-- What Inv answers. -/
def inv (a : UInt8) : UInt8 := pw ((255 - lg a) % 255)
theorem mul_inv (a : UInt8) (h : a ≠ 0) : mul a (inv a) = 1 := by
  unfold inv
  rw [pw_mod, mul_pw]
  have h1 := lg_lt a
  have : it (255 - lg a) (pw (lg a)) = pw (lg a + (255 - lg a)) := it_pw _ _
  rw [pw_lg a h, show lg a + (255 - lg a) = 255 by omega, pw_255] at this
  exact this
theorem mul_eq_zero (a b : UInt8) : mul a b = 0 ↔ a = 0 ∨ b = 0 := by
  constructor
  · intro h
    by_cases hb : b = 0
    · exact .inr hb
    · left
      have : mul (mul a b) (inv b) = a := by rw [mul_assoc, mul_inv b hb, mul_one]
      rw [h, zero_mul] at this
      exact this.symm
  · rintro (rfl | rfl)
    · exact zero_mul _
    · exact mul_zero _

end Go.Bw
namespace Go.Bw
set_option linter.unusedVariables false
set_option linter.unusedSimpArgs false
theorem addS_getD (c : UInt8) (a b : List UInt8) (h : a.length = b.length) (j : Nat) : (addS c a b).getD j 0 = a.getD j 0 ^^^ mul (b.getD j 0) c := by
  rw [addS, eachR, if_pos h]
  simp only [List.getD_eq_getElem?_getD, List.getElem?_zipWith]
  by_cases hj : j < a.length
  · have hb : j < b.length := by omega
    simp [hj, hb]
  · have hb : ¬ j < b.length := by omega
    simp [hj, hb, zero_mul]

/-- A place in a row: in its coefficients, or in its payload. -/
abbrev Pl := Nat ⊕ Nat
def ent (r : RowD) : Pl → UInt8
  | .inl j => r.1.getD j 0
  | .inr j => r.2.getD j 0
theorem plus_ent {g s : Nat} {r x : RowD} (hr : RowGS g s r) (hx : RowGS g s x) (c : UInt8) (i : Pl) : ent (plusR r x c) i = ent r i ^^^ mul (ent x i) c := by
  cases i with
  | inl j => exact addS_getD c r.1 x.1 (hr.1.trans hx.1.symm) j
  | inr j => exact addS_getD c r.2 x.2 (hr.2.trans hx.2.symm) j

/-- Sums. -/
def S (rows : List RowD) (cf : RowD → UInt8) (i : Pl) : UInt8 :=
  match rows with
  | [] => 0
  | x :: rows => mul (ent x i) (cf x) ^^^ S rows cf i
theorem S_zero : ∀ (rows : List RowD) (f : RowD → UInt8) (i : Pl), (∀ x ∈ rows, f x = 0 ∨ ent x i = 0) → S rows f i = 0
  | [], _, _, _ => rfl
  | x :: rows, f, i, h => by
    rw [S, S_zero rows f i (fun y hy => h y (by simp [hy])), xor_zero8, mul_eq_zero]
    rcases h x (by simp) with h1 | h1
    · exact .inr h1
    · exact .inl h1
theorem S_app : ∀ (a b : List RowD) (f : RowD → UInt8) (i : Pl), S (a ++ b) f i = S a f i ^^^ S b f i
  | [], b, f, i => by rw [List.nil_append, S, zero_xor8]
  | x :: a, b, f, i => by rw [List.cons_append, S, S, S_app a b f i, xor_assoc8]
theorem fold_ent {g s : Nat} : ∀ (rows : List RowD) (cf : RowD → UInt8) (r : RowD), RowGS g s r → (∀ x ∈ rows, RowGS g s x) → ∀ i, ent (rows.foldl (fun a x => plusR a x (cf x)) r) i = ent r i ^^^ S rows cf i
  | [], _, r, h, _, i => by rw [S, xor_zero8]; rfl
  | x :: rows, cf, r, h, hx, i => by
    rw [List.foldl_cons, fold_ent rows cf _ (plusR_gs h (hx x (by simp)) _) (fun y hy => hx y (by simp [hy])), plus_ent h (hx x (by simp)), S, xor_assoc8]

/-- The place of a row's lead. -/
def ldp (x : RowD) : Nat := (lead x.1).toNat
/-- A basis in reduced form. -/
structure Red (g s : Nat) (rows : List RowD) : Prop where
  gs : ∀ x ∈ rows, RowGS g s x
  ld : ∀ x ∈ rows, 0 ≤ lead x.1
  asc : rows.Pairwise fun x y => lead x.1 < lead y.1
  one : ∀ x ∈ rows, ent x (.inl (ldp x)) = 1
  zero : ∀ x ∈ rows, ∀ y ∈ rows, lead y.1 ≠ lead x.1 → ent y (.inl (ldp x)) = 0

theorem Red.nil (g s : Nat) : Red g s [] := ⟨by simp, by simp, List.Pairwise.nil, by simp, by simp⟩
theorem Red.inj {g s : Nat} {rows : List RowD} (h : Red g s rows) {x y : RowD} (hx : x ∈ rows) (hy : y ∈ rows) (e : lead x.1 = lead y.1) : x = y := by
  have key : ∀ l : List RowD, l.Pairwise (fun x y => lead x.1 < lead y.1) → ∀ x ∈ l, ∀ y ∈ l, lead x.1 = lead y.1 → x = y := by
    intro l hl
    induction hl with
    | nil => intro x hx; cases hx
    | cons hz _ ih =>
      intro x hx y hy e
      rcases List.mem_cons.1 hx with h1 | h1 <;> rcases List.mem_cons.1 hy with h2 | h2
      · rw [h1, h2]
      · have := hz y h2; rw [← h1] at this; omega
      · have := hz x h1; rw [← h2] at this; omega
      · exact ih x h1 y h2 e
  exact key rows h.asc x hx y hy e
theorem Red.S_at {g s : Nat} {rows : List RowD} (h : Red g s rows) (cf : RowD → UInt8) {x : RowD} (hx : x ∈ rows) : S rows cf (.inl (ldp x)) = cf x := by
  obtain ⟨a, b, rfl⟩ := List.append_of_mem hx
  have hp := List.pairwise_append.1 h.asc
  have hpc := List.pairwise_cons.1 hp.2.1
  rw [S_app, S, h.one x hx, one_mul, S_zero a, S_zero b, zero_xor8, xor_zero8]
  · intro y hy
    exact .inr (h.zero x hx y (by simp [hy]) (by have := hpc.1 y hy; omega))
  · intro y hy
    exact .inr (h.zero x hx y (by simp [hy]) (by have := hp.2.2 y hy x (by simp); omega))

theorem stepR_eq (r x : RowD) : stepR r x = plusR r x (ent r (.inl (ldp x))) := rfl
theorem redR_fold {g s : Nat} {rows : List RowD} (h : Red g s rows) (r : RowD) (hr : RowGS g s r) : redR rows r = rows.foldl (fun a x => plusR a x (ent r (.inl (ldp x)))) r := by
  have key : ∀ (l : List RowD) (acc : RowD), (∀ x ∈ l, x ∈ rows) → l.Pairwise (fun x y => lead x.1 < lead y.1) → RowGS g s acc → (∀ x ∈ l, ent acc (.inl (ldp x)) = ent r (.inl (ldp x))) →
      l.foldl stepR acc = l.foldl (fun a x => plusR a x (ent r (.inl (ldp x)))) acc := by
    intro l
    induction l with
    | nil => intro acc _ _ _ _; rfl
    | cons x l ih =>
      intro acc hm hp hg he
      have hpc := List.pairwise_cons.1 hp
      have hxg := h.gs x (hm x (by simp))
      rw [List.foldl_cons, List.foldl_cons, stepR_eq, he x (by simp)]
      refine ih _ (fun y hy => hm y (by simp [hy])) hpc.2 (plusR_gs hg hxg _) (fun y hy => ?_)
      rw [plus_ent hg hxg, h.zero y (hm y (by simp [hy])) x (hm x (by simp)) (by have := hpc.1 y hy; omega), zero_mul, xor_zero8]
      exact he y (by simp [hy])
  exact key rows r (fun _ hx => hx) h.asc hr (fun _ _ => rfl)
theorem redR_ent {g s : Nat} {rows : List RowD} (h : Red g s rows) (r : RowD) (hr : RowGS g s r) (i : Pl) : ent (redR rows r) i = ent r i ^^^ S rows (fun x => ent r (.inl (ldp x))) i := by
  rw [redR_fold h r hr]
  exact fold_ent rows (fun x => ent r (.inl (ldp x))) r hr h.gs i
theorem redR_at {g s : Nat} {rows : List RowD} (h : Red g s rows) (r : RowD) (hr : RowGS g s r) {x : RowD} (hx : x ∈ rows) : ent (redR rows r) (.inl (ldp x)) = 0 := by
  rw [redR_ent h r hr, h.S_at _ hx, xor_self8]

theorem lead_of {l : List UInt8} {i : Nat} (h1 : l.getD i 0 ≠ 0) (h2 : ∀ j, j < i → l.getD j 0 = 0) : lead l = (i : Int) := by
  have hi : i < l.length := by
    rcases Nat.lt_or_ge i l.length with h | h
    · exact h
    · exact absurd (by rw [List.getD_eq_getElem?_getD, List.getElem?_eq_none h]; rfl) h1
  have hf : l.findIdx? (fun x => decide (x ≠ 0)) = some i := by
    rw [List.findIdx?_eq_some_iff_getElem]
    refine ⟨hi, by simpa [hi] using h1, fun j hj => ?_⟩
    have := h2 j hj
    have hjl : j < l.length := by omega
    simpa [hjl] using this
  unfold lead idxFrom
  rw [List.drop_zero, hf]
  simp
theorem lead_ent {x : RowD} (h : 0 ≤ lead x.1) : ent x (.inl (ldp x)) ≠ 0 ∧ ∀ j, j < ldp x → ent x (.inl j) = 0 := by
  obtain ⟨i, hi⟩ := Int.eq_ofNat_of_zero_le h
  obtain ⟨h2, h3, h4⟩ := lead_some hi
  have e : ldp x = i := by unfold ldp; omega
  rw [e]
  refine ⟨by simpa [ent, h2] using h3, fun j hj => ?_⟩
  have h5 : j < x.1.length := by omega
  simpa [ent, h5] using h4 j hj
theorem lead_lt_of {x : RowD} (h : 0 ≤ lead x.1) : (ldp x : Int) = lead x.1 := by unfold ldp; omega

theorem map_getD (l : List UInt8) (f : UInt8 → UInt8) (h : f 0 = 0) (j : Nat) : (l.map f).getD j 0 = f (l.getD j 0) := by
  simp only [List.getD_eq_getElem?_getD, List.getElem?_map]
  cases l[j]? <;> simp [h]
theorem norm_ent (q : RowD) (i : Pl) : ent (normR q) i = mul (ent q i) (inv (ent q (.inl (ldp q)))) := by
  cases i with
  | inl j => exact map_getD q.1 (fun x => mul x (inv (ent q (.inl (ldp q))))) (zero_mul _) j
  | inr j => exact map_getD q.2 (fun x => mul x (inv (ent q (.inl (ldp q))))) (zero_mul _) j
theorem norm_gs {g s : Nat} {q : RowD} (h : RowGS g s q) : RowGS g s (normR q) := ⟨by simpa [normR] using h.1, by simpa [normR] using h.2⟩
theorem norm_lead {q : RowD} (h : 0 ≤ lead q.1) : lead (normR q).1 = lead q.1 ∧ ent (normR q) (.inl (ldp q)) = 1 := by
  obtain ⟨h1, h2⟩ := lead_ent h
  have e1 : ent (normR q) (.inl (ldp q)) = 1 := by rw [norm_ent, mul_inv _ h1]
  refine ⟨?_, e1⟩
  rw [← lead_lt_of h]
  refine lead_of (l := (normR q).1) ?_ ?_
  · show ent (normR q) (.inl (ldp q)) ≠ 0
    rw [e1]; decide
  · intro j hj
    show ent (normR q) (.inl j) = 0
    rw [norm_ent, h2 j hj, zero_mul]

section
variable {g s : Nat} {rows : List RowD} {q : RowD}
/-- A new row's place is free. -/
theorem free_ent (h : Red g s rows) (hq : RowGS g s q) {x : RowD} (hx : x ∈ rows) (i : Pl) : ent (freeR q x) i = ent x i ^^^ mul (ent (normR q) i) (ent x (.inl (ldp q))) := plus_ent (h.gs x hx) (norm_gs hq) _ i
theorem free_lead (h : Red g s rows) (hq : RowGS g s q) (hld : 0 ≤ lead q.1) (h0 : ∀ x ∈ rows, ent q (.inl (ldp x)) = 0) {x : RowD} (hx : x ∈ rows) : lead (freeR q x).1 = lead x.1 := by
  have hxl := h.ld x hx
  obtain ⟨h1, h2⟩ := lead_ent hxl
  obtain ⟨h3, h4⟩ := lead_ent hld
  rw [← lead_lt_of hxl]
  refine lead_of (l := (freeR q x).1) ?_ ?_
  · show ent (freeR q x) (.inl (ldp x)) ≠ 0
    rw [free_ent h hq hx, norm_ent, h0 x hx, zero_mul, zero_mul, xor_zero8]
    exact h1
  · intro j hj
    show ent (freeR q x) (.inl j) = 0
    rw [free_ent h hq hx, h2 j hj, zero_xor8, mul_eq_zero]
    by_cases hj2 : j < ldp q
    · left; rw [norm_ent, h4 j hj2, zero_mul]
    · right; exact h2 _ (by omega)
theorem lead_ne (h : Red g s rows) (hld : 0 ≤ lead q.1) (h0 : ∀ x ∈ rows, ent q (.inl (ldp x)) = 0) {x : RowD} (hx : x ∈ rows) : lead x.1 ≠ lead q.1 := by
  intro e
  obtain ⟨h3, _⟩ := lead_ent hld
  have := h0 x hx
  unfold ldp at this h3
  rw [e] at this
  exact h3 this
theorem ins_perm {α : Type} (l : List α) (i : Nat) (x : α) : (insAt l i x).Perm (x :: l) := by
  unfold insAt
  have h : (l.take i ++ [x] ++ l.drop i).Perm (x :: (l.take i ++ l.drop i)) := by
    rw [List.append_assoc, List.singleton_append]
    exact List.perm_middle
  rwa [List.take_append_drop] at h
theorem mem_ins {α : Type} {l : List α} {i : Nat} {x y : α} : y ∈ insAt l i x ↔ y = x ∨ y ∈ l := by
  rw [(ins_perm l i x).mem_iff, List.mem_cons]
theorem place_split : ∀ (rows : List RowD) (L : Int), rows.Pairwise (fun x y => lead x.1 < lead y.1) → (∀ x ∈ rows, lead x.1 ≠ L) → (∀ x ∈ rows.take (placeOf rows L), lead x.1 < L) ∧ ∀ x ∈ rows.drop (placeOf rows L), L < lead x.1
  | [], _, _, _ => by simp [placeOf]
  | x :: rows, L, hp, hne => by
    have hpc := List.pairwise_cons.1 hp
    unfold placeOf
    split
    · rename_i hgt
      refine ⟨by simp, fun y hy => ?_⟩
      rw [List.drop_zero] at hy
      rcases List.mem_cons.1 hy with h1 | h1
      · rw [h1]; omega
      · have := hpc.1 y h1; omega
    · rename_i hgt
      obtain ⟨h1, h2⟩ := place_split rows L hpc.2 (fun y hy => hne y (by simp [hy]))
      refine ⟨fun y hy => ?_, fun y hy => h2 y (by simpa using hy)⟩
      rw [List.take_succ_cons] at hy
      rcases List.mem_cons.1 hy with h3 | h3
      · rw [h3]; have := hne x (by simp); omega
      · exact h1 y h3

/-- The basis with a new row is reduced. -/
theorem Red.ins (h : Red g s rows) (hq : RowGS g s q) (hld : 0 ≤ lead q.1) (h0 : ∀ x ∈ rows, ent q (.inl (ldp x)) = 0) :
    Red g s (insAt (rows.map (freeR q)) (placeOf rows (lead q.1)) (normR q)) := by
  have hn := norm_lead hld
  have hldp : ldp (normR q) = ldp q := by unfold ldp; rw [hn.1]
  have hfl : ∀ x ∈ rows, lead (freeR q x).1 = lead x.1 := fun x hx => free_lead h hq hld h0 hx
  have hfp : ∀ x ∈ rows, ldp (freeR q x) = ldp x := fun x hx => by unfold ldp; rw [hfl x hx]
  have hmem : ∀ y, y ∈ insAt (rows.map (freeR q)) (placeOf rows (lead q.1)) (normR q) → y = normR q ∨ ∃ x ∈ rows, y = freeR q x := by
    intro y hy
    rcases mem_ins.1 hy with h1 | h1
    · exact .inl h1
    · obtain ⟨x, hx, e⟩ := List.mem_map.1 h1
      exact .inr ⟨x, hx, e.symm⟩
  have hsp := place_split rows (lead q.1) h.asc (fun x hx => lead_ne h hld h0 hx)
  refine ⟨?_, ?_, ?_, ?_, ?_⟩
  · intro y hy
    rcases hmem y hy with rfl | ⟨x, hx, rfl⟩
    · exact norm_gs hq
    · exact plusR_gs (h.gs x hx) (norm_gs hq) _
  · intro y hy
    rcases hmem y hy with rfl | ⟨x, hx, rfl⟩
    · rw [hn.1]; exact hld
    · rw [hfl x hx]; exact h.ld x hx
  · unfold insAt
    have hm : (rows.map (freeR q)).Pairwise (fun x y => lead x.1 < lead y.1) := by
      rw [List.pairwise_map]
      exact h.asc.imp_of_mem fun ha hb hab => by rw [hfl _ ha, hfl _ hb]; exact hab
    rw [List.append_assoc, List.pairwise_append]
    refine ⟨hm.sublist (List.take_sublist _ _), ?_, ?_⟩
    · rw [List.singleton_append, List.pairwise_cons]
      refine ⟨fun y hy => ?_, hm.sublist (List.drop_sublist _ _)⟩
      rw [← List.map_drop] at hy
      obtain ⟨x, hx, rfl⟩ := List.mem_map.1 hy
      rw [hn.1, hfl x (List.mem_of_mem_drop hx)]
      exact hsp.2 x hx
    · intro y hy z hz
      rw [← List.map_take] at hy
      obtain ⟨x, hx, rfl⟩ := List.mem_map.1 hy
      have hx' := List.mem_of_mem_take hx
      rw [hfl x hx']
      rcases List.mem_append.1 hz with h1 | h1
      · rw [List.mem_singleton.1 h1, hn.1]; exact hsp.1 x hx
      · rw [← List.map_drop] at h1
        obtain ⟨x2, hx2, rfl⟩ := List.mem_map.1 h1
        rw [hfl x2 (List.mem_of_mem_drop hx2)]
        have := hsp.1 x hx
        have := hsp.2 x2 hx2
        omega
  · intro y hy
    rcases hmem y hy with rfl | ⟨x, hx, rfl⟩
    · rw [hldp]; exact hn.2
    · rw [hfp x hx, free_ent h hq hx, norm_ent, h0 x hx, zero_mul, zero_mul, xor_zero8]
      exact h.one x hx
  · intro y hy z hz hne
    rcases hmem y hy with rfl | ⟨x, hx, rfl⟩ <;> rcases hmem z hz with rfl | ⟨x2, hx2, rfl⟩
    · exact absurd rfl hne
    · rw [hldp, free_ent h hq hx2, hn.2, one_mul, xor_self8]
    · rw [hfp x hx, norm_ent, h0 x hx, zero_mul]
    · rw [hfp x hx, free_ent h hq hx2, norm_ent, h0 x hx, zero_mul, zero_mul, xor_zero8]
      exact h.zero x hx x2 hx2 (by rwa [hfl x hx, hfl x2 hx2] at hne)

end
end Go.Bw
namespace Go.Bw
set_option linter.unusedVariables false
set_option linter.unusedSimpArgs false
/-- One place of coefficients times symbols. -/
def T : List (List UInt8) → List UInt8 → Nat → UInt8
  | y :: ys, c :: cs, j => mul (y.getD j 0) c ^^^ T ys cs j
  | _, _, _ => 0
end Go.Bw
namespace Go.Bw
set_option linter.unusedVariables false
set_option linter.unusedSimpArgs false
section
variable {g s : Nat} {ys : List (List UInt8)} {b : List RowD} {r : RowD}
theorem insR_out (hr : RowGS g s r) (h : lead (redR b r).1 < 0) : insR g s b r = (false, b) := by rw [insR, if_pos (show r.1.length = g ∧ r.2.length = s from hr), if_pos h]
theorem insR_in (hr : RowGS g s r) (h : ¬ lead (redR b r).1 < 0) : insR g s b r = (true, insAt (b.map (freeR (redR b r))) (placeOf b (lead (redR b r).1)) (normR (redR b r))) := by rw [insR, if_pos (show r.1.length = g ∧ r.2.length = s from hr), if_neg h]
theorem asc_len : ∀ (l : List Int) (lo hi : Int), l.Pairwise (· < ·) → (∀ x ∈ l, lo ≤ x ∧ x < hi) → (l.length : Int) ≤ max 0 (hi - lo)
  | [], lo, hi, _, _ => by simp; omega
  | x :: l, lo, hi, hp, hb => by
    have hpc := List.pairwise_cons.1 hp
    have hx := hb x (by simp)
    have := asc_len l (x + 1) hi hpc.2 (fun y hy => ⟨by have := hpc.1 y hy; omega, (hb y (by simp [hy])).2⟩)
    simp only [List.length_cons]
    omega
theorem Red.len (h : Red g s b) : b.length ≤ g := by
  have := asc_len (b.map (fun x => lead x.1)) 0 g (by rw [List.pairwise_map]; exact h.asc) (by
    intro v hv
    obtain ⟨x, hx, rfl⟩ := List.mem_map.1 hv
    have h1 := h.ld x hx
    have h2 := lead_lt h1
    have h3 := (h.gs x hx).1
    omega)
  simp at this
  omega
end
end Go.Bw
namespace Go.Bw
set_option linter.unusedVariables false
set_option linter.unusedSimpArgs false
section
variable {g s : Nat} {ys : List (List UInt8)} {b A C : List RowD} {r : RowD}
end
end Go.Bw
namespace Go.Bw
set_option linter.unusedVariables false
set_option linter.unusedSimpArgs false
open Go.Proofs
/-- Of each slot: the block of its basis, and where that has its rows; none: it has no basis. -/
abbrev Slots := List (Option (Nat × Value))
def slotV : Option (Nat × Value) → Value
  | none => .pointer none
  | some p => ptr p.1
def slotM (g s : Nat) (t : Bool) : Option (Nat × Value) → Mem
  | none => []
  | some p => [(p.1, basisObj g s p.2, t)]
def slotMem (g s : Nat) (t : Bool) (l : Slots) : Mem := l.flatMap (slotM g s t)
def winObj (base width : Nat) : Obj := .cells #[.int .u64 (base : Int), .int .i64 (width : Int)] 192
def relObj (g s wb : Nat) (l : Slots) : Obj := .cells (.int .i64 (g : Int) :: .int .i64 (s : Int) :: ptr wb :: l.map slotV).toArray 131

theorem slots_split {l : Slots} {i : Nat} {x : Option (Nat × Value)} (h : l[i]? = some x) (y : Option (Nat × Value)) : l = l.take i ++ x :: l.drop (i + 1) ∧ l.set i y = l.take i ++ y :: l.drop (i + 1) := by
  have hi : i < l.length := (List.getElem?_eq_some_iff.1 h).1
  have hx : l[i] = x := by rw [List.getElem?_eq_getElem hi] at h; exact Option.some.inj h
  refine ⟨?_, List.set_eq_take_append_cons_drop .. |>.trans (by rw [if_pos hi])⟩
  rw [← hx, ← List.drop_eq_getElem_cons hi, List.take_append_drop]
theorem slotMem_perm (g s : Nat) (t : Bool) {l : Slots} {i : Nat} {x : Option (Nat × Value)} (h : l[i]? = some x) (y : Option (Nat × Value)) : (slotMem g s t (l.set i y)).Perm (slotM g s t y ++ slotMem g s t (l.set i none)) := by
  obtain ⟨_, h2⟩ := slots_split h y
  obtain ⟨_, h3⟩ := slots_split h none
  rw [h2, h3]
  simp only [slotMem, List.flatMap_append, List.flatMap_cons, slotM, List.nil_append]
  rw [← List.append_assoc, ← List.append_assoc]
  exact (List.perm_append_comm).append_right _
theorem slotMem_same (g s : Nat) (t : Bool) {l : Slots} {i : Nat} {x : Option (Nat × Value)} (h : l[i]? = some x) : (slotMem g s t l).Perm (slotM g s t x ++ slotMem g s t (l.set i none)) := by
  have := slotMem_perm g s t h x
  rwa [show l.set i x = l from by
    have hi : i < l.length := (List.getElem?_eq_some_iff.1 h).1
    have hx : l[i] = x := by rw [List.getElem?_eq_getElem hi] at h; exact Option.some.inj h
    rw [← hx, List.set_getElem_self]] at this
theorem slotMem_flags (g s : Nat) (l : Slots) : ∀ p ∈ slotMem g s true l, p.2.2 = true := by
  intro p hp
  obtain ⟨x, _, hx⟩ := List.mem_flatMap.1 hp
  cases x with
  | none => cases hx
  | some q => rw [List.mem_singleton.1 hx]

structure RelD where
  g : Nat
  s : Nat
  base : Nat
  width : Nat
  rows : Nat → List RowD
structure RelOk (x : RelD) : Prop where
  g1 : 1 ≤ x.g
  g2 : x.g ≤ 255
  s1 : 1 ≤ x.s
  s2 : x.s ≤ 65535
  w1 : 1 ≤ x.width
  w2 : x.width ≤ 16
  b : x.base ≤ 1099511627776
  red : ∀ i, Red x.g x.s (x.rows i)
def slotOk (H : Hp) (rows : List RowD) : Option (Nat × Value) → Prop
  | none => rows = []
  | some p => Rws H p.2 rows
theorem slotOk.mono {H H' : Hp} {rows : List RowD} {x : Option (Nat × Value)} (h : slotOk H rows x) (hle : Hp.le H H') : slotOk H' rows x := by
  cases x with
  | none => exact h
  | some p => exact Rws.mono h hle
def SlotsOk (H : Hp) (x : RelD) (l : Slots) : Prop := l.length = 16 ∧ ∀ i y, l[i]? = some y → slotOk H (x.rows i) y
theorem SlotsOk.mono {H H' : Hp} {x : RelD} {l : Slots} (h : SlotsOk H x l) (hle : Hp.le H H') : SlotsOk H' x l := ⟨h.1, fun i y hy => (h.2 i y hy).mono hle⟩
/-- A relay's memory: its own block, its window's, its bases'. -/
def relMem (t : Bool) (x : RelD) (rb wb : Nat) (l : Slots) : Mem := (rb, relObj x.g x.s wb l, t) :: (wb, winObj x.base x.width, t) :: slotMem x.g x.s t l
theorem relMem_flags (x : RelD) (rb wb : Nat) (l : Slots) : (relMem true x rb wb l).all (·.2.2) = true := by
  rw [List.all_eq_true]
  intro p hp
  rcases List.mem_cons.1 hp with rfl | hp
  · rfl
  · rcases List.mem_cons.1 hp with rfl | hp
    · rfl
    · exact slotMem_flags _ _ _ p hp
/-- Which generations are in the window. -/
def RelD.end_ (x : RelD) : Nat := min (x.base + x.width) 1099511627776
def RelD.isIn (x : RelD) (gen : Nat) : Prop := x.base ≤ gen ∧ gen < x.end_
instance (x : RelD) (gen : Nat) : Decidable (x.isIn gen) := inferInstanceAs (Decidable (_ ∧ _))
/-- A slot's rows set. -/
def RelD.put (x : RelD) (gen : Nat) (rows : List RowD) : RelD := { x with rows := fun i => if i = gen % x.width then rows else x.rows i }
theorem insAny_red {g s : Nat} {A : List RowD} (h : Red g s A) (r : RowD) : Red g s (insR g s A r).2 := by
  by_cases hd : r.1.length = g ∧ r.2.length = s
  · have hr : RowGS g s r := hd
    by_cases hl : lead (redR A r).1 < 0
    · rw [insR_out hr hl]; exact h
    · rw [insR_in hr hl]
      exact h.ins (redR_gs A r hr h.gs) (by omega) (fun x hx => redR_at h r hr hx)
  · unfold insR
    rw [if_neg hd]
    exact h
theorem insAny_false {g s : Nat} {rows : List RowD} {r : RowD} (h : (insR g s rows r).1 = false) : (insR g s rows r).2 = rows := by
  unfold insR at h ⊢
  split
  · rename_i h1
    rw [if_pos h1] at h
    split
    · rfl
    · rename_i h2
      rw [if_neg h2] at h
      cases h
  · rfl
theorem RelOk.slot {x : RelD} (h : RelOk x) (gen : Nat) : gen % x.width < 16 := Nat.lt_of_lt_of_le (Nat.mod_lt _ h.w1) h.w2
theorem RelOk.put {x : RelD} (h : RelOk x) (gen : Nat) (rows : List RowD) (hr : Red x.g x.s rows) : RelOk (x.put gen rows) :=
  ⟨h.g1, h.g2, h.s1, h.s2, h.w1, h.w2, h.b, fun i => by
    show Red x.g x.s (if i = gen % x.width then rows else x.rows i)
    split
    · exact hr
    · exact h.red i⟩
theorem nth_slots (a b c : Value) (l : Slots) (i : Nat) (x : Option (Nat × Value)) (h : l[i]? = some x) : nth (a :: b :: c :: l.map slotV) (3 + i) = some (slotV x) := by
  rw [nth_eq, show 3 + i = i + 1 + 1 + 1 by omega]
  simp [h]
theorem setL_slots (a b c : Value) (l : Slots) (i : Nat) (y : Option (Nat × Value)) (hi : i < l.length) : setL (a :: b :: c :: l.map slotV) (3 + i) [slotV y] = a :: b :: c :: (l.set i y).map slotV := by
  have key : ∀ (m : List Value) (i : Nat) (v : Value), setL m i [v] = m.set i v := by
    intro m
    induction m with
    | nil => intro i v; simp [setL]
    | cons p m ih =>
      intro i v
      cases i with
      | zero => simp [setL, setL_nil]
      | succ i => simp [setL, ih]
  rw [key, show 3 + i = i + 1 + 1 + 1 by omega]
  simp [List.map_set]
theorem slotMem_keys (g s : Nat) (t : Bool) (l : Slots) : Mem.keys (slotMem g s t l) = Mem.keys (slotMem g s true l) := by
  unfold slotMem Mem.keys
  rw [List.map_flatMap, List.map_flatMap]
  congr 1
  funext x
  cases x <;> rfl
theorem slotMem_ro {g s : Nat} {l : Slots} {b : Nat} {o : Obj} {t : Bool} (h : (b, o, t) ∈ slotMem g s false l) : t = false ∧ (b, o, true) ∈ slotMem g s true l := by
  obtain ⟨x, hx, h1⟩ := List.mem_flatMap.1 h
  cases x with
  | none => cases h1
  | some p =>
    have := List.mem_singleton.1 h1
    cases this
    exact ⟨rfl, List.mem_flatMap.2 ⟨_, hx, by simp [slotM]⟩⟩
/-- A relay that is only read. -/
theorem HS.relRO {xs : List Nat} {H0 H : Hp} {w0 w : World} {x : RelD} {rb wb : Nat} {l : Slots} {Mr : Mem} (hs : HS xs H0 w0 H (relMem true x rb wb l ++ Mr) w) : HS [] H w H (relMem false x rb wb l) w := by
  refine HS.start [] hs.sub (fun b o t h => ?_) ?_
  · have h' : t = false ∧ (b, o, true) ∈ relMem true x rb wb l ++ Mr := by
      rcases List.mem_cons.1 h with e | h
      · cases e; exact ⟨rfl, by simp [relMem]⟩
      · rcases List.mem_cons.1 h with e | h
        · cases e; exact ⟨rfl, by simp [relMem]⟩
        · have := slotMem_ro h
          exact ⟨this.1, List.mem_append_left _ (List.mem_cons_of_mem _ (List.mem_cons_of_mem _ this.2))⟩
    have h1 := hs.mem b o true h'.2
    exact ⟨h1.1, h1.2.1, fun ht => by rw [h'.1] at ht; cases ht⟩
  · have h1 := hs.nd
    simp only [Mem.keys, List.map_append, List.nodup_append] at h1
    have h2 := h1.1
    have e : (relMem false x rb wb l).map (·.1) = (relMem true x rb wb l).map (·.1) := by
      have := slotMem_keys x.g x.s false l
      simp only [Mem.keys] at this
      simp [relMem, this]
    show ((relMem false x rb wb l).map (·.1)).Nodup
    rw [e]
    exact h2
/-- A relay that may be written. -/
theorem HS.relRW {xs : List Nat} {H0 H : Hp} {w0 w : World} {x : RelD} {rb wb : Nat} {l : Slots} {Mr : Mem} (hs : HS xs H0 w0 H (relMem true x rb wb l ++ Mr) w) : HS (Mem.keys (relMem true x rb wb l)) H w H (relMem true x rb wb l) w := by
  refine HS.start _ hs.sub (fun b o t h => ?_) ?_
  · have h1 := hs.mem b o t (List.mem_append_left _ h)
    exact ⟨h1.1, h1.2.1, fun _ => List.mem_map.2 ⟨_, h, rfl⟩⟩
  · have h1 := hs.nd
    simp only [Mem.keys, List.map_append, List.nodup_append] at h1
    exact h1.1
/-- A slot's basis comes first; and goes back. -/
theorem HS.slotOut {xs : List Nat} {H0 H : Hp} {w0 w : World} {g s : Nat} {t : Bool} {l : Slots} {A Mr : Mem} {i b : Nat} {rv : Value} (hs : HS xs H0 w0 H (A ++ (slotMem g s t l ++ Mr)) w) (h : l[i]? = some (some (b, rv))) :
    HS xs H0 w0 H ((b, basisObj g s rv, t) :: (A ++ (slotMem g s t (l.set i none) ++ Mr))) w := by
  refine hs.perm ?_
  have h1 := (slotMem_same g s t h).append_right Mr
  have h2 : (A ++ (slotMem g s t l ++ Mr)).Perm (A ++ ((b, basisObj g s rv, t) :: (slotMem g s t (l.set i none) ++ Mr))) := List.Perm.append_left A h1
  exact (h2.trans List.perm_middle).symm
theorem HS.slotIn {xs : List Nat} {H0 H : Hp} {w0 w : World} {g s : Nat} {t : Bool} {l : Slots} {A Mr : Mem} {i b : Nat} {rv : Value} {y : Option (Nat × Value)} (hs : HS xs H0 w0 H ((b, basisObj g s rv, t) :: (A ++ (slotMem g s t (l.set i none) ++ Mr))) w) (h : l[i]? = some y) :
    HS xs H0 w0 H (A ++ (slotMem g s t (l.set i (some (b, rv))) ++ Mr)) w := by
  refine hs.perm ?_
  have h1 := (slotMem_perm g s t h (some (b, rv))).append_right Mr
  have h2 : (A ++ (slotMem g s t (l.set i (some (b, rv))) ++ Mr)).Perm (A ++ ((b, basisObj g s rv, t) :: (slotMem g s t (l.set i none) ++ Mr))) := List.Perm.append_left A h1
  exact h2.trans List.perm_middle
end Go.Bw
namespace Go.Bw
set_option linter.unusedVariables false
set_option linter.unusedSimpArgs false
open Go.Proofs
theorem u64_wrap (n : Nat) (h : n < 18446744073709551616) : IntKind.u64.wrap (n : Int) = (n : Int) := IntWalk.u64_in _ (by omega)
set_option maxRecDepth 20000 in
set_option maxHeartbeats 2000000 in
theorem room_ok (g s : Int) (H0 : Hp) (w0 : World) (h0 : Sub H0 w0) :
    Calls Tryz.prog 62 #[.int .i64 g, .int .i64 s] w0 (Pure H0 w0 fun v _ => v = if 1 ≤ g ∧ g ≤ 255 ∧ 1 ≤ s ∧ s ≤ 65535 ∧ 4 < g * s then .tuple #[.int .i64 (g * s - 4), .int .i64 0] else .tuple #[.int .i64 0, .int .i64 1]) := by
  have hs := HS.init h0
  refine Calls.enter (args := [.int .i64 g, .int .i64 s]) Tryz.func62 rfl Tryz.ntmps62 rfl ?_
  refine WC.seq (WC.region (WO.step rfl (OR.assign rfl (WO.step rfl (OR.assign rfl (WO.done (WX.seq ?_)))))))
  refine WC.seq (WC.seq (WC.region (WO.step rfl (OR.move rfl (WO.step rfl (OR.lss rfl rfl (WO.step rfl ?_)))))))
  refine OR.move rfl ?_
  refine WO.guardSplit (j := 2) rfl (fun q1 => ?_) (fun q1 => ?_)
  · refine WO.guardNo rfl (decide_eq_true q1) rfl rfl (WO.guardNo rfl (decide_eq_true q1) rfl rfl (WO.step rfl (OR.pickT rfl (decide_eq_true q1) rfl (WO.step rfl (OR.move rfl (WO.guardNo rfl rfl rfl rfl (WO.guardNo rfl rfl rfl rfl ?_)))))))
    refine WO.step rfl (OR.pickT rfl rfl rfl (WO.step rfl (OR.move rfl (WO.guardNo rfl rfl rfl rfl (WO.guardNo rfl rfl rfl rfl (WO.step rfl (OR.pickT rfl rfl rfl ?_)))))))
    refine WO.step rfl (OR.move rfl (WO.guardNo rfl rfl rfl rfl (WO.guardNo rfl rfl rfl rfl (WO.guardNo rfl rfl rfl rfl (WO.guardNo rfl rfl rfl rfl (WO.step rfl (OR.pickT rfl rfl rfl ?_)))))))
    refine WO.done (WX.seq (WC.yes rfl rfl (WC.seq (WC.region (WO.step rfl (OR.assign rfl (WO.step rfl ?_)))))))
    refine OR.assign rfl (WO.done (WX.seq (WC.ret (WX.seq_ret ?_))))
    refine WX.ret2 rfl rfl rfl ?_
    exact .mk hs (by rw [if_neg (by omega)])
  · refine WO.guardYes rfl (decide_eq_false q1) rfl rfl (OR.move rfl (WO.guardYes rfl (decide_eq_false q1) rfl rfl (OR.gtr rfl rfl (WO.step rfl (OR.pickF rfl (decide_eq_false q1) rfl (WO.step rfl (OR.move rfl ?_)))))))
    refine WO.guardSplit (j := 6) rfl (fun q2 => ?_) (fun q2 => ?_)
    · refine WO.guardNo rfl (decide_eq_true q2) rfl rfl (WO.guardNo rfl (decide_eq_true q2) rfl rfl (WO.step rfl (OR.pickT rfl (decide_eq_true q2) rfl (WO.step rfl (OR.move rfl (WO.guardNo rfl rfl rfl rfl (WO.guardNo rfl rfl rfl rfl ?_)))))))
      refine WO.step rfl (OR.pickT rfl rfl rfl (WO.step rfl (OR.move rfl (WO.guardNo rfl rfl rfl rfl (WO.guardNo rfl rfl rfl rfl (WO.guardNo rfl rfl rfl rfl (WO.guardNo rfl rfl rfl rfl ?_)))))))
      refine WO.step rfl (OR.pickT rfl rfl rfl (WO.done (WX.seq (WC.yes rfl rfl (WC.seq (WC.region (WO.step rfl ?_)))))))
      refine OR.assign rfl (WO.step rfl (OR.assign rfl (WO.done (WX.seq (WC.ret (WX.seq_ret ?_))))))
      refine WX.ret2 rfl rfl rfl ?_
      exact .mk hs (by rw [if_neg (by omega)])
    · refine WO.guardYes rfl (decide_eq_false q2) rfl rfl (OR.move rfl (WO.guardYes rfl (decide_eq_false q2) rfl rfl (OR.lss rfl rfl (WO.step rfl (OR.pickF rfl (decide_eq_false q2) rfl (WO.step rfl (OR.move rfl ?_)))))))
      refine WO.guardSplit (j := 10) rfl (fun q3 => ?_) (fun q3 => ?_)
      · refine WO.guardNo rfl (decide_eq_true q3) rfl rfl (WO.guardNo rfl (decide_eq_true q3) rfl rfl (WO.step rfl (OR.pickT rfl (decide_eq_true q3) rfl (WO.step rfl (OR.move rfl (WO.guardNo rfl rfl rfl rfl (WO.guardNo rfl rfl rfl rfl ?_)))))))
        refine WO.guardNo rfl rfl rfl rfl (WO.guardNo rfl rfl rfl rfl (WO.step rfl (OR.pickT rfl rfl rfl (WO.done (WX.seq (WC.yes rfl rfl (WC.seq ?_)))))))
        refine WC.region (WO.step rfl (OR.assign rfl (WO.step rfl (OR.assign rfl (WO.done (WX.seq (WC.ret ?_)))))))
        refine WX.seq_ret ?_
        refine WX.ret2 rfl rfl rfl ?_
        exact .mk hs (by rw [if_neg (by omega)])
      · refine WO.guardYes rfl (decide_eq_false q3) rfl rfl (OR.move rfl (WO.guardYes rfl (decide_eq_false q3) rfl rfl (OR.gtr rfl rfl (WO.step rfl (OR.pickF rfl (decide_eq_false q3) rfl (WO.step rfl (OR.move rfl ?_)))))))
        refine WO.guardSplit (j := 14) rfl (fun q4 => ?_) (fun q4 => ?_)
        · refine WO.guardNo rfl (decide_eq_true q4) rfl rfl (WO.guardNo rfl (decide_eq_true q4) rfl rfl (WO.guardNo rfl (decide_eq_true q4) rfl rfl (WO.guardNo rfl (decide_eq_true q4) rfl rfl (WO.step rfl (OR.pickT rfl (decide_eq_true q4) rfl (WO.done (WX.seq ?_)))))))
          refine WC.yes rfl rfl (WC.seq (WC.region (WO.step rfl (OR.assign rfl (WO.step rfl (OR.assign rfl (WO.done ?_)))))))
          refine WX.seq (WC.ret (WX.seq_ret ?_))
          refine WX.ret2 rfl rfl rfl ?_
          exact .mk hs (by rw [if_neg (by omega)])
        · have hb1 : 0 ≤ g * s := Int.mul_nonneg (by omega) (by omega)
          have hb2 : g * s ≤ 255 * 65535 := Int.mul_le_mul (by omega) (by omega) (by omega) (by omega)
          refine WO.guardYes rfl (decide_eq_false q4) rfl rfl (OR.move rfl (WO.guardYes rfl (decide_eq_false q4) rfl rfl (OR.move rfl (WO.guardYes rfl (decide_eq_false q4) rfl rfl (OR.mulI rfl rfl (by omega) (by omega) (WO.guardYes rfl (decide_eq_false q4) rfl rfl (OR.leq rfl rfl ?_)))))))
          refine WO.step rfl (OR.pickF rfl (decide_eq_false q4) rfl (WO.done (WX.seq ?_)))
          refine WC.condD rfl (fun q5 => ?_) (fun q5 => ?_)
          · refine WC.seq (WC.region (WO.step rfl (OR.assign rfl (WO.step rfl (OR.assign rfl (WO.done (WX.seq ?_)))))))
            refine WC.ret (WX.seq_ret ?_)
            refine WX.ret2 rfl rfl rfl ?_
            exact .mk hs (by rw [if_neg (fun h => by have := h.2.2.2.2; omega)])
          · refine WC.skip (WX.seq (WC.seq (WC.region (WO.step rfl (OR.move rfl (WO.step rfl (OR.move rfl ?_)))))))
            refine WO.step rfl (OR.mulI rfl rfl (by omega) (by omega) (WO.step rfl (OR.subI rfl rfl (by omega) (by omega) (WO.step rfl (OR.assign rfl (WO.step rfl (OR.assign rfl ?_)))))))
            refine WO.done (WX.seq (WC.ret ?_))
            refine WX.ret2 rfl rfl rfl ?_
            exact .mk hs (by rw [if_pos ⟨by omega, by omega, by omega, by omega, by omega⟩])

theorem BytesL.single {H : Hp} {v c : Value} {l : List UInt8} (hs : Sl H 1 v 1 [c]) (hb : Bytes H c l) : BytesL H v [l] := by
  refine ⟨[c], hs, rfl, fun i h h' => ?_⟩
  cases i with
  | zero => exact hb
  | succ i => simp at h
/-- A published block, owned again. -/
theorem HS.unpub {xs : List Nat} {H0 H : Hp} {w0 w : World} {M : Mem} {g : Nat} {o : Obj} (h0 : Sub H0 w0) (hs : HS xs H0 w0 H M w) (hg : H g = some o) (hnew : w0.heap.size ≤ g) : HS xs H0 w0 (H.del g) ((g, o, true) :: M) w := by
  refine ⟨fun b u hb => ?_, fun b u hb => ?_, fun b u hb => ?_, hs.keep, hs.size, hs.os, hs.tape, hs.out, fun q u t hm => ?_, ?_⟩
  · have hne : b ≠ g := fun e => by
      have := lt_of_heap (h0 b u hb)
      omega
    unfold Hp.del
    rw [if_neg hne]
    exact hs.le b u hb
  · unfold Hp.del at hb
    split at hb
    · cases hb
    · exact hs.sub b u hb
  · unfold Hp.del at hb
    split at hb
    · cases hb
    · exact hs.new b u hb
  · rcases List.mem_cons.1 hm with e | hm
    · cases e
      exact ⟨hs.sub _ _ hg, by simp [Hp.del], fun _ => .inr hnew⟩
    · have h1 := hs.mem q u t hm
      refine ⟨h1.1, ?_, h1.2.2⟩
      unfold Hp.del
      split
      · rfl
      · exact h1.2.1
  · refine List.nodup_cons.2 ⟨?_, hs.nd⟩
    intro hm
    obtain ⟨⟨q, u, t⟩, h1, h2⟩ := List.mem_map.1 hm
    have h3 := (hs.mem q u t h1).2.1
    simp at h2
    subst h2
    rw [hg] at h3
    cases h3
theorem Hp.le_del {H H' : Hp} {g : Nat} (h : Hp.le H H') (hg : H g = none) : Hp.le H (H'.del g) := by
  intro b u hb
  have hne : b ≠ g := fun e => by rw [e, hg] at hb; cases hb
  unfold Hp.del
  rw [if_neg hne]
  exact h b u hb
end Go.Bw
