/- The field of 256 elements: what the code reckons. -/
import Derived.Test.YtdibepkfgemddaaGreatTypes
import Derived.Test.YtdibepkfgemddaaGreatBytes
import Derived.Test.YtdibepkfgemddaaGreatDraw
namespace Go.Bw
set_option linter.unusedVariables false
set_option linter.unusedSimpArgs false
open Go.Proofs

/-- Three times an element. -/
def t3 (a : UInt8) : UInt8 := (if a ≥ 128 then (a <<< 1) ^^^ 27 else a <<< 1) ^^^ a
/-- Powers of 3. -/
def pw : Nat → UInt8
  | 0 => 1
  | n + 1 => t3 (pw n)
/-- The last place below n of a power that is a. -/
def lgTo (a : UInt8) : Nat → Nat
  | 0 => 0
  | n + 1 => if pw n = a then n else lgTo a n
def lg (a : UInt8) : Nat := lgTo a 255
def cell (k : Nat) (c : Nat) : Value :=
  if c < 510 then (if c < k then B (pw c) else if 255 ≤ c ∧ c < 255 + k then B (pw (c - 255)) else B 0)
  else .int .i64 (lgTo (UInt8.ofNat (c - 510)) k : Int)
def tab (k : Nat) : List Value := (List.range 766).map (cell k)

theorem tab_len (k : Nat) : (tab k).length = 766 := by simp [tab]
theorem tab_get (k c : Nat) (h : c < 766) : (tab k)[c]? = some (cell k c) := by simp [tab, h]

theorem tab_one (k : Nat) : (tab k).all (·.oneCell') = true := by
  rw [List.all_eq_true]
  intro v hv
  obtain ⟨c, _, rfl⟩ := List.mem_map.1 hv
  unfold cell
  repeat' split
  all_goals rfl
theorem two_get (a b c : Nat) (x y : Value) : (List.replicate a x ++ List.replicate b y)[c]? = if c < a then some x else if c < a + b then some y else none := by
  rw [List.getElem?_append, List.length_replicate]
  by_cases h : c < a
  · simp [h]
  · simp only [h, if_false, List.getElem?_replicate]
    by_cases h2 : c - a < b
    · rw [if_pos h2, if_pos (by omega)]
    · rw [if_neg h2, if_neg (by omega)]
theorem tab_zero : Value.cells Z237 = (tab 0).toArray := by
  show Array.replicate 510 (Value.int .u8 0) ++ Array.replicate 256 (Value.int .i64 0) = (tab 0).toArray
  apply Array.toList_inj.1
  symm
  rw [Array.toList_append, Array.toList_replicate, Array.toList_replicate]
  apply List.ext_getElem?
  intro c
  rw [two_get]
  by_cases h : c < 766
  · rw [tab_get 0 c h]
    unfold cell
    by_cases h1 : c < 510
    · rw [if_pos h1, if_pos h1, if_neg (by omega), if_neg (by omega)]; rfl
    · rw [if_neg h1, if_neg h1, if_pos (by omega)]; rfl
  · rw [List.getElem?_eq_none (by rw [tab_len]; omega), if_neg (by omega), if_neg (by omega)]

theorem tab_succ (k : Nat) (h : k < 255) :
    setL (setL (setL (tab k) k [B (pw k)]) (k + 255) [B (pw k)]) (510 + (pw k).toNat) [.int .i64 (k : Int)] = tab (k + 1) := by
  have hb := (pw k).toNat_lt
  simp only [setL_step, setL_nil]
  apply List.ext_getElem?
  intro c
  by_cases hc : c < 766
  · rw [tab_get _ c hc, List.getElem?_set, List.getElem?_set, List.getElem?_set, tab_get _ c hc]
    simp only [List.length_set, tab_len, cell]
    by_cases h1 : c < 510
    · have e3 : ¬ (510 + (pw k).toNat = c) := by omega
      simp only [e3, if_false, h1, if_true]
      by_cases e1 : k + 255 = c
      · have n1 : ¬ c < k + 1 := by omega
        have n2 : 255 ≤ c ∧ c < 255 + (k + 1) := by omega
        simp only [e1, if_true, n1, if_false, n2, and_self]
        simp [show c < 766 from by omega, show c - 255 = k from by omega]
      · by_cases e2 : k = c
        · simp [e1, e2, show c < 766 from by omega, show c < c + 1 from by omega]
        · have q1 : (c < k) ↔ (c < k + 1) := by omega
          have q2 : (255 ≤ c ∧ c < 255 + k) ↔ (255 ≤ c ∧ c < 255 + (k + 1)) := by omega
          simp [e1, e2, q1, q2]
    · have e1 : ¬ (k + 255 = c) := by omega
      have e2 : ¬ (k = c) := by omega
      simp only [e1, e2, if_false, h1]
      by_cases e3 : 510 + (pw k).toNat = c
      · have : pw k = UInt8.ofNat (c - 510) := by
          apply UInt8.toNat.inj
          rw [UInt8.toNat_ofNat']
          omega
        rw [if_pos e3, if_pos (by omega)]
        simp [lgTo, this]
      · have : ¬ (pw k = UInt8.ofNat (c - 510)) := by
          intro e
          apply e3
          have := congrArg UInt8.toNat e
          rw [UInt8.toNat_ofNat'] at this
          omega
        rw [if_neg e3]
        simp [lgTo, this]
  · have : ∀ j, (tab j)[c]? = none := fun j => List.getElem?_eq_none (by rw [tab_len]; omega)
    rw [List.getElem?_set, List.getElem?_set, List.getElem?_set, this, this]
    simp only [List.length_set, tab_len]
    have e1 : ¬ (k + 255 = c) := by omega
    have e2 : ¬ (k = c) := by omega
    have e3 : ¬ (510 + (pw k).toNat = c) := by omega
    simp [e1, e2, e3]

set_option maxRecDepth 20000 in
set_option maxHeartbeats 2000000 in
theorem times3_ok (a : UInt8) (H0 : Hp) (w0 : World) (h0 : Sub H0 w0) : Calls Tryz.prog 182 #[B a] w0 (Pure H0 w0 fun v _ => v = B (t3 a)) := by
  have hs := HS.init h0
  refine Calls.enter (args := [B a]) Tryz.func182 rfl Tryz.ntmps182 rfl ?_
  refine WC.seq (WC.region (WO.step rfl (OR.assign rfl (WO.done (WX.seq (WC.seq (WC.region ?_)))))))
  refine WO.step rfl (OR.move rfl ?_)
  refine WO.step rfl (OR.shl rfl rfl (by omega) ?_)
  rw [u8_shl1]
  refine WO.step rfl (OR.assign rfl (WO.done (WX.seq (WC.seq (WC.seq (WC.region (WO.step rfl ?_)))))))
  refine OR.move rfl (WO.step rfl (OR.geq rfl rfl (WO.done (WX.seq ?_))))
  refine WC.condD rfl (fun hc => ?_) (fun hc => ?_)
  · refine WC.region (WO.step rfl (OR.move rfl (WO.step rfl (OR.xorB _ 27 rfl rfl rfl rfl (WO.step rfl (OR.assign rfl (WO.done ?_)))))))
    refine WX.seq (WC.seq (WC.region (WO.step rfl (OR.move rfl (WO.step rfl (OR.move rfl (WO.step rfl ?_)))))))
    refine OR.xorB _ _ rfl rfl rfl rfl (WO.step rfl (OR.assign rfl (WO.done (WX.seq (WC.ret ?_)))))
    refine WX.ret1 rfl rfl ?_
    refine .mk hs ?_
    have : a ≥ 128 := by rw [ge_iff_le, UInt8.le_iff_toNat_le]; have : (128 : Int) ≤ a.toNat := hc; simp; omega
    simp [t3, this]
  · refine WC.skip (WX.seq (WC.seq (WC.region (WO.step rfl (OR.move rfl (WO.step rfl (OR.move rfl ?_)))))))
    refine WO.step rfl (OR.xorB _ _ rfl rfl rfl rfl (WO.step rfl (OR.assign rfl (WO.done (WX.seq (WC.ret ?_))))))
    refine WX.ret1 rfl rfl ?_
    refine .mk hs ?_
    have : ¬ a ≥ 128 := by rw [ge_iff_le, UInt8.le_iff_toNat_le]; have : ¬ (128 : Int) ≤ a.toNat := hc; simp; omega
    simp [t3, this]

set_option maxRecDepth 20000 in
theorem made_ok (H0 : Hp) (w0 : World) (h0 : Sub H0 w0) : Calls Tryz.prog 179 #[] w0 (Pure H0 w0 fun v _ => v = .agg (tab 255).toArray) := by
  have hs := HS.init h0
  refine Calls.enter (args := []) Tryz.func179 rfl Tryz.ntmps179 rfl ?_
  refine WC.seq (WC.region (WO.step rfl (OR.alloc hs T237 ?_)))
  clear hs; intro g1 w hg1 hs
  rw [tab_zero] at hs
  refine WO.done (WX.seq ?_)
  refine WC.scopeLoopAt (ι := Nat) 0 (fun i => [(0, .pointer (some ⟨g1, 0, none⟩)), (1, .int .i64 (i : Int)), (2, B (pw i))]) (fun i w => (i < 255 ∧ ∃ H, HS [] H0 w0 H [(g1, .cells (tab i).toArray 237, true)] w)) (fun i => 255 - i) rfl ?_ (fun i w hW => ?_)
  · refine WC.region (WO.step rfl (OR.assign rfl (WO.step rfl (OR.assign rfl (WO.done ?_)))))
    refine WX.arrive (0) ⟨rfl, rfl, rfl,  trivial⟩ ?_
    exact ⟨by omega, H0, hs⟩
  · obtain ⟨hi, H, hs⟩ := hW
    have hb := (pw i).toNat_lt
    refine WC.seq (WC.region (WO.step rfl (OR.move rfl (WO.step rfl (OR.move rfl (WO.step rfl (OR.addI rfl rfl (by omega) (by omega) ?_)))))))
    refine WO.step rfl (OR.move rfl (WO.step rfl (OR.move rfl (WO.step rfl (OR.fieldAddr FA237_0 rfl ?_)))))
    refine WO.step rfl (OR.idxArr i T234.und T5 rfl rfl rfl (by omega) ?_)
    refine WO.stepN (OR.store hs T5 rfl rfl rfl (by simp [tab_len]; omega) rfl ?_)
    clear hs; intro w hs
    refine WO.step rfl (OR.fieldAddr FA237_0 rfl ?_)
    refine WO.step rfl (OR.idxArr (i + 255) T234.und T5 rfl rfl (by omega) (by omega) ?_)
    refine WO.stepN (OR.store hs T5 rfl rfl rfl (by simp [setL_length, tab_len]; omega) rfl ?_)
    clear hs; intro w hs
    refine WO.done (WX.seq (WC.seq (WC.region (WO.step rfl (OR.move rfl (WO.step rfl (OR.move rfl ?_)))))))
    refine WO.step rfl (OR.fieldAddr FA237_1 rfl ?_)
    refine WO.step rfl (OR.idxArr (pw i).toNat T235.und T3 rfl rfl rfl (by omega) ?_)
    refine WO.stepN (OR.store hs T3 rfl rfl rfl (by simp [setL_length, tab_len]; omega) rfl ?_)
    clear hs; intro w hs
    have hs' : HS [] H0 w0 H [(g1, .cells (tab (i + 1)).toArray 237, true)] w := by
      have := tab_succ i hi
      rw [← this]
      simp only [Nat.zero_add, Nat.add_zero] at hs
      exact hs
    clear hs
    have hs := hs'
    clear hs'
    refine WO.done (WX.seq (WC.seq (WC.region (WO.step rfl (OR.move rfl ?_)))))
    refine WO.step rfl (OR.call hs body182 rfl rfl (times3_ok (pw i) _ _ hs.toSub) ?_)
    clear hs; rintro _ H w hs hle rfl
    refine WO.step rfl (OR.assign rfl (WO.done (WX.seq (WC.seq (WC.seq (WC.region (WO.step rfl ?_)))))))
    refine OR.move rfl (WO.step rfl (OR.addI rfl rfl (by omega) (by omega) (WO.step rfl (OR.assign rfl (WO.done (WX.seq (WC.seq ?_)))))))
    refine WC.region (WO.step rfl (OR.move rfl (WO.step rfl (OR.lss rfl rfl (WO.done (WX.seq ?_))))))
    refine WC.condD rfl (fun hc => ?_) (fun hc => ?_)
    · refine WC.goto (WX.seq_goto ?_)
      refine WX.jumpAgain (i + 1) ⟨rfl, rfl, rfl,  trivial⟩ ?_ ?_
      · exact ⟨by omega, H, hs⟩
      · omega
    · have e : i = 254 := by omega
      subst e
      refine WC.skip (WX.seq (WC.seq (WC.region ?_)))
      refine WO.step rfl (OR.loadAll T237 rfl rfl (hs.blk (i := 0) rfl) (by rw [List.size_toArray]; exact tab_len _) ?_)
      refine WO.stepN (OR.storeAll hs T237 rfl rfl (by show (tab 255).toArray.size = 766; rw [List.size_toArray]; exact tab_len _) (by rw [List.size_toArray]; exact tab_len _) (by show (tab 255).toArray.toList.all _ = true; exact tab_one 255) ?_)
      clear hs; intro w hs
      refine WO.done (WX.seq (WC.ret (WX.jump_ret ?_)))
      refine WX.retCell T237 rfl rfl rfl (by show (tab 255).toArray.size = 766; rw [List.size_toArray]; exact tab_len _) (hs.blk (i := 0) rfl) ?_
      exact .mk hs rfl

set_option maxRecDepth 20000 in
theorem known_ok (H0 : Hp) (w0 : World) (h0 : Sub H0 w0) : Calls Tryz.prog 163 #[] w0 (Pure H0 w0 fun v _ => v = .agg (tab 255).toArray) := by
  have hs := HS.init h0
  refine Calls.enter (args := []) Tryz.func163 rfl Tryz.ntmps163 rfl ?_
  refine WC.seq (WC.region (WO.step rfl (OR.alloc hs T237 ?_)))
  clear hs; intro g1 w hg1 hs
  refine WO.done (WX.seq (WC.seq (WC.region ?_)))
  refine WO.step rfl (OR.call hs body179 rfl rfl (made_ok _ _ hs.toSub) ?_)
  clear hs; rintro _ H w hs hle rfl
  refine WO.stepN (OR.storeAll hs T237 rfl rfl (by show (tab 255).toArray.size = 766; rw [List.size_toArray]; exact tab_len _) (by rw [tab_zero, List.size_toArray]; exact tab_len _) (by show (tab 255).toArray.toList.all _ = true; exact tab_one 255) ?_)
  clear hs; intro w hs
  refine WO.done (WX.seq (WC.ret ?_))
  refine WX.retCell T237 rfl rfl rfl (by show (tab 255).toArray.size = 766; rw [List.size_toArray]; exact tab_len _) (hs.blk (i := 0) rfl) ?_
  exact .mk hs rfl

/-- The product, as the code has it. -/
def mul (a b : UInt8) : UInt8 := if a = 0 ∨ b = 0 then 0 else pw ((lg a + lg b) % 255)

theorem lgTo_lt (a : UInt8) : ∀ k, 0 < k → lgTo a k < k
  | 0, h => by omega
  | k + 1, _ => by
    unfold lgTo
    split
    · omega
    · cases k with
      | zero => simp [lgTo]
      | succ k => have := lgTo_lt a (k + 1) (by omega); omega
theorem lg_lt (a : UInt8) : lg a < 255 := lgTo_lt a 255 (by omega)

theorem tab_exp (k : Nat) (h : k < 510) : (tab 255)[k]? = some (B (pw (k % 255))) := by
  rw [tab_get _ _ (by omega)]
  unfold cell
  rw [if_pos h]
  by_cases h1 : k < 255
  · rw [if_pos h1, Nat.mod_eq_of_lt h1]
  · rw [if_neg h1, if_pos (by omega), Nat.mod_eq_sub_mod (by omega), Nat.mod_eq_of_lt (by omega)]
theorem tab_log (a : UInt8) : (tab 255)[510 + a.toNat]? = some (.int .i64 (lg a : Int)) := by
  have := a.toNat_lt
  rw [tab_get _ _ (by omega)]
  unfold cell lg
  rw [if_neg (by omega), show 510 + a.toNat - 510 = a.toNat by omega]
  simp

theorem ext_exp (k : Nat) (h : k < 510) : ((tab 255).toArray.extract 0 (0 + 510))[(k : Int).toNat]? = some (B (pw (k % 255))) := by
  rw [Array.getElem?_extract]
  simp only [List.size_toArray, tab_len, List.getElem?_toArray, Int.toNat_natCast, Nat.zero_add]
  rw [if_pos (by omega), tab_exp k h]
theorem ext_log (a : UInt8) : ((tab 255).toArray.extract 510 (510 + 256))[((a.toNat : Int)).toNat]? = some (.int .i64 (lg a : Int)) := by
  have := a.toNat_lt
  rw [Array.getElem?_extract]
  simp only [List.size_toArray, tab_len, List.getElem?_toArray, Int.toNat_natCast]
  rw [if_pos (by omega), tab_log a]

set_option maxRecDepth 20000 in
theorem mul_ok (a b : UInt8) (H0 : Hp) (w0 : World) (h0 : Sub H0 w0) : Calls Tryz.prog 166 #[B a, B b] w0 (Pure H0 w0 fun v _ => v = B (mul a b)) := by
  have hs := HS.init h0
  have ha := a.toNat_lt
  have hb := b.toNat_lt
  refine Calls.enter (args := [B a, B b]) Tryz.func166 rfl Tryz.ntmps166 rfl ?_
  refine WC.seq (WC.region (WO.step rfl (OR.assign rfl (WO.done (WX.seq (WC.seq (WC.seq ?_)))))))
  refine WC.region (WO.step rfl (OR.move rfl (WO.step rfl (OR.eql rfl rfl (WO.step rfl (OR.move rfl ?_))))))
  refine WO.guardSplit (j := 2) rfl (fun hga => ?_) (fun hga => ?_)
  · refine WO.guardNo rfl (decide_eq_true hga) rfl rfl (WO.guardNo rfl (decide_eq_true hga) rfl rfl (WO.step rfl (OR.pickT rfl (decide_eq_true hga) rfl (WO.done (WX.seq (WC.yes rfl rfl (WC.seq ?_)))))))
    refine WC.region (WO.step rfl (OR.assign rfl (WO.done (WX.seq (WC.ret (WX.seq_ret ?_))))))
    refine WX.ret1 rfl rfl ?_
    refine .mk hs ?_
    have : a = 0 := UInt8.toNat.inj (by simpa using hga)
    simp [mul, this]
  · refine WO.guardYes rfl (decide_eq_false hga) rfl rfl (OR.move rfl (WO.guardYes rfl (decide_eq_false hga) rfl rfl (OR.eql rfl rfl (WO.step rfl (OR.pickF rfl (decide_eq_false hga) rfl (WO.done (WX.seq ?_)))))))
    refine WC.condD rfl (fun hgb => ?_) (fun hgb => ?_)
    · refine WC.seq (WC.region (WO.step rfl (OR.assign rfl (WO.done (WX.seq (WC.ret (WX.seq_ret ?_)))))))
      refine WX.ret1 rfl rfl ?_
      refine .mk hs ?_
      have : b = 0 := UInt8.toNat.inj (by simpa using hgb)
      simp [mul, this]
    · have h1 := lg_lt a
      have h2 := lg_lt b
      have e : mul a b = pw ((lg a + lg b) % 255) := by
        have n1 : a ≠ 0 := fun e => hga (by rw [e]; rfl)
        have n2 : b ≠ 0 := fun e => hgb (by rw [e]; rfl)
        simp [mul, n1, n2]
      refine WC.skip (WX.seq (WC.seq ?_))
      refine WC.draw 12 mixed hs (by kernel_rfl) ?_
      refine ⟨MF.eq (.agg (tab 255).toArray), ?_, ?_⟩
      · intro Mx H w hle2 hs; (try replace hle := hle.trans hle2); (try replace hlb := hlb.trans hle2)
        refine forVals_nil (ORg.plain (OR.call hs body163 rfl rfl (known_ok _ _ hs.toSub) ?_))
        clear hs; rintro _ H w hs hle1 rfl
        exact ⟨_, [], hle1, hs, rfl, rfl⟩
      refine ⟨MF.eq (.agg ((tab 255).toArray.extract 0 (0 + 510))), ?_, ?_⟩
      · intro Mx H w hle2 hs; (try replace hle := hle.trans hle2); (try replace hlb := hlb.trans hle2); refine forVals_eq rfl rfl rfl ?_
        refine forVals_nil (ORg.plain (OR.fieldN T237.und rfl T234 rfl rfl ?_))
        exact ⟨_, [], Hp.le.refl _, hs, rfl, rfl⟩
      refine ⟨MF.eq (.agg (tab 255).toArray), ?_, ?_⟩
      · intro Mx H w hle2 hs; (try replace hle := hle.trans hle2); (try replace hlb := hlb.trans hle2)
        refine forVals_nil (ORg.plain (OR.call hs body163 rfl rfl (known_ok _ _ hs.toSub) ?_))
        clear hs; rintro _ H w hs hle1 rfl
        exact ⟨_, [], hle1, hs, rfl, rfl⟩
      refine ⟨MF.eq (.agg ((tab 255).toArray.extract 510 (510 + 256))), ?_, ?_⟩
      · intro Mx H w hle2 hs; (try replace hle := hle.trans hle2); (try replace hlb := hlb.trans hle2); refine forVals_eq rfl rfl rfl ?_
        refine forVals_nil (ORg.plain (OR.fieldN T237.und rfl T235 rfl rfl ?_))
        exact ⟨_, [], Hp.le.refl _, hs, rfl, rfl⟩
      refine ⟨MF.eq _, by intro Mx H w hle hs; refine forVals_nil (ORg.plain (OR.move rfl ?_)); exact ⟨_, [], Hp.le.refl _, hs, rfl, rfl⟩, ?_⟩
      refine ⟨MF.eq (.int .i64 (lg a : Int)), ?_, ?_⟩
      · intro Mx H w hle2 hs; (try replace hle := hle.trans hle2); (try replace hlb := hlb.trans hle2); refine forVals_eq rfl rfl rfl ?_; refine forVals_eq rfl rfl rfl ?_
        refine forVals_nil (ORg.plain (OR.index1 T235.und T3 rfl rfl rfl (by omega) (by omega) (ext_log a) ?_))
        exact ⟨_, [], Hp.le.refl _, hs, rfl, rfl⟩
      refine ⟨MF.eq (.agg (tab 255).toArray), ?_, ?_⟩
      · intro Mx H w hle2 hs; (try replace hle := hle.trans hle2); (try replace hlb := hlb.trans hle2)
        refine forVals_nil (ORg.plain (OR.call hs body163 rfl rfl (known_ok _ _ hs.toSub) ?_))
        clear hs; rintro _ H w hs hle1 rfl
        exact ⟨_, [], hle1, hs, rfl, rfl⟩
      refine ⟨MF.eq (.agg ((tab 255).toArray.extract 510 (510 + 256))), ?_, ?_⟩
      · intro Mx H w hle2 hs; (try replace hle := hle.trans hle2); (try replace hlb := hlb.trans hle2); refine forVals_eq rfl rfl rfl ?_
        refine forVals_nil (ORg.plain (OR.fieldN T237.und rfl T235 rfl rfl ?_))
        exact ⟨_, [], Hp.le.refl _, hs, rfl, rfl⟩
      refine ⟨MF.eq _, by intro Mx H w hle hs; refine forVals_nil (ORg.plain (OR.move rfl ?_)); exact ⟨_, [], Hp.le.refl _, hs, rfl, rfl⟩, ?_⟩
      refine ⟨MF.eq (.int .i64 (lg b : Int)), ?_, ?_⟩
      · intro Mx H w hle2 hs; (try replace hle := hle.trans hle2); (try replace hlb := hlb.trans hle2); refine forVals_eq rfl rfl rfl ?_; refine forVals_eq rfl rfl rfl ?_
        refine forVals_nil (ORg.plain (OR.index1 T235.und T3 rfl rfl rfl (by omega) (by omega) (ext_log b) ?_))
        exact ⟨_, [], Hp.le.refl _, hs, rfl, rfl⟩
      refine ⟨MF.eq _, by intro Mx H w hle hs; refine forVals_eq rfl rfl rfl ?_; refine forVals_eq rfl rfl rfl ?_; refine forVals_nil (ORg.plain (OR.addI rfl rfl (by omega) (by omega) ?_)); exact ⟨_, [], Hp.le.refl _, hs, rfl, rfl⟩, ?_⟩
      refine ⟨MF.eq (B (mul a b)), ?_, ?_⟩
      · intro Mx H w hle2 hs; (try replace hle := hle.trans hle2); (try replace hlb := hlb.trans hle2); refine forVals_eq rfl rfl rfl ?_; refine forVals_eq rfl rfl rfl ?_
        refine forVals_nil (ORg.plain (OR.index1 T234.und T5 rfl rfl rfl (by omega) (by omega) (by rw [← Int.natCast_add]; exact ext_exp (lg a + lg b) (by omega)) ?_))
        exact ⟨_, [], Hp.le.refl _, hs, (by rw [e]), rfl⟩
      intro H w hle2; (try replace hle := hle.trans hle2); (try replace hlb := hlb.trans hle2)
      refine forAllVals_eq rfl ?_
      refine forAllVals_eq rfl ?_
      refine forAllVals_eq rfl ?_
      refine forAllVals_eq rfl ?_
      refine forAllVals_eq rfl ?_
      refine forAllVals_eq rfl ?_
      refine forAllVals_eq rfl ?_
      refine forAllVals_eq rfl ?_
      refine forAllVals_eq rfl ?_
      refine forAllVals_eq rfl ?_
      refine forAllVals_eq rfl ?_
      refine forAllVals_eq rfl ?_
      refine forAllVals_nil ?_; (try clear hs); intro hs
      refine WO.step rfl (OR.assign rfl (WO.done (WX.seq (WC.ret ?_))))
      refine WX.ret1 rfl rfl ?_
      exact .mk hs rfl

set_option maxRecDepth 20000 in
theorem inv_ok (a : UInt8) (H0 : Hp) (w0 : World) (h0 : Sub H0 w0) : Calls Tryz.prog 122 #[B a] w0 (Pure H0 w0 fun v _ => v = .tuple (if a = 0 then #[B 0, .int .i64 1] else #[B (pw ((255 - lg a) % 255)), .int .i64 0])) := by
  have hs := HS.init h0
  have ha := a.toNat_lt
  refine Calls.enter (args := [B a]) Tryz.func122 rfl Tryz.ntmps122 rfl ?_
  refine WC.seq (WC.region (WO.step rfl (OR.assign rfl (WO.step rfl (OR.assign rfl (WO.done (WX.seq ?_)))))))
  refine WC.seq (WC.seq (WC.region (WO.step rfl (OR.move rfl (WO.step rfl (OR.eql rfl rfl (WO.done ?_)))))))
  refine WX.seq ?_
  refine WC.condD rfl (fun hga => ?_) (fun hga => ?_)
  · refine WC.seq (WC.region (WO.step rfl (OR.assign rfl (WO.step rfl (OR.assign rfl (WO.done (WX.seq ?_)))))))
    refine WC.ret (WX.seq_ret ?_)
    refine WX.ret2 rfl rfl rfl ?_
    have : a = 0 := UInt8.toNat.inj (by simpa using hga)
    subst this
    exact .mk hs rfl
  · refine WC.skip (WX.seq (WC.seq (WC.region ?_)))
    refine WO.step rfl (OR.call hs body163 rfl rfl (known_ok _ _ hs.toSub) ?_)
    clear hs; rintro _ H w hs hle rfl
    refine WO.step rfl (OR.fieldN T237.und rfl T234 rfl rfl ?_)
    refine WO.step rfl (OR.call hs body163 rfl rfl (known_ok _ _ hs.toSub) ?_)
    clear hs; rintro _ H w hs hle rfl
    refine WO.step rfl (OR.fieldN T237.und rfl T235 rfl rfl ?_)
    refine WO.step rfl (OR.move rfl ?_)
    refine WO.step rfl (OR.index1 T235.und T3 rfl rfl rfl (by omega) (by omega) (ext_log a) ?_)
    have h1 := lg_lt a
    refine WO.step rfl (OR.subI rfl rfl (by omega) (by omega) ?_)
    refine WO.step rfl (OR.index1 T234.und T5 rfl rfl rfl (by omega) (by omega) (by rw [show (255 : Int) - (lg a : Int) = ((255 - lg a : Nat) : Int) by omega]; exact ext_exp (255 - lg a) (by omega)) ?_)
    refine WO.step rfl (OR.assign rfl (WO.step rfl (OR.assign rfl (WO.done (WX.seq (WC.ret ?_))))))
    refine WX.ret2 rfl rfl rfl ?_
    have n1 : a ≠ 0 := fun e => hga (by rw [e]; rfl)
    exact .mk hs (by rw [if_neg n1])

set_option maxRecDepth 20000 in
set_option maxHeartbeats 2000000 in
theorem add_ok (a b : UInt8) (H0 : Hp) (w0 : World) (h0 : Sub H0 w0) : Calls Tryz.prog 173 #[B a, B b] w0 (Pure H0 w0 fun v _ => v = B (a ^^^ b)) := by
  have hs := HS.init h0
  refine Calls.enter (args := [B a, B b]) Tryz.func173 rfl Tryz.ntmps173 rfl ?_
  refine WC.seq (WC.region (WO.step rfl (OR.assign rfl (WO.done (WX.seq (WC.seq (WC.region ?_)))))))
  refine WO.step rfl (OR.move rfl (WO.step rfl (OR.move rfl (WO.step rfl (OR.xorB _ _ rfl rfl rfl rfl (WO.step rfl (OR.assign rfl ?_)))))))
  refine WO.done (WX.seq (WC.ret ?_))
  refine WX.ret1 rfl rfl ?_
  exact .mk hs rfl

end Go.Bw
