/- The document's own chunks, walked. -/
import Derived.Test.YtbgdgmilcojlbaaChunkP
import Derived.Test.YtbgdgmilcojlbaaSBits
namespace Go.Bw
set_option linter.unusedVariables false
set_option linter.unusedSimpArgs false
open Go.Proofs

theorem ORg.gone {P : Program} {n : Nat} {ds : List Deferred} {env : Env} {w : World} {op : Op} {dst : Option Nat} {ty : TypeId} {pos : String} {aft : Array Edge} {R : Value → World → Prop} {ops : List Oper} {j : Nat} {b : Bool} (hb : guardGone ops env j = true) (hj : guardDst ops n j = true)
    (h : R undef w) : ORg P n ds ops ⟨dst, op, ty, pos, aft, some (j, b)⟩ env w R := by
  intro a ha K Q hK
  have hy := yielded_gone ha hb (by intro o' d h1 h2; simpa [guardDst, h1, h2, dstOk] using hj)
  have : ((none : Option Bool) == some b) = false := rfl
  simp only [Region.wanted, hy, this, if_false, Bool.false_eq_true]
  exact hK _ _ h

theorem refOwn_p (v : Value) (l : List UInt8) (H0 : Hp) (w0 : World) (h0 : Sub H0 w0) (hv : Bytes H0 v l) (hl : l.length ≤ 140737488355328) :
    Calls Try.prog 111 #[v] w0 (Pure H0 w0 fun v H' => Bytes H' v l) :=
  (refOwn_ok v l H0 w0 h0 hv hl).mono fun _ _ h => own_pure h fun _ _ _ h => h

set_option maxRecDepth 20000 in
set_option maxHeartbeats 2000000 in
theorem refRoom_ok (g s : Int) (H0 : Hp) (w0 : World) (h0 : Sub H0 w0) :
    Calls Try.prog 163 #[.int .i64 g, .int .i64 s] w0 (Pure H0 w0 fun v _ => v = if 1 ≤ g ∧ g ≤ 255 ∧ 1 ≤ s ∧ s ≤ 65535 ∧ 4 < g * s then .tuple #[.int .i64 (g * s - 4), .int .i64 0] else .tuple #[.int .i64 0, .int .i64 1]) := by
  have hs := HS.init h0
  refine Calls.enter (args := [.int .i64 g, .int .i64 s]) Try.func163 rfl Try.ntmps163 rfl ?_
  refine WC.seq (WC.region (WO.step rfl (OR.assign rfl (WO.step rfl (OR.assign rfl (WO.done (WX.seq ?_)))))))
  refine WC.seq (WC.seq (WC.region (WO.step rfl (OR.move rfl (WO.step rfl (OR.lss rfl rfl (WO.step rfl ?_)))))))
  refine OR.move rfl ?_
  refine WO.guardSplit (j := 2) rfl (fun q1 => ?_) (fun q1 => ?_)
  · refine WO.guardNo rfl (decide_eq_true q1) rfl rfl (WO.guardNo rfl (decide_eq_true q1) rfl rfl (WO.step rfl (OR.pickT rfl (decide_eq_true q1) rfl (WO.step rfl (OR.move rfl (WO.guardNo rfl rfl rfl rfl (WO.guardNo rfl rfl rfl rfl ?_)))))))
    refine WO.step rfl (OR.pickT rfl rfl rfl (WO.step rfl (OR.move rfl (WO.guardNo rfl rfl rfl rfl (WO.guardNo rfl rfl rfl rfl (WO.step rfl (OR.pickT rfl rfl rfl ?_)))))))
    refine WO.step rfl (OR.move rfl (WO.guardNo rfl rfl rfl rfl (WO.guardNo rfl rfl rfl rfl (WO.guardNo rfl rfl rfl rfl (WO.guardNo rfl rfl rfl rfl (WO.step rfl (OR.pickT rfl rfl rfl ?_)))))))
    refine WO.done (WX.seq (WC.yes rfl rfl (WC.seq (WC.region (WO.step rfl (OR.assign rfl (WO.step rfl ?_)))))))
    refine OR.assign rfl (WO.done (WX.seq (WC.ret (WX.seq_ret ?_))))
    refine WX.ret2 rfl rfl rfl ?_
    exact .mk hs (by rw [if_neg (by omega)])
  · refine WO.guardYes rfl (decide_eq_false q1) rfl rfl (OR.move rfl (WO.guardYes rfl (decide_eq_false q1) rfl rfl (OR.gtr rfl rfl (WO.step rfl (OR.pickF rfl (decide_eq_false q1) rfl (WO.step rfl (OR.move rfl ?_)))))))
    refine WO.guardSplit (j := 6) rfl (fun q2 => ?_) (fun q2 => ?_)
    · refine WO.guardNo rfl (decide_eq_true q2) rfl rfl (WO.guardNo rfl (decide_eq_true q2) rfl rfl (WO.step rfl (OR.pickT rfl (decide_eq_true q2) rfl (WO.step rfl (OR.move rfl (WO.guardNo rfl rfl rfl rfl (WO.guardNo rfl rfl rfl rfl ?_)))))))
      refine WO.step rfl (OR.pickT rfl rfl rfl (WO.step rfl (OR.move rfl (WO.guardNo rfl rfl rfl rfl (WO.guardNo rfl rfl rfl rfl (WO.guardNo rfl rfl rfl rfl (WO.guardNo rfl rfl rfl rfl ?_)))))))
      refine WO.step rfl (OR.pickT rfl rfl rfl (WO.done (WX.seq (WC.yes rfl rfl (WC.seq (WC.region (WO.step rfl ?_)))))))
      refine OR.assign rfl (WO.step rfl (OR.assign rfl (WO.done (WX.seq (WC.ret (WX.seq_ret ?_))))))
      refine WX.ret2 rfl rfl rfl ?_
      exact .mk hs (by rw [if_neg (by omega)])
    · refine WO.guardYes rfl (decide_eq_false q2) rfl rfl (OR.move rfl (WO.guardYes rfl (decide_eq_false q2) rfl rfl (OR.lss rfl rfl (WO.step rfl (OR.pickF rfl (decide_eq_false q2) rfl (WO.step rfl (OR.move rfl ?_)))))))
      refine WO.guardSplit (j := 10) rfl (fun q3 => ?_) (fun q3 => ?_)
      · refine WO.guardNo rfl (decide_eq_true q3) rfl rfl (WO.guardNo rfl (decide_eq_true q3) rfl rfl (WO.step rfl (OR.pickT rfl (decide_eq_true q3) rfl (WO.step rfl (OR.move rfl (WO.guardNo rfl rfl rfl rfl (WO.guardNo rfl rfl rfl rfl ?_)))))))
        refine WO.guardNo rfl rfl rfl rfl (WO.guardNo rfl rfl rfl rfl (WO.step rfl (OR.pickT rfl rfl rfl (WO.done (WX.seq (WC.yes rfl rfl (WC.seq ?_)))))))
        refine WC.region (WO.step rfl (OR.assign rfl (WO.step rfl (OR.assign rfl (WO.done (WX.seq (WC.ret ?_)))))))
        refine WX.seq_ret ?_
        refine WX.ret2 rfl rfl rfl ?_
        exact .mk hs (by rw [if_neg (by omega)])
      · refine WO.guardYes rfl (decide_eq_false q3) rfl rfl (OR.move rfl (WO.guardYes rfl (decide_eq_false q3) rfl rfl (OR.gtr rfl rfl (WO.step rfl (OR.pickF rfl (decide_eq_false q3) rfl (WO.step rfl (OR.move rfl ?_)))))))
        refine WO.guardSplit (j := 14) rfl (fun q4 => ?_) (fun q4 => ?_)
        · refine WO.guardNo rfl (decide_eq_true q4) rfl rfl (WO.guardNo rfl (decide_eq_true q4) rfl rfl (WO.guardNo rfl (decide_eq_true q4) rfl rfl (WO.guardNo rfl (decide_eq_true q4) rfl rfl (WO.step rfl (OR.pickT rfl (decide_eq_true q4) rfl (WO.done (WX.seq ?_)))))))
          refine WC.yes rfl rfl (WC.seq (WC.region (WO.step rfl (OR.assign rfl (WO.step rfl (OR.assign rfl (WO.done ?_)))))))
          refine WX.seq (WC.ret (WX.seq_ret ?_))
          refine WX.ret2 rfl rfl rfl ?_
          exact .mk hs (by rw [if_neg (by omega)])
        · have hb1 : 0 ≤ g * s := Int.mul_nonneg (by omega) (by omega)
          have hb2 : g * s ≤ 255 * 65535 := Int.mul_le_mul (by omega) (by omega) (by omega) (by omega)
          refine WO.guardYes rfl (decide_eq_false q4) rfl rfl (OR.move rfl (WO.guardYes rfl (decide_eq_false q4) rfl rfl (OR.move rfl (WO.guardYes rfl (decide_eq_false q4) rfl rfl (OR.mulI rfl rfl (by omega) (by omega) (WO.guardYes rfl (decide_eq_false q4) rfl rfl (OR.lss rfl rfl ?_)))))))
          refine WO.step rfl (OR.pickF rfl (decide_eq_false q4) rfl (WO.done (WX.seq ?_)))
          refine WC.condD rfl (fun q5 => ?_) (fun q5 => ?_)
          · refine WC.seq (WC.region (WO.step rfl (OR.assign rfl (WO.step rfl (OR.assign rfl (WO.done (WX.seq ?_)))))))
            refine WC.ret (WX.seq_ret ?_)
            refine WX.ret2 rfl rfl rfl ?_
            exact .mk hs (by rw [if_neg (fun h => by have := h.2.2.2.2; omega)])
          · refine WC.skip (WX.seq (WC.seq (WC.region (WO.step rfl (OR.move rfl (WO.step rfl (OR.move rfl ?_)))))))
            refine WO.step rfl (OR.mulI rfl rfl (by omega) (by omega) (WO.step rfl (OR.subI rfl rfl (by omega) (by omega) (WO.step rfl (OR.assign rfl (WO.step rfl (OR.assign rfl ?_)))))))
            refine WO.done (WX.seq (WC.ret ?_))
            refine WX.ret2 rfl rfl rfl ?_
            exact .mk hs (by rw [if_pos ⟨by omega, by omega, by omega, by omega, by omega⟩])

set_option maxRecDepth 20000 in
set_option maxHeartbeats 2000000 in
theorem refChunks_bad (g s : Int) (v1 v2 : Value) (H0 : Hp) (w0 : World) (h0 : Sub H0 w0) (hgs : ¬ (1 ≤ g ∧ g ≤ 255 ∧ 1 ≤ s ∧ s ≤ 65535 ∧ 4 < g * s)) (h1 : v1.oneCell' = true) (h2 : v2.oneCell' = true) :
    Calls Try.prog 118 #[v1, v2, .int .i64 g, .int .i64 s] w0 (Pure H0 w0 fun v _ => v = .tuple #[.slice none 0 0, .slice none 0 0, .int .i64 1]) := by
  have hs := HS.init h0
  have hle := Hp.le.refl H0
  refine Calls.enter (args := [v1, v2, .int .i64 g, .int .i64 s]) Try.func118 rfl Try.ntmps118 rfl ?_
  refine WC.seq (WC.region (WO.step rfl (OR.assign rfl (WO.step rfl (OR.assign rfl (WO.step rfl (OR.assign rfl ?_)))))))
  refine WO.done (WX.seq (WC.seq (WC.region (WO.step rfl (OR.move rfl (WO.step rfl (OR.move rfl ?_)))))))
  refine WO.step rfl (OR.call hs body163 rfl rfl (refRoom_ok g s _ _ hs.toSub) ?_)
  clear hs; rintro _ H w hs hle1 rfl; replace hle := hle.trans hle1; (try replace hlb := hlb.trans hle1)
  rw [if_neg hgs]
  refine WO.step rfl (OR.move rfl (WO.step rfl (OR.extract rfl rfl (WO.step rfl (OR.extract rfl rfl (WO.step rfl (OR.assign rfl ?_)))))))
  refine WO.step rfl (OR.assign rfl (WO.done (WX.seq (WC.seq (WC.seq (WC.region (WO.step rfl ?_)))))))
  refine OR.move rfl (WO.step rfl (OR.neq rfl rfl (WO.done (WX.seq ?_))))
  refine WC.yes rfl (decide_eq_true (by omega)) ?_
  refine WC.seq (WC.region (WO.step rfl (OR.move rfl (WO.step rfl (OR.assign rfl (WO.step rfl (OR.assign rfl ?_)))))))
  refine WO.step rfl (OR.assign rfl (WO.done (WX.seq (WC.ret (WX.seq_ret ?_)))))
  refine WX.ret3 rfl rfl rfl rfl ?_
  exact .mk hs rfl

/-- One cut may stand where it does. -/
def cutAt (n : Nat) (cuts : List Int) (i : Nat) : Prop := ∀ h : i < cuts.length, 0 ≤ cuts[i] ∧ cuts[i] ≤ (n : Int) ∧ (if i = 0 then 0 else cuts[i - 1]'(by omega)) ≤ cuts[i]
theorem cutsOk_of {n : Nat} {cuts : List Int} (h : ∀ j, j < cuts.length → cutAt n cuts j) : cutsOk n 0 cuts = true := (cutsOk_iff cuts 0 (Int.le_refl _)).2 fun i hi => h i hi hi
theorem cutsOk_not {n : Nat} {cuts : List Int} {i : Nat} (hi : i < cuts.length) (h : ¬ cutAt n cuts i) : cutsOk n 0 cuts = false := by
  cases hb : cutsOk n 0 cuts with
  | false => rfl
  | true => exact absurd (fun h' => (cutsOk_iff cuts 0 (Int.le_refl _)).1 hb i h') h

set_option maxRecDepth 20000 in
set_option maxHeartbeats 2000000 in
theorem refChunks_ok (g s : Nat) (vs vc : Value) (st : List UInt8) (cuts : List Int) (H0 : Hp) (w0 : World) (h0 : Sub H0 w0) (hgs : 1 ≤ g ∧ g ≤ 255 ∧ 1 ≤ s ∧ s ≤ 65535 ∧ 4 < g * s) (hst : Bytes H0 vs st) (hcu : Ints H0 vc cuts)
    (hlen : st.length ≤ 10000000000) (hcl : cuts.length ≤ 10000000000) :
    Calls Try.prog 118 #[vs, vc, .int .i64 (g : Int), .int .i64 (s : Int)] w0 (Pure H0 w0 fun v H' => ∃ r1 r2, v = .tuple #[r1, r2, .int .i64 (if cutsOk st.length 0 cuts = true then 0 else 1)] ∧
      BytesL H' r1 (if cutsOk st.length 0 cuts = true then chunksF (g * s - 4) st cuts else []) ∧ Bytes H' r2 (if cutsOk st.length 0 cuts = true then openF (g * s - 4) st cuts else [])) := by
  have hs := HS.init h0
  have hle := Hp.le.refl H0
  obtain ⟨hg1, hg2, hs1, hs2, hgs4⟩ := hgs
  have hmul : g * s ≤ 255 * 65535 := Nat.mul_le_mul hg2 hs2
  obtain ⟨bs, cs, rfl⟩ := hst.form
  obtain ⟨bc, cc, rfl⟩ := hcu.form
  have hcap := hst.cap_le
  refine Calls.enter (args := [.slice bs st.length cs, .slice bc cuts.length cc, .int .i64 (g : Int), .int .i64 (s : Int)]) Try.func118 rfl Try.ntmps118 rfl ?_
  refine WC.seq (WC.region (WO.step rfl (OR.assign rfl (WO.step rfl (OR.assign rfl (WO.step rfl (OR.assign rfl ?_)))))))
  refine WO.done (WX.seq (WC.seq (WC.region (WO.step rfl (OR.move rfl (WO.step rfl (OR.move rfl ?_)))))))
  refine WO.step rfl (OR.call hs body163 rfl rfl (refRoom_ok (g : Int) (s : Int) _ _ hs.toSub) ?_)
  clear hs; rintro _ H w hs hle1 rfl; replace hle := hle.trans hle1; (try replace hlb := hlb.trans hle1)
  have hmc : (g : Int) * (s : Int) = ((g * s : Nat) : Int) := by rw [Int.natCast_mul]
  have hrc : (g : Int) * (s : Int) - 4 = ((g * s - 4 : Nat) : Int) := by rw [hmc]; omega
  rw [if_pos (show 1 ≤ (g : Int) ∧ (g : Int) ≤ 255 ∧ 1 ≤ (s : Int) ∧ (s : Int) ≤ 65535 ∧ 4 < (g : Int) * (s : Int) from ⟨by omega, by omega, by omega, by omega, by rw [hmc]; omega⟩), hrc]
  obtain ⟨room, hroom⟩ : ∃ r, r = g * s - 4 := ⟨_, rfl⟩
  rw [← hroom]
  have hr1 : 1 ≤ room := by omega
  have hr2 : room ≤ 100000000000 := by omega
  clear hrc hmc hroom hgs4 hmul hg1 hg2 hs1 hs2
  refine WO.step rfl (OR.move rfl (WO.step rfl (OR.extract rfl rfl (WO.step rfl (OR.extract rfl rfl (WO.step rfl (OR.assign rfl ?_)))))))
  refine WO.step rfl (OR.assign rfl (WO.done (WX.seq (WC.seq (WC.seq (WC.region (WO.step rfl ?_)))))))
  refine OR.move rfl (WO.step rfl (OR.neq rfl rfl (WO.done (WX.seq ?_))))
  refine WC.no rfl (decide_eq_false (by omega)) ?_
  refine WC.skip (WX.seq (WC.seq (WC.seq (WC.region (WO.step rfl (OR.assign rfl (WO.done ?_)))))))
  refine WX.seq (WC.block ?_)
  refine WC.loop (ι := Nat) (fun i => [(0, .slice bs st.length cs), (1, .slice bc cuts.length cc), (11, .int .i64 (room : Int)), (13, .int .i64 (i : Int))]) (fun i w => (i ≤ cuts.length ∧ (∀ j, j < i → cutAt st.length cuts j) ∧ ∃ H, Hp.le H0 H ∧ HS [] H0 w0 H [] w)) (fun i => cuts.length - i) 0 ⟨rfl, rfl, rfl, rfl,  trivial⟩ ?_ (fun i w hW => ?_)
  · exact ⟨by omega, fun j hj => by omega, H, hle, hs⟩
  clear hs hle
  obtain ⟨hi, hat, H, hle, hs⟩ := hW
  refine WC.seq (WC.seq (WC.region (WO.step rfl (OR.move rfl (WO.step rfl (OR.move rfl (WO.step rfl ?_)))))))
  refine OR.lenSlice T87.und rfl (WO.step rfl (OR.lss rfl rfl (WO.done (WX.seq ?_))))
  refine WC.condD rfl (fun hlt => ?_) (fun hlt => ?_)
  · have hi' : i < cuts.length := by omega
    obtain ⟨xb, xo, rfl, hcc⟩ := hcu.pos (by omega)
    obtain ⟨c, hc⟩ : ∃ c, c = cuts[i] := ⟨_, rfl⟩
    have hci := hcc i hi'
    rw [← hc] at hci
    have hlb := Hp.le.refl H
    have hbad : cutsOk st.length 0 cuts = false → ∀ H w, HS [] H0 w0 H [] w → Pure H0 w0 (fun v H' => ∃ r1 r2, v = .tuple #[r1, r2, .int .i64 (if cutsOk st.length 0 cuts = true then 0 else 1)] ∧ BytesL H' r1 (if cutsOk st.length 0 cuts = true then chunksF room st cuts else []) ∧ Bytes H' r2 (if cutsOk st.length 0 cuts = true then openF room st cuts else [])) (.returned (.tuple #[.slice none 0 0, .slice none 0 0, .int .i64 1])) w := fun hf H w hs =>
      .mk hs ⟨_, _, by rw [hf]; rfl, by rw [hf]; exact ⟨[], Sl.nil _ _, rfl, fun i h => by simp at h⟩, by rw [hf]; exact Bytes.nil _⟩
    by_cases q1 : c < 0
    · have hf : cutsOk st.length 0 cuts = false := cutsOk_not hi' (fun h => by have := (h hi').1; omega)
      refine WC.skip (WX.seq (WC.seq (WC.block (WC.seq ?_))))
      refine WC.draw 30 mixed hs (by kernel_rfl) ?_
      refine ⟨MF.eq _, by intro Mx H w hle hs; refine forVals_nil (ORg.plain (OR.move rfl ?_)); exact ⟨_, [], Hp.le.refl _, hs, rfl, rfl⟩, ?_⟩
      refine ⟨MF.eq _, by intro Mx H w hle hs; refine forVals_nil (ORg.plain (OR.move rfl ?_)); exact ⟨_, [], Hp.le.refl _, hs, rfl, rfl⟩, ?_⟩
      refine ⟨MF.eq (.pointer (some ⟨xb, xo + i, none⟩)), ?_, ?_⟩
      · intro Mx H w hle2 hs; (try replace hle := hle.trans hle2); (try replace hlb := hlb.trans hle2); refine forVals_eq rfl rfl rfl ?_; refine forVals_eq rfl rfl rfl ?_
        refine forVals_nil (ORg.plain (OR.idx i T87.und T3 rfl rfl rfl hi' ?_))
        exact ⟨_, [], Hp.le.refl _, hs, rfl, rfl⟩
      refine ⟨MF.eq (.int .i64 c), ?_, ?_⟩
      · intro Mx H w hle2 hs; (try replace hle := hle.trans hle2); (try replace hlb := hlb.trans hle2); refine forVals_eq rfl rfl rfl ?_
        refine forVals_nil (ORg.plain (OR.load T3 rfl rfl (hs.cell (hcell.mono hle hci)) ?_))
        exact ⟨_, [], Hp.le.refl _, hs, rfl, rfl⟩
      refine ⟨MF.eq _, by intro Mx H w hle hs; refine forVals_eq rfl rfl rfl ?_; refine forVals_nil (ORg.plain (OR.lss rfl rfl ?_)); exact ⟨_, [], Hp.le.refl _, hs, rfl, rfl⟩, ?_⟩
      refine ⟨MF.eq _, by intro Mx H w hle hs; refine forVals_eq rfl rfl rfl ?_; refine forVals_nil (ORg.plain (OR.move rfl ?_)); exact ⟨_, [], Hp.le.refl _, hs, rfl, rfl⟩, ?_⟩
      refine ⟨MF.eq undef, by intro Mx H w hle hs; refine forVals_eq rfl rfl rfl ?_; refine forVals_nil (ORg.no rfl (decide_eq_true (by omega : c < 0)) rfl ?_); exact ⟨_, [], Hp.le.refl _, hs, rfl, rfl⟩, ?_⟩
      refine ⟨MF.eq undef, by intro Mx H w hle hs; refine forVals_eq rfl rfl rfl ?_; refine forVals_nil (ORg.no rfl (decide_eq_true (by omega : c < 0)) rfl ?_); exact ⟨_, [], Hp.le.refl _, hs, rfl, rfl⟩, ?_⟩
      refine ⟨MF.eq undef, by intro Mx H w hle hs; refine forVals_eq rfl rfl rfl ?_; refine forVals_eq rfl rfl rfl ?_; refine forVals_eq rfl rfl rfl ?_; refine forVals_nil (ORg.no rfl (decide_eq_true (by omega : c < 0)) rfl ?_); exact ⟨_, [], Hp.le.refl _, hs, rfl, rfl⟩, ?_⟩
      refine ⟨MF.eq undef, by intro Mx H w hle hs; refine forVals_eq rfl rfl rfl ?_; refine forVals_eq rfl rfl rfl ?_; refine forVals_nil (ORg.no rfl (decide_eq_true (by omega : c < 0)) rfl ?_); exact ⟨_, [], Hp.le.refl _, hs, rfl, rfl⟩, ?_⟩
      refine ⟨MF.eq undef, by intro Mx H w hle hs; refine forVals_eq rfl rfl rfl ?_; refine forVals_nil (ORg.no rfl (decide_eq_true (by omega : c < 0)) rfl ?_); exact ⟨_, [], Hp.le.refl _, hs, rfl, rfl⟩, ?_⟩
      refine ⟨MF.eq undef, by intro Mx H w hle hs; refine forVals_eq rfl rfl rfl ?_; refine forVals_eq rfl rfl rfl ?_; refine forVals_nil (ORg.no rfl (decide_eq_true (by omega : c < 0)) rfl ?_); exact ⟨_, [], Hp.le.refl _, hs, rfl, rfl⟩, ?_⟩
      refine ⟨MF.eq undef, by intro Mx H w hle hs; refine forVals_eq rfl rfl rfl ?_; refine forVals_eq rfl rfl rfl ?_; refine forVals_eq rfl rfl rfl ?_; refine forVals_nil (ORg.no rfl (decide_eq_true (by omega : c < 0)) rfl ?_); exact ⟨_, [], Hp.le.refl _, hs, rfl, rfl⟩, ?_⟩
      refine ⟨MF.eq _, by intro Mx H w hle hs; refine forVals_eq rfl rfl rfl ?_; refine forVals_eq rfl rfl rfl ?_; refine forVals_nil (ORg.plain (OR.pickT rfl (decide_eq_true (by omega : c < 0)) rfl ?_)); exact ⟨_, [], Hp.le.refl _, hs, rfl, rfl⟩, ?_⟩
      refine ⟨MF.eq _, by intro Mx H w hle hs; refine forVals_eq rfl rfl rfl ?_; refine forVals_nil (ORg.plain (OR.move rfl ?_)); exact ⟨_, [], Hp.le.refl _, hs, rfl, rfl⟩, ?_⟩
      refine ⟨MF.eq undef, by intro Mx H w hle hs; refine forVals_eq rfl rfl rfl ?_; refine forVals_nil (ORg.no rfl rfl rfl ?_); exact ⟨_, [], Hp.le.refl _, hs, rfl, rfl⟩, ?_⟩
      refine ⟨MF.eq undef, by intro Mx H w hle hs; refine forVals_eq rfl rfl rfl ?_; refine forVals_eq rfl rfl rfl ?_; refine forVals_nil (ORg.no rfl rfl rfl ?_); exact ⟨_, [], Hp.le.refl _, hs, rfl, rfl⟩, ?_⟩
      refine ⟨MF.eq undef, by intro Mx H w hle hs; refine forVals_eq rfl rfl rfl ?_; refine forVals_eq rfl rfl rfl ?_; refine forVals_nil (ORg.no rfl rfl rfl ?_); exact ⟨_, [], Hp.le.refl _, hs, rfl, rfl⟩, ?_⟩
      refine ⟨MF.eq undef, by intro Mx H w hle hs; refine forVals_eq rfl rfl rfl ?_; refine forVals_nil (ORg.gone rfl rfl ?_); exact ⟨_, [], Hp.le.refl _, hs, rfl, rfl⟩, ?_⟩
      refine ⟨MF.eq undef, by intro Mx H w hle hs; refine forVals_eq rfl rfl rfl ?_; refine forVals_nil (ORg.gone rfl rfl ?_); exact ⟨_, [], Hp.le.refl _, hs, rfl, rfl⟩, ?_⟩
      refine ⟨MF.eq undef, by intro Mx H w hle hs; refine forVals_eq rfl rfl rfl ?_; refine forVals_eq rfl rfl rfl ?_; refine forVals_eq rfl rfl rfl ?_; refine forVals_nil (ORg.gone rfl rfl ?_); exact ⟨_, [], Hp.le.refl _, hs, rfl, rfl⟩, ?_⟩
      refine ⟨MF.eq undef, by intro Mx H w hle hs; refine forVals_eq rfl rfl rfl ?_; refine forVals_eq rfl rfl rfl ?_; refine forVals_nil (ORg.gone rfl rfl ?_); exact ⟨_, [], Hp.le.refl _, hs, rfl, rfl⟩, ?_⟩
      refine ⟨MF.eq undef, by intro Mx H w hle hs; refine forVals_eq rfl rfl rfl ?_; refine forVals_nil (ORg.gone rfl rfl ?_); exact ⟨_, [], Hp.le.refl _, hs, rfl, rfl⟩, ?_⟩
      refine ⟨MF.eq undef, by intro Mx H w hle hs; refine forVals_eq rfl rfl rfl ?_; refine forVals_nil (ORg.gone rfl rfl ?_); exact ⟨_, [], Hp.le.refl _, hs, rfl, rfl⟩, ?_⟩
      refine ⟨MF.eq undef, by intro Mx H w hle hs; refine forVals_eq rfl rfl rfl ?_; refine forVals_eq rfl rfl rfl ?_; refine forVals_nil (ORg.gone rfl rfl ?_); exact ⟨_, [], Hp.le.refl _, hs, rfl, rfl⟩, ?_⟩
      refine ⟨MF.eq undef, by intro Mx H w hle hs; refine forVals_eq rfl rfl rfl ?_; refine forVals_eq rfl rfl rfl ?_; refine forVals_eq rfl rfl rfl ?_; refine forVals_nil (ORg.gone rfl rfl ?_); exact ⟨_, [], Hp.le.refl _, hs, rfl, rfl⟩, ?_⟩
      refine ⟨MF.eq undef, by intro Mx H w hle hs; refine forVals_eq rfl rfl rfl ?_; refine forVals_eq rfl rfl rfl ?_; refine forVals_nil (ORg.gone rfl rfl ?_); exact ⟨_, [], Hp.le.refl _, hs, rfl, rfl⟩, ?_⟩
      refine ⟨MF.eq undef, by intro Mx H w hle hs; refine forVals_eq rfl rfl rfl ?_; refine forVals_eq rfl rfl rfl ?_; refine forVals_eq rfl rfl rfl ?_; refine forVals_nil (ORg.gone rfl rfl ?_); exact ⟨_, [], Hp.le.refl _, hs, rfl, rfl⟩, ?_⟩
      refine ⟨MF.eq undef, by intro Mx H w hle hs; refine forVals_eq rfl rfl rfl ?_; refine forVals_eq rfl rfl rfl ?_; refine forVals_eq rfl rfl rfl ?_; refine forVals_nil (ORg.no rfl rfl rfl ?_); exact ⟨_, [], Hp.le.refl _, hs, rfl, rfl⟩, ?_⟩
      refine ⟨MF.eq _, by intro Mx H w hle hs; refine forVals_eq rfl rfl rfl ?_; refine forVals_eq rfl rfl rfl ?_; refine forVals_nil (ORg.plain (OR.pickT rfl rfl rfl ?_)); exact ⟨_, [], Hp.le.refl _, hs, rfl, rfl⟩, ?_⟩
      intro H w hle2; (try replace hle := hle.trans hle2); (try replace hlb := hlb.trans hle2)
      refine forAllVals_eq rfl ?_
      refine forAllVals_eq rfl ?_
      refine forAllVals_eq rfl ?_
      refine forAllVals_eq rfl ?_
      refine forAllVals_eq rfl ?_
      refine forAllVals_eq rfl ?_
      refine forAllVals_eq rfl ?_
      refine forAllVals_eq rfl ?_
      refine forAllVals_eq rfl ?_
      refine forAllVals_eq rfl ?_
      refine forAllVals_eq rfl ?_
      refine forAllVals_eq rfl ?_
      refine forAllVals_eq rfl ?_
      refine forAllVals_eq rfl ?_
      refine forAllVals_eq rfl ?_
      refine forAllVals_eq rfl ?_
      refine forAllVals_eq rfl ?_
      refine forAllVals_eq rfl ?_
      refine forAllVals_eq rfl ?_
      refine forAllVals_eq rfl ?_
      refine forAllVals_eq rfl ?_
      refine forAllVals_eq rfl ?_
      refine forAllVals_eq rfl ?_
      refine forAllVals_eq rfl ?_
      refine forAllVals_eq rfl ?_
      refine forAllVals_eq rfl ?_
      refine forAllVals_eq rfl ?_
      refine forAllVals_eq rfl ?_
      refine forAllVals_eq rfl ?_
      refine forAllVals_eq rfl ?_
      refine forAllVals_nil ?_; (try clear hs); intro hs
      refine WO.done (WX.seq (WC.yes rfl rfl (WC.seq (WC.region (WO.step rfl (OR.assign rfl (WO.step rfl ?_)))))))
      refine OR.assign rfl (WO.step rfl (OR.assign rfl (WO.done (WX.seq (WC.ret (WX.block_ret (WX.seq_ret ?_)))))))
      refine WX.loop_ret (WX.block_ret (WX.seq_ret ?_))
      refine WX.ret3 rfl rfl rfl rfl ?_
      exact hbad hf _ _ hs
    · by_cases q2 : (st.length : Int) < c
      · have hf : cutsOk st.length 0 cuts = false := cutsOk_not hi' (fun h => by have := (h hi').2.1; omega)
        refine WC.skip (WX.seq (WC.seq (WC.block (WC.seq ?_))))
        refine WC.draw 30 mixed hs (by kernel_rfl) ?_
        refine ⟨MF.eq _, by intro Mx H w hle hs; refine forVals_nil (ORg.plain (OR.move rfl ?_)); exact ⟨_, [], Hp.le.refl _, hs, rfl, rfl⟩, ?_⟩
        refine ⟨MF.eq _, by intro Mx H w hle hs; refine forVals_nil (ORg.plain (OR.move rfl ?_)); exact ⟨_, [], Hp.le.refl _, hs, rfl, rfl⟩, ?_⟩
        refine ⟨MF.eq (.pointer (some ⟨xb, xo + i, none⟩)), ?_, ?_⟩
        · intro Mx H w hle2 hs; (try replace hle := hle.trans hle2); (try replace hlb := hlb.trans hle2); refine forVals_eq rfl rfl rfl ?_; refine forVals_eq rfl rfl rfl ?_
          refine forVals_nil (ORg.plain (OR.idx i T87.und T3 rfl rfl rfl hi' ?_))
          exact ⟨_, [], Hp.le.refl _, hs, rfl, rfl⟩
        refine ⟨MF.eq (.int .i64 c), ?_, ?_⟩
        · intro Mx H w hle2 hs; (try replace hle := hle.trans hle2); (try replace hlb := hlb.trans hle2); refine forVals_eq rfl rfl rfl ?_
          refine forVals_nil (ORg.plain (OR.load T3 rfl rfl (hs.cell (hcell.mono hle hci)) ?_))
          exact ⟨_, [], Hp.le.refl _, hs, rfl, rfl⟩
        refine ⟨MF.eq _, by intro Mx H w hle hs; refine forVals_eq rfl rfl rfl ?_; refine forVals_nil (ORg.plain (OR.lss rfl rfl ?_)); exact ⟨_, [], Hp.le.refl _, hs, rfl, rfl⟩, ?_⟩
        refine ⟨MF.eq _, by intro Mx H w hle hs; refine forVals_eq rfl rfl rfl ?_; refine forVals_nil (ORg.plain (OR.move rfl ?_)); exact ⟨_, [], Hp.le.refl _, hs, rfl, rfl⟩, ?_⟩
        refine ⟨MF.eq _, by intro Mx H w hle hs; refine forVals_eq rfl rfl rfl ?_; refine forVals_nil (ORg.yes rfl (decide_eq_false (by omega : ¬ c < 0)) rfl (OR.move rfl ?_)); exact ⟨_, [], Hp.le.refl _, hs, rfl, rfl⟩, ?_⟩
        refine ⟨MF.eq _, by intro Mx H w hle hs; refine forVals_eq rfl rfl rfl ?_; refine forVals_nil (ORg.yes rfl (decide_eq_false (by omega : ¬ c < 0)) rfl (OR.move rfl ?_)); exact ⟨_, [], Hp.le.refl _, hs, rfl, rfl⟩, ?_⟩
        refine ⟨MF.eq (.pointer (some ⟨xb, xo + i, none⟩)), ?_, ?_⟩
        · intro Mx H w hle2 hs; (try replace hle := hle.trans hle2); (try replace hlb := hlb.trans hle2); refine forVals_eq rfl rfl rfl ?_; refine forVals_eq rfl rfl rfl ?_; refine forVals_eq rfl rfl rfl ?_
          refine forVals_nil (ORg.yes rfl (decide_eq_false (by omega : ¬ c < 0)) rfl (OR.idx i T87.und T3 rfl rfl rfl hi' ?_))
          exact ⟨_, [], Hp.le.refl _, hs, rfl, rfl⟩
        refine ⟨MF.eq (.int .i64 c), ?_, ?_⟩
        · intro Mx H w hle2 hs; (try replace hle := hle.trans hle2); (try replace hlb := hlb.trans hle2); refine forVals_eq rfl rfl rfl ?_; refine forVals_eq rfl rfl rfl ?_
          refine forVals_nil (ORg.yes rfl (decide_eq_false (by omega : ¬ c < 0)) rfl (OR.load T3 rfl rfl (hs.cell (hcell.mono hle hci)) ?_))
          exact ⟨_, [], Hp.le.refl _, hs, rfl, rfl⟩
        refine ⟨MF.eq _, by intro Mx H w hle hs; refine forVals_eq rfl rfl rfl ?_; refine forVals_nil (ORg.yes rfl (decide_eq_false (by omega : ¬ c < 0)) rfl (OR.move rfl ?_)); exact ⟨_, [], Hp.le.refl _, hs, rfl, rfl⟩, ?_⟩
        refine ⟨MF.eq _, by intro Mx H w hle hs; refine forVals_eq rfl rfl rfl ?_; refine forVals_eq rfl rfl rfl ?_; refine forVals_nil (ORg.yes rfl (decide_eq_false (by omega : ¬ c < 0)) rfl (OR.lenSlice T23.und rfl ?_)); exact ⟨_, [], Hp.le.refl _, hs, rfl, rfl⟩, ?_⟩
        refine ⟨MF.eq (.bool true), ?_, ?_⟩
        · intro Mx H w hle2 hs; (try replace hle := hle.trans hle2); (try replace hlb := hlb.trans hle2); refine forVals_eq rfl rfl rfl ?_; refine forVals_eq rfl rfl rfl ?_; refine forVals_eq rfl rfl rfl ?_
          refine forVals_nil (ORg.yes rfl (decide_eq_false (by omega : ¬ c < 0)) rfl (OR.gtr rfl rfl ?_))
          exact ⟨_, [], Hp.le.refl _, hs, (by rw [decide_eq_true (by omega : c > (st.length : Int))]), rfl⟩
        refine ⟨MF.eq _, by intro Mx H w hle hs; refine forVals_eq rfl rfl rfl ?_; refine forVals_eq rfl rfl rfl ?_; refine forVals_nil (ORg.plain (OR.pickF rfl (decide_eq_false (by omega : ¬ c < 0)) rfl ?_)); exact ⟨_, [], Hp.le.refl _, hs, rfl, rfl⟩, ?_⟩
        refine ⟨MF.eq _, by intro Mx H w hle hs; refine forVals_eq rfl rfl rfl ?_; refine forVals_nil (ORg.plain (OR.move rfl ?_)); exact ⟨_, [], Hp.le.refl _, hs, rfl, rfl⟩, ?_⟩
        refine ⟨MF.eq undef, by intro Mx H w hle hs; refine forVals_eq rfl rfl rfl ?_; refine forVals_nil (ORg.no rfl rfl rfl ?_); exact ⟨_, [], Hp.le.refl _, hs, rfl, rfl⟩, ?_⟩
        refine ⟨MF.eq undef, by intro Mx H w hle hs; refine forVals_eq rfl rfl rfl ?_; refine forVals_eq rfl rfl rfl ?_; refine forVals_nil (ORg.no rfl rfl rfl ?_); exact ⟨_, [], Hp.le.refl _, hs, rfl, rfl⟩, ?_⟩
        refine ⟨MF.eq undef, by intro Mx H w hle hs; refine forVals_eq rfl rfl rfl ?_; refine forVals_eq rfl rfl rfl ?_; refine forVals_nil (ORg.no rfl rfl rfl ?_); exact ⟨_, [], Hp.le.refl _, hs, rfl, rfl⟩, ?_⟩
        refine ⟨MF.eq undef, by intro Mx H w hle hs; refine forVals_eq rfl rfl rfl ?_; refine forVals_nil (ORg.gone rfl rfl ?_); exact ⟨_, [], Hp.le.refl _, hs, rfl, rfl⟩, ?_⟩
        refine ⟨MF.eq undef, by intro Mx H w hle hs; refine forVals_eq rfl rfl rfl ?_; refine forVals_nil (ORg.gone rfl rfl ?_); exact ⟨_, [], Hp.le.refl _, hs, rfl, rfl⟩, ?_⟩
        refine ⟨MF.eq undef, by intro Mx H w hle hs; refine forVals_eq rfl rfl rfl ?_; refine forVals_eq rfl rfl rfl ?_; refine forVals_eq rfl rfl rfl ?_; refine forVals_nil (ORg.gone rfl rfl ?_); exact ⟨_, [], Hp.le.refl _, hs, rfl, rfl⟩, ?_⟩
        refine ⟨MF.eq undef, by intro Mx H w hle hs; refine forVals_eq rfl rfl rfl ?_; refine forVals_eq rfl rfl rfl ?_; refine forVals_nil (ORg.gone rfl rfl ?_); exact ⟨_, [], Hp.le.refl _, hs, rfl, rfl⟩, ?_⟩
        refine ⟨MF.eq undef, by intro Mx H w hle hs; refine forVals_eq rfl rfl rfl ?_; refine forVals_nil (ORg.gone rfl rfl ?_); exact ⟨_, [], Hp.le.refl _, hs, rfl, rfl⟩, ?_⟩
        refine ⟨MF.eq undef, by intro Mx H w hle hs; refine forVals_eq rfl rfl rfl ?_; refine forVals_nil (ORg.gone rfl rfl ?_); exact ⟨_, [], Hp.le.refl _, hs, rfl, rfl⟩, ?_⟩
        refine ⟨MF.eq undef, by intro Mx H w hle hs; refine forVals_eq rfl rfl rfl ?_; refine forVals_eq rfl rfl rfl ?_; refine forVals_nil (ORg.gone rfl rfl ?_); exact ⟨_, [], Hp.le.refl _, hs, rfl, rfl⟩, ?_⟩
        refine ⟨MF.eq undef, by intro Mx H w hle hs; refine forVals_eq rfl rfl rfl ?_; refine forVals_eq rfl rfl rfl ?_; refine forVals_eq rfl rfl rfl ?_; refine forVals_nil (ORg.gone rfl rfl ?_); exact ⟨_, [], Hp.le.refl _, hs, rfl, rfl⟩, ?_⟩
        refine ⟨MF.eq undef, by intro Mx H w hle hs; refine forVals_eq rfl rfl rfl ?_; refine forVals_eq rfl rfl rfl ?_; refine forVals_nil (ORg.gone rfl rfl ?_); exact ⟨_, [], Hp.le.refl _, hs, rfl, rfl⟩, ?_⟩
        refine ⟨MF.eq undef, by intro Mx H w hle hs; refine forVals_eq rfl rfl rfl ?_; refine forVals_eq rfl rfl rfl ?_; refine forVals_eq rfl rfl rfl ?_; refine forVals_nil (ORg.gone rfl rfl ?_); exact ⟨_, [], Hp.le.refl _, hs, rfl, rfl⟩, ?_⟩
        refine ⟨MF.eq undef, by intro Mx H w hle hs; refine forVals_eq rfl rfl rfl ?_; refine forVals_eq rfl rfl rfl ?_; refine forVals_eq rfl rfl rfl ?_; refine forVals_nil (ORg.no rfl rfl rfl ?_); exact ⟨_, [], Hp.le.refl _, hs, rfl, rfl⟩, ?_⟩
        refine ⟨MF.eq _, by intro Mx H w hle hs; refine forVals_eq rfl rfl rfl ?_; refine forVals_eq rfl rfl rfl ?_; refine forVals_nil (ORg.plain (OR.pickT rfl rfl rfl ?_)); exact ⟨_, [], Hp.le.refl _, hs, rfl, rfl⟩, ?_⟩
        intro H w hle2; (try replace hle := hle.trans hle2); (try replace hlb := hlb.trans hle2)
        refine forAllVals_eq rfl ?_
        refine forAllVals_eq rfl ?_
        refine forAllVals_eq rfl ?_
        refine forAllVals_eq rfl ?_
        refine forAllVals_eq rfl ?_
        refine forAllVals_eq rfl ?_
        refine forAllVals_eq rfl ?_
        refine forAllVals_eq rfl ?_
        refine forAllVals_eq rfl ?_
        refine forAllVals_eq rfl ?_
        refine forAllVals_eq rfl ?_
        refine forAllVals_eq rfl ?_
        refine forAllVals_eq rfl ?_
        refine forAllVals_eq rfl ?_
        refine forAllVals_eq rfl ?_
        refine forAllVals_eq rfl ?_
        refine forAllVals_eq rfl ?_
        refine forAllVals_eq rfl ?_
        refine forAllVals_eq rfl ?_
        refine forAllVals_eq rfl ?_
        refine forAllVals_eq rfl ?_
        refine forAllVals_eq rfl ?_
        refine forAllVals_eq rfl ?_
        refine forAllVals_eq rfl ?_
        refine forAllVals_eq rfl ?_
        refine forAllVals_eq rfl ?_
        refine forAllVals_eq rfl ?_
        refine forAllVals_eq rfl ?_
        refine forAllVals_eq rfl ?_
        refine forAllVals_eq rfl ?_
        refine forAllVals_nil ?_; (try clear hs); intro hs
        refine WO.done (WX.seq (WC.yes rfl rfl (WC.seq (WC.region (WO.step rfl (OR.assign rfl (WO.step rfl ?_)))))))
        refine OR.assign rfl (WO.step rfl (OR.assign rfl (WO.done (WX.seq (WC.ret (WX.block_ret (WX.seq_ret ?_)))))))
        refine WX.loop_ret (WX.block_ret (WX.seq_ret ?_))
        refine WX.ret3 rfl rfl rfl rfl ?_
        exact hbad hf _ _ hs
      · by_cases q3 : i = 0
        · subst q3
          refine WC.skip (WX.seq (WC.seq (WC.block (WC.seq ?_))))
          refine WC.draw 30 mixed hs (by kernel_rfl) ?_
          refine ⟨MF.eq _, by intro Mx H w hle hs; refine forVals_nil (ORg.plain (OR.move rfl ?_)); exact ⟨_, [], Hp.le.refl _, hs, rfl, rfl⟩, ?_⟩
          refine ⟨MF.eq _, by intro Mx H w hle hs; refine forVals_nil (ORg.plain (OR.move rfl ?_)); exact ⟨_, [], Hp.le.refl _, hs, rfl, rfl⟩, ?_⟩
          refine ⟨MF.eq (.pointer (some ⟨xb, xo + 0, none⟩)), ?_, ?_⟩
          · intro Mx H w hle2 hs; (try replace hle := hle.trans hle2); (try replace hlb := hlb.trans hle2); refine forVals_eq rfl rfl rfl ?_; refine forVals_eq rfl rfl rfl ?_
            refine forVals_nil (ORg.plain (OR.idx 0 T87.und T3 rfl rfl rfl hi' ?_))
            exact ⟨_, [], Hp.le.refl _, hs, rfl, rfl⟩
          refine ⟨MF.eq (.int .i64 c), ?_, ?_⟩
          · intro Mx H w hle2 hs; (try replace hle := hle.trans hle2); (try replace hlb := hlb.trans hle2); refine forVals_eq rfl rfl rfl ?_
            refine forVals_nil (ORg.plain (OR.load T3 rfl rfl (hs.cell (hcell.mono hle hci)) ?_))
            exact ⟨_, [], Hp.le.refl _, hs, rfl, rfl⟩
          refine ⟨MF.eq _, by intro Mx H w hle hs; refine forVals_eq rfl rfl rfl ?_; refine forVals_nil (ORg.plain (OR.lss rfl rfl ?_)); exact ⟨_, [], Hp.le.refl _, hs, rfl, rfl⟩, ?_⟩
          refine ⟨MF.eq _, by intro Mx H w hle hs; refine forVals_eq rfl rfl rfl ?_; refine forVals_nil (ORg.plain (OR.move rfl ?_)); exact ⟨_, [], Hp.le.refl _, hs, rfl, rfl⟩, ?_⟩
          refine ⟨MF.eq _, by intro Mx H w hle hs; refine forVals_eq rfl rfl rfl ?_; refine forVals_nil (ORg.yes rfl (decide_eq_false (by omega : ¬ c < 0)) rfl (OR.move rfl ?_)); exact ⟨_, [], Hp.le.refl _, hs, rfl, rfl⟩, ?_⟩
          refine ⟨MF.eq _, by intro Mx H w hle hs; refine forVals_eq rfl rfl rfl ?_; refine forVals_nil (ORg.yes rfl (decide_eq_false (by omega : ¬ c < 0)) rfl (OR.move rfl ?_)); exact ⟨_, [], Hp.le.refl _, hs, rfl, rfl⟩, ?_⟩
          refine ⟨MF.eq (.pointer (some ⟨xb, xo + 0, none⟩)), ?_, ?_⟩
          · intro Mx H w hle2 hs; (try replace hle := hle.trans hle2); (try replace hlb := hlb.trans hle2); refine forVals_eq rfl rfl rfl ?_; refine forVals_eq rfl rfl rfl ?_; refine forVals_eq rfl rfl rfl ?_
            refine forVals_nil (ORg.yes rfl (decide_eq_false (by omega : ¬ c < 0)) rfl (OR.idx 0 T87.und T3 rfl rfl rfl hi' ?_))
            exact ⟨_, [], Hp.le.refl _, hs, rfl, rfl⟩
          refine ⟨MF.eq (.int .i64 c), ?_, ?_⟩
          · intro Mx H w hle2 hs; (try replace hle := hle.trans hle2); (try replace hlb := hlb.trans hle2); refine forVals_eq rfl rfl rfl ?_; refine forVals_eq rfl rfl rfl ?_
            refine forVals_nil (ORg.yes rfl (decide_eq_false (by omega : ¬ c < 0)) rfl (OR.load T3 rfl rfl (hs.cell (hcell.mono hle hci)) ?_))
            exact ⟨_, [], Hp.le.refl _, hs, rfl, rfl⟩
          refine ⟨MF.eq _, by intro Mx H w hle hs; refine forVals_eq rfl rfl rfl ?_; refine forVals_nil (ORg.yes rfl (decide_eq_false (by omega : ¬ c < 0)) rfl (OR.move rfl ?_)); exact ⟨_, [], Hp.le.refl _, hs, rfl, rfl⟩, ?_⟩
          refine ⟨MF.eq _, by intro Mx H w hle hs; refine forVals_eq rfl rfl rfl ?_; refine forVals_eq rfl rfl rfl ?_; refine forVals_nil (ORg.yes rfl (decide_eq_false (by omega : ¬ c < 0)) rfl (OR.lenSlice T23.und rfl ?_)); exact ⟨_, [], Hp.le.refl _, hs, rfl, rfl⟩, ?_⟩
          refine ⟨MF.eq _, by intro Mx H w hle hs; refine forVals_eq rfl rfl rfl ?_; refine forVals_eq rfl rfl rfl ?_; refine forVals_eq rfl rfl rfl ?_; refine forVals_nil (ORg.yes rfl (decide_eq_false (by omega : ¬ c < 0)) rfl (OR.gtr rfl rfl ?_)); exact ⟨_, [], Hp.le.refl _, hs, rfl, rfl⟩, ?_⟩
          refine ⟨MF.eq _, by intro Mx H w hle hs; refine forVals_eq rfl rfl rfl ?_; refine forVals_eq rfl rfl rfl ?_; refine forVals_nil (ORg.plain (OR.pickF rfl (decide_eq_false (by omega : ¬ c < 0)) rfl ?_)); exact ⟨_, [], Hp.le.refl _, hs, rfl, rfl⟩, ?_⟩
          refine ⟨MF.eq _, by intro Mx H w hle hs; refine forVals_eq rfl rfl rfl ?_; refine forVals_nil (ORg.plain (OR.move rfl ?_)); exact ⟨_, [], Hp.le.refl _, hs, rfl, rfl⟩, ?_⟩
          refine ⟨MF.eq _, by intro Mx H w hle hs; refine forVals_eq rfl rfl rfl ?_; refine forVals_nil (ORg.yes rfl (decide_eq_false (by omega : ¬ c > (st.length : Int))) rfl (OR.move rfl ?_)); exact ⟨_, [], Hp.le.refl _, hs, rfl, rfl⟩, ?_⟩
          refine ⟨MF.eq _, by intro Mx H w hle hs; refine forVals_eq rfl rfl rfl ?_; refine forVals_eq rfl rfl rfl ?_; refine forVals_nil (ORg.yes rfl (decide_eq_false (by omega : ¬ c > (st.length : Int))) rfl (OR.gtr rfl rfl ?_)); exact ⟨_, [], Hp.le.refl _, hs, rfl, rfl⟩, ?_⟩
          refine ⟨MF.eq _, by intro Mx H w hle hs; refine forVals_eq rfl rfl rfl ?_; refine forVals_eq rfl rfl rfl ?_; refine forVals_nil (ORg.yes rfl (decide_eq_false (by omega : ¬ c > (st.length : Int))) rfl (OR.move rfl ?_)); exact ⟨_, [], Hp.le.refl _, hs, rfl, rfl⟩, ?_⟩
          refine ⟨MF.eq undef, by intro Mx H w hle hs; refine forVals_eq rfl rfl rfl ?_; refine forVals_nil (ORg.no rfl (decide_eq_false (by omega : ¬ ((0 : Nat) : Int) > 0)) rfl ?_); exact ⟨_, [], Hp.le.refl _, hs, rfl, rfl⟩, ?_⟩
          refine ⟨MF.eq undef, by intro Mx H w hle hs; refine forVals_eq rfl rfl rfl ?_; refine forVals_nil (ORg.no rfl (decide_eq_false (by omega : ¬ ((0 : Nat) : Int) > 0)) rfl ?_); exact ⟨_, [], Hp.le.refl _, hs, rfl, rfl⟩, ?_⟩
          refine ⟨MF.eq undef, by intro Mx H w hle hs; refine forVals_eq rfl rfl rfl ?_; refine forVals_eq rfl rfl rfl ?_; refine forVals_eq rfl rfl rfl ?_; refine forVals_nil (ORg.no rfl (decide_eq_false (by omega : ¬ ((0 : Nat) : Int) > 0)) rfl ?_); exact ⟨_, [], Hp.le.refl _, hs, rfl, rfl⟩, ?_⟩
          refine ⟨MF.eq undef, by intro Mx H w hle hs; refine forVals_eq rfl rfl rfl ?_; refine forVals_eq rfl rfl rfl ?_; refine forVals_nil (ORg.no rfl (decide_eq_false (by omega : ¬ ((0 : Nat) : Int) > 0)) rfl ?_); exact ⟨_, [], Hp.le.refl _, hs, rfl, rfl⟩, ?_⟩
          refine ⟨MF.eq undef, by intro Mx H w hle hs; refine forVals_eq rfl rfl rfl ?_; refine forVals_nil (ORg.no rfl (decide_eq_false (by omega : ¬ ((0 : Nat) : Int) > 0)) rfl ?_); exact ⟨_, [], Hp.le.refl _, hs, rfl, rfl⟩, ?_⟩
          refine ⟨MF.eq undef, by intro Mx H w hle hs; refine forVals_eq rfl rfl rfl ?_; refine forVals_nil (ORg.no rfl (decide_eq_false (by omega : ¬ ((0 : Nat) : Int) > 0)) rfl ?_); exact ⟨_, [], Hp.le.refl _, hs, rfl, rfl⟩, ?_⟩
          refine ⟨MF.eq undef, by intro Mx H w hle hs; refine forVals_eq rfl rfl rfl ?_; refine forVals_eq rfl rfl rfl ?_; refine forVals_nil (ORg.no rfl (decide_eq_false (by omega : ¬ ((0 : Nat) : Int) > 0)) rfl ?_); exact ⟨_, [], Hp.le.refl _, hs, rfl, rfl⟩, ?_⟩
          refine ⟨MF.eq undef, by intro Mx H w hle hs; refine forVals_eq rfl rfl rfl ?_; refine forVals_eq rfl rfl rfl ?_; refine forVals_eq rfl rfl rfl ?_; refine forVals_nil (ORg.no rfl (decide_eq_false (by omega : ¬ ((0 : Nat) : Int) > 0)) rfl ?_); exact ⟨_, [], Hp.le.refl _, hs, rfl, rfl⟩, ?_⟩
          refine ⟨MF.eq undef, by intro Mx H w hle hs; refine forVals_eq rfl rfl rfl ?_; refine forVals_eq rfl rfl rfl ?_; refine forVals_nil (ORg.no rfl (decide_eq_false (by omega : ¬ ((0 : Nat) : Int) > 0)) rfl ?_); exact ⟨_, [], Hp.le.refl _, hs, rfl, rfl⟩, ?_⟩
          refine ⟨MF.eq undef, by intro Mx H w hle hs; refine forVals_eq rfl rfl rfl ?_; refine forVals_eq rfl rfl rfl ?_; refine forVals_eq rfl rfl rfl ?_; refine forVals_nil (ORg.no rfl (decide_eq_false (by omega : ¬ ((0 : Nat) : Int) > 0)) rfl ?_); exact ⟨_, [], Hp.le.refl _, hs, rfl, rfl⟩, ?_⟩
          refine ⟨MF.eq _, by intro Mx H w hle hs; refine forVals_eq rfl rfl rfl ?_; refine forVals_eq rfl rfl rfl ?_; refine forVals_eq rfl rfl rfl ?_; refine forVals_nil (ORg.yes rfl (decide_eq_false (by omega : ¬ c > (st.length : Int))) rfl (OR.pickF rfl (decide_eq_false (by omega : ¬ ((0 : Nat) : Int) > 0)) rfl ?_)); exact ⟨_, [], Hp.le.refl _, hs, rfl, rfl⟩, ?_⟩
          refine ⟨MF.eq _, by intro Mx H w hle hs; refine forVals_eq rfl rfl rfl ?_; refine forVals_eq rfl rfl rfl ?_; refine forVals_nil (ORg.plain (OR.pickF rfl (decide_eq_false (by omega : ¬ c > (st.length : Int))) rfl ?_)); exact ⟨_, [], Hp.le.refl _, hs, rfl, rfl⟩, ?_⟩
          intro H w hle2; (try replace hle := hle.trans hle2); (try replace hlb := hlb.trans hle2)
          refine forAllVals_eq rfl ?_
          refine forAllVals_eq rfl ?_
          refine forAllVals_eq rfl ?_
          refine forAllVals_eq rfl ?_
          refine forAllVals_eq rfl ?_
          refine forAllVals_eq rfl ?_
          refine forAllVals_eq rfl ?_
          refine forAllVals_eq rfl ?_
          refine forAllVals_eq rfl ?_
          refine forAllVals_eq rfl ?_
          refine forAllVals_eq rfl ?_
          refine forAllVals_eq rfl ?_
          refine forAllVals_eq rfl ?_
          refine forAllVals_eq rfl ?_
          refine forAllVals_eq rfl ?_
          refine forAllVals_eq rfl ?_
          refine forAllVals_eq rfl ?_
          refine forAllVals_eq rfl ?_
          refine forAllVals_eq rfl ?_
          refine forAllVals_eq rfl ?_
          refine forAllVals_eq rfl ?_
          refine forAllVals_eq rfl ?_
          refine forAllVals_eq rfl ?_
          refine forAllVals_eq rfl ?_
          refine forAllVals_eq rfl ?_
          refine forAllVals_eq rfl ?_
          refine forAllVals_eq rfl ?_
          refine forAllVals_eq rfl ?_
          refine forAllVals_eq rfl ?_
          refine forAllVals_eq rfl ?_
          refine forAllVals_nil ?_; (try clear hs); intro hs
          refine WO.done (WX.seq (WC.no rfl rfl (WC.skip (WX.block (WX.seq (WC.region (WO.step rfl ?_)))))))
          refine OR.move rfl (WO.step rfl (OR.addI rfl rfl (by omega) (by omega) (WO.step rfl (OR.assign rfl (WO.done ?_)))))
          refine WX.again (0 + 1) ⟨rfl, rfl, rfl, rfl,  trivial⟩ ?_ ?_
          · refine ⟨hi', fun j hj h => ?_, H, hle, hs⟩
            have e : j = 0 := by omega
            subst e
            rw [if_pos rfl, ← hc]
            omega
          · omega
        · obtain ⟨d, hd⟩ : ∃ d, d = cuts[i - 1]'(by omega) := ⟨_, rfl⟩
          have hdi := hcc (i - 1) (by omega)
          rw [← hd] at hdi
          have hi1 : ((i : Int) - 1) = ((i - 1 : Nat) : Int) := by omega
          have hi1' : i - 1 < cuts.length := by omega
          by_cases q4 : c < d
          · have hf : cutsOk st.length 0 cuts = false := cutsOk_not hi' (fun h => by have := (h hi').2.2; rw [if_neg q3] at this; omega)
            refine WC.skip (WX.seq (WC.seq (WC.block (WC.seq ?_))))
            refine WC.draw 30 mixed hs (by kernel_rfl) ?_
            refine ⟨MF.eq _, by intro Mx H w hle hs; refine forVals_nil (ORg.plain (OR.move rfl ?_)); exact ⟨_, [], Hp.le.refl _, hs, rfl, rfl⟩, ?_⟩
            refine ⟨MF.eq _, by intro Mx H w hle hs; refine forVals_nil (ORg.plain (OR.move rfl ?_)); exact ⟨_, [], Hp.le.refl _, hs, rfl, rfl⟩, ?_⟩
            refine ⟨MF.eq (.pointer (some ⟨xb, xo + i, none⟩)), ?_, ?_⟩
            · intro Mx H w hle2 hs; (try replace hle := hle.trans hle2); (try replace hlb := hlb.trans hle2); refine forVals_eq rfl rfl rfl ?_; refine forVals_eq rfl rfl rfl ?_
              refine forVals_nil (ORg.plain (OR.idx i T87.und T3 rfl rfl rfl hi' ?_))
              exact ⟨_, [], Hp.le.refl _, hs, rfl, rfl⟩
            refine ⟨MF.eq (.int .i64 c), ?_, ?_⟩
            · intro Mx H w hle2 hs; (try replace hle := hle.trans hle2); (try replace hlb := hlb.trans hle2); refine forVals_eq rfl rfl rfl ?_
              refine forVals_nil (ORg.plain (OR.load T3 rfl rfl (hs.cell (hcell.mono hle hci)) ?_))
              exact ⟨_, [], Hp.le.refl _, hs, rfl, rfl⟩
            refine ⟨MF.eq _, by intro Mx H w hle hs; refine forVals_eq rfl rfl rfl ?_; refine forVals_nil (ORg.plain (OR.lss rfl rfl ?_)); exact ⟨_, [], Hp.le.refl _, hs, rfl, rfl⟩, ?_⟩
            refine ⟨MF.eq _, by intro Mx H w hle hs; refine forVals_eq rfl rfl rfl ?_; refine forVals_nil (ORg.plain (OR.move rfl ?_)); exact ⟨_, [], Hp.le.refl _, hs, rfl, rfl⟩, ?_⟩
            refine ⟨MF.eq _, by intro Mx H w hle hs; refine forVals_eq rfl rfl rfl ?_; refine forVals_nil (ORg.yes rfl (decide_eq_false (by omega : ¬ c < 0)) rfl (OR.move rfl ?_)); exact ⟨_, [], Hp.le.refl _, hs, rfl, rfl⟩, ?_⟩
            refine ⟨MF.eq _, by intro Mx H w hle hs; refine forVals_eq rfl rfl rfl ?_; refine forVals_nil (ORg.yes rfl (decide_eq_false (by omega : ¬ c < 0)) rfl (OR.move rfl ?_)); exact ⟨_, [], Hp.le.refl _, hs, rfl, rfl⟩, ?_⟩
            refine ⟨MF.eq (.pointer (some ⟨xb, xo + i, none⟩)), ?_, ?_⟩
            · intro Mx H w hle2 hs; (try replace hle := hle.trans hle2); (try replace hlb := hlb.trans hle2); refine forVals_eq rfl rfl rfl ?_; refine forVals_eq rfl rfl rfl ?_; refine forVals_eq rfl rfl rfl ?_
              refine forVals_nil (ORg.yes rfl (decide_eq_false (by omega : ¬ c < 0)) rfl (OR.idx i T87.und T3 rfl rfl rfl hi' ?_))
              exact ⟨_, [], Hp.le.refl _, hs, rfl, rfl⟩
            refine ⟨MF.eq (.int .i64 c), ?_, ?_⟩
            · intro Mx H w hle2 hs; (try replace hle := hle.trans hle2); (try replace hlb := hlb.trans hle2); refine forVals_eq rfl rfl rfl ?_; refine forVals_eq rfl rfl rfl ?_
              refine forVals_nil (ORg.yes rfl (decide_eq_false (by omega : ¬ c < 0)) rfl (OR.load T3 rfl rfl (hs.cell (hcell.mono hle hci)) ?_))
              exact ⟨_, [], Hp.le.refl _, hs, rfl, rfl⟩
            refine ⟨MF.eq _, by intro Mx H w hle hs; refine forVals_eq rfl rfl rfl ?_; refine forVals_nil (ORg.yes rfl (decide_eq_false (by omega : ¬ c < 0)) rfl (OR.move rfl ?_)); exact ⟨_, [], Hp.le.refl _, hs, rfl, rfl⟩, ?_⟩
            refine ⟨MF.eq _, by intro Mx H w hle hs; refine forVals_eq rfl rfl rfl ?_; refine forVals_eq rfl rfl rfl ?_; refine forVals_nil (ORg.yes rfl (decide_eq_false (by omega : ¬ c < 0)) rfl (OR.lenSlice T23.und rfl ?_)); exact ⟨_, [], Hp.le.refl _, hs, rfl, rfl⟩, ?_⟩
            refine ⟨MF.eq _, by intro Mx H w hle hs; refine forVals_eq rfl rfl rfl ?_; refine forVals_eq rfl rfl rfl ?_; refine forVals_eq rfl rfl rfl ?_; refine forVals_nil (ORg.yes rfl (decide_eq_false (by omega : ¬ c < 0)) rfl (OR.gtr rfl rfl ?_)); exact ⟨_, [], Hp.le.refl _, hs, rfl, rfl⟩, ?_⟩
            refine ⟨MF.eq _, by intro Mx H w hle hs; refine forVals_eq rfl rfl rfl ?_; refine forVals_eq rfl rfl rfl ?_; refine forVals_nil (ORg.plain (OR.pickF rfl (decide_eq_false (by omega : ¬ c < 0)) rfl ?_)); exact ⟨_, [], Hp.le.refl _, hs, rfl, rfl⟩, ?_⟩
            refine ⟨MF.eq _, by intro Mx H w hle hs; refine forVals_eq rfl rfl rfl ?_; refine forVals_nil (ORg.plain (OR.move rfl ?_)); exact ⟨_, [], Hp.le.refl _, hs, rfl, rfl⟩, ?_⟩
            refine ⟨MF.eq _, by intro Mx H w hle hs; refine forVals_eq rfl rfl rfl ?_; refine forVals_nil (ORg.yes rfl (decide_eq_false (by omega : ¬ c > (st.length : Int))) rfl (OR.move rfl ?_)); exact ⟨_, [], Hp.le.refl _, hs, rfl, rfl⟩, ?_⟩
            refine ⟨MF.eq _, by intro Mx H w hle hs; refine forVals_eq rfl rfl rfl ?_; refine forVals_eq rfl rfl rfl ?_; refine forVals_nil (ORg.yes rfl (decide_eq_false (by omega : ¬ c > (st.length : Int))) rfl (OR.gtr rfl rfl ?_)); exact ⟨_, [], Hp.le.refl _, hs, rfl, rfl⟩, ?_⟩
            refine ⟨MF.eq _, by intro Mx H w hle hs; refine forVals_eq rfl rfl rfl ?_; refine forVals_eq rfl rfl rfl ?_; refine forVals_nil (ORg.yes rfl (decide_eq_false (by omega : ¬ c > (st.length : Int))) rfl (OR.move rfl ?_)); exact ⟨_, [], Hp.le.refl _, hs, rfl, rfl⟩, ?_⟩
            refine ⟨MF.eq _, by intro Mx H w hle hs; refine forVals_eq rfl rfl rfl ?_; refine forVals_nil (ORg.yes rfl (decide_eq_true (by omega : (i : Int) > 0)) rfl (OR.move rfl ?_)); exact ⟨_, [], Hp.le.refl _, hs, rfl, rfl⟩, ?_⟩
            refine ⟨MF.eq _, by intro Mx H w hle hs; refine forVals_eq rfl rfl rfl ?_; refine forVals_nil (ORg.yes rfl (decide_eq_true (by omega : (i : Int) > 0)) rfl (OR.move rfl ?_)); exact ⟨_, [], Hp.le.refl _, hs, rfl, rfl⟩, ?_⟩
            refine ⟨MF.eq (.pointer (some ⟨xb, xo + i, none⟩)), ?_, ?_⟩
            · intro Mx H w hle2 hs; (try replace hle := hle.trans hle2); (try replace hlb := hlb.trans hle2); refine forVals_eq rfl rfl rfl ?_; refine forVals_eq rfl rfl rfl ?_; refine forVals_eq rfl rfl rfl ?_
              refine forVals_nil (ORg.yes rfl (decide_eq_true (by omega : (i : Int) > 0)) rfl (OR.idx i T87.und T3 rfl rfl rfl hi' ?_))
              exact ⟨_, [], Hp.le.refl _, hs, rfl, rfl⟩
            refine ⟨MF.eq (.int .i64 c), ?_, ?_⟩
            · intro Mx H w hle2 hs; (try replace hle := hle.trans hle2); (try replace hlb := hlb.trans hle2); refine forVals_eq rfl rfl rfl ?_; refine forVals_eq rfl rfl rfl ?_
              refine forVals_nil (ORg.yes rfl (decide_eq_true (by omega : (i : Int) > 0)) rfl (OR.load T3 rfl rfl (hs.cell (hcell.mono hle hci)) ?_))
              exact ⟨_, [], Hp.le.refl _, hs, rfl, rfl⟩
            refine ⟨MF.eq _, by intro Mx H w hle hs; refine forVals_eq rfl rfl rfl ?_; refine forVals_nil (ORg.yes rfl (decide_eq_true (by omega : (i : Int) > 0)) rfl (OR.move rfl ?_)); exact ⟨_, [], Hp.le.refl _, hs, rfl, rfl⟩, ?_⟩
            refine ⟨MF.eq _, by intro Mx H w hle hs; refine forVals_eq rfl rfl rfl ?_; refine forVals_nil (ORg.yes rfl (decide_eq_true (by omega : (i : Int) > 0)) rfl (OR.move rfl ?_)); exact ⟨_, [], Hp.le.refl _, hs, rfl, rfl⟩, ?_⟩
            refine ⟨MF.eq (.int .i64 ((i - 1 : Nat) : Int)), ?_, ?_⟩
            · intro Mx H w hle2 hs; (try replace hle := hle.trans hle2); (try replace hlb := hlb.trans hle2); refine forVals_eq rfl rfl rfl ?_; refine forVals_eq rfl rfl rfl ?_
              refine forVals_nil (ORg.yes rfl (decide_eq_true (by omega : (i : Int) > 0)) rfl (OR.subI rfl rfl (by omega) (by omega) ?_))
              exact ⟨_, [], Hp.le.refl _, hs, (by rw [hi1]), rfl⟩
            refine ⟨MF.eq (.pointer (some ⟨xb, xo + (i - 1), none⟩)), ?_, ?_⟩
            · intro Mx H w hle2 hs; (try replace hle := hle.trans hle2); (try replace hlb := hlb.trans hle2); refine forVals_eq rfl rfl rfl ?_; refine forVals_eq rfl rfl rfl ?_; refine forVals_eq rfl rfl rfl ?_
              refine forVals_nil (ORg.yes rfl (decide_eq_true (by omega : (i : Int) > 0)) rfl (OR.idx (i - 1) T87.und T3 rfl rfl rfl hi1' ?_))
              exact ⟨_, [], Hp.le.refl _, hs, rfl, rfl⟩
            refine ⟨MF.eq (.int .i64 d), ?_, ?_⟩
            · intro Mx H w hle2 hs; (try replace hle := hle.trans hle2); (try replace hlb := hlb.trans hle2); refine forVals_eq rfl rfl rfl ?_; refine forVals_eq rfl rfl rfl ?_
              refine forVals_nil (ORg.yes rfl (decide_eq_true (by omega : (i : Int) > 0)) rfl (OR.load T3 rfl rfl (hs.cell (hcell.mono hle hdi)) ?_))
              exact ⟨_, [], Hp.le.refl _, hs, rfl, rfl⟩
            refine ⟨MF.eq (.bool true), ?_, ?_⟩
            · intro Mx H w hle2 hs; (try replace hle := hle.trans hle2); (try replace hlb := hlb.trans hle2); refine forVals_eq rfl rfl rfl ?_; refine forVals_eq rfl rfl rfl ?_; refine forVals_eq rfl rfl rfl ?_
              refine forVals_nil (ORg.yes rfl (decide_eq_true (by omega : (i : Int) > 0)) rfl (OR.lss rfl rfl ?_))
              exact ⟨_, [], Hp.le.refl _, hs, (by rw [decide_eq_true q4]), rfl⟩
            refine ⟨MF.eq _, by intro Mx H w hle hs; refine forVals_eq rfl rfl rfl ?_; refine forVals_eq rfl rfl rfl ?_; refine forVals_eq rfl rfl rfl ?_; refine forVals_nil (ORg.yes rfl (decide_eq_false (by omega : ¬ c > (st.length : Int))) rfl (OR.pickT rfl (decide_eq_true (by omega : (i : Int) > 0)) rfl ?_)); exact ⟨_, [], Hp.le.refl _, hs, rfl, rfl⟩, ?_⟩
            refine ⟨MF.eq _, by intro Mx H w hle hs; refine forVals_eq rfl rfl rfl ?_; refine forVals_eq rfl rfl rfl ?_; refine forVals_nil (ORg.plain (OR.pickF rfl (decide_eq_false (by omega : ¬ c > (st.length : Int))) rfl ?_)); exact ⟨_, [], Hp.le.refl _, hs, rfl, rfl⟩, ?_⟩
            intro H w hle2; (try replace hle := hle.trans hle2); (try replace hlb := hlb.trans hle2)
            refine forAllVals_eq rfl ?_
            refine forAllVals_eq rfl ?_
            refine forAllVals_eq rfl ?_
            refine forAllVals_eq rfl ?_
            refine forAllVals_eq rfl ?_
            refine forAllVals_eq rfl ?_
            refine forAllVals_eq rfl ?_
            refine forAllVals_eq rfl ?_
            refine forAllVals_eq rfl ?_
            refine forAllVals_eq rfl ?_
            refine forAllVals_eq rfl ?_
            refine forAllVals_eq rfl ?_
            refine forAllVals_eq rfl ?_
            refine forAllVals_eq rfl ?_
            refine forAllVals_eq rfl ?_
            refine forAllVals_eq rfl ?_
            refine forAllVals_eq rfl ?_
            refine forAllVals_eq rfl ?_
            refine forAllVals_eq rfl ?_
            refine forAllVals_eq rfl ?_
            refine forAllVals_eq rfl ?_
            refine forAllVals_eq rfl ?_
            refine forAllVals_eq rfl ?_
            refine forAllVals_eq rfl ?_
            refine forAllVals_eq rfl ?_
            refine forAllVals_eq rfl ?_
            refine forAllVals_eq rfl ?_
            refine forAllVals_eq rfl ?_
            refine forAllVals_eq rfl ?_
            refine forAllVals_eq rfl ?_
            refine forAllVals_nil ?_; (try clear hs); intro hs
            refine WO.done (WX.seq ?_)
            refine WC.yes rfl rfl ?_
            refine WC.seq (WC.region (WO.step rfl (OR.assign rfl (WO.step rfl (OR.assign rfl (WO.step rfl (OR.assign rfl ?_)))))))
            refine WO.done (WX.seq (WC.ret (WX.block_ret (WX.seq_ret (WX.loop_ret (WX.block_ret (WX.seq_ret ?_)))))))
            refine WX.ret3 rfl rfl rfl rfl ?_
            exact hbad hf _ _ hs
          · have _ := 0
            refine WC.skip (WX.seq (WC.seq (WC.block (WC.seq ?_))))
            refine WC.draw 30 mixed hs (by kernel_rfl) ?_
            refine ⟨MF.eq _, by intro Mx H w hle hs; refine forVals_nil (ORg.plain (OR.move rfl ?_)); exact ⟨_, [], Hp.le.refl _, hs, rfl, rfl⟩, ?_⟩
            refine ⟨MF.eq _, by intro Mx H w hle hs; refine forVals_nil (ORg.plain (OR.move rfl ?_)); exact ⟨_, [], Hp.le.refl _, hs, rfl, rfl⟩, ?_⟩
            refine ⟨MF.eq (.pointer (some ⟨xb, xo + i, none⟩)), ?_, ?_⟩
            · intro Mx H w hle2 hs; (try replace hle := hle.trans hle2); (try replace hlb := hlb.trans hle2); refine forVals_eq rfl rfl rfl ?_; refine forVals_eq rfl rfl rfl ?_
              refine forVals_nil (ORg.plain (OR.idx i T87.und T3 rfl rfl rfl hi' ?_))
              exact ⟨_, [], Hp.le.refl _, hs, rfl, rfl⟩
            refine ⟨MF.eq (.int .i64 c), ?_, ?_⟩
            · intro Mx H w hle2 hs; (try replace hle := hle.trans hle2); (try replace hlb := hlb.trans hle2); refine forVals_eq rfl rfl rfl ?_
              refine forVals_nil (ORg.plain (OR.load T3 rfl rfl (hs.cell (hcell.mono hle hci)) ?_))
              exact ⟨_, [], Hp.le.refl _, hs, rfl, rfl⟩
            refine ⟨MF.eq _, by intro Mx H w hle hs; refine forVals_eq rfl rfl rfl ?_; refine forVals_nil (ORg.plain (OR.lss rfl rfl ?_)); exact ⟨_, [], Hp.le.refl _, hs, rfl, rfl⟩, ?_⟩
            refine ⟨MF.eq _, by intro Mx H w hle hs; refine forVals_eq rfl rfl rfl ?_; refine forVals_nil (ORg.plain (OR.move rfl ?_)); exact ⟨_, [], Hp.le.refl _, hs, rfl, rfl⟩, ?_⟩
            refine ⟨MF.eq _, by intro Mx H w hle hs; refine forVals_eq rfl rfl rfl ?_; refine forVals_nil (ORg.yes rfl (decide_eq_false (by omega : ¬ c < 0)) rfl (OR.move rfl ?_)); exact ⟨_, [], Hp.le.refl _, hs, rfl, rfl⟩, ?_⟩
            refine ⟨MF.eq _, by intro Mx H w hle hs; refine forVals_eq rfl rfl rfl ?_; refine forVals_nil (ORg.yes rfl (decide_eq_false (by omega : ¬ c < 0)) rfl (OR.move rfl ?_)); exact ⟨_, [], Hp.le.refl _, hs, rfl, rfl⟩, ?_⟩
            refine ⟨MF.eq (.pointer (some ⟨xb, xo + i, none⟩)), ?_, ?_⟩
            · intro Mx H w hle2 hs; (try replace hle := hle.trans hle2); (try replace hlb := hlb.trans hle2); refine forVals_eq rfl rfl rfl ?_; refine forVals_eq rfl rfl rfl ?_; refine forVals_eq rfl rfl rfl ?_
              refine forVals_nil (ORg.yes rfl (decide_eq_false (by omega : ¬ c < 0)) rfl (OR.idx i T87.und T3 rfl rfl rfl hi' ?_))
              exact ⟨_, [], Hp.le.refl _, hs, rfl, rfl⟩
            refine ⟨MF.eq (.int .i64 c), ?_, ?_⟩
            · intro Mx H w hle2 hs; (try replace hle := hle.trans hle2); (try replace hlb := hlb.trans hle2); refine forVals_eq rfl rfl rfl ?_; refine forVals_eq rfl rfl rfl ?_
              refine forVals_nil (ORg.yes rfl (decide_eq_false (by omega : ¬ c < 0)) rfl (OR.load T3 rfl rfl (hs.cell (hcell.mono hle hci)) ?_))
              exact ⟨_, [], Hp.le.refl _, hs, rfl, rfl⟩
            refine ⟨MF.eq _, by intro Mx H w hle hs; refine forVals_eq rfl rfl rfl ?_; refine forVals_nil (ORg.yes rfl (decide_eq_false (by omega : ¬ c < 0)) rfl (OR.move rfl ?_)); exact ⟨_, [], Hp.le.refl _, hs, rfl, rfl⟩, ?_⟩
            refine ⟨MF.eq _, by intro Mx H w hle hs; refine forVals_eq rfl rfl rfl ?_; refine forVals_eq rfl rfl rfl ?_; refine forVals_nil (ORg.yes rfl (decide_eq_false (by omega : ¬ c < 0)) rfl (OR.lenSlice T23.und rfl ?_)); exact ⟨_, [], Hp.le.refl _, hs, rfl, rfl⟩, ?_⟩
            refine ⟨MF.eq _, by intro Mx H w hle hs; refine forVals_eq rfl rfl rfl ?_; refine forVals_eq rfl rfl rfl ?_; refine forVals_eq rfl rfl rfl ?_; refine forVals_nil (ORg.yes rfl (decide_eq_false (by omega : ¬ c < 0)) rfl (OR.gtr rfl rfl ?_)); exact ⟨_, [], Hp.le.refl _, hs, rfl, rfl⟩, ?_⟩
            refine ⟨MF.eq _, by intro Mx H w hle hs; refine forVals_eq rfl rfl rfl ?_; refine forVals_eq rfl rfl rfl ?_; refine forVals_nil (ORg.plain (OR.pickF rfl (decide_eq_false (by omega : ¬ c < 0)) rfl ?_)); exact ⟨_, [], Hp.le.refl _, hs, rfl, rfl⟩, ?_⟩
            refine ⟨MF.eq _, by intro Mx H w hle hs; refine forVals_eq rfl rfl rfl ?_; refine forVals_nil (ORg.plain (OR.move rfl ?_)); exact ⟨_, [], Hp.le.refl _, hs, rfl, rfl⟩, ?_⟩
            refine ⟨MF.eq _, by intro Mx H w hle hs; refine forVals_eq rfl rfl rfl ?_; refine forVals_nil (ORg.yes rfl (decide_eq_false (by omega : ¬ c > (st.length : Int))) rfl (OR.move rfl ?_)); exact ⟨_, [], Hp.le.refl _, hs, rfl, rfl⟩, ?_⟩
            refine ⟨MF.eq _, by intro Mx H w hle hs; refine forVals_eq rfl rfl rfl ?_; refine forVals_eq rfl rfl rfl ?_; refine forVals_nil (ORg.yes rfl (decide_eq_false (by omega : ¬ c > (st.length : Int))) rfl (OR.gtr rfl rfl ?_)); exact ⟨_, [], Hp.le.refl _, hs, rfl, rfl⟩, ?_⟩
            refine ⟨MF.eq _, by intro Mx H w hle hs; refine forVals_eq rfl rfl rfl ?_; refine forVals_eq rfl rfl rfl ?_; refine forVals_nil (ORg.yes rfl (decide_eq_false (by omega : ¬ c > (st.length : Int))) rfl (OR.move rfl ?_)); exact ⟨_, [], Hp.le.refl _, hs, rfl, rfl⟩, ?_⟩
            refine ⟨MF.eq _, by intro Mx H w hle hs; refine forVals_eq rfl rfl rfl ?_; refine forVals_nil (ORg.yes rfl (decide_eq_true (by omega : (i : Int) > 0)) rfl (OR.move rfl ?_)); exact ⟨_, [], Hp.le.refl _, hs, rfl, rfl⟩, ?_⟩
            refine ⟨MF.eq _, by intro Mx H w hle hs; refine forVals_eq rfl rfl rfl ?_; refine forVals_nil (ORg.yes rfl (decide_eq_true (by omega : (i : Int) > 0)) rfl (OR.move rfl ?_)); exact ⟨_, [], Hp.le.refl _, hs, rfl, rfl⟩, ?_⟩
            refine ⟨MF.eq (.pointer (some ⟨xb, xo + i, none⟩)), ?_, ?_⟩
            · intro Mx H w hle2 hs; (try replace hle := hle.trans hle2); (try replace hlb := hlb.trans hle2); refine forVals_eq rfl rfl rfl ?_; refine forVals_eq rfl rfl rfl ?_; refine forVals_eq rfl rfl rfl ?_
              refine forVals_nil (ORg.yes rfl (decide_eq_true (by omega : (i : Int) > 0)) rfl (OR.idx i T87.und T3 rfl rfl rfl hi' ?_))
              exact ⟨_, [], Hp.le.refl _, hs, rfl, rfl⟩
            refine ⟨MF.eq (.int .i64 c), ?_, ?_⟩
            · intro Mx H w hle2 hs; (try replace hle := hle.trans hle2); (try replace hlb := hlb.trans hle2); refine forVals_eq rfl rfl rfl ?_; refine forVals_eq rfl rfl rfl ?_
              refine forVals_nil (ORg.yes rfl (decide_eq_true (by omega : (i : Int) > 0)) rfl (OR.load T3 rfl rfl (hs.cell (hcell.mono hle hci)) ?_))
              exact ⟨_, [], Hp.le.refl _, hs, rfl, rfl⟩
            refine ⟨MF.eq _, by intro Mx H w hle hs; refine forVals_eq rfl rfl rfl ?_; refine forVals_nil (ORg.yes rfl (decide_eq_true (by omega : (i : Int) > 0)) rfl (OR.move rfl ?_)); exact ⟨_, [], Hp.le.refl _, hs, rfl, rfl⟩, ?_⟩
            refine ⟨MF.eq _, by intro Mx H w hle hs; refine forVals_eq rfl rfl rfl ?_; refine forVals_nil (ORg.yes rfl (decide_eq_true (by omega : (i : Int) > 0)) rfl (OR.move rfl ?_)); exact ⟨_, [], Hp.le.refl _, hs, rfl, rfl⟩, ?_⟩
            refine ⟨MF.eq (.int .i64 ((i - 1 : Nat) : Int)), ?_, ?_⟩
            · intro Mx H w hle2 hs; (try replace hle := hle.trans hle2); (try replace hlb := hlb.trans hle2); refine forVals_eq rfl rfl rfl ?_; refine forVals_eq rfl rfl rfl ?_
              refine forVals_nil (ORg.yes rfl (decide_eq_true (by omega : (i : Int) > 0)) rfl (OR.subI rfl rfl (by omega) (by omega) ?_))
              exact ⟨_, [], Hp.le.refl _, hs, (by rw [hi1]), rfl⟩
            refine ⟨MF.eq (.pointer (some ⟨xb, xo + (i - 1), none⟩)), ?_, ?_⟩
            · intro Mx H w hle2 hs; (try replace hle := hle.trans hle2); (try replace hlb := hlb.trans hle2); refine forVals_eq rfl rfl rfl ?_; refine forVals_eq rfl rfl rfl ?_; refine forVals_eq rfl rfl rfl ?_
              refine forVals_nil (ORg.yes rfl (decide_eq_true (by omega : (i : Int) > 0)) rfl (OR.idx (i - 1) T87.und T3 rfl rfl rfl hi1' ?_))
              exact ⟨_, [], Hp.le.refl _, hs, rfl, rfl⟩
            refine ⟨MF.eq (.int .i64 d), ?_, ?_⟩
            · intro Mx H w hle2 hs; (try replace hle := hle.trans hle2); (try replace hlb := hlb.trans hle2); refine forVals_eq rfl rfl rfl ?_; refine forVals_eq rfl rfl rfl ?_
              refine forVals_nil (ORg.yes rfl (decide_eq_true (by omega : (i : Int) > 0)) rfl (OR.load T3 rfl rfl (hs.cell (hcell.mono hle hdi)) ?_))
              exact ⟨_, [], Hp.le.refl _, hs, rfl, rfl⟩
            refine ⟨MF.eq (.bool false), ?_, ?_⟩
            · intro Mx H w hle2 hs; (try replace hle := hle.trans hle2); (try replace hlb := hlb.trans hle2); refine forVals_eq rfl rfl rfl ?_; refine forVals_eq rfl rfl rfl ?_; refine forVals_eq rfl rfl rfl ?_
              refine forVals_nil (ORg.yes rfl (decide_eq_true (by omega : (i : Int) > 0)) rfl (OR.lss rfl rfl ?_))
              exact ⟨_, [], Hp.le.refl _, hs, (by rw [decide_eq_false q4]), rfl⟩
            refine ⟨MF.eq _, by intro Mx H w hle hs; refine forVals_eq rfl rfl rfl ?_; refine forVals_eq rfl rfl rfl ?_; refine forVals_eq rfl rfl rfl ?_; refine forVals_nil (ORg.yes rfl (decide_eq_false (by omega : ¬ c > (st.length : Int))) rfl (OR.pickT rfl (decide_eq_true (by omega : (i : Int) > 0)) rfl ?_)); exact ⟨_, [], Hp.le.refl _, hs, rfl, rfl⟩, ?_⟩
            refine ⟨MF.eq _, by intro Mx H w hle hs; refine forVals_eq rfl rfl rfl ?_; refine forVals_eq rfl rfl rfl ?_; refine forVals_nil (ORg.plain (OR.pickF rfl (decide_eq_false (by omega : ¬ c > (st.length : Int))) rfl ?_)); exact ⟨_, [], Hp.le.refl _, hs, rfl, rfl⟩, ?_⟩
            intro H w hle2; (try replace hle := hle.trans hle2); (try replace hlb := hlb.trans hle2)
            refine forAllVals_eq rfl ?_
            refine forAllVals_eq rfl ?_
            refine forAllVals_eq rfl ?_
            refine forAllVals_eq rfl ?_
            refine forAllVals_eq rfl ?_
            refine forAllVals_eq rfl ?_
            refine forAllVals_eq rfl ?_
            refine forAllVals_eq rfl ?_
            refine forAllVals_eq rfl ?_
            refine forAllVals_eq rfl ?_
            refine forAllVals_eq rfl ?_
            refine forAllVals_eq rfl ?_
            refine forAllVals_eq rfl ?_
            refine forAllVals_eq rfl ?_
            refine forAllVals_eq rfl ?_
            refine forAllVals_eq rfl ?_
            refine forAllVals_eq rfl ?_
            refine forAllVals_eq rfl ?_
            refine forAllVals_eq rfl ?_
            refine forAllVals_eq rfl ?_
            refine forAllVals_eq rfl ?_
            refine forAllVals_eq rfl ?_
            refine forAllVals_eq rfl ?_
            refine forAllVals_eq rfl ?_
            refine forAllVals_eq rfl ?_
            refine forAllVals_eq rfl ?_
            refine forAllVals_eq rfl ?_
            refine forAllVals_eq rfl ?_
            refine forAllVals_eq rfl ?_
            refine forAllVals_eq rfl ?_
            refine forAllVals_nil ?_; (try clear hs); intro hs
            refine WO.done (WX.seq ?_)
            refine WC.no rfl rfl ?_
            refine WC.skip (WX.block (WX.seq (WC.region (WO.step rfl (OR.move rfl (WO.step rfl (OR.addI rfl rfl (by omega) (by omega) ?_)))))))
            refine WO.step rfl (OR.assign rfl (WO.done ?_))
            refine WX.again (i + 1) ⟨rfl, rfl, rfl, rfl,  trivial⟩ ?_ ?_
            · refine ⟨hi', fun j hj => ?_, H, hle, hs⟩
              by_cases e : j = i
              · subst e
                intro h
                rw [if_neg q3, ← hc, ← hd]
                omega
              · exact hat j (by omega)
            · omega
  · have e : i = cuts.length := by omega
    subst e
    have hT : cutsOk st.length 0 cuts = true := cutsOk_of hat
    clear hat hi hlt
    have hsort := cutsOk_sorted cuts 0 hT
    have hall := rR_all (room := room) hr1 hT
    refine WC.exit (WX.seq_exit (WX.loop_exit (WX.block_hit (WX.seq (WC.seq (WC.region (WO.step rfl ?_)))))))
    refine OR.assign rfl ?_
    refine WO.done (WX.seq (WC.seq (WC.region (WO.step rfl (OR.assign rfl (WO.done (WX.seq ?_)))))))
    refine WC.seq (WC.region (WO.step rfl (OR.assign rfl (WO.done (WX.seq (WC.seq (WC.seq ?_)))))))
    refine WC.region (WO.step rfl (OR.assign rfl (WO.done (WX.seq (WC.block ?_)))))
    refine WC.loop (ι := Nat × Nat × Nat × Value) (fun ix => [(0, .slice bs st.length cs), (1, .slice bc cuts.length cc), (11, .int .i64 (room : Int)), (14, ix.2.2.2), (15, .int .i64 (ix.2.2.1 : Int)), (16, .int .i64 (ix.2.1 : Int)), (17, .int .i64 (ix.1 : Int))]) (fun ix w => (ix.1 ≤ st.length + 1 ∧ ix.2.1 ≤ cuts.length ∧ (∀ j (h : j < cuts.length), j < ix.2.1 → cuts[j] < (ix.1 : Int)) ∧ ∃ chs, rR room st cuts (ix.1 - 1) = (chs, ix.2.2.1) ∧ ∃ H cl Mo, Hp.le H0 H ∧ BLOk H cl chs ∧ Own w0.heap.size 23 1 ix.2.2.2 chs.length cl Mo ∧ HS [] H0 w0 H (Mo ++ []) w)) (fun ix => st.length + 1 - ix.1) (0, 0, 0, .slice none 0 0) ⟨rfl, rfl, rfl, rfl, rfl, rfl, rfl,  trivial⟩ ?_ (fun ix w hW => ?_)
    · exact ⟨Nat.zero_le _, Nat.zero_le _, (fun j _ hj => absurd hj (Nat.not_lt_zero _)), [], rfl, H, [], [], hle, BLOk.nil _, Own.nil _ _ _, hs⟩
    clear hs hle
    obtain ⟨n, k, fr, vo⟩ := ix
    obtain ⟨hn, hk, hkb, chs, hR, H, cl, Mo, hle, hok, ho, hs⟩ := hW
    simp only at hn hk hkb hR ho
    have hPl := rR_le room st cuts (n - 1)
    rw [hR] at hPl
    simp only at hPl
    have hstep := rR_step hr1 st cuts n
    rw [hR] at hstep
    simp only at hstep
    refine WC.seq (WC.seq (WC.region (WO.step rfl (OR.move rfl (WO.step rfl (OR.move rfl (WO.step rfl ?_)))))))
    refine OR.lenSlice T23.und rfl (WO.step rfl (OR.leq rfl rfl (WO.done (WX.seq ?_))))
    refine WC.condD rfl (fun hlt => ?_) (fun hlt => ?_)
    · have hn' : n ≤ st.length := by omega
      refine WC.skip (WX.seq (WC.seq (WC.block (WC.seq ?_))))
      refine WC.joinK (ι := Nat) (fun k3 => [(0, .slice bs st.length cs), (1, .slice bc cuts.length cc), (11, .int .i64 (room : Int)), (14, vo), (15, .int .i64 (fr : Int)), (16, .int .i64 (k3 : Int)), (17, .int .i64 (n : Int))]) (fun k3 w => (k3 ≤ cuts.length ∧ (∀ j (h : j < cuts.length), j < k3 → cuts[j] < (n : Int)) ∧ (∀ h : k3 < cuts.length, (n : Int) ≤ cuts[k3]) ∧ HS [] H0 w0 H (Mo ++ []) w)) ?_ (fun k3 w hW => ?_)
      · refine WC.block ?_
        refine WC.loop (ι := Nat) (fun k2 => [(0, .slice bs st.length cs), (1, .slice bc cuts.length cc), (11, .int .i64 (room : Int)), (14, vo), (15, .int .i64 (fr : Int)), (16, .int .i64 (k2 : Int)), (17, .int .i64 (n : Int))]) (fun k2 w => (k2 ≤ cuts.length ∧ (∀ j (h : j < cuts.length), j < k2 → cuts[j] < (n : Int)) ∧ HS [] H0 w0 H (Mo ++ []) w)) (fun k2 => cuts.length - k2) k ⟨rfl, rfl, rfl, rfl, rfl, rfl, rfl,  trivial⟩ ?_ (fun k2 w hW => ?_)
        · exact ⟨hk, hkb, hs⟩
        clear hs hkb hk
        obtain ⟨hk, hkb, hs⟩ := hW
        refine WC.seq (WC.seq (WC.region (WO.step rfl (OR.move rfl (WO.step rfl (OR.move rfl (WO.step rfl ?_)))))))
        refine OR.lenSlice T87.und rfl (WO.step rfl (OR.lss rfl rfl (WO.step rfl (OR.move rfl ?_))))
        refine WO.guardSplit (j := 4) rfl (fun hkl => ?_) (fun hkl => ?_)
        · have hk' : k2 < cuts.length := by omega
          obtain ⟨xb, xo, rfl, hcc⟩ := hcu.pos (by omega)
          refine WO.guardYes rfl (decide_eq_true hkl) rfl rfl (OR.move rfl (WO.guardYes rfl (decide_eq_true hkl) rfl rfl (OR.move rfl ?_)))
          refine WO.guardYes rfl (decide_eq_true hkl) rfl rfl (OR.idx k2 T87.und T3 rfl rfl rfl hk' ?_)
          refine WO.guardYes rfl (decide_eq_true hkl) rfl rfl (OR.load T3 rfl rfl (hs.cell (hcell.mono hle (hcc k2 hk'))) ?_)
          refine WO.guardYes rfl (decide_eq_true hkl) rfl rfl (OR.move rfl (WO.guardYes rfl (decide_eq_true hkl) rfl rfl (OR.lss rfl rfl (WO.step rfl (OR.pickT rfl (decide_eq_true hkl) rfl (WO.done (WX.seq ?_)))))))
          refine WC.condD rfl (fun hcl => ?_) (fun hcl => ?_)
          · refine WC.skip (WX.seq (WC.block (WC.region (WO.step rfl (OR.move rfl (WO.step rfl (OR.addI rfl rfl (by omega) (by omega) ?_)))))))
            refine WO.step rfl (OR.assign rfl (WO.done (WX.block ?_)))
            refine WX.again (k2 + 1) ⟨rfl, rfl, rfl, rfl, rfl, rfl, rfl,  trivial⟩ ?_ ?_
            · refine ⟨hk', fun j h hj => ?_, hs⟩
              by_cases e : j = k2
              · subst e; exact hcl
              · exact hkb j h (by omega)
            · omega
          · refine WC.exit (WX.seq_exit (WX.loop_exit (WX.block_hit ?_)))
            refine WX.arrive (k2) ⟨rfl, rfl, rfl, rfl, rfl, rfl, rfl,  trivial⟩ ?_
            exact ⟨hk, hkb, fun _ => by omega, hs⟩
        · refine WO.guardNo rfl (decide_eq_false hkl) rfl rfl (WO.guardNo rfl (decide_eq_false hkl) rfl rfl (WO.guardNo rfl (decide_eq_false hkl) rfl rfl (WO.guardNo rfl (decide_eq_false hkl) rfl rfl (WO.guardNo rfl (decide_eq_false hkl) rfl rfl (WO.guardNo rfl (decide_eq_false hkl) rfl rfl (WO.step rfl (OR.pickF rfl (decide_eq_false hkl) rfl ?_)))))))
          refine WO.done (WX.seq (WC.no rfl rfl (WC.exit (WX.seq_exit (WX.loop_exit (WX.block_hit ?_))))))
          refine WX.arrive (k2) ⟨rfl, rfl, rfl, rfl, rfl, rfl, rfl,  trivial⟩ ?_
          exact ⟨hk, hkb, fun h => by omega, hs⟩
      · clear hs hkb hk
        obtain ⟨hk, hkb, hkg, hs⟩ := hW
        have hmem := cuts_at hsort hkb hkg
        have hkb2 : ∀ j (h : j < cuts.length), j < k3 → cuts[j] < ((n + 1 : Nat) : Int) := fun j h hj => by have := hkb j h hj; omega
        refine WC.seq (WC.region (WO.step rfl (OR.move rfl (WO.step rfl (OR.move rfl (WO.step rfl (OR.subI rfl rfl (by omega) (by omega) ?_)))))))
        refine WO.step rfl (OR.move rfl (WO.step rfl (OR.eql rfl rfl (WO.step rfl (OR.move rfl ?_)))))
        refine WO.guardSplit (j := 5) rfl (fun qr => ?_) (fun qr => ?_)
        · have hRn : rR room st cuts (n + 1 - 1) = (chs ++ [(st.drop fr).take (n - fr)], n) := by rw [Nat.add_sub_cancel, hstep, if_pos (.inl (by omega))]
          have hpart := hst.part fr n (by omega) hn'
          refine WO.guardNo rfl (decide_eq_true qr) rfl rfl (WO.guardNo rfl (decide_eq_true qr) rfl rfl (WO.guardNo rfl (decide_eq_true qr) rfl rfl (WO.guardNo rfl (decide_eq_true qr) rfl rfl (WO.guardGone rfl rfl rfl (WO.guardGone rfl rfl rfl (WO.guardGone rfl rfl rfl (WO.guardGone rfl rfl rfl ?_)))))))
          refine WO.guardNo rfl (decide_eq_true qr) rfl rfl (WO.guardNo rfl (decide_eq_true qr) rfl rfl (WO.guardGone rfl rfl rfl (WO.guardGone rfl rfl rfl (WO.guardGone rfl rfl rfl (WO.guardGone rfl rfl rfl (WO.guardGone rfl rfl rfl (WO.guardGone rfl rfl rfl ?_)))))))
          refine WO.guardNo rfl (decide_eq_true qr) rfl rfl (WO.step rfl (OR.pickT rfl (decide_eq_true qr) rfl (WO.done (WX.seq (WC.yes rfl rfl (WC.seq (WC.region ?_)))))))
          refine WO.step rfl (OR.move rfl (WO.step rfl (OR.move rfl (WO.step rfl (OR.move rfl (WO.step rfl (OR.move rfl ?_)))))))
          refine WO.step rfl (OR.slice2G fr n T23.und T5 rfl rfl rfl rfl rfl (by omega) (by omega) ?_)
          have hlb := Hp.le.refl H
          refine WO.step rfl (OR.call hs body111 rfl rfl (refOwn_p _ _ _ _ hs.toSub (hpart.mono hle) (by simp; omega)) ?_)
          clear hs; rintro _ H w hs hle1 hb; replace hle := hle.trans hle1; (try replace hlb := hlb.trans hle1)
          obtain ⟨b5, c5, rfl⟩ := hb.form
          refine WO.step rfl (OR.buildSlice (vs := [_]) hs T22.und T23 rfl rfl rfl rfl (by simp) ?_)
          clear hs; intro g3 w hg3 hs
          have hb9 := hs.blk (i := 0) rfl
          replace hs := hs.sink
          refine WO.step rfl (OR.append (m := 1) (news := [_]) hs ho T22.und T23 rfl (by omega) rfl rfl rfl (cells_of hb9) (fun h => by cases h) rfl (by omega) (by omega) ?_)
          clear hs ho; intro vo' w Mo' hs ho hge
          replace hs := hs.dropMid
          refine WO.step rfl (OR.assign rfl (WO.done (WX.seq (WC.region (WO.step rfl (OR.move rfl (WO.step rfl ?_)))))))
          refine OR.assign rfl (WO.done (WX.block (WX.seq (WC.region (WO.step rfl (OR.move rfl (WO.step rfl ?_)))))))
          refine OR.addI rfl rfl (by omega) (by omega) (WO.step rfl (OR.assign rfl (WO.done ?_)))
          refine WX.again ((n + 1, k3, n, vo')) ⟨rfl, rfl, rfl, rfl, rfl, rfl, rfl,  trivial⟩ ?_ ?_
          · exact ⟨by simp only; omega, hk, hkb2, _, hRn, H, cl ++ [_], Mo', hle, (hok.mono hlb).snoc hb, by simpa using ho, hs⟩
          · simp only; omega
        · refine WO.guardYes rfl (decide_eq_false qr) rfl rfl (OR.move rfl (WO.guardYes rfl (decide_eq_false qr) rfl rfl (OR.move rfl (WO.guardYes rfl (decide_eq_false qr) rfl rfl (OR.gtr rfl rfl (WO.guardYes rfl (decide_eq_false qr) rfl rfl (OR.move rfl ?_)))))))
          refine WO.guardSplit (j := 9) rfl (fun qa => ?_) (fun qa => ?_)
          · refine WO.guardYes rfl (decide_eq_true qa) rfl rfl (OR.move rfl (WO.guardYes rfl (decide_eq_true qa) rfl rfl (OR.move rfl (WO.guardYes rfl (decide_eq_true qa) rfl rfl (OR.lenSlice T87.und rfl (WO.guardYes rfl (decide_eq_true qa) rfl rfl (OR.lss rfl rfl ?_)))))))
            refine WO.guardYes rfl (decide_eq_false qr) rfl rfl (OR.pickT rfl (decide_eq_true qa) rfl (WO.guardYes rfl (decide_eq_false qr) rfl rfl (OR.move rfl ?_)))
            refine WO.guardSplit (j := 15) rfl (fun qk => ?_) (fun qk => ?_)
            · have hk' : k3 < cuts.length := by omega
              obtain ⟨xb, xo, rfl, hcc⟩ := hcu.pos (by omega)
              refine WO.guardYes rfl (decide_eq_true qk) rfl rfl (OR.move rfl (WO.guardYes rfl (decide_eq_true qk) rfl rfl (OR.move rfl ?_)))
              refine WO.guardYes rfl (decide_eq_true qk) rfl rfl (OR.idx k3 T87.und T3 rfl rfl rfl hk' ?_)
              refine WO.guardYes rfl (decide_eq_true qk) rfl rfl (OR.load T3 rfl rfl (hs.cell (hcell.mono hle (hcc k3 hk'))) ?_)
              refine WO.guardYes rfl (decide_eq_true qk) rfl rfl (OR.move rfl (WO.guardYes rfl (decide_eq_true qk) rfl rfl (OR.eql rfl rfl (WO.guardYes rfl (decide_eq_false qr) rfl rfl (OR.pickT rfl (decide_eq_true qk) rfl (WO.step rfl (OR.pickF rfl (decide_eq_false qr) rfl ?_)))))))
              refine WO.done (WX.seq ?_)
              refine WC.condD rfl (fun qe => ?_) (fun qe => ?_)
              · have hRn : rR room st cuts (n + 1 - 1) = (chs ++ [(st.drop fr).take (n - fr)], n) := by rw [Nat.add_sub_cancel, hstep, if_pos (.inr ⟨by omega, hmem.2 ⟨hk', qe⟩⟩)]
                have hpart := hst.part fr n (by omega) hn'
                refine WC.seq (WC.region (WO.step rfl (OR.move rfl (WO.step rfl (OR.move rfl (WO.step rfl (OR.move rfl ?_)))))))
                refine WO.step rfl (OR.move rfl ?_)
                refine WO.step rfl (OR.slice2G fr n T23.und T5 rfl rfl rfl rfl rfl (by omega) (by omega) ?_)
                have hlb := Hp.le.refl H
                refine WO.step rfl (OR.call hs body111 rfl rfl (refOwn_p _ _ _ _ hs.toSub (hpart.mono hle) (by simp; omega)) ?_)
                clear hs; rintro _ H w hs hle1 hb; replace hle := hle.trans hle1; (try replace hlb := hlb.trans hle1)
                obtain ⟨b5, c5, rfl⟩ := hb.form
                refine WO.step rfl (OR.buildSlice (vs := [_]) hs T22.und T23 rfl rfl rfl rfl (by simp) ?_)
                clear hs; intro g3 w hg3 hs
                have hb9 := hs.blk (i := 0) rfl
                replace hs := hs.sink
                refine WO.step rfl (OR.append (m := 1) (news := [_]) hs ho T22.und T23 rfl (by omega) rfl rfl rfl (cells_of hb9) (fun h => by cases h) rfl (by omega) (by omega) ?_)
                clear hs ho; intro vo' w Mo' hs ho hge
                replace hs := hs.dropMid
                refine WO.step rfl (OR.assign rfl (WO.done (WX.seq (WC.region (WO.step rfl (OR.move rfl (WO.step rfl ?_)))))))
                refine OR.assign rfl (WO.done (WX.block (WX.seq (WC.region (WO.step rfl (OR.move rfl (WO.step rfl ?_)))))))
                refine OR.addI rfl rfl (by omega) (by omega) (WO.step rfl (OR.assign rfl (WO.done ?_)))
                refine WX.again ((n + 1, k3, n, vo')) ⟨rfl, rfl, rfl, rfl, rfl, rfl, rfl,  trivial⟩ ?_ ?_
                · exact ⟨by simp only; omega, hk, hkb2, _, hRn, H, cl ++ [_], Mo', hle, (hok.mono hlb).snoc hb, by simpa using ho, hs⟩
                · simp only; omega
              · have hRn : rR room st cuts (n + 1 - 1) = (chs, fr) := by
                  rw [Nat.add_sub_cancel, hstep, if_neg]
                  rintro (h | ⟨_, h⟩)
                  · omega
                  · obtain ⟨_, h⟩ := hmem.1 h
                    exact qe h
                refine WC.skip (WX.block (WX.seq (WC.region (WO.step rfl (OR.move rfl (WO.step rfl (OR.addI rfl rfl (by omega) (by omega) ?_)))))))
                refine WO.step rfl (OR.assign rfl (WO.done ?_))
                refine WX.again ((n + 1, k3, fr, vo)) ⟨rfl, rfl, rfl, rfl, rfl, rfl, rfl,  trivial⟩ ?_ ?_
                · exact ⟨by simp only; omega, hk, hkb2, _, hRn, H, cl, Mo, hle, hok, ho, hs⟩
                · simp only; omega
            · have hRn : rR room st cuts (n + 1 - 1) = (chs, fr) := by
                rw [Nat.add_sub_cancel, hstep, if_neg]
                rintro (h | ⟨_, h⟩)
                · omega
                · obtain ⟨h, _⟩ := hmem.1 h
                  omega
              refine WO.guardNo rfl (decide_eq_false qk) rfl rfl (WO.guardNo rfl (decide_eq_false qk) rfl rfl (WO.guardNo rfl (decide_eq_false qk) rfl rfl (WO.guardNo rfl (decide_eq_false qk) rfl rfl (WO.guardNo rfl (decide_eq_false qk) rfl rfl (WO.guardNo rfl (decide_eq_false qk) rfl rfl (WO.guardYes rfl (decide_eq_false qr) rfl rfl (OR.pickF rfl (decide_eq_false qk) rfl ?_)))))))
              refine WO.step rfl (OR.pickF rfl (decide_eq_false qr) rfl (WO.done (WX.seq (WC.no rfl rfl (WC.skip (WX.block (WX.seq ?_)))))))
              refine WC.region (WO.step rfl (OR.move rfl (WO.step rfl (OR.addI rfl rfl (by omega) (by omega) (WO.step rfl (OR.assign rfl (WO.done ?_)))))))
              refine WX.again ((n + 1, k3, fr, vo)) ⟨rfl, rfl, rfl, rfl, rfl, rfl, rfl,  trivial⟩ ?_ ?_
              · exact ⟨by simp only; omega, hk, hkb2, _, hRn, H, cl, Mo, hle, hok, ho, hs⟩
              · simp only; omega
          · have hRn : rR room st cuts (n + 1 - 1) = (chs, fr) := by
              rw [Nat.add_sub_cancel, hstep, if_neg]
              rintro (h | ⟨h, _⟩)
              · omega
              · omega
            refine WO.guardNo rfl (decide_eq_false qa) rfl rfl (WO.guardNo rfl (decide_eq_false qa) rfl rfl (WO.guardNo rfl (decide_eq_false qa) rfl rfl (WO.guardNo rfl (decide_eq_false qa) rfl rfl (WO.guardYes rfl (decide_eq_false qr) rfl rfl (OR.pickF rfl (decide_eq_false qa) rfl (WO.guardYes rfl (decide_eq_false qr) rfl rfl (OR.move rfl ?_)))))))
            refine WO.guardNo rfl rfl rfl rfl (WO.guardNo rfl rfl rfl rfl (WO.guardNo rfl rfl rfl rfl (WO.guardNo rfl rfl rfl rfl (WO.guardNo rfl rfl rfl rfl (WO.guardNo rfl rfl rfl rfl (WO.guardYes rfl (decide_eq_false qr) rfl rfl (OR.pickF rfl rfl rfl ?_)))))))
            refine WO.step rfl (OR.pickF rfl (decide_eq_false qr) rfl (WO.done (WX.seq (WC.no rfl rfl (WC.skip (WX.block (WX.seq ?_)))))))
            refine WC.region (WO.step rfl (OR.move rfl (WO.step rfl (OR.addI rfl rfl (by omega) (by omega) (WO.step rfl (OR.assign rfl (WO.done ?_)))))))
            refine WX.again ((n + 1, k3, fr, vo)) ⟨rfl, rfl, rfl, rfl, rfl, rfl, rfl,  trivial⟩ ?_ ?_
            · exact ⟨by simp only; omega, hk, hkb2, _, hRn, H, cl, Mo, hle, hok, ho, hs⟩
            · simp only; omega
    · have e : n = st.length + 1 := by omega
      subst e
      rw [Nat.add_sub_cancel] at hR
      rw [hR] at hall
      obtain ⟨hall1, hall2⟩ := hall
      simp only at hall1 hall2
      have hsl := Sl.dropS hst fr (by omega)
      have hpart : Bytes H0 (.slice (if cs = fr then bs else bs.map (·.add (fr * 1))) (st.length - fr) (cs - fr)) (openF room st cuts) := by
        unfold Bytes
        rw [← hall2, List.length_drop, List.map_drop]
        rw [Nat.mul_one] at hsl ⊢
        exact hsl
      have hol : (openF room st cuts).length ≤ st.length := by rw [← hall2, List.length_drop]; omega
      obtain ⟨bo, co, rfl⟩ := ho.form
      refine WC.exit (WX.seq_exit (WX.loop_exit (WX.block_hit (WX.seq (WC.seq (WC.region (WO.step rfl ?_)))))))
      refine OR.move rfl (WO.step rfl (OR.move rfl (WO.step rfl (OR.move rfl ?_))))
      refine WO.step rfl (OR.sliceLoG fr T23.und T5 rfl rfl rfl (by omega) ?_)
      have hlb := Hp.le.refl H
      refine WO.step rfl (OR.call hs body111 rfl rfl (refOwn_p _ _ _ _ hs.toSub (hpart.mono hle) (by omega)) ?_)
      clear hs; rintro _ H w hs hle1 hb; replace hle := hle.trans hle1; (try replace hlb := hlb.trans hle1)
      refine WO.step rfl (OR.assign rfl (WO.step rfl (OR.assign rfl (WO.step rfl (OR.assign rfl (WO.done (WX.seq ?_)))))))
      refine WC.ret ?_
      refine WX.ret3 rfl rfl rfl rfl ?_
      obtain ⟨H4, hle4, hs4, hsl4, _⟩ := HS.pub hs ho
      refine .mk hs4 ⟨_, _, by rw [hT]; rfl, ?_, ?_⟩
      · rw [hT, if_pos rfl, ← hall1]
        exact (hok.mono (hlb.trans hle4)).bytesL hsl4
      · rw [hT, if_pos rfl]
        exact hb.mono hle4
end Go.Bw
