/- A source: Restore, New, Symbols, Row, Send. -/
import Derived.Test.YtbgdgmilcojlbaaSrc4
import Derived.Test.YtbgdgmilcojlbaaLay
import Derived.Test.YtbgdgmilcojlbaaGone
namespace Go.Bw
set_option linter.unusedVariables false
set_option linter.unusedSimpArgs false
open Go.Proofs

/-- A source of a stream and cuts. -/
def newD (g s : Nat) (st : List UInt8) (cuts : List Int) (cl : Bool) : SrcD := ⟨g, s, st, cuts, cl, chunksF (g * s - 4) st cuts, openF (g * s - 4) st cuts⟩

set_option maxRecDepth 20000 in
set_option maxHeartbeats 2000000 in
theorem restore_bad (g s : Int) (b1 b2 : Option Addr) (n1 n2 c1 c2 : Nat) (cl : Bool) (H0 : Hp) (w0 : World) (h0 : Sub H0 w0) (hbad : ¬ goodGS g s ∨ 262144 < n1) :
    Calls Try.prog 50 #[.int .i64 g, .int .i64 s, .slice b1 n1 c1, .slice b2 n2 c2, .bool cl] w0 (Pure H0 w0 fun v _ => v = .tuple #[.pointer none, .int .i64 1]) := by
  have hs := HS.init h0
  have hle := Hp.le.refl H0
  refine Calls.enter (args := [.int .i64 g, .int .i64 s, .slice b1 n1 c1, .slice b2 n2 c2, .bool cl]) Try.func50 rfl Try.ntmps50 rfl ?_
  refine WC.seq (WC.region (WO.step rfl (OR.assign rfl (WO.step rfl (OR.assign rfl (WO.done (WX.seq ?_)))))))
  refine WC.seq (WC.region (WO.step rfl (OR.move rfl (WO.step rfl (OR.move rfl (WO.step rfl (OR.move rfl ?_)))))))
  refine WO.step rfl (OR.build (cs := #[.int .i64 g, .int .i64 s, .slice none 0 0, .slice none 0 0, .bool cl, .slice none 0 0, .slice none 0 0]) rfl (by intro w; kernel_rfl) ?_)
  refine WO.step rfl (OR.box hs rfl ?_)
  clear hs; intro g1 w hg1 hs
  refine WO.step rfl (OR.assign rfl (WO.done (WX.seq (WC.seq (WC.seq (WC.region (WO.step rfl ?_)))))))
  refine OR.move rfl (WO.step rfl (OR.lenSlice T23.und rfl (WO.step rfl (OR.gtr rfl rfl (WO.step rfl (OR.move rfl ?_))))))
  refine WO.guardSplit (j := 3) rfl (fun q1 => ?_) (fun q1 => ?_)
  · refine WO.guardNo rfl (decide_eq_true q1) rfl rfl (WO.guardNo rfl (decide_eq_true q1) rfl rfl (WO.guardNo rfl (decide_eq_true q1) rfl rfl (WO.guardNo rfl (decide_eq_true q1) rfl rfl (WO.guardNo rfl (decide_eq_true q1) rfl rfl (WO.step rfl (OR.pickT rfl (decide_eq_true q1) rfl (WO.step rfl ?_)))))))
    refine OR.move rfl (WO.guardNo rfl rfl rfl rfl (WO.guardNo rfl rfl rfl rfl (WO.guardGone rfl rfl rfl (WO.guardGone rfl rfl rfl (WO.guardGone rfl rfl rfl (WO.guardGone rfl rfl rfl (WO.guardGone rfl rfl rfl ?_)))))))
    refine WO.guardGone rfl rfl rfl (WO.guardNo rfl rfl rfl rfl (WO.step rfl (OR.pickT rfl rfl rfl (WO.done (WX.seq (WC.yes rfl rfl (WC.seq ?_)))))))
    refine WC.region (WO.step rfl (OR.assign rfl (WO.step rfl (OR.assign rfl (WO.done (WX.seq (WC.ret ?_)))))))
    refine WX.seq_ret ?_
    refine WX.ret2 rfl rfl rfl ?_
    exact .mk hs rfl
  · refine WO.guardYes rfl (decide_eq_false q1) rfl rfl (OR.move rfl (WO.guardYes rfl (decide_eq_false q1) rfl rfl (OR.move rfl (WO.guardYes rfl (decide_eq_false q1) rfl rfl (OR.move rfl ?_)))))
    refine WO.guardYes rfl (decide_eq_false q1) rfl rfl (OR.call hs body99 rfl rfl (set_bad g1 g s (.slice none 0 0) (.slice none 0 0) (.slice none 0 0) (.slice none 0 0) _ _ cl _ _ hs.toSub (hs.blk (i := 0) rfl) (hs.mem g1 _ true (List.mem_cons_self ..)).2.1 (hbad.resolve_right (by omega)) rfl rfl) ?_)
    clear hs; rintro _ H w hs hle1 rfl; replace hle := hle.trans hle1; (try replace hlb := hlb.trans hle1)
    refine WO.guardYes rfl (decide_eq_false q1) rfl rfl (OR.neq rfl rfl (WO.step rfl (OR.pickF rfl (decide_eq_false q1) rfl (WO.step rfl (OR.move rfl ?_)))))
    refine WO.guardNo rfl rfl rfl rfl (WO.guardNo rfl rfl rfl rfl (WO.guardGone rfl rfl rfl (WO.guardGone rfl rfl rfl (WO.guardGone rfl rfl rfl (WO.guardGone rfl rfl rfl (WO.guardGone rfl rfl rfl (WO.guardGone rfl rfl rfl ?_)))))))
    refine WO.guardNo rfl rfl rfl rfl (WO.step rfl (OR.pickT rfl rfl rfl (WO.done (WX.seq (WC.yes rfl rfl (WC.seq (WC.region ?_)))))))
    refine WO.step rfl (OR.assign rfl (WO.step rfl (OR.assign rfl (WO.done (WX.seq (WC.ret (WX.seq_ret ?_)))))))
    refine WX.ret2 rfl rfl rfl ?_
    exact .mk hs rfl

set_option maxRecDepth 20000 in
set_option maxHeartbeats 2000000 in
theorem restore_ok (g s : Nat) (vs vc : Value) (st : List UInt8) (cuts : List Int) (cl : Bool) (H0 : Hp) (w0 : World) (h0 : Sub H0 w0) (hgs : goodGS g s) (h1 : Bytes H0 vs st) (h2 : Ints H0 vc cuts) (hl : st.length ≤ 262144) (hl2 : cuts.length ≤ 1000000000) :
    Calls Try.prog 50 #[.int .i64 (g : Int), .int .i64 (s : Int), vs, vc, .bool cl] w0 (Ret [] H0 w0 fun v H' M' => if cutsOk st.length 0 cuts = true ∧ (cl = true → openF (g * s - 4) st cuts = []) then
        ∃ b o, v = .tuple #[ptr b, .int .i64 0] ∧ M' = [(b, o, true)] ∧ w0.heap.size ≤ b ∧ SrcIn H' (newD g s st cuts cl) o
      else v = .tuple #[.pointer none, .int .i64 1]) := by
  have hs := HS.init h0
  have hle := Hp.le.refl H0
  obtain ⟨b1, c1, rfl⟩ := h1.form
  obtain ⟨b2, c2, rfl⟩ := h2.form
  refine Calls.enter (args := [.int .i64 (g : Int), .int .i64 (s : Int), .slice b1 st.length c1, .slice b2 cuts.length c2, .bool cl]) Try.func50 rfl Try.ntmps50 rfl ?_
  refine WC.seq (WC.region (WO.step rfl (OR.assign rfl (WO.step rfl (OR.assign rfl (WO.done (WX.seq ?_)))))))
  refine WC.seq (WC.region (WO.step rfl (OR.move rfl (WO.step rfl (OR.move rfl (WO.step rfl (OR.move rfl ?_)))))))
  refine WO.step rfl (OR.build (cs := #[.int .i64 (g : Int), .int .i64 (s : Int), .slice none 0 0, .slice none 0 0, .bool cl, .slice none 0 0, .slice none 0 0]) rfl (by intro w; kernel_rfl) ?_)
  refine WO.step rfl (OR.box hs rfl ?_)
  clear hs; intro g1 w hg1 hs
  refine WO.step rfl (OR.assign rfl (WO.done (WX.seq (WC.seq (WC.seq (WC.region (WO.step rfl ?_)))))))
  refine OR.move rfl (WO.step rfl (OR.lenSlice T23.und rfl (WO.step rfl (OR.gtr rfl rfl (WO.step rfl (OR.move rfl ?_))))))
  refine WO.guardYes rfl (decide_eq_false (by omega : ¬ ((st.length : Int) > 262144))) rfl rfl (OR.move rfl (WO.guardYes rfl (decide_eq_false (by omega : ¬ ((st.length : Int) > 262144))) rfl rfl (OR.move rfl (WO.guardYes rfl (decide_eq_false (by omega : ¬ ((st.length : Int) > 262144))) rfl rfl (OR.move rfl ?_)))))
  refine WO.guardYes rfl (decide_eq_false (by omega : ¬ ((st.length : Int) > 262144))) rfl rfl (OR.callX (Mx := [(g1, _, true)]) hs body99 rfl rfl (set_ok g1 g s (.slice none 0 0) (.slice none 0 0) (.slice none 0 0) (.slice none 0 0) _ _ cl st cuts _ _ hs.toSub (hs.blk (i := 0) rfl) (hs.mem g1 _ true (List.mem_cons_self ..)).2.1 hgs h1 h2 (by omega) (by omega)) rfl rfl ?_)
  clear hs; rintro _ H M' w hs hle1 hnew hres; replace hle := hle.trans hle1; (try replace hlb := hlb.trans hle1)
  by_cases hT : cutsOk st.length 0 cuts = true
  · rw [if_pos hT] at hres
    obtain ⟨rfl, o, rfl, hsrc⟩ := hres
    refine WO.guardYes rfl (decide_eq_false (by omega : ¬ ((st.length : Int) > 262144))) rfl rfl (OR.neq rfl rfl (WO.step rfl (OR.pickF rfl (decide_eq_false (by omega : ¬ ((st.length : Int) > 262144))) rfl (WO.step rfl (OR.move rfl ?_)))))
    obtain ⟨vs', vc', vch', vop', ho, q1, q2, q3, q4⟩ := hsrc
    have hop := q4
    obtain ⟨b9, c9, e9⟩ := hop.form
    cases cl with
    | false =>
      refine WO.guardYes rfl rfl rfl rfl (OR.move rfl (WO.guardYes rfl rfl rfl rfl (OR.move rfl ?_)))
      refine WO.guardNo rfl rfl rfl rfl (WO.guardNo rfl rfl rfl rfl (WO.guardNo rfl rfl rfl rfl (WO.guardNo rfl rfl rfl rfl (WO.guardNo rfl rfl rfl rfl (WO.guardNo rfl rfl rfl rfl (WO.guardYes rfl rfl rfl rfl (OR.pickF rfl rfl rfl ?_)))))))
      refine WO.step rfl (OR.pickF rfl rfl rfl (WO.done (WX.seq (WC.no rfl rfl (WC.skip (WX.seq (WC.seq ?_)))))))
      refine WC.region (WO.step rfl (OR.move rfl (WO.step rfl (OR.assign rfl (WO.step rfl (OR.assign rfl (WO.done ?_)))))))
      refine WX.seq (WC.ret ?_)
      refine WX.ret2 rfl rfl rfl ?_
      refine ⟨_, H, _, rfl, hs, by simp, ?_⟩
      show ite _ _ _
      rw [if_pos ⟨hT, fun h => by cases h⟩]
      exact ⟨g1, o, rfl, rfl, hg1, _, _, _, _, ho, q1, q2, q3, q4⟩
    | true =>
      subst e9 ho
      refine WO.guardYes rfl rfl rfl rfl (OR.move rfl (WO.guardYes rfl rfl rfl rfl (OR.move rfl ?_)))
      refine WO.guardYes rfl rfl rfl rfl (OR.move rfl (WO.guardYes rfl rfl rfl rfl (OR.nilCheck rfl (WO.guardYes rfl rfl rfl rfl (OR.fieldAddr FA151_6 rfl (WO.guardYes rfl rfl rfl rfl (OR.load T23 rfl rfl (hs.cellM (i := 0) rfl rfl) ?_)))))))
      refine WO.guardYes rfl rfl rfl rfl (OR.lenSlice T23.und rfl (WO.guardYes rfl rfl rfl rfl (OR.gtr rfl rfl (WO.guardYes rfl rfl rfl rfl (OR.pickT rfl rfl rfl (WO.step rfl (OR.pickF rfl rfl rfl ?_)))))))
      refine WO.done (WX.seq ?_)
      refine WC.cond rfl (fun hopn => ?_) (fun hopn => ?_)
      · have hne : ¬ openF (g * s - 4) st cuts = [] := fun e => by simp only at hopn; rw [e] at hopn; cases hopn
        refine WC.seq (WC.region (WO.step rfl (OR.assign rfl (WO.step rfl (OR.assign rfl (WO.done (WX.seq ?_)))))))
        refine WC.ret (WX.seq_ret ?_)
        refine WX.ret2 rfl rfl rfl ?_
        refine ⟨_, H, _, rfl, hs.drop 0, by simp [dropAt], ?_⟩
        show ite _ _ _
        rw [if_neg (fun h => hne (h.2 rfl))]
      · have he : openF (g * s - 4) st cuts = [] := by
          simp only at hopn
          refine List.eq_nil_of_length_eq_zero ?_
          have := of_decide_eq_false hopn
          omega
        refine WC.skip (WX.seq (WC.seq (WC.region (WO.step rfl (OR.move rfl (WO.step rfl (OR.assign rfl ?_)))))))
        refine WO.step rfl (OR.assign rfl (WO.done (WX.seq (WC.ret ?_))))
        refine WX.ret2 rfl rfl rfl ?_
        refine ⟨_, H, _, rfl, hs, by simp, ?_⟩
        show ite _ _ _
        rw [if_pos ⟨hT, fun _ => he⟩]
        exact ⟨g1, _, rfl, rfl, hg1, _, _, _, _, rfl, q1, q2, q3, q4⟩
  · rw [if_neg hT] at hres
    obtain ⟨rfl, rfl⟩ := hres
    refine WO.guardYes rfl (decide_eq_false (by omega : ¬ ((st.length : Int) > 262144))) rfl rfl (OR.neq rfl rfl (WO.step rfl (OR.pickF rfl (decide_eq_false (by omega : ¬ ((st.length : Int) > 262144))) rfl (WO.step rfl (OR.move rfl ?_)))))
    refine WO.guardNo rfl rfl rfl rfl (WO.guardNo rfl rfl rfl rfl (WO.guardGone rfl rfl rfl (WO.guardGone rfl rfl rfl (WO.guardGone rfl rfl rfl (WO.guardGone rfl rfl rfl (WO.guardGone rfl rfl rfl (WO.guardGone rfl rfl rfl ?_)))))))
    refine WO.guardNo rfl rfl rfl rfl (WO.step rfl (OR.pickT rfl rfl rfl (WO.done (WX.seq (WC.yes rfl rfl (WC.seq (WC.region ?_)))))))
    refine WO.step rfl (OR.assign rfl (WO.step rfl (OR.assign rfl (WO.done (WX.seq (WC.ret (WX.seq_ret ?_)))))))
    refine WX.ret2 rfl rfl rfl ?_
    refine ⟨_, H, _, rfl, hs.drop 0, by simp [dropAt], ?_⟩
    show ite _ _ _
    rw [if_neg (fun h => hT h.1)]

end Go.Bw
