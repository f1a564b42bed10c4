/- Matrices: Size, copies. -/
import Derived.Test.YtbgdgmilcojlbaaGauss
import Derived.Test.YtbgdgmilcojlbaaGone
import Derived.Test.YtbgdgmilcojlbaaOps5
import Derived.Test.YtbgdgmilcojlbaaConts
namespace Go.Bw
set_option linter.unusedVariables false
set_option linter.unusedSimpArgs false
open Go.Proofs

set_option maxRecDepth 20000 in
set_option maxHeartbeats 2000000 in
theorem size1_ok (gs : Nat) (n : Nat) (vx : Value) (l : List UInt8) (H0 : Hp) (w0 : World) (h0 : Sub H0 w0) (hc : hcell H0 ⟨gs, 0, none⟩ = some (.int .i64 (n : Int))) (hx : Bytes H0 vx l) :
    Calls Try.prog 174 #[vx, ptr gs] w0 (Pure H0 w0 fun v _ => v = .bool (decide (l.length ≠ n))) := by
  have hs := HS.init h0
  obtain ⟨b1, c1, rfl⟩ := hx.form
  refine Calls.enter (args := [.slice b1 l.length c1, ptr gs]) Try.func174 rfl Try.ntmps174 rfl ?_
  refine WC.seq (WC.region (WO.step rfl (OR.assign rfl (WO.done (WX.seq (WC.seq (WC.region ?_)))))))
  refine WO.step rfl (OR.move rfl (WO.step rfl (OR.lenSlice T23.und rfl ?_)))
  refine WO.step rfl (OR.load T3 rfl rfl (hs.cell hc) ?_)
  refine WO.step rfl (OR.neq rfl rfl (WO.step rfl (OR.assign rfl (WO.done (WX.seq (WC.ret ?_))))))
  refine WX.ret1 rfl rfl ?_
  refine .mk hs ?_
  congr 1
  rw [decide_eq_decide]
  omega

set_option maxRecDepth 20000 in
set_option maxHeartbeats 2000000 in
theorem cloneL_ok (v : Value) (n : Nat) (cs : List Value) (H0 : Hp) (w0 : World) (h0 : Sub H0 w0) (hv : Sl H0 1 v n cs) (h1 : cs.all (·.oneCell') = true) (hl : n ≤ 1000000000) :
    Calls Try.prog 138 #[v] w0 (Ret [] H0 w0 fun v H' M' => H' = H0 ∧ Own w0.heap.size 23 1 v n cs M') := by
  have hs := HS.init h0
  obtain ⟨base, cp, rfl⟩ := hv.form
  have hcl : cs.length = n := by have := hv.1; omega
  refine Calls.enter (args := [.slice base n cp]) Try.func138 rfl Try.ntmps138 rfl ?_
  refine WC.seq (WC.region (WO.step rfl (OR.assign rfl (WO.done (WX.seq (WC.seq (WC.seq ?_)))))))
  refine WC.region (WO.step rfl (OR.move rfl (WO.step rfl (OR.eqlNil T22.und rfl rfl (WO.done (WX.seq ?_))))))
  refine WC.cond rfl (fun hb => ?_) (fun hb => ?_)
  · refine WC.seq (WC.region (WO.step rfl (OR.assign rfl (WO.done (WX.seq (WC.ret (WX.seq_ret ?_)))))))
    refine WX.ret1 rfl rfl ?_
    have hb' : base = none := by cases base with | none => rfl | some a => cases hb
    subst hb'
    have h2 := Sl.src0 hv rfl
    subst h2
    have : cs = [] := List.eq_nil_of_length_eq_zero hcl
    subst this
    exact ⟨_, H0, [], rfl, hs, by simp, rfl, Own.nil _ _ _⟩
  · refine WC.skip (WX.seq (WC.seq (WC.region ?_)))
    refine WO.step rfl (OR.buildSlice (vs := []) hs T22.und T23 rfl rfl rfl rfl (by simp) ?_)
    clear hs; intro g1 w hg1 hs
    refine WO.step rfl (OR.move rfl ?_)
    refine WO.step rfl (OR.append (n := 0) (m := n) (cs := []) (news := cs) (Mo := [_]) (M := []) hs (Own.block (cap := 0) (by omega) rfl rfl hg1) T22.und T23 rfl (by omega) rfl rfl (by omega) (Sl.src hv hs) (Sl.src0 hv) h1 (by omega) (by omega) ?_)
    clear hs; intro v' w Mo hs ho hge
    refine WO.step rfl (OR.assign rfl (WO.done (WX.seq (WC.ret ?_))))
    refine WX.ret1 rfl rfl ?_
    rw [Nat.zero_add, List.nil_append] at ho
    refine ⟨_, H0, Mo, rfl, by simpa using hs, ?_, rfl, ho⟩
    rcases ho.2 with ⟨rfl, _⟩ | ⟨g, c, cap, rfl, _⟩ <;> simp
end Go.Bw
