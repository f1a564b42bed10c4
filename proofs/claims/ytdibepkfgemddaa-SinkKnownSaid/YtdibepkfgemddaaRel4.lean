/- A relay: made. -/
import Derived.Test.YtdibepkfgemddaaRel3
namespace Go.Bw
set_option linter.unusedVariables false
set_option linter.unusedSimpArgs false
open Go.Proofs

def newR (g s width : Nat) : RelD := ⟨g, s, 0, width, fun _ => []⟩
theorem newR_ok {g s width : Nat} (h : 1 ≤ g ∧ g ≤ 255 ∧ 1 ≤ s ∧ s ≤ 65535) (hw : 1 ≤ width ∧ width ≤ 16) : RelOk (newR g s width) :=
  ⟨h.1, h.2.1, h.2.2.1, h.2.2.2, hw.1, hw.2, Nat.zero_le _, fun _ => Red.nil _ _⟩
set_option maxRecDepth 20000 in
set_option maxHeartbeats 2000000 in
theorem rnew_ok (g s width : Nat) (H0 : Hp) (w0 : World) (h0 : Sub H0 w0) (h : 1 ≤ g ∧ g ≤ 255 ∧ 1 ≤ s ∧ s ≤ 65535) (hw : 1 ≤ width ∧ width ≤ 16) :
    Calls Try.prog 8 #[.int .i64 (g : Int), .int .i64 (s : Int), .int .i64 (width : Int)] w0 (Ret [] H0 w0 fun v H' M' => H' = H0 ∧ ∃ rb wb, v = .tuple #[ptr rb, .int .i64 0] ∧ M' = relMem true (newR g s width) rb wb (List.replicate 16 none)) := by
  have hs := HS.init h0
  have hle := Hp.le.refl H0
  refine Calls.enter (args := [.int .i64 (g : Int), .int .i64 (s : Int), .int .i64 (width : Int)]) Try.func8 rfl Try.ntmps8 rfl ?_
  refine WC.seq (WC.region (WO.step rfl (OR.assign rfl (WO.step rfl (OR.assign rfl (WO.done (WX.seq ?_)))))))
  refine WC.seq (WC.region (WO.step rfl (OR.move rfl ?_)))
  refine WO.step rfl (OR.callX (Mx := []) hs body31 rfl rfl (wnewW_ok (width : Int) _ _ hs.toSub) rfl rfl ?_)
  clear hs; rintro _ H M' w hs hle1 hnew ⟨rfl, hres⟩; replace hle := hle.trans hle1; (try replace hlb := hlb.trans hle1)
  rw [if_pos (by omega)] at hres
  obtain ⟨wb, rfl, rfl⟩ := hres
  refine WO.step rfl (OR.move rfl (WO.step rfl (OR.extract rfl rfl (WO.step rfl (OR.extract rfl rfl (WO.step rfl (OR.assign rfl ?_)))))))
  refine WO.step rfl (OR.assign rfl (WO.done (WX.seq (WC.seq (WC.seq (WC.region (WO.step rfl ?_)))))))
  refine OR.move rfl (WO.step rfl (OR.move rfl ?_))
  refine WO.step rfl (OR.callX (Mx := []) hs body32 rfl rfl (new_ok (g : Int) (s : Int) _ _ hs.toSub) rfl rfl ?_)
  clear hs; rintro _ H M' w hs hle1 hnew ⟨rfl, hres⟩; replace hle := hle.trans hle1; (try replace hlb := hlb.trans hle1)
  rw [if_pos (by omega)] at hres
  obtain ⟨bb, hbb, rfl, rfl⟩ := hres
  refine WO.step rfl (OR.move rfl (WO.step rfl (OR.extract rfl rfl (WO.step rfl (OR.extract rfl rfl (WO.step rfl (OR.assign rfl ?_)))))))
  refine WO.step rfl (OR.assign rfl (WO.done (WX.seq (WC.seq (WC.region (WO.step rfl (OR.move rfl ?_)))))))
  refine WO.step rfl (OR.neq rfl rfl (WO.step rfl (OR.move rfl ?_)))
  replace hs := hs.drop (i := 0)
  refine WO.guardYes rfl rfl rfl rfl (OR.move rfl (WO.guardYes rfl rfl rfl rfl (OR.neq rfl rfl (WO.step rfl (OR.pickF rfl rfl rfl (WO.done (WX.seq ?_)))))))
  refine WC.no rfl rfl ?_
  refine WC.skip (WX.seq (WC.seq (WC.region (WO.step rfl (OR.move rfl (WO.step rfl (OR.move rfl ?_)))))))
  refine WO.step rfl (OR.move rfl ?_)
  refine WO.step rfl (OR.build (cs := (Value.int .i64 (g : Int) :: Value.int .i64 (s : Int) :: ptr wb :: List.replicate 16 (Value.pointer none)).toArray) rfl (by intro w; kernel_rfl) ?_)
  refine WO.step rfl (OR.box hs rfl ?_)
  clear hs; intro g1 w hg1 hs
  refine WO.step rfl (OR.assign rfl (WO.step rfl (OR.assign rfl (WO.done (WX.seq (WC.ret ?_))))))
  refine WX.ret2 rfl rfl rfl ?_
  refine ⟨_, _, [_, _], rfl, hs, by simp, rfl, g1, wb, rfl, ?_⟩
  rfl
end Go.Bw
