/- A basis: Solve, Copy, Same. -/
import Derived.Test.YtdibepkfgemddaaGreatBasis
namespace Go.Bw
set_option linter.unusedVariables false
set_option linter.unusedSimpArgs false
open Go.Proofs

set_option maxRecDepth 20000 in
set_option maxHeartbeats 2000000 in
theorem solve_nil (H0 : Hp) (w0 : World) (h0 : Sub H0 w0) :
    Calls Tryz.prog 152 #[.pointer none] w0 (Pure H0 w0 fun v _ => v = .tuple #[.slice none 0 0, .int .i64 2]) := by
  have hs := HS.init h0
  have hle := Hp.le.refl H0
  refine Calls.enter (args := [.pointer none]) Tryz.func152 rfl Tryz.ntmps152 rfl ?_
  refine WC.seq (WC.region (WO.step rfl (OR.assign rfl (WO.step rfl (OR.assign rfl (WO.done (WX.seq ?_)))))))
  refine WC.seq (WC.block (WC.seq (WC.region (WO.step rfl (OR.move rfl ?_)))))
  refine WO.step rfl (OR.call hs body119 rfl rfl (made_nil _ _ hs.toSub) ?_)
  clear hs; rintro _ H w hs hle1 rfl; replace hle := hle.trans hle1; (try replace hlb := hlb.trans hle1)
  refine WO.step rfl (OR.not rfl (WO.step rfl (OR.assign rfl (WO.done (WX.seq ?_)))))
  refine WC.yes rfl rfl ?_
  refine WC.seq (WC.region (WO.step rfl (OR.assign rfl (WO.step rfl (OR.assign rfl (WO.done (WX.seq ?_)))))))
  refine WC.ret (WX.block_ret (WX.seq_ret ?_))
  refine WX.ret2 rfl rfl rfl ?_
  exact .mk hs rfl

set_option maxRecDepth 20000 in
set_option maxHeartbeats 2000000 in
theorem solve_ok (rows : List RowD) (rv : Value) (b g s : Nat) (H0 : Hp) (w0 : World) (h0 : Sub H0 w0) (hb : w0.heap[b]? = some (basisObj g s rv)) (hn : H0 b = none) (hv : Rws H0 rv rows)
    (hrs : ∀ x ∈ rows, RowGS g s x) (hg0 : 0 < g) (hg : g ≤ 255) (hsm : s ≤ 65535) (hlen : rows.length ≤ 255) :
    Calls Tryz.prog 152 #[ptr b] w0 (Pure H0 w0 fun v H' => ∃ r, v = .tuple #[r, .int .i64 (if rows.length < g then 24 else 0)] ∧ BytesL H' r (if rows.length < g then [] else rows.map (·.2))) := by
  have hs := HS.startR h0 hb hn
  have hle := Hp.le.refl H0
  obtain ⟨br, cr, rfl⟩ := hv.form
  refine Calls.enter (args := [ptr b]) Tryz.func152 rfl Tryz.ntmps152 rfl ?_
  refine WC.seq (WC.region (WO.step rfl (OR.assign rfl (WO.step rfl (OR.assign rfl (WO.done (WX.seq ?_)))))))
  refine WC.seq (WC.block (WC.seq (WC.region (WO.step rfl (OR.move rfl ?_)))))
  refine WO.step rfl (OR.call hs body119 rfl rfl (made_yes b g s _ _ _ hs.toSub hb hn hg0) ?_)
  clear hs; rintro _ H w hs hle1 rfl; replace hle := hle.trans hle1; (try replace hlb := hlb.trans hle1)
  refine WO.step rfl (OR.not rfl (WO.step rfl (OR.assign rfl (WO.done (WX.seq ?_)))))
  refine WC.no rfl rfl ?_
  refine WC.seq ?_
  refine WC.draw 11 mixed hs (by kernel_rfl) ?_
  refine ⟨MF.eq _, by intro Mx H w hle hs; refine forVals_nil (ORg.plain (OR.move rfl ?_)); exact ⟨_, [], Hp.le.refl _, hs, rfl, rfl⟩, ?_⟩
  refine ⟨MF.eq _, by intro Mx H w hle hs; refine forVals_eq rfl rfl rfl ?_; refine forVals_nil (ORg.plain (OR.nilCheck rfl ?_)); exact ⟨_, [], Hp.le.refl _, hs, rfl, rfl⟩, ?_⟩
  refine ⟨MF.eq _, by intro Mx H w hle hs; refine forVals_eq rfl rfl rfl ?_; refine forVals_nil (ORg.plain (OR.fieldAddr FA194_2 rfl ?_)); exact ⟨_, [], Hp.le.refl _, hs, rfl, rfl⟩, ?_⟩
  refine ⟨MF.eq _, by intro Mx H w hle hs; refine forVals_eq rfl rfl rfl ?_; refine forVals_nil (ORg.plain (OR.load T97 rfl rfl (hs.right.cellM (i := 0) rfl rfl) ?_)); exact ⟨_, [], Hp.le.refl _, hs, rfl, rfl⟩, ?_⟩
  refine ⟨MF.eq _, by intro Mx H w hle hs; refine forVals_eq rfl rfl rfl ?_; refine forVals_nil (ORg.plain (OR.lenSlice T97.und rfl ?_)); exact ⟨_, [], Hp.le.refl _, hs, rfl, rfl⟩, ?_⟩
  refine ⟨MF.eq _, by intro Mx H w hle hs; refine forVals_nil (ORg.plain (OR.move rfl ?_)); exact ⟨_, [], Hp.le.refl _, hs, rfl, rfl⟩, ?_⟩
  refine ⟨MF.eq _, by intro Mx H w hle hs; refine forVals_eq rfl rfl rfl ?_; refine forVals_nil (ORg.plain (OR.nilCheck rfl ?_)); exact ⟨_, [], Hp.le.refl _, hs, rfl, rfl⟩, ?_⟩
  refine ⟨MF.eq _, by intro Mx H w hle hs; refine forVals_eq rfl rfl rfl ?_; refine forVals_nil (ORg.plain (OR.fieldAddr FA194_0 rfl ?_)); exact ⟨_, [], Hp.le.refl _, hs, rfl, rfl⟩, ?_⟩
  refine ⟨MF.eq _, by intro Mx H w hle hs; refine forVals_eq rfl rfl rfl ?_; refine forVals_nil (ORg.plain (OR.load T3 rfl rfl (hs.right.cellM (i := 0) rfl rfl) ?_)); exact ⟨_, [], Hp.le.refl _, hs, rfl, rfl⟩, ?_⟩
  refine ⟨MF.eq _, by intro Mx H w hle hs; refine forVals_eq rfl rfl rfl ?_; refine forVals_eq rfl rfl rfl ?_; refine forVals_nil (ORg.plain (OR.lss rfl rfl ?_)); exact ⟨_, [], Hp.le.refl _, hs, rfl, rfl⟩, ?_⟩
  refine ⟨MF.eq _, by intro Mx H w hle hs; refine forVals_eq rfl rfl rfl ?_; refine forVals_nil (ORg.plain (OR.assign rfl ?_)); exact ⟨_, [], Hp.le.refl _, hs, rfl, rfl⟩, ?_⟩
  intro H w hle2; (try replace hle := hle.trans hle2); (try replace hlb := hlb.trans hle2)
  refine forAllVals_eq rfl ?_
  refine forAllVals_eq rfl ?_
  refine forAllVals_eq rfl ?_
  refine forAllVals_eq rfl ?_
  refine forAllVals_eq rfl ?_
  refine forAllVals_eq rfl ?_
  refine forAllVals_eq rfl ?_
  refine forAllVals_eq rfl ?_
  refine forAllVals_eq rfl ?_
  refine forAllVals_eq rfl ?_
  refine forAllVals_eq rfl ?_
  refine forAllVals_nil ?_; (try clear hs); intro hs
  refine WO.done (WX.seq ?_)
  refine WC.condD rfl (fun hlt => ?_) (fun hlt => ?_)
  · refine WC.seq (WC.region (WO.step rfl (OR.assign rfl (WO.step rfl (OR.assign rfl (WO.done (WX.seq ?_)))))))
    refine WC.ret (WX.block_ret (WX.seq_ret ?_))
    refine WX.ret2 rfl rfl rfl ?_
    have : rows.length < g := by omega
    refine .mk hs ⟨_, by rw [if_pos this], ?_⟩
    rw [if_pos this]
    exact ⟨[], Sl.nil _ _, rfl, fun i h => by simp at h⟩
  · have hge : ¬ rows.length < g := by omega
    refine WC.skip (WX.block (WX.seq (WC.seq (WC.region (WO.step rfl (OR.assign rfl (WO.done ?_)))))))
    refine WX.seq (WC.seq (WC.seq (WC.region (WO.step rfl (OR.move rfl (WO.step rfl (OR.nilCheck rfl ?_)))))))
    refine WO.step rfl (OR.fieldAddr FA194_2 rfl (WO.step rfl (OR.load T97 rfl rfl (hs.cellM (i := 0) rfl rfl) (WO.step rfl (OR.lenSlice T97.und rfl (WO.step rfl (OR.move rfl ?_)))))))
    refine WO.done (WX.seq (WC.block ?_))
    refine WC.loop (ι := Nat × Value) (fun ix => [(4, ix.2), (25, .slice br rows.length cr), (26, .int .i64 (rows.length : Int)), (27, .int .i64 (ix.1 : Int))]) (fun ix w => (ix.1 ≤ rows.length ∧ ∃ H cs Mo, Hp.le H0 H ∧ BLOk H cs ((rows.take ix.1).map (·.2)) ∧ Own w0.heap.size 43 1 ix.2 ix.1 cs Mo ∧ HS [] H0 w0 H (Mo ++ [(b, basisObj g s (.slice br rows.length cr), false)]) w)) (fun ix => rows.length - ix.1) (0, .slice none 0 0) ⟨rfl, rfl, rfl, rfl,  trivial⟩ ?_ (fun ix w hW => ?_)
    · exact ⟨by omega, H, [], [], hle, BLOk.nil _, Own.nil _ _ _, hs⟩
    obtain ⟨k, vo⟩ := ix
    obtain ⟨hk, H, cs, Mo, hle, hok, ho, hs⟩ := hW
    simp only at hk hok ho
    refine WC.seq (WC.region (WO.step rfl (OR.lss rfl rfl (WO.done (WX.seq (WC.seq ?_))))))
    refine WC.condD rfl (fun hlt => ?_) (fun hlt => ?_)
    · have hk' : k < rows.length := by omega
      obtain ⟨xb, xo, rfl, hcr⟩ := hv.pos (by omega)
      obtain ⟨ec, ep, hcc, hec, hep⟩ := hcr k hk'
      have hgs := hrs rows[k] (List.getElem_mem _)
      obtain ⟨b1, c1, rfl⟩ := hec.form
      obtain ⟨b2, c2, rfl⟩ := hep.form
      refine WC.skip (WX.seq (WC.seq (WC.block (WC.seq (WC.region ?_)))))
      refine WO.step rfl (OR.idxN k T97.und T45 rfl rfl rfl hk' ?_)
      refine WO.step rfl (OR.loadN (cs := [_, _]) T45 rfl rfl rfl (fun j u hj => hs.cell (hcell.mono hle (hcc j u hj))) ?_)
      refine WO.step rfl (OR.alloc hs T45 ?_)
      clear hs; intro g1 w hg1 hs
      refine WO.stepN (OR.storeAll hs T45 rfl rfl rfl rfl rfl ?_)
      clear hs; intro w hs
      refine WO.done (WX.seq (WC.region (WO.step rfl (OR.move rfl (WO.step rfl (OR.fieldAddr FA45_1 rfl (WO.step rfl ?_)))))))
      refine OR.load T43 rfl rfl (hs.cellM (i := 0) rfl rfl) ?_
      refine WO.step rfl (OR.call hs body87 rfl rfl (clone_pure _ _ _ _ hs.toSub (hep.mono hle) (by rw [hgs.2]; omega)) ?_)
      clear hs; rintro _ H w hs hle1 hcl; replace hle := hle.trans hle1; (try replace hlb := hlb.trans hle1)
      obtain ⟨b3, c3, rfl⟩ := hcl.form
      refine WO.step rfl (OR.buildSlice (vs := [_]) hs T40.und T43 rfl rfl rfl rfl (by simp) ?_)
      clear hs; intro g2 w hg2 hs
      have hb1 := hs.blk (i := 0) rfl
      replace hs := (hs.drop 1).sink
      have hs := hs
      refine WO.step rfl (OR.append (m := 1) (news := [_]) hs ho T40.und T43 rfl (by omega) rfl rfl rfl (cells_of hb1) (fun h => by cases h) rfl (by omega) (by omega) ?_)
      clear hs ho; intro vo' w Mo' hs ho hge
      replace hs := hs.dropMid
      refine WO.step rfl (OR.assign rfl (WO.done (WX.block (WX.seq (WC.region (WO.step rfl (OR.addI rfl rfl (by omega) (by omega) ?_)))))))
      refine WO.step rfl (OR.move rfl (WO.done ?_))
      refine WX.again ((k + 1, vo')) ⟨rfl, rfl, rfl, rfl,  trivial⟩ ?_ ?_
      · refine ⟨hk', H, cs ++ [_], Mo', hle, ?_, ho, hs⟩
        rw [List.take_succ_eq_append_getElem hk', List.map_append]
        exact (hok.mono hle1).snoc hcl
      · simp only; omega
    · have e : k = rows.length := by omega
      subst e
      refine WC.exit (WX.seq_exit (WX.loop_exit (WX.block_hit (WX.seq (WC.seq (WC.region (WO.step rfl ?_)))))))
      refine OR.move rfl (WO.step rfl (OR.assign rfl (WO.step rfl (OR.assign rfl (WO.done (WX.seq (WC.ret ?_)))))))
      refine WX.ret2 rfl rfl rfl ?_
      obtain ⟨H2, hle2, hs2, hsl, _⟩ := HS.pub hs ho
      rw [List.take_of_length_le (Nat.le_refl _)] at hok
      refine .mk hs2 ⟨vo, by rw [if_neg hge], ?_⟩
      rw [if_neg hge]
      exact (hok.mono hle2).bytesL (by simpa using hsl)

-- left out, for this seat has no (*braidwork/basis.Basis).Copy: theorem copy_nil (H0
-- left out, for this seat has no (*braidwork/basis.Basis).Copy: theorem copy_ok (rows
end Go.Bw
