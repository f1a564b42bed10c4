/- The law's own inputs: symbols and rows. -/
import Derived.Test.YtbgdgmilcojlbaaTimes
import Derived.Test.YtbgdgmilcojlbaaOps4
namespace Go.Bw
set_option linter.unusedVariables false
set_option linter.unusedSimpArgs false
open Go.Proofs

/-- What laid makes. -/
def laidG (G : UInt8) : Nat := 1 + G.toNat % 10
def laidSyms (g s : Nat) (l : List (List UInt8)) : List (List UInt8) := (List.range g).map fun i => padTo s (l.getD i [])
def laidRow (g s : Nat) (syms : List (List UInt8)) (c : List UInt8) : RowD := (padTo g c, comb s syms (padTo g c))
def laidRows (g s : Nat) (syms : List (List UInt8)) (l : List (List UInt8)) : List RowD := (l.take 40).map (laidRow g s syms)

set_option maxRecDepth 20000 in
set_option maxHeartbeats 2000000 in
theorem laid_ok (G S : UInt8) (vs vc vo : Value) (sy co : List (List UInt8)) (H0 : Hp) (w0 : World) (h0 : Sub H0 w0) (hsy : BytesL H0 vs sy) (hco : BytesL H0 vc co)
    (hl1 : sy.length ≤ 9223372036854775807) (hl2 : co.length ≤ 9223372036854775807) (hvo : vo.oneCell' = true) :
    Calls Try.prog 14 #[.agg #[B G, B S, vs, vc, vo]] w0 (Pure H0 w0 fun v H' => ∃ rs rr, v = .tuple #[.int .i64 (laidG G : Int), .int .i64 (laidG S : Int), rs, rr] ∧
      BytesL H' rs (laidSyms (laidG G) (laidG S) sy) ∧ Rws H' rr (laidRows (laidG G) (laidG S) (laidSyms (laidG G) (laidG S) sy) co)) := by
  have hs := HS.init h0
  have hle := Hp.le.refl H0
  obtain ⟨bs, cs, rfl⟩ := hsy.form
  obtain ⟨bc, cc, rfl⟩ := hco.form
  refine Calls.enter (args := [.agg #[B G, B S, .slice bs sy.length cs, .slice bc co.length cc, vo]]) Try.func14 rfl Try.ntmps14 rfl ?_
  refine WC.seq (WC.region (WO.step rfl (OR.box hs rfl ?_)))
  clear hs; intro g1 w hg1 hs
  refine WO.step rfl (OR.assign rfl (WO.step rfl (OR.assign rfl (WO.step rfl (OR.assign rfl (WO.step rfl (OR.assign rfl ?_)))))))
  refine WO.done (WX.seq (WC.seq ?_))
  refine WC.sub [(1, ptr g1), (4, .slice none 0 0), (5, .slice none 0 0)] ⟨rfl, rfl, rfl,  trivial⟩ ?_
  refine WC.draw 11 mixed hs (by kernel_rfl) ?_
  refine ⟨MF.eq _, by intro Mx H w hle hs; refine forVals_nil (ORg.plain (OR.fieldAddr FA25_0 rfl ?_)); exact ⟨_, [], Hp.le.refl _, hs, rfl, rfl⟩, ?_⟩
  refine ⟨MF.eq _, by intro Mx H w hle hs; refine forVals_eq rfl rfl rfl ?_; refine forVals_nil (ORg.plain (OR.load T5 rfl rfl (hs.right.cellM (i := 0) rfl rfl) ?_)); exact ⟨_, [], Hp.le.refl _, hs, rfl, rfl⟩, ?_⟩
  refine ⟨MF.eq (.int .i64 (G.toNat : Int)), ?_, ?_⟩
  · intro Mx H w hle2 hs; (try replace hle := hle.trans hle2); (try replace hlb := hlb.trans hle2); refine forVals_eq rfl rfl rfl ?_
    refine forVals_nil (ORg.plain (OR.convB T5.und T3.und rfl ?_))
    exact ⟨_, [], Hp.le.refl _, hs, rfl, rfl⟩
  refine ⟨MF.eq (.int .i64 ((G.toNat : Int).tmod 10)), ?_, ?_⟩
  · intro Mx H w hle2 hs; (try replace hle := hle.trans hle2); (try replace hlb := hlb.trans hle2); refine forVals_eq rfl rfl rfl ?_
    refine forVals_nil (ORg.plain (OR.rem rfl rfl (by omega) ?_))
    exact ⟨_, [], Hp.le.refl _, hs, rfl, rfl⟩
  refine ⟨MF.eq (.int .i64 (laidG G : Int)), ?_, ?_⟩
  · intro Mx H w hle2 hs; (try replace hle := hle.trans hle2); (try replace hlb := hlb.trans hle2); refine forVals_eq rfl rfl rfl ?_
    have hG : (1 : Int) + (G.toNat : Int).tmod 10 = (laidG G : Int) := rfl
    have hG2 := Nat.mod_lt G.toNat (by omega : 0 < 10)
    refine forVals_nil (ORg.plain (OR.addI rfl rfl (by rw [hG]; unfold laidG; omega) (by rw [hG]; unfold laidG; omega) ?_))
    exact ⟨_, [], Hp.le.refl _, hs, rfl, rfl⟩
  refine ⟨MF.eq _, by intro Mx H w hle hs; refine forVals_nil (ORg.plain (OR.fieldAddr FA25_1 rfl ?_)); exact ⟨_, [], Hp.le.refl _, hs, rfl, rfl⟩, ?_⟩
  refine ⟨MF.eq _, by intro Mx H w hle hs; refine forVals_eq rfl rfl rfl ?_; refine forVals_nil (ORg.plain (OR.load T5 rfl rfl (hs.right.cellM (i := 0) rfl rfl) ?_)); exact ⟨_, [], Hp.le.refl _, hs, rfl, rfl⟩, ?_⟩
  refine ⟨MF.eq (.int .i64 (S.toNat : Int)), ?_, ?_⟩
  · intro Mx H w hle2 hs; (try replace hle := hle.trans hle2); (try replace hlb := hlb.trans hle2); refine forVals_eq rfl rfl rfl ?_
    refine forVals_nil (ORg.plain (OR.convB T5.und T3.und rfl ?_))
    exact ⟨_, [], Hp.le.refl _, hs, rfl, rfl⟩
  refine ⟨MF.eq (.int .i64 ((S.toNat : Int).tmod 10)), ?_, ?_⟩
  · intro Mx H w hle2 hs; (try replace hle := hle.trans hle2); (try replace hlb := hlb.trans hle2); refine forVals_eq rfl rfl rfl ?_
    refine forVals_nil (ORg.plain (OR.rem rfl rfl (by omega) ?_))
    exact ⟨_, [], Hp.le.refl _, hs, rfl, rfl⟩
  refine ⟨MF.eq (.int .i64 (laidG S : Int)), ?_, ?_⟩
  · intro Mx H w hle2 hs; (try replace hle := hle.trans hle2); (try replace hlb := hlb.trans hle2); refine forVals_eq rfl rfl rfl ?_
    have hG : (1 : Int) + (S.toNat : Int).tmod 10 = (laidG S : Int) := rfl
    have hG2 := Nat.mod_lt S.toNat (by omega : 0 < 10)
    refine forVals_nil (ORg.plain (OR.addI rfl rfl (by rw [hG]; unfold laidG; omega) (by rw [hG]; unfold laidG; omega) ?_))
    exact ⟨_, [], Hp.le.refl _, hs, rfl, rfl⟩
  refine ⟨MF.eq _, by intro Mx H w hle hs; refine forVals_eq rfl rfl rfl ?_; refine forVals_nil (ORg.plain (OR.assign rfl ?_)); exact ⟨_, [], Hp.le.refl _, hs, rfl, rfl⟩, ?_⟩
  intro H w hle2; (try replace hle := hle.trans hle2); (try replace hlb := hlb.trans hle2)
  refine forAllVals_eq rfl ?_
  refine forAllVals_eq rfl ?_
  refine forAllVals_eq rfl ?_
  refine forAllVals_eq rfl ?_
  refine forAllVals_eq rfl ?_
  refine forAllVals_eq rfl ?_
  refine forAllVals_eq rfl ?_
  refine forAllVals_eq rfl ?_
  refine forAllVals_eq rfl ?_
  refine forAllVals_eq rfl ?_
  refine forAllVals_eq rfl ?_
  refine forAllVals_nil ?_; (try clear hs); intro hs
  refine WO.step rfl (OR.assign rfl (WO.done (WX.seq (WC.seq (WC.seq (WC.region (WO.step rfl ?_)))))))
  refine OR.move rfl (WO.step rfl (OR.move rfl (WO.done (WX.seq (WC.block ?_)))))
  obtain ⟨H, hle1, hp_g1, hs9⟩ := hs.pub1 hg1; clear hs; have hs := hs9; clear hs9; replace hle := hle.trans hle1; (try replace hlb := hlb.trans hle1)
  have hG1 : 1 ≤ laidG G ∧ laidG G ≤ 10 := by have := Nat.mod_lt G.toNat (by omega : 0 < 10); unfold laidG; omega
  have hS1 : 1 ≤ laidG S ∧ laidG S ≤ 10 := by have := Nat.mod_lt S.toNat (by omega : 0 < 10); unfold laidG; omega
  generalize laidG G = g at *
  generalize laidG S = s at *
  have hbx := hp_g1
  refine WC.loop (ι := Nat × Value) (fun ix => [(1, ptr g1), (2, .int .i64 (g : Int)), (3, .int .i64 (s : Int)), (4, ix.2), (5, .slice none 0 0), (21, .int .i64 (g : Int)), (22, .int .i64 (ix.1 : Int))]) (fun ix w => (ix.1 ≤ g ∧ ∃ H cl Mo, Hp.le H0 H ∧ H g1 = some (Obj.cells #[B G, B S, .slice bs sy.length cs, .slice bc co.length cc, vo] 25) ∧ BLOk H cl ((List.range ix.1).map fun i => padTo s (sy.getD i [])) ∧ Own w0.heap.size 23 1 ix.2 ix.1 cl Mo ∧ HS [] H0 w0 H (Mo ++ []) w)) (fun ix => g - ix.1) (0, .slice none 0 0) ⟨rfl, rfl, rfl, rfl, rfl, rfl, rfl,  trivial⟩ ?_ (fun ix w hW => ?_)
  · exact ⟨by omega, H, [], [], hle, hbx, BLOk.nil _, Own.nil _ _ _, hs⟩
  clear hs hbx hle hp_g1
  obtain ⟨k, vy⟩ := ix
  obtain ⟨hk, H, cl, Mo, hle, hbx, hok, ho, hs⟩ := hW
  simp only at hk hok ho
  refine WC.seq (WC.region (WO.step rfl (OR.lss rfl rfl (WO.done (WX.seq (WC.seq ?_))))))
  refine WC.condD rfl (fun hlt => ?_) (fun hlt => ?_)
  · have hk' : k < g := by omega
    refine WC.skip (WX.seq (WC.seq (WC.block (WC.seq (WC.region (WO.step rfl (OR.move rfl ?_)))))))
    refine WO.step rfl (OR.assign rfl (WO.done (WX.seq (WC.seq (WC.region (WO.step rfl (OR.move rfl ?_)))))))
    refine WO.step rfl (OR.make1 hs T23.und T5 rfl rfl rfl (by omega) (by omega) ?_)
    clear hs; intro g2 w hg2 hs
    refine WO.step rfl (OR.assign rfl (WO.done (WX.seq (WC.seq (WC.seq (WC.region (WO.step rfl ?_)))))))
    refine OR.move rfl (WO.step rfl (OR.fieldAddr FA25_2 rfl ?_))
    refine WO.step rfl (OR.load T22 rfl rfl (hs.cell (hcell_of hbx rfl)) ?_)
    refine WO.step rfl (OR.lenSlice T22.und rfl (WO.step rfl (OR.lss rfl rfl (WO.done (WX.seq ?_)))))
    refine WC.condD rfl (fun hin => ?_) (fun hin => ?_)
    · have hks : k < sy.length := by omega
      obtain ⟨yb, yo, rfl, hcy⟩ := hsy.pos (by omega)
      obtain ⟨e, hce, hbe⟩ := hcy k hks
      have hX : sy.getD k [] = sy[k] := by simp [hks]
      obtain ⟨be, ce, rfl⟩ := hbe.form
      refine WC.region (WO.step rfl (OR.move rfl (WO.step rfl (OR.fieldAddr FA25_2 rfl ?_))))
      refine WO.step rfl (OR.load T22 rfl rfl (hs.cell (hcell_of hbx rfl)) ?_)
      refine WO.step rfl (OR.move rfl ?_)
      refine WO.step rfl (OR.idx k T22.und T23 rfl rfl rfl hks ?_)
      refine WO.step rfl (OR.load T23 rfl rfl (hs.cell (hcell.mono hle hce)) ?_)
      refine WO.step rfl (OR.copyO hs ((sy[k].take s).map B) T23.und T5 rfl rfl (by rw [List.length_map, List.length_take, natmin (c := min s sy[k].length) (by omega)]; omega) (Sl.src0 (hbe.mono hle)) (fun b hb j u hj => Sl.src (hbe.mono hle) hs b hb j u (by rw [List.map_take] at hj; exact get_take hj)) (by simp; omega) (bytes_one _) ?_)
      clear hs; intro w hs
      replace hs : HS [] H0 w0 H ((g2, .cells ((padTo s sy[k]).map B).toArray 5, true) :: (Mo ++ [])) w := by rw [← padTo_cells]; exact hs
      refine WO.done (WX.seq (WC.region (WO.step rfl (OR.move rfl (WO.step rfl (OR.move rfl ?_))))))
      obtain ⟨H, hle1, hp_g2, hs9⟩ := hs.pub1 hg2; clear hs; have hs := hs9; clear hs9; replace hle := hle.trans hle1; (try replace hlb := hlb.trans hle1)
      replace hbx := hle1 _ _ hbx
      have hx2 := Bytes.block (l := padTo s sy[k]) (cap := s) hp_g2 (by rw [padTo_length]; exact List.take_of_length_le (by simp [padTo_length])) (by simp [padTo_length])
      rw [padTo_length] at hx2
      refine WO.step rfl (OR.buildSlice (vs := [_]) hs T22.und T23 rfl rfl rfl rfl (by simp) ?_)
      clear hs; intro g3 w hg3 hs
      have hb1 := hs.blk (i := 0) rfl
      replace hs := hs.sink
      refine WO.step rfl (OR.append (m := 1) (news := [_]) hs ho T22.und T23 rfl (by omega) rfl rfl rfl (cells_of hb1) (fun h => by cases h) rfl (by omega) (by omega) ?_)
      clear hs ho; intro vo' w Mo' hs ho hge
      replace hs := hs.dropMid
      refine WO.step rfl (OR.assign rfl (WO.done (WX.block (WX.seq (WC.region (WO.step rfl (OR.addI rfl rfl (by omega) (by omega) ?_)))))))
      refine WO.step rfl (OR.move rfl (WO.done ?_))
      refine WX.again ((k + 1, vo')) ⟨rfl, rfl, rfl, rfl, rfl, rfl, rfl,  trivial⟩ ?_ ?_
      · refine ⟨hk', H, cl ++ [_], Mo', hle, hbx, ?_, ho, hs⟩
        rw [List.range_succ, List.map_append, List.map_cons, List.map_nil, hX]
        exact (hok.mono hle1).snoc hx2
      · simp only; omega
    · have hX : sy.getD k [] = [] := by rw [List.getD_eq_getElem?_getD, List.getElem?_eq_none (by omega)]; rfl
      replace hs : HS [] H0 w0 H ((g2, .cells ((padTo s []).map B).toArray 5, true) :: (Mo ++ [])) w := by rw [padTo_nil, List.map_replicate]; exact hs
      refine WC.skip (WX.seq (WC.region (WO.step rfl (OR.move rfl (WO.step rfl (OR.move rfl ?_))))))
      obtain ⟨H, hle1, hp_g2, hs9⟩ := hs.pub1 hg2; clear hs; have hs := hs9; clear hs9; replace hle := hle.trans hle1; (try replace hlb := hlb.trans hle1)
      replace hbx := hle1 _ _ hbx
      have hx2 := Bytes.block (l := padTo s []) (cap := s) hp_g2 (by rw [padTo_length]; exact List.take_of_length_le (by simp [padTo_length])) (by simp [padTo_length])
      rw [padTo_length] at hx2
      refine WO.step rfl (OR.buildSlice (vs := [_]) hs T22.und T23 rfl rfl rfl rfl (by simp) ?_)
      clear hs; intro g3 w hg3 hs
      have hb1 := hs.blk (i := 0) rfl
      replace hs := hs.sink
      refine WO.step rfl (OR.append (m := 1) (news := [_]) hs ho T22.und T23 rfl (by omega) rfl rfl rfl (cells_of hb1) (fun h => by cases h) rfl (by omega) (by omega) ?_)
      clear hs ho; intro vo' w Mo' hs ho hge
      replace hs := hs.dropMid
      refine WO.step rfl (OR.assign rfl (WO.done (WX.block (WX.seq (WC.region (WO.step rfl (OR.addI rfl rfl (by omega) (by omega) ?_)))))))
      refine WO.step rfl (OR.move rfl (WO.done ?_))
      refine WX.again ((k + 1, vo')) ⟨rfl, rfl, rfl, rfl, rfl, rfl, rfl,  trivial⟩ ?_ ?_
      · refine ⟨hk', H, cl ++ [_], Mo', hle, hbx, ?_, ho, hs⟩
        rw [List.range_succ, List.map_append, List.map_cons, List.map_nil, hX]
        exact (hok.mono hle1).snoc hx2
      · simp only; omega
  · have e : k = g := by omega
    subst e
    obtain ⟨bz, cz, rfl⟩ := ho.form
    refine WC.exit (WX.seq_exit (WX.loop_exit (WX.block_hit (WX.seq (WC.seq (WC.seq (WC.region ?_)))))))
    refine WO.step rfl (OR.fieldAddr FA25_3 rfl ?_)
    refine WO.step rfl (OR.load T22 rfl rfl (hs.cell (hcell_of hbx rfl)) ?_)
    refine WO.step rfl (OR.lenSlice T22.und rfl (WO.step rfl (OR.move rfl (WO.done (WX.seq (WC.block ?_))))))
    have hs2 := hs
    clear hs
    obtain ⟨H2, hle2, hs, hsl, _⟩ := HS.pub hs2 ho
    clear hs2
    have hsy2 : BytesL H2 (.slice bz k cz) (laidSyms k s sy) := (hok.mono hle2).bytesL (by simpa using hsl)
    have hrow : ∀ r ∈ laidSyms k s sy, r.length = s := by
      intro r hr
      obtain ⟨i, _, rfl⟩ := List.mem_map.1 hr
      exact padTo_length _ _
    have hlen : (laidSyms k s sy).length = k := by simp [laidSyms]
    have hsform : (Value.slice bz k cz) = .slice bz (laidSyms k s sy).length cz := by rw [hlen]
    refine WC.loop (ι := Nat × Value) (fun ix => [(2, .int .i64 (k : Int)), (3, .int .i64 (s : Int)), (4, .slice bz k cz), (5, ix.2), (45, .slice bc co.length cc), (46, .int .i64 (co.length : Int)), (47, .int .i64 (ix.1 : Int))]) (fun ix w => (ix.1 ≤ co.length ∧ ix.1 ≤ 40 ∧ ∃ H cl Mo, Hp.le H0 H ∧ Hp.le H2 H ∧ RowsOk H cl ((co.take ix.1).map (laidRow k s (laidSyms k s sy))) ∧ Own w0.heap.size 35 2 ix.2 ix.1 (rowCells cl) Mo ∧ HS [] H0 w0 H (Mo ++ []) w)) (fun ix => co.length - ix.1) (0, .slice none 0 0) ⟨rfl, rfl, rfl, rfl, rfl, rfl, rfl,  trivial⟩ ?_ (fun ix w hW => ?_)
    · exact ⟨by omega, by omega, H2, [], [], hle.trans hle2, Hp.le.refl _, ⟨by simp, fun i h => by simp at h⟩, Own.nil _ _ _, hs⟩
    clear hs hle hbx ho hok hsl
    obtain ⟨j, vr⟩ := ix
    obtain ⟨hj, hj40, H, cl2, Mo, hle, hlb, hok2, ho, hs⟩ := hW
    simp only at hj hj40 hok2 ho
    refine WC.seq (WC.region (WO.step rfl (OR.lss rfl rfl (WO.done (WX.seq (WC.seq ?_))))))
    refine WC.condD rfl (fun hlt2 => ?_) (fun hlt2 => ?_)
    · have hj' : j < co.length := by omega
      obtain ⟨yb, yo, rfl, hcy⟩ := hco.pos (by omega)
      obtain ⟨e, hce, hbe⟩ := hcy j hj'
      obtain ⟨be, ce, rfl⟩ := hbe.form
      refine WC.skip (WX.seq (WC.seq (WC.block (WC.seq (WC.region (WO.step rfl (OR.move rfl ?_)))))))
      refine WO.step rfl (OR.idx j T22.und T23 rfl rfl rfl hj' ?_)
      refine WO.step rfl (OR.load T23 rfl rfl (hs.cell (hcell.mono hle hce)) ?_)
      refine WO.step rfl (OR.assign rfl (WO.step rfl (OR.assign rfl (WO.done (WX.seq (WC.seq (WC.seq ?_)))))))
      refine WC.region (WO.step rfl (OR.move rfl (WO.step rfl (OR.eql rfl rfl (WO.done (WX.seq ?_))))))
      refine WC.condD rfl (fun h40 => ?_) (fun h40 => ?_)
      · have e40 : j = 40 := by omega

        have hs2 := hs
        clear hs
        obtain ⟨H3, hle3, hs, hsl3, _⟩ := HS.pub hs2 ho
        refine WC.exit (WX.seq_exit (WX.block_miss rfl (WX.seq_exit (WX.loop_exit (WX.block_hit (WX.seq (WC.seq ?_)))))))
        refine WC.region (WO.step rfl (OR.move rfl (WO.step rfl (OR.move rfl (WO.step rfl (OR.move rfl (WO.step rfl ?_)))))))
        refine OR.move rfl (WO.step rfl (OR.assign rfl (WO.step rfl (OR.assign rfl (WO.step rfl (OR.assign rfl (WO.step rfl ?_)))))))
        refine OR.assign rfl (WO.done (WX.seq (WC.ret ?_)))
        refine WX.ret4 rfl rfl rfl rfl rfl ?_
        refine .mk hs ⟨_, _, rfl, hsy2.mono (hlb.trans hle3), ?_⟩
        have e9 : laidRows k s (laidSyms k s sy) co = (co.take j).map (laidRow k s (laidSyms k s sy)) := by
          rw [laidRows]
          rw [e40]
        rw [e9]
        refine ⟨cl2, ?_, hok2.mono hle3⟩
        have e8 : ((co.take j).map (laidRow k s (laidSyms k s sy))).length = j := by simp; omega
        rw [e8]
        exact hsl3
      · have hj4 : j < 40 := by omega
        refine WC.skip (WX.seq (WC.seq (WC.region (WO.step rfl (OR.move rfl ?_)))))
        refine WO.step rfl (OR.make1 hs T23.und T5 rfl rfl rfl (by omega) (by omega) ?_)
        clear hs; intro g3 w hg3 hs
        refine WO.step rfl (OR.assign rfl (WO.done (WX.seq (WC.seq (WC.region (WO.step rfl (OR.move rfl ?_)))))))
        refine WO.step rfl (OR.move rfl ?_)
        refine WO.step rfl (OR.copyO hs ((co[j].take k).map B) T23.und T5 rfl rfl (by rw [List.length_map, List.length_take, natmin (c := min k co[j].length) (by omega)]; omega) (Sl.src0 (hbe.mono hle)) (fun b hb q u hq => Sl.src (hbe.mono hle) hs b hb q u (by rw [List.map_take] at hq; exact get_take hq)) (by simp; omega) (bytes_one _) ?_)
        clear hs; intro w hs
        replace hs : HS [] H0 w0 H ((g3, .cells ((padTo k co[j]).map B).toArray 5, true) :: (Mo ++ [])) w := by rw [← padTo_cells]; exact hs
        refine WO.done (WX.seq (WC.region (WO.step rfl (OR.move rfl (WO.step rfl (OR.move rfl (WO.step rfl ?_)))))))
        refine OR.move rfl (WO.step rfl (OR.move rfl (WO.step rfl (OR.move rfl ?_))))
        obtain ⟨H, hle1, hp_g3, hs9⟩ := hs.pub1 hg3; clear hs; have hs := hs9; clear hs9; replace hle := hle.trans hle1; (try replace hlb := hlb.trans hle1)
        have hx2 := Bytes.block (l := padTo k co[j]) (cap := k) hp_g3 (by rw [padTo_length]; exact List.take_of_length_le (by simp [padTo_length])) (by simp [padTo_length])
        rw [padTo_length] at hx2
        replace hok2 := hok2.mono hle1
        refine WO.step rfl (OR.call hs body22 rfl rfl (times_ok _ _ (padTo k co[j]) (laidSyms k s sy) s _ _ hs.toSub hx2 (hsy2.mono hlb) hrow (by omega) (by rw [padTo_length]; omega) (by rw [hlen]; omega)) ?_)
        clear hs; rintro _ H w hs hle1 ht; replace hle := hle.trans hle1; (try replace hlb := hlb.trans hle1)
        replace hok2 := hok2.mono hle1
        replace hx2 := hx2.mono hle1
        obtain ⟨b7, c7, rfl⟩ := ht.form
        refine WO.step rfl (OR.call hs body48 rfl rfl (R_ok _ _ (laidRow k s (laidSyms k s sy) co[j]) _ _ hs.toSub hx2 ht) ?_)
        clear hs; rintro _ H w hs hle1 rfl; replace hle := hle.trans hle1; (try replace hlb := hlb.trans hle1)
        replace hok2 := hok2.mono hle1
        replace hx2 := hx2.mono hle1
        replace ht := ht.mono hle1
        refine WO.step rfl (OR.buildSlice (vs := [_]) hs T26.und T35 rfl rfl rfl rfl (by simp) ?_)
        clear hs; intro g4 w hg4 hs
        have hb1 := hs.blk (i := 0) rfl
        replace hs := hs.sink
        refine WO.step rfl (OR.append (m := 1) (news := [_, _]) hs ho T26.und T35 rfl (by omega) rfl rfl rfl (cells_of hb1) (fun h => by cases h) rfl (by omega) (by omega) ?_)
        clear hs ho; intro vo' w Mo' hs ho hge
        replace hs := hs.dropMid
        refine WO.step rfl (OR.assign rfl (WO.done (WX.block (WX.seq (WC.region (WO.step rfl (OR.addI rfl rfl (by omega) (by omega) ?_)))))))
        refine WO.step rfl (OR.move rfl (WO.done ?_))
        refine WX.again ((j + 1, vo')) ⟨rfl, rfl, rfl, rfl, rfl, rfl, rfl,  trivial⟩ ?_ ?_
        · refine ⟨hj', hj4, H, cl2 ++ [(.slice (some ⟨g3, 0, none⟩) k k, .slice b7 (comb s (laidSyms k s sy) (padTo k co[j])).length c7)], Mo', hle, hlb, ?_, ?_, hs⟩
          · rw [List.take_succ_eq_append_getElem hj', List.map_append]
            exact hok2.snoc (r := laidRow k s (laidSyms k s sy) co[j]) hx2 ht
          · rw [rowCells_append]
            exact ho
        · simp only; omega
    · have ej : j = co.length := by omega

      have hs2 := hs
      clear hs
      obtain ⟨H3, hle3, hs, hsl3, _⟩ := HS.pub hs2 ho
      refine WC.exit (WX.seq_exit (WX.loop_exit (WX.block_hit (WX.seq (WC.seq (WC.region (WO.step rfl ?_)))))))
      refine OR.move rfl (WO.step rfl (OR.move rfl (WO.step rfl (OR.move rfl (WO.step rfl (OR.move rfl (WO.step rfl ?_)))))))
      refine OR.assign rfl (WO.step rfl (OR.assign rfl (WO.step rfl (OR.assign rfl (WO.step rfl (OR.assign rfl (WO.done ?_)))))))
      refine WX.seq (WC.ret ?_)
      refine WX.ret4 rfl rfl rfl rfl rfl ?_
      refine .mk hs ⟨_, _, rfl, hsy2.mono (hlb.trans hle3), ?_⟩
      have e9 : laidRows k s (laidSyms k s sy) co = (co.take j).map (laidRow k s (laidSyms k s sy)) := by
        rw [laidRows]
        rw [ej, List.take_of_length_le (Nat.le_refl _), List.take_of_length_le (by omega)]
      rw [e9]
      refine ⟨cl2, ?_, hok2.mono hle3⟩
      have e8 : ((co.take j).map (laidRow k s (laidSyms k s sy))).length = j := by simp; omega
      rw [e8]
      exact hsl3

end Go.Bw
