/- pad.Take of any symbols. -/
import Derived.Test.YtdibepkfgemddaaGreatTakeB
import Derived.Test.YtdibepkfgemddaaGreatSpan
namespace Go.Bw
set_option linter.unusedVariables false
set_option linter.unusedSimpArgs false
open Go.Proofs

theorem flat_len (ll : List (List UInt8)) (s : Nat) (h : ∀ r ∈ ll, r.length = s) : ll.flatten.length = ll.length * s := by
  induction ll with
  | nil => simp
  | cons x ll ih =>
    rw [List.flatten_cons, List.length_append, ih (fun r hr => h r (by simp [hr])), h x (by simp), List.length_cons, Nat.add_mul, Nat.one_mul, Nat.add_comm]
/-- What is taken of symbols: a chunk, or none. -/
def padN (all : List UInt8) : Nat := beVal (all.take 4)
def padOk (room : Nat) (all : List UInt8) : Prop := 1 ≤ padN all ∧ padN all ≤ room ∧ lead ((all.drop 4).drop (padN all)) < 0
instance (room : Nat) (all : List UInt8) : Decidable (padOk room all) := inferInstanceAs (Decidable (_ ∧ _))
def padF (room : Nat) (all : List UInt8) : List UInt8 := if padOk room all then (all.drop 4).take (padN all) else []
def padE (room : Nat) (all : List UInt8) : Int := if padOk room all then 0 else 5
set_option maxRecDepth 20000 in
set_option maxHeartbeats 2000000 in
theorem ptakeG_ok (g s : Nat) (vl : Value) (ll : List (List UInt8)) (H0 : Hp) (w0 : World) (h0 : Sub H0 w0) (hgs : 1 ≤ g ∧ g ≤ 255 ∧ 1 ≤ s ∧ s ≤ 65535 ∧ 4 < g * s) (hv : BytesL H0 vl ll) (hlen : ll.length = g) (hrow : ∀ r ∈ ll, r.length = s) :
    Calls Tryz.prog 117 #[vl, .int .i64 (g : Int), .int .i64 (s : Int)] w0 (Pure H0 w0 fun v H' => TupB H' v (padF (g * s - 4) ll.flatten) (padE (g * s - 4) ll.flatten)) := by
  have hs := HS.init h0
  have hle := Hp.le.refl H0
  obtain ⟨hg1, hg2, hs1, hs2, hgs4⟩ := hgs
  have hmul : g * s ≤ 255 * 65535 := Nat.mul_le_mul hg2 hs2
  have hmc : (g : Int) * (s : Int) = ((g * s : Nat) : Int) := by rw [Int.natCast_mul]
  have hal := flat_len ll s hrow
  rw [hlen] at hal
  have hv0 := hv
  obtain ⟨b1, c1, rfl⟩ := hv0.form
  refine Calls.enter (args := [.slice b1 ll.length c1, .int .i64 (g : Int), .int .i64 (s : Int)]) Tryz.func117 rfl Tryz.ntmps117 rfl ?_
  refine WC.seq (WC.region (WO.step rfl (OR.box hs rfl ?_)))
  clear hs; intro g1 w hg1 hs
  refine WO.step rfl (OR.assign rfl (WO.step rfl (OR.assign rfl (WO.done (WX.seq (WC.seq (WC.region ?_)))))))
  refine WO.step rfl (OR.move rfl (WO.step rfl (OR.load T3 rfl rfl (hs.cellM (i := 0) rfl rfl) ?_)))
  refine WO.step rfl (OR.call hs body62 rfl rfl (room_ok (g : Int) (s : Int) _ _ hs.toSub) ?_)
  clear hs; rintro _ H w hs hle1 rfl; replace hle := hle.trans hle1; (try replace hlb := hlb.trans hle1)
  rw [if_pos (by rw [hmc]; omega)]
  refine WO.step rfl (OR.move rfl (WO.step rfl (OR.extract rfl rfl (WO.step rfl (OR.extract rfl rfl (WO.step rfl (OR.assign rfl ?_)))))))
  refine WO.step rfl (OR.assign rfl (WO.done (WX.seq (WC.seq (WC.block (WC.seq (WC.region ?_)))))))
  refine WO.step rfl (OR.move rfl (WO.step rfl (OR.neq rfl rfl (WO.step rfl (OR.assign rfl (WO.done (WX.seq ?_)))))))
  refine WC.no rfl (decide_eq_false (by omega)) ?_
  refine WC.seq (WC.region (WO.step rfl (OR.move rfl (WO.step rfl (OR.lenSlice T40.und rfl (WO.step rfl (OR.move rfl ?_)))))))
  refine WO.step rfl (OR.neq rfl rfl (WO.step rfl (OR.move rfl ?_)))
  refine WO.guardYes rfl (decide_eq_false (by rw [hlen]; omega)) rfl rfl (OR.move rfl (WO.guardYes rfl (decide_eq_false (by rw [hlen]; omega)) rfl rfl (OR.makeFunc rfl rfl ?_)))
  obtain ⟨H, hle1, hp_g1, hs9⟩ := hs.pub1 hg1; clear hs; have hs := hs9; clear hs9; replace hle := hle.trans hle1; (try replace hlb := hlb.trans hle1)
  have hcs := hcell_of hp_g1 (i := 0) (v := .int .i64 (s : Int)) rfl
  refine WO.guardYes rfl (decide_eq_false (by rw [hlen]; omega)) rfl rfl (OR.call hs body153 rfl rfl (containsL_ok _ ll 154 [ptr g1] _ _ hs.toSub (hv.mono hle) (by omega) body154 (fun i h vx H' w' hl' hH hb => (ptake1_ok g1 s vx _ H' w' hH (hcell.mono hl' hcs) hb).mono fun e w2 hp => by rw [decide_eq_false (by rw [hrow _ (List.getElem_mem h)]; exact fun q => q rfl)] at hp; exact hp)) ?_)
  clear hs; rintro _ H w hs hle1 rfl; replace hle := hle.trans hle1; (try replace hlb := hlb.trans hle1)
  refine WO.step rfl (OR.pickF rfl (decide_eq_false (by rw [hlen]; omega)) rfl (WO.step rfl (OR.assign rfl (WO.done (WX.seq ?_)))))
  refine WC.no rfl rfl ?_
  refine WC.skip (WX.block (WX.seq (WC.seq (WC.region (WO.step rfl (OR.move rfl ?_))))))
  refine WO.step rfl (OR.call hs body156 rfl rfl (join_ok _ ll _ _ hs.toSub (hv.mono hle) (by rw [hal]; omega) (by omega)) ?_)
  clear hs; rintro _ H w hs hle1 hj; replace hle := hle.trans hle1; (try replace hlb := hlb.trans hle1)
  generalize hA : ll.flatten = all at *
  refine WO.step rfl (OR.callX (Mx := []) hs body155 rfl rfl (wnew_ok _ all _ _ hs.toSub hj (by omega)) rfl rfl ?_)
  clear hs; rintro _ H M' w hs hle1 hnew ⟨b, vb, rfl, hbz, rfl, hvb⟩; replace hle := hle.trans hle1; (try replace hlb := hlb.trans hle1)
  refine WO.step rfl (OR.assign rfl (WO.done (WX.seq (WC.seq (WC.region (WO.step rfl (OR.move rfl ?_)))))))
  refine WO.step rfl (OR.callX (Mx := [(b, _, true)]) hs body157 rfl rfl (rnum_ok b vb all 4 _ _ hs.toSub (hs.blk (i := 0) rfl) (hs.mem b _ true (List.mem_cons_self ..)).2.1 hvb (by omega) (by omega) (by omega) (by omega)) rfl rfl ?_)
  clear hs; rintro _ H M' w hs hle1 hnew ⟨vb2, rfl, rfl, hvb2⟩; replace hle := hle.trans hle1; (try replace hlb := hlb.trans hle1)
  have hN : beVal (all.take 4) = padN all := rfl
  have hN4 : padN all < 256 ^ 4 := beVal_lt 4 _ (by simp; omega)
  rw [hN]
  have hr1 : (g : Int) * (s : Int) - 4 = ((g * s - 4 : Nat) : Int) := by rw [hmc]; omega
  by_cases h1 : 1 ≤ padN all
  · skip
    refine WO.step rfl (OR.move rfl (WO.step rfl (OR.extract rfl rfl (WO.step rfl (OR.extract rfl rfl (WO.step rfl (OR.assign rfl ?_)))))))
    refine WO.step rfl (OR.assign rfl (WO.done (WX.seq (WC.seq (WC.seq (WC.region (WO.step rfl ?_)))))))
    refine OR.move rfl (WO.step rfl (OR.lss rfl rfl (WO.step rfl (OR.move rfl ?_))))
    refine WO.guardYes rfl (decide_eq_false (by omega : ¬ (padN all : Int) < 1)) rfl rfl (OR.move rfl (WO.guardYes rfl (decide_eq_false (by omega : ¬ (padN all : Int) < 1)) rfl rfl (OR.move rfl ?_)))
    refine WO.guardYes rfl (decide_eq_false (by omega : ¬ (padN all : Int) < 1)) rfl rfl (OR.convI T3.und T22.und rfl ?_)
    rw [hr1, u64_wrap (g * s - 4) (by omega)]
    by_cases h2 : padN all ≤ g * s - 4
    · skip
      refine WO.guardYes rfl (decide_eq_false (by omega : ¬ (padN all : Int) < 1)) rfl rfl (OR.gtr rfl rfl (WO.step rfl (OR.pickF rfl (decide_eq_false (by omega : ¬ (padN all : Int) < 1)) rfl (WO.done (WX.seq ?_)))))
      refine WC.no rfl (decide_eq_false (by omega)) ?_
      refine WC.skip (WX.seq (WC.seq (WC.region (WO.step rfl (OR.move rfl (WO.step rfl (OR.move rfl ?_)))))))
      refine WO.step rfl (OR.convI T22.und T3.und rfl ?_)
      rw [IntWalk.i64_in (padN all : Int) (by omega)]
      have hl3 : (all.drop 4).length = g * s - 4 := by simp; omega
      refine WO.step rfl (OR.callX (Mx := [(b, _, true)]) hs body158 rfl rfl (rtake_ok b vb2 (all.drop 4) (padN all) _ _ hs.toSub (hs.blk (i := 0) rfl) (hs.mem b _ true (List.mem_cons_self ..)).2.1 hvb2 (by omega) (by omega)) rfl rfl ?_)
      clear hs; rintro _ H M' w hs hle1 hnew ⟨r, vb3, rfl, hr, rfl, hvb3⟩; replace hle := hle.trans hle1; (try replace hlb := hlb.trans hle1)
      have hl4 : ((all.drop 4).drop (padN all)).length = g * s - 4 - padN all := by rw [List.length_drop, hl3]
      refine WO.step rfl (OR.move rfl (WO.step rfl (OR.extract rfl rfl (WO.step rfl (OR.extract rfl rfl (WO.step rfl (OR.assign rfl ?_)))))))
      refine WO.step rfl (OR.assign rfl (WO.done (WX.seq (WC.seq (WC.region (WO.step rfl (OR.move rfl ?_)))))))
      refine WO.step rfl (OR.move rfl ?_)
      refine WO.step rfl (OR.call hs body159 rfl rfl (rleft_ok b vb3 ((all.drop 4).drop (padN all)) _ _ hs.toSub (hs.blk (i := 0) rfl) (hs.mem b _ true (List.mem_cons_self ..)).2.1 hvb3) ?_)
      clear hs; rintro _ H w hs hle1 rfl; replace hle := hle.trans hle1; (try replace hlb := hlb.trans hle1)
      replace hr := hr.mono hle1
      replace hvb3 := hvb3.mono hle1
      refine WO.step rfl (OR.callX (Mx := [(b, _, true)]) hs body158 rfl rfl (rtake_ok b vb3 ((all.drop 4).drop (padN all)) ((all.drop 4).drop (padN all)).length _ _ hs.toSub (hs.blk (i := 0) rfl) (hs.mem b _ true (List.mem_cons_self ..)).2.1 hvb3 (by omega) (by omega)) rfl rfl ?_)
      clear hs; rintro _ H M' w hs hle1 hnew ⟨r2, vb4, rfl, hr2, rfl, hvb4⟩; replace hle := hle.trans hle1; (try replace hlb := hlb.trans hle1)
      rw [List.take_length] at hr2
      replace hr := hr.mono hle1
      refine WO.step rfl (OR.move rfl (WO.step rfl (OR.extract rfl rfl (WO.step rfl (OR.extract rfl rfl (WO.step rfl (OR.assign rfl ?_)))))))
      refine WO.step rfl (OR.assign rfl (WO.done (WX.seq (WC.seq (WC.seq (WC.region (WO.step rfl ?_)))))))
      refine OR.move rfl ?_
      refine WO.step rfl (OR.call hs body160 rfl rfl (containsB_ok _ ((all.drop 4).drop (padN all)) (fun x => decide (x ≠ 0)) 161 [] _ _ hs.toSub hr2 (by omega) body161 (fun x H w _ hH => ptake2_ok x H w hH)) ?_)
      clear hs; rintro _ H w hs hle1 rfl; replace hle := hle.trans hle1; (try replace hlb := hlb.trans hle1)
      replace hr := hr.mono hle1
      obtain ⟨b9, c9, rfl⟩ := hr.form
      rw [show idxFrom (fun x => decide (x ≠ 0)) ((all.drop 4).drop (padN all)) 0 = lead ((all.drop 4).drop (padN all)) from rfl]
      refine WO.done (WX.seq ?_)
      refine WC.condD rfl (fun hz => ?_) (fun hz => ?_)
      · refine WC.seq (WC.region (WO.step rfl (OR.assign rfl (WO.step rfl (OR.assign rfl (WO.done (WX.seq ?_)))))))
        refine WC.ret (WX.seq_ret ?_)
        refine WX.ret2 rfl rfl rfl ?_
        have hno : ¬ padOk (g * s - 4) all := fun h => by have := h.2.2; omega
        refine .mk (hs.drop 0) ⟨.slice none 0 0, ?_, by rw [padF, if_neg hno]; exact Sl.empty _ _ _⟩
        rw [padE, if_neg hno]
      · refine WC.skip (WX.seq (WC.seq (WC.region (WO.step rfl (OR.move rfl (WO.step rfl (OR.assign rfl ?_)))))))
        refine WO.step rfl (OR.assign rfl (WO.done (WX.seq (WC.ret ?_))))
        refine WX.ret2 rfl rfl rfl ?_
        have hyes : padOk (g * s - 4) all := ⟨h1, h2, by omega⟩
        refine .mk (hs.drop 0) ⟨_, ?_, by rw [padF, if_pos hyes]; exact hr⟩
        rw [padE, if_pos hyes]
    · skip
      refine WO.guardYes rfl (decide_eq_false (by omega : ¬ (padN all : Int) < 1)) rfl rfl (OR.gtr rfl rfl (WO.step rfl (OR.pickF rfl (decide_eq_false (by omega : ¬ (padN all : Int) < 1)) rfl (WO.done (WX.seq ?_)))))
      refine WC.yes rfl (decide_eq_true (by omega)) ?_
      refine WC.seq (WC.region (WO.step rfl (OR.assign rfl (WO.step rfl (OR.assign rfl (WO.done (WX.seq ?_)))))))
      refine WC.ret (WX.seq_ret ?_)
      refine WX.ret2 rfl rfl rfl ?_
      have hno : ¬ padOk (g * s - 4) all := fun h => h2 h.2.1
      refine .mk (hs.drop 0) ⟨.slice none 0 0, ?_, by rw [padF, if_neg hno]; exact Sl.empty _ _ _⟩
      rw [padE, if_neg hno]
  · skip
    refine WO.step rfl (OR.move rfl (WO.step rfl (OR.extract rfl rfl (WO.step rfl (OR.extract rfl rfl (WO.step rfl (OR.assign rfl ?_)))))))
    refine WO.step rfl (OR.assign rfl (WO.done (WX.seq (WC.seq (WC.seq (WC.region (WO.step rfl ?_)))))))
    refine OR.move rfl (WO.step rfl (OR.lss rfl rfl (WO.step rfl (OR.move rfl ?_))))
    refine WO.guardNo rfl (decide_eq_true (by omega : (padN all : Int) < 1)) rfl rfl (WO.guardNo rfl (decide_eq_true (by omega : (padN all : Int) < 1)) rfl rfl (WO.guardNo rfl (decide_eq_true (by omega : (padN all : Int) < 1)) rfl rfl (WO.guardNo rfl (decide_eq_true (by omega : (padN all : Int) < 1)) rfl rfl (WO.step rfl (OR.pickT rfl (decide_eq_true (by omega : (padN all : Int) < 1)) rfl (WO.done (WX.seq ?_)))))))
    refine WC.yes rfl rfl (WC.seq (WC.region (WO.step rfl (OR.assign rfl (WO.step rfl (OR.assign rfl (WO.done ?_)))))))
    refine WX.seq (WC.ret (WX.seq_ret ?_))
    refine WX.ret2 rfl rfl rfl ?_
    have hno : ¬ padOk (g * s - 4) all := fun h => h1 h.1
    refine .mk (hs.drop 0) ⟨.slice none 0 0, ?_, by rw [padF, if_neg hno]; exact Sl.empty _ _ _⟩
    rw [padE, if_neg hno]
end Go.Bw
