/- pad.Take: what was laid is taken back. -/
import Derived.Test.YtdibepkfgemddaaGreatTakeB
import Derived.Test.YtdibepkfgemddaaGreatFlat
namespace Go.Bw
set_option linter.unusedVariables false
set_option linter.unusedSimpArgs false
open Go.Proofs

theorem layF_flat {g s : Nat} {chunk : List UInt8} (h1 : 4 < g * s) (h : chunk.length ≤ g * s - 4) : (layF g s chunk).flatten = layAll g s chunk := by
  have hl := layAll_len h1 h
  have e : layF g s chunk = wholeL s (layAll g s chunk) 0 g := by
    unfold layF wholeL
    congr 1
    funext i
    rw [Nat.zero_add, Nat.mul_comm]
  rw [e, whole_flat _ _ _ _ (by omega), List.drop_zero]
  exact List.take_of_length_le (by omega)
theorem layF_row {g s : Nat} {chunk : List UInt8} (h1 : 4 < g * s) (h : chunk.length ≤ g * s - 4) : ∀ r ∈ layF g s chunk, r.length = s := by
  intro r hr
  simp only [layF, List.mem_map, List.mem_range] at hr
  obtain ⟨i, hi, rfl⟩ := hr
  have hal := layAll_len h1 h
  have : s * (i + 1) ≤ g * s := by rw [Nat.mul_comm g]; exact Nat.mul_le_mul_left _ hi
  rw [Nat.mul_add, Nat.mul_one] at this
  simp [hal]
  omega
theorem beVal_beN (n : Nat) (h : n < 4294967296) : beVal (beN 4 n) = n := by
  have e : beN 4 n = [UInt8.ofNat (n / 256 ^ 3), UInt8.ofNat (n / 256 ^ 2), UInt8.ofNat (n / 256 ^ 1), UInt8.ofNat (n / 256 ^ 0)] := rfl
  rw [e]
  simp only [beVal, List.foldl_cons, List.foldl_nil, UInt8.toNat_ofNat']
  omega

set_option maxRecDepth 20000 in
set_option maxHeartbeats 2000000 in
theorem ptake_ok (g s : Nat) (vl : Value) (chunk : List UInt8) (H0 : Hp) (w0 : World) (h0 : Sub H0 w0) (hgs : 1 ≤ g ∧ g ≤ 255 ∧ 1 ≤ s ∧ s ≤ 65535 ∧ 4 < g * s) (hv : BytesL H0 vl (layF g s chunk)) (hl1 : 1 ≤ chunk.length) (hl2 : chunk.length ≤ g * s - 4) :
    Calls Tryz.prog 117 #[vl, .int .i64 (g : Int), .int .i64 (s : Int)] w0 (Pure H0 w0 fun v H' => ∃ r, v = .tuple #[r, .int .i64 0] ∧ Bytes H' r chunk) := by
  have hs := HS.init h0
  have hle := Hp.le.refl H0
  obtain ⟨hg1, hg2, hs1, hs2, hgs4⟩ := hgs
  have hmul : g * s ≤ 255 * 65535 := Nat.mul_le_mul hg2 hs2
  have hmc : (g : Int) * (s : Int) = ((g * s : Nat) : Int) := by rw [Int.natCast_mul]
  have hal := layAll_len hgs4 hl2
  have hfl := layF_flat hgs4 hl2
  have hrow := layF_row hgs4 hl2
  have hlen : (layF g s chunk).length = g := by simp [layF]
  have hv0 := hv
  obtain ⟨b1, c1, rfl⟩ := hv0.form
  refine Calls.enter (args := [.slice b1 (layF g s chunk).length c1, .int .i64 (g : Int), .int .i64 (s : Int)]) Tryz.func117 rfl Tryz.ntmps117 rfl ?_
  refine WC.seq (WC.region (WO.step rfl (OR.box hs rfl ?_)))
  clear hs; intro g1 w hg1 hs
  refine WO.step rfl (OR.assign rfl (WO.step rfl (OR.assign rfl (WO.done (WX.seq (WC.seq (WC.region ?_)))))))
  refine WO.step rfl (OR.move rfl (WO.step rfl (OR.load T3 rfl rfl (hs.cellM (i := 0) rfl rfl) ?_)))
  refine WO.step rfl (OR.call hs body62 rfl rfl (room_ok (g : Int) (s : Int) _ _ hs.toSub) ?_)
  clear hs; rintro _ H w hs hle1 rfl; replace hle := hle.trans hle1; (try replace hlb := hlb.trans hle1)
  rw [if_pos (by rw [hmc]; omega)]
  refine WO.step rfl (OR.move rfl (WO.step rfl (OR.extract rfl rfl (WO.step rfl (OR.extract rfl rfl (WO.step rfl (OR.assign rfl ?_)))))))
  refine WO.step rfl (OR.assign rfl (WO.done (WX.seq (WC.seq (WC.block (WC.seq (WC.region ?_)))))))
  refine WO.step rfl (OR.move rfl (WO.step rfl (OR.neq rfl rfl (WO.step rfl (OR.assign rfl (WO.done (WX.seq ?_)))))))
  refine WC.no rfl (decide_eq_false (by omega)) ?_
  refine WC.seq (WC.region (WO.step rfl (OR.move rfl (WO.step rfl (OR.lenSlice T40.und rfl (WO.step rfl (OR.move rfl ?_)))))))
  refine WO.step rfl (OR.neq rfl rfl (WO.step rfl (OR.move rfl ?_)))
  refine WO.guardYes rfl (decide_eq_false (by rw [hlen]; omega)) rfl rfl (OR.move rfl (WO.guardYes rfl (decide_eq_false (by rw [hlen]; omega)) rfl rfl (OR.makeFunc rfl rfl ?_)))
  obtain ⟨H, hle1, hp_g1, hs9⟩ := hs.pub1 hg1; clear hs; have hs := hs9; clear hs9; replace hle := hle.trans hle1; (try replace hlb := hlb.trans hle1)
  have hcs := hcell_of hp_g1 (i := 0) (v := .int .i64 (s : Int)) rfl
  refine WO.guardYes rfl (decide_eq_false (by rw [hlen]; omega)) rfl rfl (OR.call hs body153 rfl rfl (containsL_ok _ (layF g s chunk) 154 [ptr g1] _ _ hs.toSub (hv.mono hle) (by omega) body154 (fun i h vx H' w' hl' hH hb => (ptake1_ok g1 s vx _ H' w' hH (hcell.mono hl' hcs) hb).mono fun e w2 hp => by rw [decide_eq_false (by rw [hrow _ (List.getElem_mem h)]; exact fun q => q rfl)] at hp; exact hp)) ?_)
  clear hs; rintro _ H w hs hle1 rfl; replace hle := hle.trans hle1; (try replace hlb := hlb.trans hle1)
  refine WO.step rfl (OR.pickF rfl (decide_eq_false (by rw [hlen]; omega)) rfl (WO.step rfl (OR.assign rfl (WO.done (WX.seq ?_)))))
  refine WC.no rfl rfl ?_
  refine WC.skip (WX.block (WX.seq (WC.seq (WC.region (WO.step rfl (OR.move rfl ?_))))))
  refine WO.step rfl (OR.call hs body156 rfl rfl (join_ok _ (layF g s chunk) _ _ hs.toSub (hv.mono hle) (by rw [hfl, hal]; omega) (by omega)) ?_)
  clear hs; rintro _ H w hs hle1 hj; replace hle := hle.trans hle1; (try replace hlb := hlb.trans hle1)
  rw [hfl] at hj
  refine WO.step rfl (OR.callX (Mx := []) hs body155 rfl rfl (wnew_ok _ (layAll g s chunk) _ _ hs.toSub hj (by omega)) rfl rfl ?_)
  clear hs; rintro _ H M' w hs hle1 hnew ⟨b, vb, rfl, hbz, rfl, hvb⟩; replace hle := hle.trans hle1; (try replace hlb := hlb.trans hle1)
  refine WO.step rfl (OR.assign rfl (WO.done (WX.seq (WC.seq (WC.region (WO.step rfl (OR.move rfl ?_)))))))
  refine WO.step rfl (OR.callX (Mx := [(b, _, true)]) hs body157 rfl rfl (rnum_ok b vb (layAll g s chunk) 4 _ _ hs.toSub (hs.blk (i := 0) rfl) (hs.mem b _ true (List.mem_cons_self ..)).2.1 hvb (by omega) (by omega) (by omega) (by omega)) rfl rfl ?_)
  clear hs; rintro _ H M' w hs hle1 hnew ⟨vb2, rfl, rfl, hvb2⟩; replace hle := hle.trans hle1; (try replace hlb := hlb.trans hle1)
  have hb4 : (beN 4 chunk.length).length = 4 := beN_len _ _ (by omega)
  have et4 : (layAll g s chunk).take 4 = beN 4 chunk.length := by
    rw [layAll, List.append_assoc, List.take_append_of_le_length (by omega), List.take_of_length_le (by omega)]
  have ed4 : (layAll g s chunk).drop 4 = chunk ++ List.replicate (g * s - 4 - chunk.length) 0 := by
    rw [layAll, List.append_assoc, List.drop_append_of_le_length (by omega), List.drop_of_length_le (by omega), List.nil_append]
  rw [et4, beVal_beN _ (by omega)]
  rw [ed4] at hvb2
  refine WO.step rfl (OR.move rfl (WO.step rfl (OR.extract rfl rfl (WO.step rfl (OR.extract rfl rfl (WO.step rfl (OR.assign rfl ?_)))))))
  refine WO.step rfl (OR.assign rfl (WO.done (WX.seq (WC.seq (WC.seq (WC.region (WO.step rfl ?_)))))))
  refine OR.move rfl (WO.step rfl (OR.lss rfl rfl (WO.step rfl (OR.move rfl ?_))))
  refine WO.guardYes rfl (decide_eq_false (by omega)) rfl rfl (OR.move rfl (WO.guardYes rfl (decide_eq_false (by omega)) rfl rfl (OR.move rfl ?_)))
  refine WO.guardYes rfl (decide_eq_false (by omega)) rfl rfl (OR.convI T3.und T22.und rfl ?_)
  have hr1 : (g : Int) * (s : Int) - 4 = ((g * s - 4 : Nat) : Int) := by rw [hmc]; omega
  rw [hr1, u64_wrap (g * s - 4) (by omega)]
  refine WO.guardYes rfl (decide_eq_false (by omega)) rfl rfl (OR.gtr rfl rfl (WO.step rfl (OR.pickF rfl (decide_eq_false (by omega)) rfl (WO.done (WX.seq ?_)))))
  refine WC.no rfl (decide_eq_false (by omega)) ?_
  refine WC.skip (WX.seq (WC.seq (WC.region (WO.step rfl (OR.move rfl (WO.step rfl (OR.move rfl ?_)))))))
  refine WO.step rfl (OR.convI T22.und T3.und rfl ?_)
  rw [IntWalk.i64_in (chunk.length : Int) (by omega)]
  have hl3 : (chunk ++ List.replicate (g * s - 4 - chunk.length) (0 : UInt8)).length = g * s - 4 := by simp; omega
  refine WO.step rfl (OR.callX (Mx := [(b, _, true)]) hs body158 rfl rfl (rtake_ok b vb2 (chunk ++ List.replicate (g * s - 4 - chunk.length) 0) chunk.length _ _ hs.toSub (hs.blk (i := 0) rfl) (hs.mem b _ true (List.mem_cons_self ..)).2.1 hvb2 (by omega) (by omega)) rfl rfl ?_)
  clear hs; rintro _ H M' w hs hle1 hnew ⟨r, vb3, rfl, hr, rfl, hvb3⟩; replace hle := hle.trans hle1; (try replace hlb := hlb.trans hle1)
  rw [List.take_append_of_le_length (Nat.le_refl _), List.take_length] at hr
  rw [List.drop_append_of_le_length (Nat.le_refl _), List.drop_length, List.nil_append] at hvb3
  have hl4 : (List.replicate (g * s - 4 - chunk.length) (0 : UInt8)).length = g * s - 4 - chunk.length := List.length_replicate ..
  refine WO.step rfl (OR.move rfl (WO.step rfl (OR.extract rfl rfl (WO.step rfl (OR.extract rfl rfl (WO.step rfl (OR.assign rfl ?_)))))))
  refine WO.step rfl (OR.assign rfl (WO.done (WX.seq (WC.seq (WC.region (WO.step rfl (OR.move rfl ?_)))))))
  refine WO.step rfl (OR.move rfl ?_)
  refine WO.step rfl (OR.call hs body159 rfl rfl (rleft_ok b vb3 (List.replicate (g * s - 4 - chunk.length) 0) _ _ hs.toSub (hs.blk (i := 0) rfl) (hs.mem b _ true (List.mem_cons_self ..)).2.1 hvb3) ?_)
  clear hs; rintro _ H w hs hle1 rfl; replace hle := hle.trans hle1; (try replace hlb := hlb.trans hle1)
  replace hr := hr.mono hle1
  replace hvb3 := hvb3.mono hle1
  refine WO.step rfl (OR.callX (Mx := [(b, _, true)]) hs body158 rfl rfl (rtake_ok b vb3 (List.replicate (g * s - 4 - chunk.length) 0) (List.replicate (g * s - 4 - chunk.length) (0 : UInt8)).length _ _ hs.toSub (hs.blk (i := 0) rfl) (hs.mem b _ true (List.mem_cons_self ..)).2.1 hvb3 (by omega) (by omega)) rfl rfl ?_)
  clear hs; rintro _ H M' w hs hle1 hnew ⟨r2, vb4, rfl, hr2, rfl, hvb4⟩; replace hle := hle.trans hle1; (try replace hlb := hlb.trans hle1)
  rw [List.take_length] at hr2
  replace hr := hr.mono hle1
  refine WO.step rfl (OR.move rfl (WO.step rfl (OR.extract rfl rfl (WO.step rfl (OR.extract rfl rfl (WO.step rfl (OR.assign rfl ?_)))))))
  refine WO.step rfl (OR.assign rfl (WO.done (WX.seq (WC.seq (WC.seq (WC.region (WO.step rfl ?_)))))))
  refine OR.move rfl ?_
  refine WO.step rfl (OR.call hs body160 rfl rfl (containsB_ok _ (List.replicate (g * s - 4 - chunk.length) 0) (fun x => decide (x ≠ 0)) 161 [] _ _ hs.toSub hr2 (by omega) body161 (fun x H w _ hH => ptake2_ok x H w hH)) ?_)
  clear hs; rintro _ H w hs hle1 rfl; replace hle := hle.trans hle1; (try replace hlb := hlb.trans hle1)
  have hlz := zeros_lead (g * s - 4 - chunk.length)
  unfold lead at hlz
  rw [decide_eq_false (by omega)]
  refine WO.done (WX.seq ?_)
  refine WC.no rfl rfl ?_
  refine WC.skip (WX.seq (WC.seq (WC.region (WO.step rfl (OR.move rfl (WO.step rfl (OR.assign rfl ?_)))))))
  refine WO.step rfl (OR.assign rfl (WO.done (WX.seq (WC.ret ?_))))
  refine WX.ret2 rfl rfl rfl ?_
  exact .mk (hs.drop 0) ⟨r, rfl, hr.mono hle1⟩

end Go.Bw
