/- The document's own symbols, walked. -/
import Derived.Test.YtbgdgmilcojlbaaRefS2
namespace Go.Bw
set_option linter.unusedVariables false
set_option linter.unusedSimpArgs false
open Go.Proofs

/-- The header, byte by byte, from behind. -/
def hdrF (m n : Nat) : Nat → List UInt8
  | 0 => List.replicate m 0
  | t + 1 => (hdrF m n t).set (3 - t) (UInt8.ofNat (n / 256 ^ t % 256))
theorem hdrF_len (m n : Nat) : ∀ t, (hdrF m n t).length = m
  | 0 => by simp [hdrF]
  | t + 1 => by rw [hdrF, List.length_set, hdrF_len m n t]
theorem hdrF_four (m n : Nat) (h : 4 ≤ m) : hdrF m n 4 = beN 4 n ++ List.replicate (m - 4) 0 := by
  obtain ⟨k, rfl⟩ : ∃ k, m = k + 4 := ⟨m - 4, by omega⟩
  rw [Nat.add_sub_cancel]
  have e : List.replicate (k + 4) (0 : UInt8) = [0, 0, 0, 0] ++ List.replicate k 0 := by
    rw [Nat.add_comm, ← List.replicate_append_replicate]; rfl
  have hb : ∀ x : Nat, UInt8.ofNat (x % 256) = UInt8.ofNat x := fun x => by
    apply UInt8.toNat.inj
    simp
  show (((((List.replicate (k + 4) 0).set 3 (UInt8.ofNat (n / 256 ^ 0 % 256))).set 2 (UInt8.ofNat (n / 256 ^ 1 % 256))).set 1 (UInt8.ofNat (n / 256 ^ 2 % 256))).set 0 (UInt8.ofNat (n / 256 ^ 3 % 256))) = _
  rw [e, hb, hb, hb, hb]
  rfl
def allF (m : Nat) (chunk : List UInt8) (i : Nat) : List UInt8 := beN 4 chunk.length ++ chunk.take i ++ List.replicate (m - 4 - i) 0
theorem allF_succ {m i : Nat} {chunk : List UInt8} (h : i < chunk.length) (hm : chunk.length ≤ m - 4) : (allF m chunk i).set (4 + i) chunk[i] = allF m chunk (i + 1) := by
  have h4 := beN_len 4 chunk.length (by omega)
  have h5 : (beN 4 chunk.length ++ chunk.take i).length = 4 + i := by rw [List.length_append, h4, List.length_take]; omega
  unfold allF
  rw [List.set_append_right _ _ (by omega), h5, Nat.sub_self, show m - 4 - i = (m - 4 - (i + 1)) + 1 by omega, List.replicate_succ, List.set_cons_zero, List.take_add_one, List.getElem?_eq_getElem h]
  simp only [Option.toList_some, List.append_assoc, List.cons_append, List.nil_append]
theorem allF_len {m i : Nat} {chunk : List UInt8} (h : i ≤ chunk.length) (hm : chunk.length ≤ m - 4) (h4 : 4 ≤ m) : (allF m chunk i).length = m := by
  unfold allF
  rw [List.length_append, List.length_append, beN_len 4 _ (by omega), List.length_take, List.length_replicate]
  omega

set_option maxRecDepth 20000 in
set_option maxHeartbeats 2000000 in
theorem refLay_ok (g s : Nat) (vc : Value) (chunk : List UInt8) (H0 : Hp) (w0 : World) (h0 : Sub H0 w0) (hgs : 1 ≤ g ∧ g ≤ 255 ∧ 1 ≤ s ∧ s ≤ 65535 ∧ 4 < g * s) (hc : Bytes H0 vc chunk) (hl1 : 1 ≤ chunk.length) (hl2 : chunk.length ≤ g * s - 4) :
    Calls Try.prog 120 #[vc, .int .i64 (g : Int), .int .i64 (s : Int)] w0 (Pure H0 w0 fun v H' => ∃ r, v = .tuple #[r, .int .i64 0] ∧ BytesL H' r (layF g s chunk)) := by
  have hs := HS.init h0
  have hle := Hp.le.refl H0
  obtain ⟨hg1, hg2, hs1, hs2, hgs4⟩ := hgs
  have hmul : g * s ≤ 255 * 65535 := Nat.mul_le_mul hg2 hs2
  obtain ⟨bc, cc, rfl⟩ := hc.form
  have hal := layAll_len hgs4 hl2
  have hmc : (g : Int) * (s : Int) = ((g * s : Nat) : Int) := by rw [Int.natCast_mul]
  have hb1 : (0 : Int) ≤ (g : Int) * (s : Int) := by rw [hmc]; omega
  have hb2 : (g : Int) * (s : Int) ≤ 16711425 := by rw [hmc]; omega
  refine Calls.enter (args := [.slice bc chunk.length cc, .int .i64 (g : Int), .int .i64 (s : Int)]) Try.func120 rfl Try.ntmps120 rfl ?_
  refine WC.seq (WC.region (WO.step rfl (OR.assign rfl (WO.step rfl (OR.assign rfl (WO.done (WX.seq ?_)))))))
  refine WC.seq (WC.region (WO.step rfl (OR.move rfl (WO.step rfl (OR.move rfl ?_)))))
  refine WO.step rfl (OR.call hs body163 rfl rfl (refRoom_ok (g : Int) (s : Int) _ _ hs.toSub) ?_)
  clear hs; rintro _ H w hs hle1 rfl; replace hle := hle.trans hle1; (try replace hlb := hlb.trans hle1)
  have hrc : (g : Int) * (s : Int) - 4 = ((g * s - 4 : Nat) : Int) := by rw [hmc]; omega
  rw [if_pos (show 1 ≤ (g : Int) ∧ (g : Int) ≤ 255 ∧ 1 ≤ (s : Int) ∧ (s : Int) ≤ 65535 ∧ 4 < (g : Int) * (s : Int) from ⟨by omega, by omega, by omega, by omega, by rw [hmc]; omega⟩), hrc]
  refine WO.step rfl (OR.move rfl (WO.step rfl (OR.extract rfl rfl (WO.step rfl (OR.extract rfl rfl (WO.step rfl (OR.assign rfl ?_)))))))
  refine WO.step rfl (OR.assign rfl (WO.done (WX.seq (WC.seq (WC.seq (WC.region (WO.step rfl ?_)))))))
  refine OR.move rfl (WO.step rfl (OR.neq rfl rfl (WO.done (WX.seq ?_))))
  refine WC.no rfl (decide_eq_false (by omega)) ?_
  refine WC.skip (WX.seq (WC.seq (WC.seq (WC.region (WO.step rfl (OR.move rfl (WO.step rfl ?_)))))))
  refine OR.lenSlice T23.und rfl (WO.step rfl (OR.eql rfl rfl (WO.done (WX.seq ?_))))
  refine WC.no rfl (decide_eq_false (by omega)) ?_
  refine WC.skip (WX.seq (WC.seq (WC.seq (WC.region (WO.step rfl (OR.move rfl (WO.step rfl ?_)))))))
  refine OR.lenSlice T23.und rfl (WO.step rfl (OR.move rfl (WO.step rfl (OR.gtr rfl rfl (WO.done (WX.seq ?_))))))
  refine WC.no rfl (decide_eq_false (by omega)) ?_
  refine WC.skip (WX.seq (WC.seq (WC.region (WO.step rfl (OR.move rfl (WO.step rfl (OR.move rfl ?_)))))))
  refine WO.step rfl (OR.mulI rfl rfl (by omega) (by omega) ?_)
  rw [hmc]
  refine WO.step rfl (OR.make1 (m := g * s) hs T23.und T5 rfl rfl rfl (by omega) (by omega) ?_)
  clear hs; intro gm w hgm hs
  replace hs : HS [] H0 w0 H [(gm, .cells ((hdrF (g * s) chunk.length 0).map B).toArray 5, true)] w := by rw [hdrF, List.map_replicate]; exact hs
  obtain ⟨m, hm⟩ : ∃ m, m = g * s := ⟨_, rfl⟩
  rw [← hm] at hs
  refine WO.step rfl (OR.assign rfl (WO.done (WX.seq (WC.seq (WC.region (WO.step rfl (OR.move rfl ?_)))))))
  refine WO.step rfl (OR.lenSlice T23.und rfl (WO.step rfl (OR.assign rfl (WO.done (WX.seq (WC.seq (WC.seq ?_)))))))
  refine WC.region (WO.step rfl (OR.assign rfl (WO.done (WX.seq (WC.block ?_)))))
  refine WC.loop (ι := Nat × Int × Nat) (fun ix => [(0, .slice bc chunk.length cc), (1, .int .i64 (g : Int)), (2, .int .i64 (s : Int)), (10, .slice (some ⟨gm, 0, none⟩) (g * s) (g * s)), (11, .int .i64 (ix.2.2 : Int)), (12, .int .i64 ix.2.1)]) (fun ix w => (ix.1 ≤ 4 ∧ ix.2.1 = 3 - (ix.1 : Int) ∧ ix.2.2 = chunk.length / 256 ^ ix.1 ∧ HS [] H0 w0 H [(gm, .cells ((hdrF m chunk.length ix.1).map B).toArray 5, true)] w)) (fun ix => 4 - ix.1) (0, 3, chunk.length) ⟨rfl, rfl, rfl, rfl, rfl, rfl,  trivial⟩ ?_ (fun ix w hW => ?_)
  · exact ⟨by simp only; omega, rfl, by simp, hs⟩
  clear hs
  obtain ⟨t, i, nn⟩ := ix
  obtain ⟨ht, hi, hnn, hs⟩ := hW
  simp only at ht hi hnn hs
  refine WC.seq (WC.seq (WC.region (WO.step rfl (OR.move rfl (WO.step rfl (OR.geq rfl rfl (WO.done ?_)))))))
  refine WX.seq ?_
  refine WC.sub [(0, .slice bc chunk.length cc), (1, .int .i64 (g : Int)), (2, .int .i64 (s : Int)), (10, .slice (some ⟨gm, 0, none⟩) (g * s) (g * s)), (11, .int .i64 (nn : Int)), (12, .int .i64 i), (39, .bool (decide (i ≥ 0)))] ⟨rfl, rfl, rfl, rfl, rfl, rfl, rfl,  trivial⟩ ?_
  refine WC.condD rfl (fun hlt => ?_) (fun hlt => ?_)
  · have ht' : t < 4 := by omega
    refine WC.skip (WX.seq (WC.seq (WC.block (WC.seq (WC.region (WO.step rfl (OR.move rfl ?_)))))))
    refine WO.step rfl (OR.move rfl (WO.step rfl (OR.move rfl ?_)))
    refine WO.step rfl (OR.rem rfl rfl (by omega) ?_)
    refine WO.step rfl (OR.convN (m := nn % 256) T3.und T5.und rfl rfl ?_)
    refine WO.step rfl (OR.idx (3 - t) T23.und T5 rfl rfl (by omega) (by omega) ?_)
    refine WO.stepN (OR.store hs T5 rfl rfl rfl (by simp [hdrF_len]; omega) rfl ?_)
    clear hs; intro w hs
    refine WO.done (WX.seq (WC.region (WO.step rfl (OR.move rfl ?_))))
    refine WO.step rfl (OR.quo rfl rfl (by omega) ?_)
    have hq : IntKind.i64.wrap ((nn : Int).tdiv 256) = ((nn / 256 : Nat) : Int) := by
      have e1 : (nn : Int).tdiv 256 = ((nn / 256 : Nat) : Int) := rfl
      have e2 : nn ≤ chunk.length := by rw [hnn]; exact Nat.div_le_self _ _
      rw [e1, i64_small _ (by omega)]
    rw [hq]
    have hsum : (setL ((hdrF m chunk.length t).map B).toArray.toList (0 + (3 - t)) (B (UInt8.ofNat (nn % 256))).cells.toList).toArray = ((hdrF m chunk.length (t + 1)).map B).toArray := by
      rw [hdrF, List.map_set, Nat.zero_add, hnn]
      show (setL _ (3 - t) [_]).toArray = _
      rw [setL_one]
    rw [hsum] at hs
    refine WO.step rfl (OR.assign rfl (WO.done (WX.block (WX.seq (WC.region (WO.step rfl (OR.move rfl ?_)))))))
    refine WO.step rfl (OR.subI rfl rfl (by omega) (by omega) (WO.step rfl (OR.assign rfl (WO.done ?_))))
    refine WX.again ((t + 1, i - 1, nn / 256)) ⟨rfl, rfl, rfl, rfl, rfl, rfl,  trivial⟩ ?_ ?_
    · exact ⟨ht', by simp only; omega, by simp only; rw [hnn, Nat.div_div_eq_div_mul, Nat.pow_succ], hs⟩
    · simp only; omega
  · have e : t = 4 := by omega
    subst e
    rw [hdrF_four _ _ (by omega)] at hs
    replace hs : HS [] H0 w0 H [(gm, .cells ((allF m chunk 0).map B).toArray 5, true)] w := by rw [allF, List.take_zero, List.append_nil, Nat.sub_zero]; exact hs
    clear hlt hi ht
    refine WC.exit (WX.seq_exit (WX.loop_exit (WX.block_hit (WX.seq (WC.seq (WC.seq (WC.region ?_)))))))
    refine WO.step rfl (OR.assign rfl (WO.done (WX.seq (WC.block ?_))))
    refine WC.loop (ι := Nat) (fun k => [(0, .slice bc chunk.length cc), (1, .int .i64 (g : Int)), (2, .int .i64 (s : Int)), (10, .slice (some ⟨gm, 0, none⟩) (g * s) (g * s)), (13, .int .i64 (k : Int))]) (fun k w => (k ≤ chunk.length ∧ HS [] H0 w0 H [(gm, .cells ((allF m chunk k).map B).toArray 5, true)] w)) (fun k => chunk.length - k) 0 ⟨rfl, rfl, rfl, rfl, rfl,  trivial⟩ ?_ (fun k w hW => ?_)
    · exact ⟨by omega, hs⟩
    clear hs
    obtain ⟨hk, hs⟩ := hW
    refine WC.seq (WC.seq (WC.region (WO.step rfl (OR.move rfl (WO.step rfl (OR.move rfl (WO.step rfl ?_)))))))
    refine OR.lenSlice T23.und rfl (WO.step rfl (OR.lss rfl rfl (WO.done (WX.seq ?_))))
    refine WC.condD rfl (fun hlt => ?_) (fun hlt => ?_)
    · have hk' : k < chunk.length := by omega
      obtain ⟨xb, xo, rfl, hcx⟩ := hc.pos (by omega)
      refine WC.skip (WX.seq (WC.seq (WC.block (WC.region (WO.step rfl (OR.move rfl (WO.step rfl ?_)))))))
      refine OR.move rfl (WO.step rfl (OR.addI rfl rfl (by omega) (by omega) (WO.step rfl (OR.move rfl (WO.step rfl (OR.move rfl ?_))))))
      refine WO.step rfl (OR.idx k T23.und T5 rfl rfl rfl hk' ?_)
      refine WO.step rfl (OR.load T5 rfl rfl (hs.cell (hcell.mono hle (hcx k hk'))) ?_)
      refine WO.step rfl (OR.idx (4 + k) T23.und T5 rfl rfl rfl (by omega) ?_)
      refine WO.stepN (OR.store hs T5 rfl rfl rfl (by simp [allF_len (i := k) (m := m) hk (by omega) (by omega)]; omega) rfl ?_)
      clear hs; intro w hs
      have hsum : (setL ((allF m chunk k).map B).toArray.toList (0 + (4 + k)) (B chunk[k]).cells.toList).toArray = ((allF m chunk (k + 1)).map B).toArray := by
        rw [← allF_succ hk' (by omega), List.map_set, Nat.zero_add]
        show (setL _ (4 + k) [_]).toArray = _
        rw [setL_one]
      rw [hsum] at hs
      refine WO.done (WX.block (WX.seq (WC.region (WO.step rfl (OR.move rfl (WO.step rfl (OR.addI rfl rfl (by omega) (by omega) ?_)))))))
      refine WO.step rfl (OR.assign rfl (WO.done ?_))
      refine WX.again (k + 1) ⟨rfl, rfl, rfl, rfl, rfl,  trivial⟩ ?_ ?_
      · exact ⟨hk', hs⟩
      · omega
    · have e : k = chunk.length := by omega
      subst e
      clear hlt hk
      have hfull : allF m chunk chunk.length = layAll g s chunk := by
        rw [allF, List.take_length, hm]; rfl
      rw [hfull] at hs
      refine WC.exit (WX.seq_exit (WX.loop_exit (WX.block_hit (WX.seq (WC.seq ?_)))))
      have hgH := (hs.mem gm (.cells ((layAll g s chunk).map B).toArray 5) true (by simp)).2.1
      have hpH := Hp.le_put hgH (.cells ((layAll g s chunk).map B).toArray 5)
      replace hs := hs.publish hgm
      have hall := Bytes.block (c := ((layAll g s chunk).map B).toArray) (l := layAll g s chunk) (cap := g * s) (Hp.put_same H gm (.cells ((layAll g s chunk).map B).toArray 5)) (by rw [hal, List.take_of_length_le (by simp [hal])]) (by omega)
      replace hle := hle.trans hpH
      obtain ⟨HB, hHB⟩ : ∃ X, X = H.put gm (.cells ((layAll g s chunk).map B).toArray 5) := ⟨_, rfl⟩
      rw [← hHB] at hs hall hle
      clear hHB hfull hpH
      generalize hAL : layAll g s chunk = AL at hall hal
      refine WC.region (WO.step rfl (OR.assign rfl (WO.done (WX.seq (WC.seq (WC.seq (WC.region ?_)))))))
      refine WO.step rfl (OR.assign rfl (WO.done (WX.seq (WC.block ?_))))
      refine WC.loop (ι := Nat × Value) (fun ix => [(1, .int .i64 (g : Int)), (2, .int .i64 (s : Int)), (10, .slice (some ⟨gm, 0, none⟩) (g * s) (g * s)), (14, ix.2), (15, .int .i64 (ix.1 : Int))]) (fun ix w => (ix.1 ≤ g ∧ ∃ H cl Mo, Hp.le H0 H ∧ Hp.le HB H ∧ BLOk H cl ((List.range ix.1).map fun i => (AL.drop (s * i)).take s) ∧ Own w0.heap.size 23 1 ix.2 ix.1 cl Mo ∧ HS [] H0 w0 H (Mo ++ []) w)) (fun ix => g - ix.1) (0, .slice none 0 0) ⟨rfl, rfl, rfl, rfl, rfl,  trivial⟩ ?_ (fun ix w hW => ?_)
      · exact ⟨by omega, HB, [], [], hle, Hp.le.refl _, BLOk.nil _, Own.nil _ _ _, hs⟩
      clear hs hle
      obtain ⟨k, vo⟩ := ix
      obtain ⟨hk, H, cl, Mo, hle, hlb, hok, ho, hs⟩ := hW
      simp only at hk hok ho
      refine WC.seq (WC.seq (WC.region (WO.step rfl (OR.move rfl (WO.step rfl (OR.move rfl (WO.step rfl ?_)))))))
      refine OR.lss rfl rfl (WO.done (WX.seq ?_))
      refine WC.sub [(1, .int .i64 (g : Int)), (2, .int .i64 (s : Int)), (10, .slice (some ⟨gm, 0, none⟩) (g * s) (g * s)), (14, vo), (15, .int .i64 (k : Int)), (66, .bool (decide ((k : Int) < (g : Int))))] ⟨rfl, rfl, rfl, rfl, rfl, rfl,  trivial⟩ ?_
      refine WC.condD rfl (fun hlt => ?_) (fun hlt => ?_)
      · have hk' : k < g := by omega
        have hq1 : k * s ≤ g * s := Nat.mul_le_mul_right s hk
        have hq2 : (k + 1) * s ≤ g * s := Nat.mul_le_mul_right s hk'
        have hq3 : (k : Int) * (s : Int) = ((k * s : Nat) : Int) := by rw [Int.natCast_mul]
        have hq4 : ((k : Int) + 1) * (s : Int) = (((k + 1) * s : Nat) : Int) := by rw [Int.natCast_mul]; rfl
        have hq5 : (k + 1) * s = k * s + s := by rw [Nat.add_mul, Nat.one_mul]
        have hr1 : (0 : Int) ≤ (k : Int) * (s : Int) := by rw [hq3]; omega
        have hr2 : (k : Int) * (s : Int) ≤ 16711425 := by rw [hq3]; omega
        have hr3 : (0 : Int) ≤ ((k : Int) + 1) * (s : Int) := by rw [hq4]; omega
        have hr4 : ((k : Int) + 1) * (s : Int) ≤ 16711425 := by rw [hq4]; omega
        have hall' : Bytes HB (.slice (some ⟨gm, 0, none⟩) AL.length (g * s)) AL := hall
        have hpart := hall'.part (k * s) ((k + 1) * s) (by omega) (by omega)
        refine WC.skip (WX.seq (WC.seq (WC.block (WC.region (WO.step rfl (OR.move rfl (WO.step rfl ?_)))))))
        refine OR.move rfl (WO.step rfl (OR.move rfl (WO.step rfl (OR.move rfl (WO.step rfl (OR.mulI rfl rfl (by omega) (by omega) (WO.step rfl ?_)))))))
        refine OR.move rfl (WO.step rfl (OR.addI rfl rfl (by omega) (by omega) (WO.step rfl (OR.move rfl (WO.step rfl (OR.mulI rfl rfl (by omega) (by omega) ?_))))))
        refine WO.step rfl (OR.slice2G (k * s) ((k + 1) * s) T23.und T5 rfl rfl hq3 rfl hq4 (by omega) (by omega) ?_)
        refine WO.step rfl (OR.call hs body111 rfl rfl (refOwn_p _ _ _ _ hs.toSub (hpart.mono hlb) (by simp; omega)) ?_)
        clear hs; rintro _ H w hs hle1 hb; replace hle := hle.trans hle1; (try replace hlb := hlb.trans hle1)
        obtain ⟨b5, c5, rfl⟩ := hb.form
        refine WO.step rfl (OR.buildSlice (vs := [_]) hs T22.und T23 rfl rfl rfl rfl (by simp) ?_)
        clear hs; intro g3 w hg3 hs
        have hb9 := hs.blk (i := 0) rfl
        replace hs := hs.sink
        refine WO.step rfl (OR.append (m := 1) (news := [_]) hs ho T22.und T23 rfl (by omega) rfl rfl rfl (cells_of hb9) (fun h => by cases h) rfl (by omega) (by omega) ?_)
        clear hs ho; intro vo' w Mo' hs ho hge
        replace hs := hs.dropMid
        refine WO.step rfl (OR.assign rfl (WO.done (WX.block (WX.seq (WC.region (WO.step rfl (OR.move rfl ?_)))))))
        refine WO.step rfl (OR.addI rfl rfl (by omega) (by omega) (WO.step rfl (OR.assign rfl (WO.done ?_))))
        refine WX.again ((k + 1, vo')) ⟨rfl, rfl, rfl, rfl, rfl,  trivial⟩ ?_ ?_
        · refine ⟨hk', H, cl ++ [_], Mo', hle, hlb, ?_, ho, hs⟩
          have e9 : (k + 1) * s - k * s = s := by omega
          rw [List.range_succ, List.map_append, List.map_singleton, Nat.mul_comm s k]
          rw [e9] at hb ⊢
          exact (hok.mono hle1).snoc hb
        · simp only; omega
      · have e : k = g := by omega
        subst e
        obtain ⟨bo, co, rfl⟩ := ho.form
        refine WC.exit (WX.seq_exit (WX.loop_exit (WX.block_hit (WX.seq (WC.seq (WC.region (WO.step rfl ?_)))))))
        refine OR.move rfl (WO.step rfl (OR.assign rfl (WO.step rfl (OR.assign rfl (WO.done (WX.seq (WC.ret ?_)))))))
        refine WX.ret2 rfl rfl rfl ?_
        obtain ⟨H4, hle4, hs4, hsl4, _⟩ := HS.pub hs ho
        refine .mk hs4 ⟨_, rfl, ?_⟩
        rw [layF, hAL]
        exact (hok.mono hle4).bytesL (by simpa using hsl4)
end Go.Bw
