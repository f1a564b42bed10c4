/- What law_FlowTrue needs: laid out of own texts. No condition. -/
import Derived.Test.YtdibepkfgemddaaGreatKFlowTrue6
namespace Go.Bw
set_option linter.unusedVariables false
set_option linter.unusedSimpArgs false
open Go.Proofs
def FD.epoch (d : FD) (next : List Int) (nv : Value) : FD := { d with next := next, nv := nv, told := [], worked := false }
def toldPut (l : List (Int × Nat)) (a : Int) (b : Nat) : List (Int × Nat) := match l.findIdx? (fun p => p.1 == a) with
  | some i => l.set i (a, b)
  | none => l ++ [(a, b)]
theorem toldPut_C (l : List (Int × Nat)) (a : Int) (b : Nat) : toldC (toldPut l a b) = assocPut (toldC l) a (.int .u64 (b : Int)) := by
  unfold toldPut assocPut toldC
  rw [List.findIdx?_map]
  show List.map _ (match l.findIdx? (fun p => p.1 == a) with | some i => l.set i (a, b) | none => l ++ [(a, b)]) = match l.findIdx? (fun p => p.1 == a) with | some i => _ | none => _
  cases l.findIdx? (fun p => p.1 == a) with
  | none => simp
  | some i => simp [List.map_set]
theorem toldPut_len (l : List (Int × Nat)) (a : Int) (b : Nat) : (toldPut l a b).length ≤ l.length + 1 := by
  unfold toldPut
  split <;> simp
theorem toldPut_mem {l : List (Int × Nat)} {a : Int} {b : Nat} {p : Int × Nat} (h : p ∈ toldPut l a b) : p = (a, b) ∨ p ∈ l := by
  unfold toldPut at h
  split at h
  · exact (List.mem_or_eq_of_mem_set h).symm
  · rcases List.mem_append.1 h with h | h
    · exact .inr h
    · exact .inl (List.mem_singleton.1 h)
def FD.hop (d : FD) (a : Int) (b : Nat) : FD := { d with told := toldPut d.told a b }
set_option maxRecDepth 20000 in
set_option maxHeartbeats 2000000 in
theorem fepoch_ok (c : CfgD) (d : FD) (xb tb : Nat) (vs : Value) (rl : Option RelS) (sk : SinkS) (v : Value) (next : List Int) (H0 : Hp) (w0 : World) (hs : HS (Mem.keys (fMem c d xb tb vs rl sk)) H0 w0 H0 (fMem c d xb tb vs rl sk) w0) (hok : RlOk H0 rl) (hb : skBase sk ≤ 1099511627776)
    (hv : Ints H0 v next) (hn : next.length ≤ 1000) (hr : ∀ i (h : i < next.length), 0 ≤ next[i] ∧ next[i] < (c.nodes : Int) ∧ next[i] ≠ d.node) (hup : ∀ i (h : i < next.length), 0 < i → next[i - 1]'(by omega) < next[i]) :
    Calls Tryz.prog 38 #[ptr xb, v] w0 (Ret (Mem.keys (fMem c d xb tb vs rl sk)) H0 w0 fun u H' M' => ∃ nv tb' l', u = .int .i64 0 ∧ M' = fMem c ((d.epoch next nv).work (skBase sk)) xb tb' vs (workR (d.epoch next nv) (skBase sk) l' rl) sk ∧ Ints H' nv next ∧ RlOk H' (workR (d.epoch next nv) (skBase sk) l' rl)) := by
  have hle := Hp.le.refl H0
  have h00 := hs.toSub
  have hlb := Hp.le.refl H0
  obtain ⟨bv, cv, rfl⟩ := hv.form
  obtain ⟨xs, hxs⟩ : ∃ xs, xs = Mem.keys (fMem c d xb tb vs rl sk) := ⟨_, rfl⟩
  rw [← hxs] at hs ⊢
  clear hxs
  replace hs : HS xs H0 w0 H0 ((xb, fObj c d tb vs (rlV rl) (skV sk), true) :: (tb, toldObj d.told, true) :: (skMem sk ++ rlMem rl)) w0 := hs
  refine Calls.enter (args := [ptr xb, .slice bv next.length cv]) Tryz.func38 rfl Tryz.ntmps38 rfl ?_
  refine WC.seq (WC.region (WO.step rfl (OR.assign rfl (WO.done (WX.seq (WC.seq (WC.seq ?_)))))))
  refine WC.region (WO.step rfl (OR.move rfl ?_))
  refine WO.step rfl (OR.call hs body96 rfl rfl (fmade_ok c d xb tb vs _ _ _ _ hs.toSub (hs.blk (i := 0) rfl) (hs.nh (i := 0) rfl)) ?_)
  clear hs; rintro _ H w hs hle1 rfl; replace hle := hle.trans hle1; (try replace hlb := hlb.trans hle1)
  refine WO.step rfl (OR.not rfl (WO.done (WX.seq ?_)))
  refine WC.no rfl rfl ?_
  refine WC.skip (WX.seq (WC.seq (WC.seq (WC.region (WO.step rfl (OR.move rfl (WO.step rfl ?_)))))))
  refine OR.lenSlice T76.und rfl (WO.step rfl (OR.move rfl (WO.done (WX.seq (WC.block ?_)))))
  refine WC.loop (ι := Nat) (fun k => [(0, ptr xb), (1, .slice bv next.length cv), (10, .slice bv next.length cv), (11, .int .i64 (next.length : Int)), (12, .int .i64 (k : Int))]) (fun k w => (k ≤ next.length ∧ HS xs H0 w0 H ((xb, fObj c d tb vs (rlV rl) (skV sk), true) :: (tb, toldObj d.told, true) :: (skMem sk ++ rlMem rl)) w)) (fun k => next.length - k) 0 ⟨rfl, rfl, rfl, rfl, rfl,  trivial⟩ ?_ (fun k w hW => ?_)
  · exact ⟨by omega, hs⟩
  clear hs
  obtain ⟨hk, hs⟩ := hW
  refine WC.seq (WC.region (WO.step rfl (OR.lss rfl rfl (WO.done (WX.seq (WC.seq ?_))))))
  refine WC.condD rfl (fun hlt => ?_) (fun hlt => ?_)
  · have hk' : k < next.length := by omega
    obtain ⟨yb, yo, rfl, hcx⟩ := hv.pos (by omega)
    have hck := hcx k hk'
    obtain ⟨r1, r2, r3⟩ := hr k hk'
    refine WC.skip (WX.seq (WC.seq (WC.block (WC.seq (WC.region (WO.step rfl (OR.move rfl ?_)))))))
    refine WO.step rfl (OR.idx k T76.und T3 rfl rfl rfl hk' ?_)
    refine WO.step rfl (OR.load T3 rfl rfl (hs.cell (hcell.mono hle hck)) ?_)
    refine WO.step rfl (OR.assign rfl (WO.step rfl (OR.assign rfl (WO.done (WX.seq (WC.seq (WC.region ?_)))))))
    refine WO.step rfl (OR.move rfl (WO.step rfl (OR.lss rfl rfl (WO.step rfl (OR.move rfl ?_)))))
    refine WO.guardYes rfl (decide_eq_false (by omega : ¬ next[k] < 0)) rfl rfl (OR.move rfl (WO.guardYes rfl (decide_eq_false (by omega : ¬ next[k] < 0)) rfl rfl (OR.move rfl (WO.guardYes rfl (decide_eq_false (by omega : ¬ next[k] < 0)) rfl rfl (OR.nilCheck rfl (WO.guardYes rfl (decide_eq_false (by omega : ¬ next[k] < 0)) rfl rfl (OR.fieldAddr FA172_0 rfl ?_)))))))
    refine WO.guardYes rfl (decide_eq_false (by omega : ¬ next[k] < 0)) rfl rfl (OR.fieldAddr FA81_0 rfl (WO.guardYes rfl (decide_eq_false (by omega : ¬ next[k] < 0)) rfl rfl (OR.load T3 rfl rfl (hs.cellM (i := 0) rfl rfl) (WO.guardYes rfl (decide_eq_false (by omega : ¬ next[k] < 0)) rfl rfl (OR.geq rfl rfl (WO.step rfl (OR.pickF rfl (decide_eq_false (by omega : ¬ next[k] < 0)) rfl ?_)))))))
    refine WO.step rfl (OR.move rfl ?_)
    refine WO.guardYes rfl (decide_eq_false (by omega : ¬ next[k] ≥ (c.nodes : Int))) rfl rfl (OR.move rfl (WO.guardYes rfl (decide_eq_false (by omega : ¬ next[k] ≥ (c.nodes : Int))) rfl rfl (OR.move rfl (WO.guardYes rfl (decide_eq_false (by omega : ¬ next[k] ≥ (c.nodes : Int))) rfl rfl (OR.nilCheck rfl (WO.guardYes rfl (decide_eq_false (by omega : ¬ next[k] ≥ (c.nodes : Int))) rfl rfl (OR.fieldAddr FA172_2 rfl ?_)))))))
    refine WO.guardYes rfl (decide_eq_false (by omega : ¬ next[k] ≥ (c.nodes : Int))) rfl rfl (OR.load T3 rfl rfl (hs.cellM (i := 0) rfl rfl) (WO.guardYes rfl (decide_eq_false (by omega : ¬ next[k] ≥ (c.nodes : Int))) rfl rfl (OR.eql rfl rfl (WO.step rfl (OR.pickF rfl (decide_eq_false (by omega : ¬ next[k] ≥ (c.nodes : Int))) rfl (WO.step rfl (OR.move rfl ?_)))))))
    refine WO.guardYes rfl (decide_eq_false r3) rfl rfl (OR.move rfl (WO.guardYes rfl (decide_eq_false r3) rfl rfl (OR.gtr rfl rfl (WO.guardYes rfl (decide_eq_false r3) rfl rfl (OR.move rfl ?_)))))
    refine WO.guardSplit (j := 22) rfl (fun hpos => ?_) (fun hpos => ?_)
    · have hp : 0 < k := by omega
      have hu := hup k hk' hp
      have hck1 := hcx (k - 1) (by omega)
      refine WO.guardYes rfl (decide_eq_true hpos) rfl rfl (OR.move rfl (WO.guardYes rfl (decide_eq_true hpos) rfl rfl (OR.move rfl (WO.guardYes rfl (decide_eq_true hpos) rfl rfl (OR.subI rfl rfl (by omega) (by omega) ?_)))))
      rw [show (k : Int) - 1 = ((k - 1 : Nat) : Int) by omega]
      refine WO.guardYes rfl (decide_eq_true hpos) rfl rfl (OR.idx (k - 1) T76.und T3 rfl rfl rfl (by omega) ?_)
      refine WO.guardYes rfl (decide_eq_true hpos) rfl rfl (OR.load T3 rfl rfl (hs.cell (hcell.mono hle hck1)) ?_)
      refine WO.guardYes rfl (decide_eq_true hpos) rfl rfl (OR.move rfl (WO.guardYes rfl (decide_eq_true hpos) rfl rfl (OR.geq rfl rfl (WO.guardYes rfl (decide_eq_false r3) rfl rfl (OR.pickT rfl (decide_eq_true hpos) rfl (WO.step rfl (OR.pickF rfl (decide_eq_false r3) rfl ?_)))))))
      refine WO.done (WX.seq ?_)
      refine WC.no rfl (decide_eq_false (by omega : ¬ next[k - 1] ≥ next[k])) ?_
      refine WC.skip (WX.block (WX.seq (WC.region (WO.step rfl (OR.addI rfl rfl (by omega) (by omega) (WO.step rfl (OR.move rfl ?_)))))))
      refine WO.done ?_
      refine WX.again (k + 1) ⟨rfl, rfl, rfl, rfl, rfl,  trivial⟩ ?_ ?_
      · exact ⟨by omega, hs⟩
      · omega
    · refine WO.guardNo rfl (decide_eq_false hpos) rfl rfl (WO.guardNo rfl (decide_eq_false hpos) rfl rfl (WO.guardNo rfl (decide_eq_false hpos) rfl rfl (WO.guardNo rfl (decide_eq_false hpos) rfl rfl (WO.guardNo rfl (decide_eq_false hpos) rfl rfl (WO.guardNo rfl (decide_eq_false hpos) rfl rfl (WO.guardNo rfl (decide_eq_false hpos) rfl rfl (WO.guardYes rfl (decide_eq_false r3) rfl rfl ?_)))))))
      refine OR.pickF rfl (decide_eq_false hpos) rfl (WO.step rfl (OR.pickF rfl (decide_eq_false r3) rfl (WO.done (WX.seq (WC.no rfl rfl (WC.skip (WX.block ?_)))))))
      refine WX.seq (WC.region (WO.step rfl (OR.addI rfl rfl (by omega) (by omega) (WO.step rfl (OR.move rfl (WO.done ?_))))))
      refine WX.again (k + 1) ⟨rfl, rfl, rfl, rfl, rfl,  trivial⟩ ?_ ?_
      · exact ⟨by omega, hs⟩
      · omega
  · refine WC.exit (WX.seq_exit (WX.loop_exit (WX.block_hit (WX.seq (WC.seq (WC.region (WO.step rfl ?_)))))))
    refine OR.move rfl (WO.step rfl (OR.move rfl (WO.step rfl (OR.move rfl (WO.step rfl (OR.move rfl ?_))))))
    refine WO.step rfl (OR.callX (Mx := []) (Mr := (xb, fObj c d tb vs (rlV rl) (skV sk), true) :: (tb, toldObj d.told, true) :: (skMem sk ++ rlMem rl)) hs body97 rfl rfl (cloneInts_ok _ next _ _ hs.toSub (hv.mono hle) (by omega)) rfl rfl ?_)
    have hsz := hs.size
    clear hs; rintro nv H2 Mo w hs hle2 hnew2 ⟨rfl, ho⟩
    replace ho := ho.mono hsz
    obtain ⟨H3, hle3, hs, hsl3, _⟩ := HS.pub hs ho
    replace hle := hle.trans hle3
    refine WO.step rfl (OR.makeMap hs ?_)
    clear hs; intro tb' w htb hs
    obtain ⟨bn, cn, rfl⟩ := Sl.form hsl3
    refine WO.step rfl (OR.nilCheck rfl (WO.step rfl (OR.fieldAddr FA172_6 rfl ?_)))
    replace hs := hs.front (i := 1) rfl
    refine WO.stepN (OR.store hs T76 rfl rfl rfl (Nat.le_of_ble_eq_true rfl) rfl ?_)
    clear hs; intro w hs
    refine WO.step rfl (OR.nilCheck rfl (WO.step rfl (OR.fieldAddr FA172_7 rfl (WO.stepN (OR.store hs T85 rfl rfl rfl (Nat.le_of_ble_eq_true rfl) rfl ?_)))))
    clear hs; intro w hs
    refine WO.step rfl (OR.nilCheck rfl (WO.step rfl (OR.fieldAddr FA172_9 rfl (WO.stepN (OR.store hs T4 rfl rfl rfl (Nat.le_of_ble_eq_true rfl) rfl ?_)))))
    clear hs; intro w hs
    refine WO.done (WX.seq (WC.seq (WC.region (WO.step rfl (OR.move rfl ?_)))))
    obtain ⟨nv, hnv⟩ : ∃ nv : Value, nv = .slice bn next.length cn := ⟨_, rfl⟩
    have hF : HS xs H0 w0 H3 (fMem c (d.epoch next nv) xb tb' vs rl sk ++ []) w := by
      rw [List.append_nil, hnv]
      exact hs.drop 2
    clear hs
    refine WO.step rfl (OR.callX (Mx := fMem c (d.epoch next nv) xb tb' vs rl sk) (Mr := []) hF body95 rfl rfl (fwork_ok c (d.epoch next nv) xb tb' vs rl sk _ _ (HS.part hF) (hok.mono hle) (by rw [hnv]; exact hsl3) (by show 0 ≤ 1000; omega) hb (fun p hp => by cases hp)) rfl (fMem_flags _ _ _ _ _ _ _) ?_)
    clear hF; rintro v H4 M w hs hle4 hnew4 ⟨l', rfl, hro⟩
    refine WO.done (WX.seq (WC.seq (WC.region (WO.step rfl (OR.assign rfl (WO.done (WX.seq ?_)))))))
    refine WC.ret ?_
    refine WX.ret1 rfl rfl ?_
    rw [List.append_nil] at hs
    refine ⟨_, H4, _, rfl, hs, fun p hp => List.all_eq_true.1 (fMem_flags _ _ _ _ _ _ _) p hp, nv, tb', l', rfl, rfl, ?_, hro⟩
    rw [hnv]
    exact Ints.mono hsl3 hle4
set_option maxRecDepth 20000 in
set_option maxHeartbeats 2000000 in
theorem fhop_ok (c : CfgD) (d : FD) (xb tb : Nat) (vs : Value) (rl : Option RelS) (sk : SinkS) (a : Int) (b : Nat) (H0 : Hp) (w0 : World) (hs : HS (Mem.keys (fMem c d xb tb vs rl sk)) H0 w0 H0 (fMem c d xb tb vs rl sk) w0) (hok : RlOk H0 rl) (hb : skBase sk ≤ 1099511627776)
    (hnx : Ints H0 d.nv d.next) (hd : d.told.length ≤ 900) (hdn : d.next.length ≤ 1000) (ht : ∀ p ∈ d.told, p.2 ≤ 1099511627776) (ha : a ∈ d.next) (hbm : b ≤ 1099511627776) :
    Calls Tryz.prog 39 #[ptr xb, .int .i64 a, .int .u64 (b : Int)] w0 (Ret (Mem.keys (fMem c d xb tb vs rl sk)) H0 w0 fun u H' M' => ∃ l', u = .int .i64 0 ∧ M' = fMem c ((d.hop a b).work (skBase sk)) xb tb vs (workR (d.hop a b) (skBase sk) l' rl) sk ∧ RlOk H' (workR (d.hop a b) (skBase sk) l' rl)) := by
  have hle := Hp.le.refl H0
  have h00 := hs.toSub
  obtain ⟨xs, hxs⟩ : ∃ xs, xs = Mem.keys (fMem c d xb tb vs rl sk) := ⟨_, rfl⟩
  rw [← hxs] at hs ⊢
  clear hxs
  replace hs : HS xs H0 w0 H0 ((xb, fObj c d tb vs (rlV rl) (skV sk), true) :: (tb, toldObj d.told, true) :: (skMem sk ++ rlMem rl)) w0 := hs
  refine Calls.enter (args := [ptr xb, .int .i64 a, .int .u64 (b : Int)]) Tryz.func39 rfl Tryz.ntmps39 rfl ?_
  refine WC.seq (WC.region (WO.step rfl (OR.assign rfl (WO.done (WX.seq (WC.seq (WC.block ?_)))))))
  refine WC.seq (WC.region (WO.step rfl (OR.move rfl ?_)))
  refine WO.step rfl (OR.call hs body96 rfl rfl (fmade_ok c d xb tb vs _ _ _ _ hs.toSub (hs.blk (i := 0) rfl) (hs.nh (i := 0) rfl)) ?_)
  clear hs; rintro _ H w hs hle1 rfl; replace hle := hle.trans hle1; (try replace hlb := hlb.trans hle1)
  refine WO.step rfl (OR.not rfl (WO.step rfl (OR.assign rfl (WO.done (WX.seq ?_)))))
  refine WC.no rfl rfl ?_
  refine WC.seq (WC.region (WO.step rfl (OR.move rfl (WO.step rfl (OR.nilCheck rfl (WO.step rfl (OR.fieldAddr FA172_6 rfl ?_)))))))
  refine WO.step rfl (OR.load T76 rfl rfl (hs.cellM (i := 0) rfl rfl) (WO.step rfl (OR.move rfl ?_)))
  refine WO.step rfl (OR.call hs body94 rfl rfl (contains_ok' d.nv d.next a _ _ hs.toSub (hnx.mono hle) (by omega)) ?_)
  clear hs; rintro _ H w hs hle1 rfl; replace hle := hle.trans hle1; (try replace hlb := hlb.trans hle1)
  rw [decide_eq_true ha]
  refine WO.step rfl (OR.not rfl (WO.step rfl (OR.assign rfl (WO.done (WX.seq ?_)))))
  refine WC.no rfl rfl ?_
  refine WC.seq (WC.region (WO.step rfl (OR.move rfl (WO.step rfl (OR.gtr rfl rfl (WO.step rfl (OR.assign rfl ?_)))))))
  refine WO.done (WX.seq ?_)
  refine WC.no rfl (decide_eq_false (by omega : ¬ (b : Int) > 1099511627776)) ?_
  refine WC.skip (WX.block (WX.seq (WC.seq (WC.region (WO.step rfl (OR.move rfl (WO.step rfl ?_)))))))
  refine OR.nilCheck rfl (WO.step rfl (OR.fieldAddr FA172_7 rfl (WO.step rfl (OR.load T85 rfl rfl (hs.cellM (i := 0) rfl rfl) (WO.step rfl (OR.move rfl (WO.step rfl ?_)))))))
  refine OR.move rfl ?_
  replace hs := hs.front (i := 1) rfl
  refine WO.stepN (OR.mapPut (K := .i64) (l := toldC d.told) hs T85.und T3.und rfl rfl rfl ?_)
  clear hs; intro w hs
  refine WO.done (WX.seq (WC.seq (WC.region (WO.step rfl (OR.move rfl ?_)))))
  have hF : HS xs H0 w0 H (fMem c (d.hop a b) xb tb vs rl sk ++ []) w := by
    rw [List.append_nil]
    rw [← toldPut_C] at hs
    exact hs.perm (List.Perm.swap _ _ _)
  clear hs
  have htt : ∀ p ∈ (d.hop a b).told, p.2 ≤ 1099511627776 := fun p hp => by
    rcases toldPut_mem hp with rfl | hp
    · exact hbm
    · exact ht p hp
  refine WO.step rfl (OR.callX (Mx := fMem c (d.hop a b) xb tb vs rl sk) (Mr := []) hF body95 rfl rfl (fwork_ok c (d.hop a b) xb tb vs rl sk _ _ (HS.part hF) (hok.mono hle) (hnx.mono hle) (by have := toldPut_len d.told a b; show (toldPut d.told a b).length ≤ 1000; omega) hb htt) rfl (fMem_flags _ _ _ _ _ _ _) ?_)
  clear hF; rintro v H4 M w hs hle4 hnew4 ⟨l', rfl, hro⟩
  refine WO.done (WX.seq (WC.seq (WC.region (WO.step rfl (OR.assign rfl (WO.done (WX.seq ?_)))))))
  refine WC.ret ?_
  refine WX.ret1 rfl rfl ?_
  rw [List.append_nil] at hs
  exact ⟨_, H4, _, rfl, hs, fun p hp => List.all_eq_true.1 (fMem_flags _ _ _ _ _ _ _) p hp, l', rfl, rfl, hro⟩
set_option maxRecDepth 20000 in
set_option maxHeartbeats 2000000 in
theorem fdel_ok (c : CfgD) (d : FD) (xb tb kb : Nat) (vs vr : Value) (q : SinkD) (H0 : Hp) (w0 : World) (hs : HS [] H0 w0 H0 [(xb, fObj c d tb vs vr (ptr kb), false), (kb, sinkObj q, false)] w0) :
    Calls Tryz.prog 40 #[ptr xb] w0 (Pure H0 w0 fun v _ => v = .int .u64 (q.dl : Int)) := by
  have hle := Hp.le.refl H0
  refine Calls.enter (args := [ptr xb]) Tryz.func40 rfl Tryz.ntmps40 rfl ?_
  refine WC.seq (WC.region (WO.step rfl (OR.assign rfl (WO.done (WX.seq (WC.seq (WC.seq ?_)))))))
  refine WC.region (WO.step rfl (OR.move rfl ?_))
  refine WO.step rfl (OR.call hs body96 rfl rfl (fmade_ok c d xb tb vs _ _ _ _ hs.toSub (hs.blk (i := 0) rfl) (hs.nh (i := 0) rfl)) ?_)
  clear hs; rintro _ H w hs hle1 rfl; replace hle := hle.trans hle1; (try replace hlb := hlb.trans hle1)
  refine WO.step rfl (OR.not rfl (WO.done (WX.seq ?_)))
  refine WC.no rfl rfl ?_
  refine WC.skip (WX.seq (WC.seq (WC.region (WO.step rfl (OR.move rfl (WO.step rfl (OR.nilCheck rfl ?_)))))))
  refine WO.step rfl (OR.fieldAddr FA172_5 rfl (WO.step rfl (OR.load T27 rfl rfl (hs.cellM (i := 0) rfl rfl) ?_)))
  refine WO.step rfl (OR.call hs body24 rfl rfl (kdel_ok kb q _ _ hs.toSub (hs.blk (i := 1) rfl) (hs.nh (i := 1) rfl)) ?_)
  clear hs; rintro _ H w hs hle1 rfl; replace hle := hle.trans hle1; (try replace hlb := hlb.trans hle1)
  refine WO.step rfl (OR.assign rfl (WO.done (WX.seq (WC.ret ?_))))
  refine WX.ret1 rfl rfl ?_
  exact .mk ((hs.drop 0).drop 0) rfl
set_option maxRecDepth 20000 in
set_option maxHeartbeats 2000000 in
theorem fsource_ok (c : CfgD) (d : FD) (xb tb : Nat) (vs vr vk : Value) (H0 : Hp) (w0 : World) (h0 : Sub H0 w0) (hb : w0.heap[xb]? = some (fObj c d tb vs vr vk)) (hn : H0 xb = none) :
    Calls Tryz.prog 42 #[ptr xb] w0 (Pure H0 w0 fun v _ => v = vs) := by
  have hs := HS.startR h0 hb hn
  have hle := Hp.le.refl H0
  refine Calls.enter (args := [ptr xb]) Tryz.func42 rfl Tryz.ntmps42 rfl ?_
  refine WC.seq (WC.region (WO.step rfl (OR.assign rfl (WO.done (WX.seq (WC.seq (WC.seq ?_)))))))
  refine WC.region (WO.step rfl (OR.move rfl ?_))
  refine WO.step rfl (OR.call hs body96 rfl rfl (fmade_ok c d xb tb vs _ _ _ _ hs.toSub (hs.blk (i := 0) rfl) (hs.nh (i := 0) rfl)) ?_)
  clear hs; rintro _ H w hs hle1 rfl; replace hle := hle.trans hle1; (try replace hlb := hlb.trans hle1)
  refine WO.step rfl (OR.not rfl (WO.done (WX.seq ?_)))
  refine WC.no rfl rfl ?_
  refine WC.skip (WX.seq (WC.seq (WC.region (WO.step rfl (OR.move rfl (WO.step rfl (OR.nilCheck rfl ?_)))))))
  refine WO.step rfl (OR.fieldAddr FA172_3 rfl (WO.step rfl (OR.load T66 rfl rfl (hs.cellM (i := 0) rfl rfl) (WO.step rfl (OR.assign rfl (WO.done (WX.seq ?_)))))))
  refine WC.ret ?_
  refine WX.ret1 rfl rfl ?_
  exact .mk (hs.drop 0) rfl
end Go.Bw
namespace Go.Bw
set_option linter.unusedVariables false
set_option linter.unusedSimpArgs false
open Go.Proofs
/-- What is known, seen from a call: some of the blocks, some of them writable. -/
theorem HS.view {xs xs' : List Nat} {H0 H : Hp} {w0 w : World} {M : Mem} (hs : HS xs H0 w0 H M w) (M' : Mem) (h : ∀ p ∈ M', (∃ t, (p.1, p.2.1, t) ∈ M) ∧ (p.2.2 = true → p.1 ∈ xs')) (hk : List.Sublist (Mem.keys M') (Mem.keys M)) : HS xs' H w H M' w :=
  HS.start xs' hs.sub (fun b o t hm => by
    obtain ⟨⟨t', h1⟩, h2⟩ := h _ hm
    have h3 := hs.mem b o t' h1
    exact ⟨h3.1, h3.2.1, h2⟩) (hk.nodup hs.nd)
theorem permOwn {a b c : Nat × Obj × Bool} : List.Perm [c, a, b] [a, b, c] := (List.Perm.swap a c [b]).trans (List.Perm.cons a (List.Perm.swap b c []))
set_option maxRecDepth 20000 in
set_option maxHeartbeats 2000000 in
theorem fsub1_ok (c : CfgD) (d : FD) (xb tb sb gb gx : Nat) (vr vk bv : Value) (D : SrcD) (o : Obj) (l : List UInt8) (H0 : Hp) (w0 : World) (hs : HS [sb] H0 w0 H0 [(sb, o, true), (xb, fObj c d tb (ptr sb) vr vk, false), (gb, .cells #[bv] 43, false), (gx, .cells #[ptr xb] 82, false)] w0)
    (hx : SrcIn H0 D o) (hok : SrcOk D) (hl : Bytes H0 bv l) (hll : l.length ≤ 9223372036854775807) (hcl : D.cuts.length ≤ 1000000000) (hw : c.win ≤ 16) (hb : d.base ≤ 1099511627776) :
    Calls Tryz.prog 99 #[ptr sb, ptr gb, ptr gx] w0 (Ret [sb] H0 w0 fun v H' M' => v = .int .i64 (subE D l (d.base + 2 * c.win)) ∧ ∃ o', M' = [(sb, o', true)] ∧ SrcIn H' (subD D l (d.base + 2 * c.win)) o') := by
  have hle := Hp.le.refl H0
  obtain ⟨bb, cb, rfl⟩ := hl.form
  refine Calls.enter (args := [ptr sb, ptr gb, ptr gx]) Tryz.func99 rfl Tryz.ntmps99 rfl ?_
  refine WC.seq (WC.region (WO.step rfl (OR.assign rfl (WO.done (WX.seq (WC.seq ?_))))))
  refine WC.draw 14 mixed hs (by kernel_rfl) ?_
  refine ⟨MF.eq _, by intro Mx H w hle hs; refine forVals_nil (ORg.plain (OR.move rfl ?_)); exact ⟨_, [], Hp.le.refl _, hs, rfl, rfl⟩, ?_⟩
  refine ⟨MF.eq _, by intro Mx H w hle hs; refine forVals_nil (ORg.plain (OR.load T43 rfl rfl (hs.right.cellM (i := 2) rfl rfl) ?_)); exact ⟨_, [], Hp.le.refl _, hs, rfl, rfl⟩, ?_⟩
  refine ⟨MF.eq _, by intro Mx H w hle hs; refine forVals_nil (ORg.plain (OR.load T82 rfl rfl (hs.right.cellM (i := 3) rfl rfl) ?_)); exact ⟨_, [], Hp.le.refl _, hs, rfl, rfl⟩, ?_⟩
  refine ⟨MF.eq _, by intro Mx H w hle hs; refine forVals_eq rfl rfl rfl ?_; refine forVals_nil (ORg.plain (OR.nilCheck rfl ?_)); exact ⟨_, [], Hp.le.refl _, hs, rfl, rfl⟩, ?_⟩
  refine ⟨MF.eq _, by intro Mx H w hle hs; refine forVals_eq rfl rfl rfl ?_; refine forVals_nil (ORg.plain (OR.fieldAddr FA172_8 rfl ?_)); exact ⟨_, [], Hp.le.refl _, hs, rfl, rfl⟩, ?_⟩
  refine ⟨MF.eq _, by intro Mx H w hle hs; refine forVals_eq rfl rfl rfl ?_; refine forVals_nil (ORg.plain (OR.load T22 rfl rfl (hs.right.cellM (i := 1) rfl rfl) ?_)); exact ⟨_, [], Hp.le.refl _, hs, rfl, rfl⟩, ?_⟩
  refine ⟨MF.eq _, by intro Mx H w hle hs; refine forVals_nil (ORg.plain (OR.load T82 rfl rfl (hs.right.cellM (i := 3) rfl rfl) ?_)); exact ⟨_, [], Hp.le.refl _, hs, rfl, rfl⟩, ?_⟩
  refine ⟨MF.eq _, by intro Mx H w hle hs; refine forVals_eq rfl rfl rfl ?_; refine forVals_nil (ORg.plain (OR.nilCheck rfl ?_)); exact ⟨_, [], Hp.le.refl _, hs, rfl, rfl⟩, ?_⟩
  refine ⟨MF.eq _, by intro Mx H w hle hs; refine forVals_eq rfl rfl rfl ?_; refine forVals_nil (ORg.plain (OR.fieldAddr FA172_0 rfl ?_)); exact ⟨_, [], Hp.le.refl _, hs, rfl, rfl⟩, ?_⟩
  refine ⟨MF.eq _, by intro Mx H w hle hs; refine forVals_eq rfl rfl rfl ?_; refine forVals_nil (ORg.plain (OR.fieldAddr FA81_2 rfl ?_)); exact ⟨_, [], Hp.le.refl _, hs, rfl, rfl⟩, ?_⟩
  refine ⟨MF.eq _, by intro Mx H w hle hs; refine forVals_eq rfl rfl rfl ?_; refine forVals_nil (ORg.plain (OR.load T3 rfl rfl (hs.right.cellM (i := 1) rfl rfl) ?_)); exact ⟨_, [], Hp.le.refl _, hs, rfl, rfl⟩, ?_⟩
  refine ⟨MF.eq (.int .u64 (c.win : Int)), ?_, ?_⟩
  · intro Mx H w hle2 hs; (try replace hle := hle.trans hle2); (try replace hlb := hlb.trans hle2); refine forVals_eq rfl rfl rfl ?_
    refine forVals_nil (ORg.plain (OR.convI T3.und T22.und rfl ?_))
    exact ⟨_, [], Hp.le.refl _, hs, (by rw [u64_wrap c.win (by omega)]), rfl⟩
  refine ⟨MF.eq (.int .u64 ((2 * c.win : Nat) : Int)), ?_, ?_⟩
  · intro Mx H w hle2 hs; (try replace hle := hle.trans hle2); (try replace hlb := hlb.trans hle2); refine forVals_eq rfl rfl rfl ?_
    refine forVals_nil (ORg.plain (OR.mul rfl rfl ?_))
    exact ⟨_, [], Hp.le.refl _, hs, (by rw [show ((2 : Int) * (c.win : Int)) = ((2 * c.win : Nat) : Int) by omega, u64_wrap (2 * c.win) (by omega)]), rfl⟩
  refine ⟨MF.eq (.int .u64 ((d.base + 2 * c.win : Nat) : Int)), ?_, ?_⟩
  · intro Mx H w hle2 hs; (try replace hle := hle.trans hle2); (try replace hlb := hlb.trans hle2); refine forVals_eq rfl rfl rfl ?_; refine forVals_eq rfl rfl rfl ?_
    refine forVals_nil (ORg.plain (OR.add rfl rfl ?_))
    exact ⟨_, [], Hp.le.refl _, hs, (by rw [show ((d.base : Int) + ((2 * c.win : Nat) : Int)) = ((d.base + 2 * c.win : Nat) : Int) by omega, u64_wrap (d.base + 2 * c.win) (by omega)]), rfl⟩
  intro H w hle2; (try replace hle := hle.trans hle2); (try replace hlb := hlb.trans hle2)
  refine forAllVals_eq rfl ?_
  refine forAllVals_eq rfl ?_
  refine forAllVals_eq rfl ?_
  refine forAllVals_eq rfl ?_
  refine forAllVals_eq rfl ?_
  refine forAllVals_eq rfl ?_
  refine forAllVals_eq rfl ?_
  refine forAllVals_eq rfl ?_
  refine forAllVals_eq rfl ?_
  refine forAllVals_eq rfl ?_
  refine forAllVals_eq rfl ?_
  refine forAllVals_eq rfl ?_
  refine forAllVals_eq rfl ?_
  refine forAllVals_eq rfl ?_
  refine forAllVals_nil ?_; (try clear hs); intro hs
  refine WO.step rfl (OR.callX (Mx := [(sb, o, true)]) (Mr := [(xb, fObj c d tb (ptr sb) vr vk, false), (gb, .cells #[.slice bb l.length cb] 43, false), (gx, .cells #[ptr xb] 82, false)]) hs body29 rfl rfl (submit_ok sb D o _ l (d.base + 2 * c.win) _ _ hs.toSub (hs.blk (i := 0) rfl) (hs.nh (i := 0) rfl) (hx.mono hle) hok (hl.mono hle) hll hcl) rfl rfl ?_)
  clear hs; rintro v H2 M w hs hle1 hnew ⟨rfl, o2, rfl, hx2⟩
  refine WO.step rfl (OR.assign rfl (WO.done (WX.seq (WC.ret ?_))))
  refine WX.ret1 rfl rfl ?_
  exact ⟨_, H2, [(sb, o2, true)], rfl, hs.sublist (List.sublist_append_left _ _), by simp, rfl, o2, rfl, hx2⟩
set_option maxRecDepth 20000 in
set_option maxHeartbeats 2000000 in
theorem fown_sub (c : CfgD) (d : FD) (xb tb sb gb gx : Nat) (vr vk bv : Value) (D : SrcD) (o : Obj) (l : List UInt8) (H0 : Hp) (w0 : World) (hs : HS [sb] H0 w0 H0 [(sb, o, true), (xb, fObj c d tb (ptr sb) vr vk, false), (gb, .cells #[bv] 43, false), (gx, .cells #[ptr xb] 82, false)] w0)
    (hx : SrcIn H0 D o) (hok : SrcOk D) (hl : Bytes H0 bv l) (hll : l.length ≤ 9223372036854775807) (hw : c.win ≤ 16) (hb : d.base ≤ 1099511627776) (hcl : D.cuts.length ≤ 1000000000) :
    Calls Tryz.prog 98 #[ptr xb, .func (.func 99) #[] #[ptr gb, ptr gx]] w0 (Ret [sb] H0 w0 fun v H' M' => v = .int .i64 (subE D l (d.base + 2 * c.win)) ∧ ∃ o', M' = [(sb, o', true)] ∧ SrcIn H' (subD D l (d.base + 2 * c.win)) o') := by
  have hle := Hp.le.refl H0
  refine Calls.enter (args := [ptr xb, .func (.func 99) #[] #[ptr gb, ptr gx]]) Tryz.func98 rfl Tryz.ntmps98 rfl ?_
  refine WC.seq (WC.region (WO.step rfl (OR.assign rfl (WO.done (WX.seq (WC.seq (WC.block ?_)))))))
  refine WC.seq (WC.region (WO.step rfl (OR.move rfl ?_)))
  refine WO.step rfl (OR.call hs body96 rfl rfl (fmade_ok c d xb tb _ _ _ _ _ hs.toSub (hs.blk (i := 1) rfl) (hs.nh (i := 1) rfl)) ?_)
  clear hs; rintro _ H w hs hle1 rfl; replace hle := hle.trans hle1; (try replace hlb := hlb.trans hle1)
  refine WO.step rfl (OR.not rfl (WO.step rfl (OR.assign rfl (WO.done (WX.seq ?_)))))
  refine WC.no rfl rfl ?_
  refine WC.seq (WC.region (WO.step rfl (OR.move rfl (WO.step rfl (OR.nilCheck rfl (WO.step rfl (OR.fieldAddr FA172_3 rfl ?_)))))))
  refine WO.step rfl (OR.load T66 rfl rfl (hs.cellM (i := 1) rfl rfl) (WO.step rfl (OR.eqlNilP T66.und rfl rfl (WO.step rfl (OR.assign rfl (WO.done (WX.seq ?_)))))))
  refine WC.no rfl rfl ?_
  refine WC.skip (WX.block (WX.seq (WC.seq (WC.region (WO.step rfl (OR.move rfl (WO.step rfl ?_)))))))
  refine OR.move rfl (WO.step rfl (OR.nilCheck rfl (WO.step rfl (OR.fieldAddr FA172_3 rfl (WO.step rfl (OR.load T66 rfl rfl (hs.cellM (i := 1) rfl rfl) ?_))))))
  refine WO.step rfl (OR.callX (Mx := [(sb, o, true)]) (Mr := [(xb, fObj c d tb (ptr sb) vr vk, false), (gb, .cells #[bv] 43, false), (gx, .cells #[ptr xb] 82, false)]) hs body99 rfl rfl (fsub1_ok c d xb tb sb gb gx vr vk bv D o l _ _ (hs.view [(sb, o, true), (xb, fObj c d tb (ptr sb) vr vk, false), (gb, .cells #[bv] 43, false), (gx, .cells #[ptr xb] 82, false)] (by simp) (List.Sublist.refl _)) (hx.mono hle) hok (hl.mono hle) hll hcl hw hb) rfl rfl ?_)
  clear hs; rintro v H2 M w hs hle1 hnew ⟨rfl, o2, rfl, hx2⟩
  refine WO.step rfl (OR.assign rfl (WO.done (WX.seq (WC.ret ?_))))
  refine WX.ret1 rfl rfl ?_
  exact ⟨_, H2, [(sb, o2, true)], rfl, hs.sublist (List.sublist_append_left _ _), by simp, rfl, o2, rfl, hx2⟩
set_option maxRecDepth 20000 in
set_option maxHeartbeats 2000000 in
theorem fown_flush (c : CfgD) (d : FD) (xb tb sb : Nat) (vr vk : Value) (D : SrcD) (o : Obj) (H0 : Hp) (w0 : World) (hs : HS [sb] H0 w0 H0 [(sb, o, true), (xb, fObj c d tb (ptr sb) vr vk, false)] w0)
    (hx : SrcIn H0 D o) (hok : SrcOk D) (hcl : D.cuts.length ≤ 1000000000) :
    Calls Tryz.prog 98 #[ptr xb, .func (.func 30) #[] #[]] w0 (Ret [sb] H0 w0 fun v H' M' => v = .int .i64 (if D.cl = true then 27 else 0) ∧ ∃ o', M' = [(sb, o', true)] ∧ SrcIn H' (flushD D) o') := by
  have hle := Hp.le.refl H0
  refine Calls.enter (args := [ptr xb, .func (.func 30) #[] #[]]) Tryz.func98 rfl Tryz.ntmps98 rfl ?_
  refine WC.seq (WC.region (WO.step rfl (OR.assign rfl (WO.done (WX.seq (WC.seq (WC.block ?_)))))))
  refine WC.seq (WC.region (WO.step rfl (OR.move rfl ?_)))
  refine WO.step rfl (OR.call hs body96 rfl rfl (fmade_ok c d xb tb _ _ _ _ _ hs.toSub (hs.blk (i := 1) rfl) (hs.nh (i := 1) rfl)) ?_)
  clear hs; rintro _ H w hs hle1 rfl; replace hle := hle.trans hle1; (try replace hlb := hlb.trans hle1)
  refine WO.step rfl (OR.not rfl (WO.step rfl (OR.assign rfl (WO.done (WX.seq ?_)))))
  refine WC.no rfl rfl ?_
  refine WC.seq (WC.region (WO.step rfl (OR.move rfl (WO.step rfl (OR.nilCheck rfl (WO.step rfl (OR.fieldAddr FA172_3 rfl ?_)))))))
  refine WO.step rfl (OR.load T66 rfl rfl (hs.cellM (i := 1) rfl rfl) (WO.step rfl (OR.eqlNilP T66.und rfl rfl (WO.step rfl (OR.assign rfl (WO.done (WX.seq ?_)))))))
  refine WC.no rfl rfl ?_
  refine WC.skip (WX.block (WX.seq (WC.seq (WC.region (WO.step rfl (OR.move rfl (WO.step rfl ?_)))))))
  refine OR.move rfl (WO.step rfl (OR.nilCheck rfl (WO.step rfl (OR.fieldAddr FA172_3 rfl (WO.step rfl (OR.load T66 rfl rfl (hs.cellM (i := 1) rfl rfl) ?_))))))
  refine WO.step rfl (OR.callX (Mx := [(sb, o, true)]) (Mr := [(xb, fObj c d tb (ptr sb) vr vk, false)]) hs body30 rfl rfl (flush_ok sb D o _ _ hs.toSub (hs.blk (i := 0) rfl) (hs.nh (i := 0) rfl) (hx.mono hle) hok hcl) rfl rfl ?_)
  clear hs; rintro v H2 M w hs hle1 hnew ⟨rfl, o2, rfl, hx2⟩
  refine WO.step rfl (OR.assign rfl (WO.done (WX.seq (WC.ret ?_))))
  refine WX.ret1 rfl rfl ?_
  exact ⟨_, H2, [(sb, o2, true)], rfl, hs.sublist (List.sublist_append_left _ _), by simp, rfl, o2, rfl, hx2⟩
set_option maxRecDepth 20000 in
set_option maxHeartbeats 2000000 in
theorem fsubmit_ok (c : CfgD) (d : FD) (xb tb sb : Nat) (vr vk bv : Value) (D : SrcD) (o : Obj) (l : List UInt8) (H0 : Hp) (w0 : World) (hs : HS [sb] H0 w0 H0 [(sb, o, true), (xb, fObj c d tb (ptr sb) vr vk, false)] w0)
    (hx : SrcIn H0 D o) (hok : SrcOk D) (hl : Bytes H0 bv l) (hll : l.length ≤ 9223372036854775807) (hcl : D.cuts.length ≤ 1000000000) (hw : c.win ≤ 16) (hb : d.base ≤ 1099511627776) :
    Calls Tryz.prog 41 #[ptr xb, bv] w0 (Ret [sb] H0 w0 fun v H' M' => v = .int .i64 (subE D l (d.base + 2 * c.win)) ∧ ∃ o', M' = [(sb, o', true)] ∧ SrcIn H' (subD D l (d.base + 2 * c.win)) o') := by
  have hle := Hp.le.refl H0
  obtain ⟨bb, cb, rfl⟩ := hl.form
  refine Calls.enter (args := [ptr xb, .slice bb l.length cb]) Tryz.func41 rfl Tryz.ntmps41 rfl ?_
  refine WC.seq (WC.region (WO.step rfl (OR.box hs rfl ?_)))
  clear hs; intro g1 w hg1 hs
  refine WO.step rfl (OR.box hs rfl ?_)
  clear hs; intro g2 w hg2 hs
  refine WO.step rfl (OR.assign rfl (WO.done (WX.seq (WC.seq (WC.region (WO.step rfl (OR.load T82 rfl rfl (hs.cellM (i := 1) rfl rfl) ?_)))))))
  refine WO.step rfl (OR.makeFunc rfl rfl ?_)
  have hsR : HS [sb] H0 w0 H0 ([(sb, o, true)] ++ [(g2, .cells #[.slice bb l.length cb] 43, true), (g1, .cells #[ptr xb] 82, true), (xb, fObj c d tb (ptr sb) vr vk, false)]) w := hs.front (i := 2) rfl
  clear hs
  refine WO.step rfl (OR.callX (Mx := [(sb, o, true)]) (Mr := [(g2, .cells #[.slice bb l.length cb] 43, true), (g1, .cells #[ptr xb] 82, true), (xb, fObj c d tb (ptr sb) vr vk, false)]) hsR body98 rfl rfl (fown_sub c d xb tb sb g2 g1 vr vk _ D o l _ _ ((hsR.perm (List.Perm.cons _ permOwn)).view [(sb, o, true), (xb, fObj c d tb (ptr sb) vr vk, false), (g2, .cells #[.slice bb l.length cb] 43, false), (g1, .cells #[ptr xb] 82, false)] (by simp) (List.Sublist.refl _)) hx hok hl hll hw hb hcl) rfl rfl ?_)
  clear hsR; rintro v H2 M w hs hle1 hnew ⟨rfl, o2, rfl, hx2⟩
  refine WO.step rfl (OR.assign rfl (WO.done (WX.seq (WC.ret ?_))))
  refine WX.ret1 rfl rfl ?_
  exact ⟨_, H2, [(sb, o2, true)], rfl, hs.sublist (List.sublist_append_left _ _), by simp, rfl, o2, rfl, hx2⟩
set_option maxRecDepth 20000 in
set_option maxHeartbeats 2000000 in
theorem fflush_ok (c : CfgD) (d : FD) (xb tb sb : Nat) (vr vk : Value) (D : SrcD) (o : Obj) (H0 : Hp) (w0 : World) (hs : HS [sb] H0 w0 H0 [(sb, o, true), (xb, fObj c d tb (ptr sb) vr vk, false)] w0)
    (hx : SrcIn H0 D o) (hok : SrcOk D) (hcl : D.cuts.length ≤ 1000000000) :
    Calls Tryz.prog 53 #[ptr xb] w0 (Ret [sb] H0 w0 fun v H' M' => v = .int .i64 (if D.cl = true then 27 else 0) ∧ ∃ o', M' = [(sb, o', true)] ∧ SrcIn H' (flushD D) o') := by
  have hle := Hp.le.refl H0
  refine Calls.enter (args := [ptr xb]) Tryz.func53 rfl Tryz.ntmps53 rfl ?_
  refine WC.seq (WC.region (WO.step rfl (OR.assign rfl (WO.done (WX.seq (WC.seq (WC.region ?_)))))))
  refine WO.step rfl (OR.move rfl ?_)
  refine WO.step rfl (OR.callX (Mx := [(sb, o, true)]) (Mr := [(xb, fObj c d tb (ptr sb) vr vk, false)]) hs body98 rfl rfl (fown_flush c d xb tb sb vr vk D o _ _ (hs.view [(sb, o, true), (xb, fObj c d tb (ptr sb) vr vk, false)] (by simp) (List.Sublist.refl _)) hx hok hcl) rfl rfl ?_)
  clear hs; rintro v H2 M w hs hle1 hnew ⟨rfl, o2, rfl, hx2⟩
  refine WO.step rfl (OR.assign rfl (WO.done (WX.seq (WC.ret ?_))))
  refine WX.ret1 rfl rfl ?_
  exact ⟨_, H2, [(sb, o2, true)], rfl, hs.sublist (List.sublist_append_left _ _), by simp, rfl, o2, rfl, hx2⟩
end Go.Bw
namespace Go.Bw
set_option linter.unusedVariables false
set_option linter.unusedSimpArgs false
open Go.Proofs
theorem meth_src (v : Option Addr) (w : World) : (method (Tryz.prog.types.size + Made.depth) 66 (.pointer v) "Send").run Tryz.prog w = .ok (212, .pointer v) w := by kernel_rfl
theorem meth_rel (v : Option Addr) (w : World) : (method (Tryz.prog.types.size + Made.depth) 34 (.pointer v) "Send").run Tryz.prog w = .ok (200, .pointer v) w := by kernel_rfl
set_option maxRecDepth 20000 in
set_option maxHeartbeats 2000000 in
theorem fsend_src (c : CfgD) (d : FD) (xb tb sb gen sent : Nat) (vr : Option Addr) (vk vd : Value) (D : SrcD) (o : Obj) (l : List UInt8) (H0 : Hp) (w0 : World) (hs : HS [] H0 w0 H0 [(sb, o, false), (xb, fObj c d tb (ptr sb) (.pointer vr) vk, false)] w0)
    (hx : SrcIn H0 D o) (hok : SrcOk D) (hl : Bytes H0 vd l) (hst : sent < 18446744073709551616) :
    Calls Tryz.prog 45 #[ptr xb, .int .u64 (gen : Int), .int .u64 (sent : Int), vd] w0 (Pure H0 w0 fun v H' => TupR H' v (rowF D gen (sendC D sent l)) (thereE D gen)) := by
  have hle := Hp.le.refl H0
  refine Calls.enter (args := [ptr xb, .int .u64 (gen : Int), .int .u64 (sent : Int), vd]) Tryz.func45 rfl Tryz.ntmps45 rfl ?_
  refine WC.seq (WC.region (WO.step rfl (OR.alloc hs T45 ?_)))
  clear hs; intro g1 w hg1 hs
  refine WO.step rfl (OR.assign rfl (WO.done (WX.seq (WC.seq (WC.seq (WC.region (WO.step rfl ?_)))))))
  refine OR.move rfl ?_
  refine WO.step rfl (OR.call hs body96 rfl rfl (fmade_ok c d xb tb _ _ _ _ _ hs.toSub (hs.blk (i := 2) rfl) (hs.nh (i := 2) rfl)) ?_)
  clear hs; rintro _ H w hs hle1 rfl; replace hle := hle.trans hle1; (try replace hlb := hlb.trans hle1)
  refine WO.step rfl (OR.not rfl (WO.done (WX.seq ?_)))
  refine WC.no rfl rfl ?_
  refine WC.skip (WX.seq (WC.seq (WC.region (WO.step rfl (OR.move rfl (WO.step rfl (OR.nilCheck rfl ?_)))))))
  refine WO.step rfl (OR.fieldAddr FA172_4 rfl (WO.step rfl (OR.load T34 rfl rfl (hs.cellM (i := 2) rfl rfl) ?_)))
  refine WO.step rfl (OR.makeIface T34.und rfl rfl ?_)
  refine WO.step rfl (OR.assign rfl (WO.done (WX.seq (WC.seq (WC.seq (WC.region (WO.step rfl ?_)))))))
  refine OR.move rfl (WO.step rfl (OR.nilCheck rfl (WO.step rfl (OR.fieldAddr FA172_3 rfl (WO.step rfl (OR.load T66 rfl rfl (hs.cellM (i := 2) rfl rfl) (WO.step rfl ?_)))))))
  refine OR.neqNilP T66.und rfl rfl (WO.done (WX.seq ?_))
  refine WC.yes rfl rfl ?_
  refine WC.region (WO.step rfl (OR.move rfl (WO.step rfl (OR.nilCheck rfl (WO.step rfl (OR.fieldAddr FA172_3 rfl (WO.step rfl ?_)))))))
  refine OR.load T66 rfl rfl (hs.cellM (i := 2) rfl rfl) ?_
  refine WO.step rfl (OR.makeIface T66.und rfl rfl ?_)
  refine WO.step rfl (OR.assign rfl (WO.done (WX.seq (WC.seq (WC.region (WO.step rfl (OR.move rfl ?_)))))))
  refine WO.step rfl (OR.move rfl (WO.step rfl (OR.move rfl (WO.step rfl (OR.move rfl ?_)))))
  refine WO.step rfl (OR.invoke hs body212 (meth_src _ _) rfl rfl (ssend_ok sb gen sent vd l D o _ _ hs.toSub (hs.blk (i := 1) rfl) (hs.nh (i := 1) rfl) (hx.mono hle) hok (hl.mono hle) hst) ?_)
  clear hs; rintro v H2 w hs hle1 ⟨r, rfl, r1, r2, rfl, hr1, hr2⟩
  obtain ⟨b1, c1, rfl⟩ := hr1.form
  obtain ⟨b2, c2, rfl⟩ := hr2.form
  refine WO.step rfl (OR.extract rfl rfl (WO.step rfl (OR.extract rfl rfl (WO.stepN (OR.storeAll hs T45 rfl rfl rfl rfl rfl ?_)))))
  clear hs; intro w hs
  refine WO.step rfl (OR.assign rfl (WO.done (WX.seq (WC.ret ?_))))
  refine WX.retCT T45 rfl rfl rfl rfl rfl (hs.blk (i := 0) rfl) ?_
  exact .mk (((hs.drop 0).drop 0).drop 0) ⟨_, rfl, _, _, rfl, hr1, hr2⟩
theorem HS.relRO4 {xs : List Nat} {H0 H : Hp} {w0 w : World} {x : RelD} {rb wb : Nat} {l : Slots} {A : Mem} (hs : HS xs H0 w0 H (A ++ relMem false x rb wb l) w) : HS [] H w H (relMem false x rb wb l) w :=
  HS.relRO3 (Mr := []) (by rw [List.append_nil]; exact hs.right)
set_option maxRecDepth 20000 in
set_option maxHeartbeats 2000000 in
theorem fsend_rel (c : CfgD) (d : FD) (xb tb rb wb gen sent : Nat) (vk vd : Value) (x : RelD) (sl : Slots) (l : List UInt8) (H0 : Hp) (w0 : World) (hs : HS [] H0 w0 H0 ((xb, fObj c d tb (.pointer none) (ptr rb) vk, false) :: relMem false x rb wb sl) w0)
    (hx : SlotsOk H0 x sl) (hok : RelOk x) (hl : Bytes H0 vd l) (hg : gen < 18446744073709551616) (hst : sent < 18446744073709551616) :
    Calls Tryz.prog 45 #[ptr xb, .int .u64 (gen : Int), .int .u64 (sent : Int), vd] w0 (Pure H0 w0 fun v H' => TupR H' v (x.sndF gen sent l) (x.sndE gen)) := by
  have hle := Hp.le.refl H0
  refine Calls.enter (args := [ptr xb, .int .u64 (gen : Int), .int .u64 (sent : Int), vd]) Tryz.func45 rfl Tryz.ntmps45 rfl ?_
  refine WC.seq (WC.region (WO.step rfl (OR.alloc hs T45 ?_)))
  clear hs; intro g1 w hg1 hs
  refine WO.step rfl (OR.assign rfl (WO.done (WX.seq (WC.seq (WC.seq (WC.region (WO.step rfl ?_)))))))
  refine OR.move rfl ?_
  refine WO.step rfl (OR.call hs body96 rfl rfl (fmade_ok c d xb tb _ _ _ _ _ hs.toSub (hs.blk (i := 1) rfl) (hs.nh (i := 1) rfl)) ?_)
  clear hs; rintro _ H w hs hle1 rfl; replace hle := hle.trans hle1; (try replace hlb := hlb.trans hle1)
  refine WO.step rfl (OR.not rfl (WO.done (WX.seq ?_)))
  refine WC.no rfl rfl ?_
  refine WC.skip (WX.seq (WC.seq (WC.region (WO.step rfl (OR.move rfl (WO.step rfl (OR.nilCheck rfl ?_)))))))
  refine WO.step rfl (OR.fieldAddr FA172_4 rfl (WO.step rfl (OR.load T34 rfl rfl (hs.cellM (i := 1) rfl rfl) ?_)))
  refine WO.step rfl (OR.makeIface T34.und rfl rfl ?_)
  refine WO.step rfl (OR.assign rfl (WO.done (WX.seq (WC.seq (WC.seq (WC.region (WO.step rfl ?_)))))))
  refine OR.move rfl (WO.step rfl (OR.nilCheck rfl (WO.step rfl (OR.fieldAddr FA172_3 rfl (WO.step rfl (OR.load T66 rfl rfl (hs.cellM (i := 1) rfl rfl) (WO.step rfl ?_)))))))
  refine OR.neqNilP T66.und rfl rfl (WO.done (WX.seq ?_))
  refine WC.no rfl rfl ?_
  refine WC.skip (WX.seq (WC.seq (WC.region (WO.step rfl (OR.move rfl (WO.step rfl (OR.move rfl ?_)))))))
  refine WO.step rfl (OR.move rfl (WO.step rfl (OR.move rfl ?_)))
  refine WO.step rfl (OR.invoke hs body200 (meth_rel _ _) rfl rfl (rsend_ok rb wb gen sent vd l x sl _ _ (HS.relRO4 (A := [_, _]) hs) (hx.mono hle) hok hg (hl.mono hle) hst) ?_)
  clear hs; rintro v H2 w hs hle1 ⟨r1, r2, rfl, hr1, hr2⟩
  obtain ⟨b1, c1, rfl⟩ := hr1.form
  obtain ⟨b2, c2, rfl⟩ := hr2.form
  refine WO.step rfl (OR.extract rfl rfl (WO.step rfl (OR.extract rfl rfl (WO.stepN (OR.storeAll hs T45 rfl rfl rfl rfl rfl ?_)))))
  clear hs; intro w hs
  refine WO.step rfl (OR.assign rfl (WO.done (WX.seq (WC.ret ?_))))
  refine WX.retCT T45 rfl rfl rfl rfl rfl (hs.blk (i := 0) rfl) ?_
  exact .mk (hs.sublist (List.nil_sublist _)) ⟨_, rfl, _, _, rfl, hr1, hr2⟩
set_option maxRecDepth 20000 in
set_option maxHeartbeats 2000000 in
/-- A row that comes. -/
theorem ftake_ok (c : CfgD) (d : FD) (xb tb rb wb gen : Nat) (vs vk vr : Value) (x : RelD) (sl : Slots) (r : RowD) (H0 : Hp) (w0 : World) (hs : HS (Mem.keys (relMem true x rb wb sl)) H0 w0 H0 ((xb, fObj c d tb vs (ptr rb) vk, false) :: relMem true x rb wb sl) w0)
    (hx : SlotsOk H0 x sl) (hok : RelOk x) (hg : gen < 18446744073709551616) (hr : RowV H0 vr r) :
    Calls Tryz.prog 43 #[ptr xb, .int .u64 (gen : Int), vr] w0 (Ret (Mem.keys (relMem true x rb wb sl)) H0 w0 fun v H' M' => v = .tuple #[.bool (x.takeI gen r), .int .i64 (x.takeE gen r)] ∧ ∃ l', M' = relMem true (x.take gen r) rb wb l' ∧ SlotsOk H' (x.take gen r) l') := by
  have hle := Hp.le.refl H0
  obtain ⟨xs, hxs⟩ : ∃ xs, xs = Mem.keys (relMem true x rb wb sl) := ⟨_, rfl⟩
  rw [← hxs] at hs ⊢
  clear hxs
  obtain ⟨rc, rp, rfl, hrc, hrp⟩ := hr
  obtain ⟨b1, c1, rfl⟩ := hrc.form
  obtain ⟨b2, c2, rfl⟩ := hrp.form
  refine Calls.enter (args := [ptr xb, .int .u64 (gen : Int), .agg #[.slice b1 r.1.length c1, .slice b2 r.2.length c2]]) Tryz.func43 rfl Tryz.ntmps43 rfl ?_
  refine WC.seq (WC.region (WO.step rfl (OR.box hs rfl ?_)))
  clear hs; intro g1 w hg1 hs
  refine WO.step rfl (OR.assign rfl (WO.step rfl (OR.assign rfl (WO.done (WX.seq (WC.seq (WC.block ?_)))))))
  refine WC.seq (WC.region (WO.step rfl (OR.move rfl ?_)))
  refine WO.step rfl (OR.call hs body96 rfl rfl (fmade_ok c d xb tb _ _ _ _ _ hs.toSub (hs.blk (i := 1) rfl) (hs.nh (i := 1) rfl)) ?_)
  clear hs; rintro _ H w hs hle1 rfl; replace hle := hle.trans hle1; (try replace hlb := hlb.trans hle1)
  refine WO.step rfl (OR.not rfl (WO.step rfl (OR.assign rfl (WO.done (WX.seq ?_)))))
  refine WC.no rfl rfl ?_
  refine WC.seq (WC.region (WO.step rfl (OR.move rfl (WO.step rfl (OR.nilCheck rfl (WO.step rfl (OR.fieldAddr FA172_4 rfl ?_)))))))
  refine WO.step rfl (OR.load T34 rfl rfl (hs.cellM (i := 1) rfl rfl) (WO.step rfl (OR.eqlNilP T34.und rfl rfl (WO.step rfl (OR.assign rfl (WO.done (WX.seq ?_)))))))
  refine WC.no rfl rfl ?_
  refine WC.skip (WX.block (WX.seq (WC.seq ?_)))
  refine WC.sub [(0, ptr xb), (1, .int .u64 (gen : Int)), (5, ptr g1)] ⟨rfl, rfl, rfl,  trivial⟩ ?_
  refine WA.enter mixed ?_
  replace hs := hs.drew
  refine WA.draw 6 hs (by kernel_rfl) ?_
  refine ⟨MF.eq _, by intro Mx H w hle hs; refine forVals_nil (ORg.plain (OR.move rfl ?_)); exact ⟨_, [], Hp.le.refl _, hs, rfl, rfl⟩, ?_⟩
  refine ⟨MF.eq _, by intro Mx H w hle hs; refine forVals_eq rfl rfl rfl ?_; refine forVals_nil (ORg.plain (OR.nilCheck rfl ?_)); exact ⟨_, [], Hp.le.refl _, hs, rfl, rfl⟩, ?_⟩
  refine ⟨MF.eq _, by intro Mx H w hle hs; refine forVals_eq rfl rfl rfl ?_; refine forVals_nil (ORg.plain (OR.fieldAddr FA172_4 rfl ?_)); exact ⟨_, [], Hp.le.refl _, hs, rfl, rfl⟩, ?_⟩
  refine ⟨MF.eq _, by intro Mx H w hle hs; refine forVals_eq rfl rfl rfl ?_; refine forVals_nil (ORg.plain (OR.load T34 rfl rfl (hs.right.cellM (i := 1) rfl rfl) ?_)); exact ⟨_, [], Hp.le.refl _, hs, rfl, rfl⟩, ?_⟩
  refine ⟨MF.eq _, by intro Mx H w hle hs; refine forVals_nil (ORg.plain (OR.move rfl ?_)); exact ⟨_, [], Hp.le.refl _, hs, rfl, rfl⟩, ?_⟩
  refine ⟨MF.eq _, by intro Mx H w hle hs; refine forVals_nil (ORg.plain (OR.loadAll T45 rfl rfl (hs.right.blk (i := 0) rfl) rfl ?_)); exact ⟨_, [], Hp.le.refl _, hs, rfl, rfl⟩, ?_⟩
  intro H w hle2; (try replace hle := hle.trans hle2); (try replace hlb := hlb.trans hle2)
  refine forAllVals_eq rfl ?_
  refine forAllVals_eq rfl ?_
  refine forAllVals_eq rfl ?_
  refine forAllVals_eq rfl ?_
  refine forAllVals_eq rfl ?_
  refine forAllVals_eq rfl ?_
  refine forAllVals_nil ?_; (try clear hs); intro hs
  replace hs := HS.mtail (A := [_, _]) hs
  refine WA.step (by kernel_rfl) rfl rfl rfl (ORg.plain (OR.callX (Mx := relMem true x rb wb sl) (Mr := [_, _]) hs body15 rfl rfl (rtake_ok' rb wb gen _ _ x sl r _ _ (HS.relRW hs) (hx.mono hle) hok hg (hrc.mono hle) (hrp.mono hle)) rfl (relMem_flags _ _ _ _) ?_))
  clear hs; rintro v H2 M w hs hle1 hnew ⟨rfl, l', rfl, hso⟩
  refine WA.sub [(24, .tuple #[.bool (x.takeI gen r), .int .i64 (x.takeE gen r)])] ⟨rfl,  trivial⟩ ?_
  refine WA.draw 9 hs (by kernel_rfl) ?_
  refine ⟨MF.eq _, by intro Mx H w hle hs; refine forVals_nil (ORg.plain (OR.extract rfl rfl ?_)); exact ⟨_, [], Hp.le.refl _, hs, rfl, rfl⟩, ?_⟩
  refine ⟨MF.eq _, by intro Mx H w hle hs; refine forVals_nil (ORg.plain (OR.extract rfl rfl ?_)); exact ⟨_, [], Hp.le.refl _, hs, rfl, rfl⟩, ?_⟩
  intro H w hle2; (try replace hle := hle.trans hle2); (try replace hlb := hlb.trans hle2)
  refine forAllVals_eq rfl ?_
  refine forAllVals_eq rfl ?_
  refine forAllVals_nil ?_; (try clear hs); intro hs
  replace hso := hso.mono hle2
  refine WA.rest (by kernel_rfl) ?_
  refine WO.step rfl (OR.assign rfl (WO.step rfl (OR.assign rfl (WO.done (WX.seq (WC.ret ?_))))))
  refine WX.ret2 rfl rfl rfl ?_
  exact ⟨_, H, relMem true (x.take gen r) rb wb l', rfl, hs.sublist (List.sublist_append_left _ _), List.all_eq_true.1 (relMem_flags _ _ _ _), rfl, l', rfl, hso⟩
theorem permK3 {k a b : Nat × Obj × Bool} {R : Mem} : List.Perm (a :: b :: k :: R) (k :: a :: b :: R) :=
  ((List.Perm.swap k b R).cons a).trans (List.Perm.swap k a _)
set_option maxRecDepth 20000 in
set_option maxHeartbeats 2000000 in
/-- What is ready is released. -/
theorem frel_ok (c : CfgD) (d : FD) (xb tb kb d0 tot : Nat) (kn : Bool) (vs : Value) (R : RelS) (H0 : Hp) (w0 : World)
    (hs : HS (Mem.keys (fMem c d xb tb vs (some R) (some (kb, skD R.y tot kn false d0)))) H0 w0 H0 (fMem c d xb tb vs (some R) (some (kb, skD R.y tot kn false d0))) w0) (hok : RlOk H0 (some R)) (hgs4 : 4 < R.y.g * R.y.s) (hd0 : d0 ≤ 1099511627776)
    (hnx : Ints H0 d.nv d.next) (hd : d.told.length ≤ 1000) (ht : ∀ p ∈ d.told, p.2 ≤ 1099511627776) :
    Calls Tryz.prog 54 #[ptr xb] w0 (Ret (Mem.keys (fMem c d xb tb vs (some R) (some (kb, skD R.y tot kn false d0)))) H0 w0 fun v H' M' => ∃ n r e br l', v = .tuple #[r, .int .i64 e] ∧ BytesL H' r (rdyL R.y d0 n) ∧ goodTo R.y d0 n ∧ d0 + n ≤ 1099511627776 ∧ relEnd R.y d0 n e br ∧
      M' = fMem c (d.work (d0 + n)) xb tb vs (workR d (d0 + n) l' (some R)) (some (kb, skD R.y tot kn br (d0 + n))) ∧ RlOk H' (workR d (d0 + n) l' (some R))) := by
  have hle := Hp.le.refl H0
  obtain ⟨xs, hxs⟩ : ∃ xs, xs = Mem.keys (fMem c d xb tb vs (some R) (some (kb, skD R.y tot kn false d0))) := ⟨_, rfl⟩
  rw [← hxs] at hs ⊢
  clear hxs
  replace hs : HS xs H0 w0 H0 ((xb, fObj c d tb vs (ptr R.rb) (ptr kb), true) :: (tb, toldObj d.told, true) :: (kb, sinkObj (skD R.y tot kn false d0), true) :: relMem true R.y R.rb R.wb R.l) w0 := hs
  refine Calls.enter (args := [ptr xb]) Tryz.func54 rfl Tryz.ntmps54 rfl ?_
  refine WC.seq (WC.region (WO.step rfl (OR.assign rfl (WO.step rfl (OR.assign rfl (WO.done (WX.seq ?_)))))))
  refine WC.seq (WC.block (WC.seq (WC.region (WO.step rfl (OR.move rfl ?_)))))
  refine WO.step rfl (OR.call hs body96 rfl rfl (fmade_ok c d xb tb vs _ _ _ _ hs.toSub (hs.blk (i := 0) rfl) (hs.nh (i := 0) rfl)) ?_)
  clear hs; rintro _ H w hs hle1 rfl; replace hle := hle.trans hle1; (try replace hlb := hlb.trans hle1)
  refine WO.step rfl (OR.not rfl (WO.step rfl (OR.assign rfl (WO.done (WX.seq ?_)))))
  refine WC.no rfl rfl ?_
  refine WC.seq (WC.region (WO.step rfl (OR.move rfl (WO.step rfl (OR.nilCheck rfl (WO.step rfl (OR.fieldAddr FA172_5 rfl ?_)))))))
  refine WO.step rfl (OR.load T27 rfl rfl (hs.cellM (i := 0) rfl rfl) (WO.step rfl (OR.eqlNilP T27.und rfl rfl (WO.step rfl (OR.assign rfl (WO.done (WX.seq ?_)))))))
  refine WC.no rfl rfl ?_
  refine WC.skip (WX.block (WX.seq (WC.seq ?_)))
  refine WC.sub [(0, ptr xb)] ⟨rfl,  trivial⟩ ?_
  refine WA.enter mixed ?_
  replace hs := hs.drew
  refine WA.draw 8 hs (by kernel_rfl) ?_
  refine ⟨MF.eq _, by intro Mx H w hle hs; refine forVals_nil (ORg.plain (OR.move rfl ?_)); exact ⟨_, [], Hp.le.refl _, hs, rfl, rfl⟩, ?_⟩
  refine ⟨MF.eq _, by intro Mx H w hle hs; refine forVals_eq rfl rfl rfl ?_; refine forVals_nil (ORg.plain (OR.nilCheck rfl ?_)); exact ⟨_, [], Hp.le.refl _, hs, rfl, rfl⟩, ?_⟩
  refine ⟨MF.eq _, by intro Mx H w hle hs; refine forVals_eq rfl rfl rfl ?_; refine forVals_nil (ORg.plain (OR.fieldAddr FA172_5 rfl ?_)); exact ⟨_, [], Hp.le.refl _, hs, rfl, rfl⟩, ?_⟩
  refine ⟨MF.eq _, by intro Mx H w hle hs; refine forVals_eq rfl rfl rfl ?_; refine forVals_nil (ORg.plain (OR.load T27 rfl rfl (hs.right.cellM (i := 0) rfl rfl) ?_)); exact ⟨_, [], Hp.le.refl _, hs, rfl, rfl⟩, ?_⟩
  refine ⟨MF.eq _, by intro Mx H w hle hs; refine forVals_nil (ORg.plain (OR.move rfl ?_)); exact ⟨_, [], Hp.le.refl _, hs, rfl, rfl⟩, ?_⟩
  refine ⟨MF.eq _, by intro Mx H w hle hs; refine forVals_eq rfl rfl rfl ?_; refine forVals_nil (ORg.plain (OR.nilCheck rfl ?_)); exact ⟨_, [], Hp.le.refl _, hs, rfl, rfl⟩, ?_⟩
  refine ⟨MF.eq _, by intro Mx H w hle hs; refine forVals_eq rfl rfl rfl ?_; refine forVals_nil (ORg.plain (OR.fieldAddr FA172_4 rfl ?_)); exact ⟨_, [], Hp.le.refl _, hs, rfl, rfl⟩, ?_⟩
  refine ⟨MF.eq _, by intro Mx H w hle hs; refine forVals_eq rfl rfl rfl ?_; refine forVals_nil (ORg.plain (OR.load T34 rfl rfl (hs.right.cellM (i := 0) rfl rfl) ?_)); exact ⟨_, [], Hp.le.refl _, hs, rfl, rfl⟩, ?_⟩
  intro H w hle2; (try replace hle := hle.trans hle2); (try replace hlb := hlb.trans hle2)
  refine forAllVals_eq rfl ?_
  refine forAllVals_eq rfl ?_
  refine forAllVals_eq rfl ?_
  refine forAllVals_eq rfl ?_
  refine forAllVals_eq rfl ?_
  refine forAllVals_eq rfl ?_
  refine forAllVals_eq rfl ?_
  refine forAllVals_eq rfl ?_
  refine forAllVals_nil ?_; (try clear hs); intro hs
  replace hs := hs.perm permK3.symm
  refine WA.step (by kernel_rfl) rfl rfl rfl (ORg.plain (OR.callX (Mx := [(kb, sinkObj (skD R.y tot kn false d0), true)]) (Mr := (xb, fObj c d tb vs (ptr R.rb) (ptr kb), true) :: (tb, toldObj d.told, true) :: relMem true R.y R.rb R.wb R.l) hs body14 rfl rfl (krel_ok kb R.rb R.wb d0 tot kn R.y R.l _ _ (HS.relKB (A := [_, _]) hs) (hok.1.mono hle) hok.2 hgs4 hd0) rfl rfl ?_))
  clear hs; rintro v H2 M w hs hle1 hnew ⟨n, r, e, br, rfl, hbl, hgood, hdn, rfl, hend⟩
  replace hle := hle.trans hle1
  replace hs : HS xs H0 w0 H2 (fMem c d xb tb vs (some R) (some (kb, skD R.y tot kn br (d0 + n))) ++ []) w := by
    rw [List.append_nil]
    exact hs.perm permK3
  obtain ⟨b1, c1, rfl⟩ := hbl.form
  refine WA.step (by kernel_rfl) rfl rfl rfl (ORg.plain (OR.move rfl ?_))
  refine WA.draw 13 hs (by kernel_rfl) ?_
  refine ⟨MF.eq _, by intro Mx H w hle hs; refine forVals_nil (ORg.plain (OR.extract rfl rfl ?_)); exact ⟨_, [], Hp.le.refl _, hs, rfl, rfl⟩, ?_⟩
  refine ⟨MF.eq _, by intro Mx H w hle hs; refine forVals_nil (ORg.plain (OR.extract rfl rfl ?_)); exact ⟨_, [], Hp.le.refl _, hs, rfl, rfl⟩, ?_⟩
  refine ⟨MF.eq _, by intro Mx H w hle hs; refine forVals_eq rfl rfl rfl ?_; refine forVals_nil (ORg.plain (OR.assign rfl ?_)); exact ⟨_, [], Hp.le.refl _, hs, rfl, rfl⟩, ?_⟩
  intro H w hle2; (try replace hle := hle.trans hle2); (try replace hlb := hlb.trans hle2)
  refine forAllVals_eq rfl ?_
  refine forAllVals_eq rfl ?_
  refine forAllVals_eq rfl ?_
  refine forAllVals_nil ?_; (try clear hs); intro hs
  replace hbl := hbl.mono hle2
  refine WA.step (by kernel_rfl) rfl rfl rfl (ORg.plain (OR.assign rfl ?_))
  refine WA.rest (by kernel_rfl) ?_
  refine WO.done (WX.seq (WC.seq (WC.region (WO.step rfl (OR.move rfl ?_)))))
  refine WO.step rfl (OR.callX (Mx := fMem c d xb tb vs (some R) (some (kb, skD R.y tot kn br (d0 + n)))) (Mr := []) hs body95 rfl rfl (fwork_ok c d xb tb vs (some R) (some (kb, skD R.y tot kn br (d0 + n))) _ _ (HS.part hs) (hok.mono hle) (hnx.mono hle) hd hdn ht) rfl (fMem_flags _ _ _ _ _ _ _) ?_)
  clear hs; rintro v H3 M w hs hle2 hnew2 ⟨l', rfl, hro⟩
  rw [List.append_nil] at hs
  refine WO.done (WX.seq (WC.seq (WC.region (WO.step rfl (OR.move rfl (WO.step rfl (OR.move rfl ?_)))))))
  refine WO.step rfl (OR.assign rfl (WO.step rfl (OR.assign rfl (WO.done (WX.seq (WC.ret ?_))))))
  refine WX.ret2 rfl rfl rfl ?_
  exact ⟨_, H3, _, rfl, hs, fun p hp => List.all_eq_true.1 (fMem_flags _ _ _ _ _ _ _) p hp, n, _, e, br, l', rfl, hbl.mono hle2, hgood, hdn, hend, rfl, hro⟩
set_option maxRecDepth 20000 in
set_option maxHeartbeats 2000000 in
theorem rin_ok (rb wb gen : Nat) (x : RelD) (sl : Slots) (H0 : Hp) (w0 : World) (hs : HS [] H0 w0 H0 (relMem false x rb wb sl) w0) (hok : RelOk x) :
    Calls Tryz.prog 112 #[ptr rb, .int .u64 (gen : Int)] w0 (Pure H0 w0 fun v _ => v = .bool (decide (inWin x.base x.width gen))) := by
  have hle := Hp.le.refl H0
  have hw := hok.w2
  have hbb := hok.b
  refine Calls.enter (args := [ptr rb, .int .u64 (gen : Int)]) Tryz.func112 rfl Tryz.ntmps112 rfl ?_
  refine WC.seq (WC.region (WO.step rfl (OR.assign rfl (WO.done (WX.seq (WC.seq (WC.region ?_)))))))
  refine WO.step rfl (OR.move rfl ?_)
  refine WO.step rfl (OR.call hs body77 rfl rfl (rnone_ok rb x.g x.s wb sl _ _ hs.toSub (hs.blk (i := 0) rfl) (hs.nh (i := 0) rfl)) ?_)
  clear hs; rintro _ H w hs hle1 rfl; replace hle := hle.trans hle1; (try replace hlb := hlb.trans hle1)
  refine WO.step rfl (OR.not rfl (WO.step rfl (OR.move rfl ?_)))
  refine WO.guardYes rfl rfl rfl rfl (OR.move rfl (WO.guardYes rfl rfl rfl rfl (OR.nilCheck rfl (WO.guardYes rfl rfl rfl rfl (OR.fieldAddr FA131_2 rfl (WO.guardYes rfl rfl rfl rfl (OR.load T123 rfl rfl (hs.cellM (i := 0) rfl rfl) ?_)))))))
  refine WO.guardYes rfl rfl rfl rfl (OR.move rfl ?_)
  refine WO.guardYes rfl rfl rfl rfl (OR.call hs body135 rfl rfl (win_ok wb x.base x.width _ _ gen hs.toSub (hs.blk (i := 1) rfl) (hs.nh (i := 1) rfl) hbb hw) ?_)
  clear hs; rintro _ H w hs hle1 rfl; replace hle := hle.trans hle1; (try replace hlb := hlb.trans hle1)
  refine WO.step rfl (OR.pickT rfl rfl rfl (WO.step rfl (OR.assign rfl (WO.done (WX.seq (WC.ret ?_))))))
  refine WX.ret1 rfl rfl ?_
  exact .mk (hs.sublist (List.nil_sublist _)) rfl
set_option maxRecDepth 20000 in
set_option maxHeartbeats 2000000 in
theorem fin_ok (c : CfgD) (d : FD) (xb tb rb wb gen : Nat) (vs vk : Value) (x : RelD) (sl : Slots) (H0 : Hp) (w0 : World) (hs : HS [] H0 w0 H0 ((xb, fObj c d tb vs (ptr rb) vk, false) :: relMem false x rb wb sl) w0) (hok : RelOk x) :
    Calls Tryz.prog 55 #[ptr xb, .int .u64 (gen : Int)] w0 (Pure H0 w0 fun v _ => v = .bool (decide (inWin x.base x.width gen))) := by
  have hle := Hp.le.refl H0
  refine Calls.enter (args := [ptr xb, .int .u64 (gen : Int)]) Tryz.func55 rfl Tryz.ntmps55 rfl ?_
  refine WC.seq (WC.region (WO.step rfl (OR.assign rfl (WO.done (WX.seq (WC.seq (WC.region ?_)))))))
  refine WO.step rfl (OR.move rfl ?_)
  refine WO.step rfl (OR.call hs body96 rfl rfl (fmade_ok c d xb tb _ _ _ _ _ hs.toSub (hs.blk (i := 0) rfl) (hs.nh (i := 0) rfl)) ?_)
  clear hs; rintro _ H w hs hle1 rfl; replace hle := hle.trans hle1; (try replace hlb := hlb.trans hle1)
  refine WO.step rfl (OR.move rfl ?_)
  refine WO.guardYes rfl rfl rfl rfl (OR.move rfl (WO.guardYes rfl rfl rfl rfl (OR.nilCheck rfl (WO.guardYes rfl rfl rfl rfl (OR.fieldAddr FA172_4 rfl (WO.guardYes rfl rfl rfl rfl (OR.load T34 rfl rfl (hs.cellM (i := 0) rfl rfl) ?_)))))))
  refine WO.guardYes rfl rfl rfl rfl (OR.neqNilP T34.und rfl rfl (WO.step rfl (OR.pickT rfl rfl rfl (WO.step rfl (OR.move rfl ?_)))))
  refine WO.guardYes rfl rfl rfl rfl (OR.move rfl (WO.guardYes rfl rfl rfl rfl (OR.nilCheck rfl (WO.guardYes rfl rfl rfl rfl (OR.fieldAddr FA172_4 rfl (WO.guardYes rfl rfl rfl rfl (OR.load T34 rfl rfl (hs.cellM (i := 0) rfl rfl) ?_)))))))
  refine WO.guardYes rfl rfl rfl rfl (OR.move rfl ?_)
  refine WO.guardYes rfl rfl rfl rfl (OR.call hs body112 rfl rfl (rin_ok rb wb gen x sl _ _ (HS.relRO4 (A := [_]) hs) hok) ?_)
  clear hs; rintro _ H w hs hle1 rfl; replace hle := hle.trans hle1; (try replace hlb := hlb.trans hle1)
  refine WO.step rfl (OR.pickT rfl rfl rfl (WO.step rfl (OR.assign rfl (WO.done (WX.seq (WC.ret ?_))))))
  refine WX.ret1 rfl rfl ?_
  exact .mk (hs.sublist (List.nil_sublist _)) rfl
end Go.Bw
namespace Go.Bw
set_option linter.unusedVariables false
set_option linter.unusedSimpArgs false
open Go.Proofs
def srcRks (base n g : Nat) : List (Nat × Nat) := (List.range n).map fun i => (base + i, g)
theorem srcRks_succ (base n g : Nat) : srcRks base (n + 1) g = srcRks base n g ++ [(base + n, g)] := by
  simp [srcRks, List.range_succ]
theorem srcRks_len (base n g : Nat) : (srcRks base n g).length = n := by simp [srcRks]
set_option maxRecDepth 20000 in
set_option maxHeartbeats 2000000 in
theorem franks_src (c : CfgD) (d : FD) (xb tb sb : Nat) (vr vk : Value) (D : SrcD) (o : Obj) (H0 : Hp) (w0 : World) (hs : HS [] H0 w0 H0 [(xb, fObj c d tb (ptr sb) vr vk, false), (sb, o, false)] w0)
    (hx : SrcIn H0 D o) (hl : D.chunks.length ≤ 1000000000) (hw : c.win ≤ 16) (hb : d.base ≤ 1099511627776) :
    Calls Tryz.prog 61 #[ptr xb] w0 (Pure H0 w0 fun v H' => RkL H' v (srcRks d.base (min c.win (D.chunks.length - d.base)) c.g)) := by
  have hle := Hp.le.refl H0
  refine Calls.enter (args := [ptr xb]) Tryz.func61 rfl Tryz.ntmps61 rfl ?_
  refine WC.seq (WC.region (WO.step rfl (OR.assign rfl (WO.done (WX.seq (WC.seq (WC.region ?_)))))))
  refine WO.step rfl (OR.assign rfl (WO.done (WX.seq (WC.seq (WC.block (WC.seq (WC.region ?_)))))))
  refine WO.step rfl (OR.move rfl ?_)
  refine WO.step rfl (OR.call hs body96 rfl rfl (fmade_ok c d xb tb _ _ _ _ _ hs.toSub (hs.blk (i := 0) rfl) (hs.nh (i := 0) rfl)) ?_)
  clear hs; rintro _ H w hs hle1 rfl; replace hle := hle.trans hle1; (try replace hlb := hlb.trans hle1)
  refine WO.step rfl (OR.not rfl (WO.step rfl (OR.assign rfl (WO.done (WX.seq ?_)))))
  refine WC.no rfl rfl ?_
  refine WC.seq (WC.region (WO.step rfl (OR.move rfl (WO.step rfl (OR.nilCheck rfl (WO.step rfl (OR.fieldAddr FA172_3 rfl ?_)))))))
  refine WO.step rfl (OR.load T66 rfl rfl (hs.cellM (i := 0) rfl rfl) (WO.step rfl (OR.eqlNilP T66.und rfl rfl (WO.step rfl (OR.assign rfl (WO.done (WX.seq ?_)))))))
  refine WC.no rfl rfl (WC.seq (WC.region (WO.step rfl (OR.move rfl (WO.step rfl (OR.nilCheck rfl (WO.step rfl ?_)))))))
  refine OR.fieldAddr FA172_8 rfl (WO.step rfl (OR.load T22 rfl rfl (hs.cellM (i := 0) rfl rfl) (WO.step rfl (OR.assign rfl (WO.done (WX.seq (WC.block ?_)))))))
  refine WC.loop (ι := Nat × Value) (fun ix => [(0, ptr xb), (3, ix.2), (4, .int .u64 ((d.base + ix.1 : Nat) : Int))]) (fun ix w => (ix.1 ≤ c.win ∧ ix.1 ≤ D.chunks.length - d.base ∧ ∃ H Mo, Hp.le H0 H ∧ Own w0.heap.size 174 2 ix.2 ix.1 (rowCells (rkC (srcRks d.base ix.1 c.g))) Mo ∧ HS [] H0 w0 H ([(xb, fObj c d tb (ptr sb) vr vk, false), (sb, o, false)] ++ Mo) w)) (fun ix => c.win - ix.1) (0, .slice none 0 0) ⟨rfl, rfl, rfl,  trivial⟩ ?_ (fun ix w hW => ?_)
  · exact ⟨by omega, by omega, H, [], hle, Own.nil _ _ _, by rw [List.append_nil]; exact hs⟩
  clear hs hle
  obtain ⟨i, vo⟩ := ix
  obtain ⟨hi, hi2, H, Mo, hle, ho, hs⟩ := hW
  simp only at hi hi2 ho
  replace hs : HS [] H0 w0 H ((xb, fObj c d tb (ptr sb) vr vk, false) :: (sb, o, false) :: Mo) w := hs
  by_cases hg : d.base + i < D.chunks.length
  · have hg1 := hg
    refine WC.seq (WC.seq ?_)
    refine WC.draw 22 mixed hs (by kernel_rfl) ?_
    refine ⟨MF.eq _, by intro Mx H w hle hs; refine forVals_nil (ORg.plain (OR.move rfl ?_)); exact ⟨_, [], Hp.le.refl _, hs, rfl, rfl⟩, ?_⟩
    refine ⟨MF.eq _, by intro Mx H w hle hs; refine forVals_nil (ORg.plain (OR.move rfl ?_)); exact ⟨_, [], Hp.le.refl _, hs, rfl, rfl⟩, ?_⟩
    refine ⟨MF.eq _, by intro Mx H w hle hs; refine forVals_eq rfl rfl rfl ?_; refine forVals_nil (ORg.plain (OR.nilCheck rfl ?_)); exact ⟨_, [], Hp.le.refl _, hs, rfl, rfl⟩, ?_⟩
    refine ⟨MF.eq _, by intro Mx H w hle hs; refine forVals_eq rfl rfl rfl ?_; refine forVals_nil (ORg.plain (OR.fieldAddr FA172_3 rfl ?_)); exact ⟨_, [], Hp.le.refl _, hs, rfl, rfl⟩, ?_⟩
    refine ⟨MF.eq _, by intro Mx H w hle hs; refine forVals_eq rfl rfl rfl ?_; refine forVals_nil (ORg.plain (OR.load T66 rfl rfl (hs.right.cellM (i := 0) rfl rfl) ?_)); exact ⟨_, [], Hp.le.refl _, hs, rfl, rfl⟩, ?_⟩
    refine ⟨MF.eq (.int .u64 (D.chunks.length : Int)), ?_, ?_⟩
    · intro Mx H w hle2 hs; (try replace hle := hle.trans hle2); (try replace hlb := hlb.trans hle2); refine forVals_eq rfl rfl rfl ?_
      refine forVals_nil (ORg.plain (OR.call hs body31 rfl rfl (gens_ok sb D o _ _ hs.toSub (hs.right.blk (i := 1) rfl) (hs.right.nh (i := 1) rfl) (hx.mono hle) (by omega)) ?_))
      clear hs; rintro _ H w hs hle1 rfl
      exact ⟨_, [], hle1, hs, rfl, rfl⟩
    refine ⟨MF.eq _, by intro Mx H w hle hs; refine forVals_eq rfl rfl rfl ?_; refine forVals_eq rfl rfl rfl ?_; refine forVals_nil (ORg.plain (OR.lss rfl rfl ?_)); exact ⟨_, [], Hp.le.refl _, hs, rfl, rfl⟩, ?_⟩
    refine ⟨MF.eq _, by intro Mx H w hle hs; refine forVals_eq rfl rfl rfl ?_; refine forVals_nil (ORg.plain (OR.move rfl ?_)); exact ⟨_, [], Hp.le.refl _, hs, rfl, rfl⟩, ?_⟩
    refine ⟨MF.eq _, by intro Mx H w hle hs; refine forVals_eq rfl rfl rfl ?_; refine forVals_nil (ORg.yes rfl (decide_eq_true (by omega : ((d.base + i : Nat) : Int) < (D.chunks.length : Int))) rfl (OR.move rfl ?_)); exact ⟨_, [], Hp.le.refl _, hs, rfl, rfl⟩, ?_⟩
    refine ⟨MF.eq _, by intro Mx H w hle hs; refine forVals_eq rfl rfl rfl ?_; refine forVals_nil (ORg.yes rfl (decide_eq_true (by omega : ((d.base + i : Nat) : Int) < (D.chunks.length : Int))) rfl (OR.move rfl ?_)); exact ⟨_, [], Hp.le.refl _, hs, rfl, rfl⟩, ?_⟩
    refine ⟨MF.eq _, by intro Mx H w hle hs; refine forVals_eq rfl rfl rfl ?_; refine forVals_eq rfl rfl rfl ?_; refine forVals_nil (ORg.yes rfl (decide_eq_true (by omega : ((d.base + i : Nat) : Int) < (D.chunks.length : Int))) rfl (OR.nilCheck rfl ?_)); exact ⟨_, [], Hp.le.refl _, hs, rfl, rfl⟩, ?_⟩
    refine ⟨MF.eq _, by intro Mx H w hle hs; refine forVals_eq rfl rfl rfl ?_; refine forVals_eq rfl rfl rfl ?_; refine forVals_nil (ORg.yes rfl (decide_eq_true (by omega : ((d.base + i : Nat) : Int) < (D.chunks.length : Int))) rfl (OR.fieldAddr FA172_8 rfl ?_)); exact ⟨_, [], Hp.le.refl _, hs, rfl, rfl⟩, ?_⟩
    refine ⟨MF.eq _, by intro Mx H w hle hs; refine forVals_eq rfl rfl rfl ?_; refine forVals_eq rfl rfl rfl ?_; refine forVals_nil (ORg.yes rfl (decide_eq_true (by omega : ((d.base + i : Nat) : Int) < (D.chunks.length : Int))) rfl (OR.load T22 rfl rfl (hs.right.cellM (i := 0) rfl rfl) ?_)); exact ⟨_, [], Hp.le.refl _, hs, rfl, rfl⟩, ?_⟩
    refine ⟨MF.eq (.int .u64 (i : Int)), ?_, ?_⟩
    · intro Mx H w hle2 hs; (try replace hle := hle.trans hle2); (try replace hlb := hlb.trans hle2); refine forVals_eq rfl rfl rfl ?_; refine forVals_eq rfl rfl rfl ?_; refine forVals_eq rfl rfl rfl ?_
      refine forVals_nil (ORg.yes rfl (decide_eq_true (by omega : ((d.base + i : Nat) : Int) < (D.chunks.length : Int))) rfl (OR.sub rfl rfl ?_))
      exact ⟨_, [], Hp.le.refl _, hs, (by rw [show (((d.base + i : Nat) : Int) - (d.base : Int)) = ((i : Nat) : Int) by omega, u64_wrap i (by omega)]), rfl⟩
    refine ⟨MF.eq _, by intro Mx H w hle hs; refine forVals_eq rfl rfl rfl ?_; refine forVals_nil (ORg.yes rfl (decide_eq_true (by omega : ((d.base + i : Nat) : Int) < (D.chunks.length : Int))) rfl (OR.move rfl ?_)); exact ⟨_, [], Hp.le.refl _, hs, rfl, rfl⟩, ?_⟩
    refine ⟨MF.eq _, by intro Mx H w hle hs; refine forVals_eq rfl rfl rfl ?_; refine forVals_eq rfl rfl rfl ?_; refine forVals_nil (ORg.yes rfl (decide_eq_true (by omega : ((d.base + i : Nat) : Int) < (D.chunks.length : Int))) rfl (OR.nilCheck rfl ?_)); exact ⟨_, [], Hp.le.refl _, hs, rfl, rfl⟩, ?_⟩
    refine ⟨MF.eq _, by intro Mx H w hle hs; refine forVals_eq rfl rfl rfl ?_; refine forVals_eq rfl rfl rfl ?_; refine forVals_nil (ORg.yes rfl (decide_eq_true (by omega : ((d.base + i : Nat) : Int) < (D.chunks.length : Int))) rfl (OR.fieldAddr FA172_0 rfl ?_)); exact ⟨_, [], Hp.le.refl _, hs, rfl, rfl⟩, ?_⟩
    refine ⟨MF.eq _, by intro Mx H w hle hs; refine forVals_eq rfl rfl rfl ?_; refine forVals_eq rfl rfl rfl ?_; refine forVals_nil (ORg.yes rfl (decide_eq_true (by omega : ((d.base + i : Nat) : Int) < (D.chunks.length : Int))) rfl (OR.fieldAddr FA81_2 rfl ?_)); exact ⟨_, [], Hp.le.refl _, hs, rfl, rfl⟩, ?_⟩
    refine ⟨MF.eq _, by intro Mx H w hle hs; refine forVals_eq rfl rfl rfl ?_; refine forVals_eq rfl rfl rfl ?_; refine forVals_nil (ORg.yes rfl (decide_eq_true (by omega : ((d.base + i : Nat) : Int) < (D.chunks.length : Int))) rfl (OR.load T3 rfl rfl (hs.right.cellM (i := 0) rfl rfl) ?_)); exact ⟨_, [], Hp.le.refl _, hs, rfl, rfl⟩, ?_⟩
    refine ⟨MF.eq (.int .u64 (c.win : Int)), ?_, ?_⟩
    · intro Mx H w hle2 hs; (try replace hle := hle.trans hle2); (try replace hlb := hlb.trans hle2); refine forVals_eq rfl rfl rfl ?_; refine forVals_eq rfl rfl rfl ?_
      refine forVals_nil (ORg.yes rfl (decide_eq_true (by omega : ((d.base + i : Nat) : Int) < (D.chunks.length : Int))) rfl (OR.convI T3.und T22.und rfl ?_))
      exact ⟨_, [], Hp.le.refl _, hs, (by rw [u64_wrap c.win (by omega)]), rfl⟩
    refine ⟨MF.eq _, by intro Mx H w hle hs; refine forVals_eq rfl rfl rfl ?_; refine forVals_eq rfl rfl rfl ?_; refine forVals_eq rfl rfl rfl ?_; refine forVals_nil (ORg.yes rfl (decide_eq_true (by omega : ((d.base + i : Nat) : Int) < (D.chunks.length : Int))) rfl (OR.lss rfl rfl ?_)); exact ⟨_, [], Hp.le.refl _, hs, rfl, rfl⟩, ?_⟩
    refine ⟨MF.eq _, by intro Mx H w hle hs; refine forVals_eq rfl rfl rfl ?_; refine forVals_eq rfl rfl rfl ?_; refine forVals_nil (ORg.plain (OR.pickT rfl (decide_eq_true (by omega : ((d.base + i : Nat) : Int) < (D.chunks.length : Int))) rfl ?_)); exact ⟨_, [], Hp.le.refl _, hs, rfl, rfl⟩, ?_⟩
    intro H w hle2; (try replace hle := hle.trans hle2); (try replace hlb := hlb.trans hle2)
    refine forAllVals_eq rfl ?_
    refine forAllVals_eq rfl ?_
    refine forAllVals_eq rfl ?_
    refine forAllVals_eq rfl ?_
    refine forAllVals_eq rfl ?_
    refine forAllVals_eq rfl ?_
    refine forAllVals_eq rfl ?_
    refine forAllVals_eq rfl ?_
    refine forAllVals_eq rfl ?_
    refine forAllVals_eq rfl ?_
    refine forAllVals_eq rfl ?_
    refine forAllVals_eq rfl ?_
    refine forAllVals_eq rfl ?_
    refine forAllVals_eq rfl ?_
    refine forAllVals_eq rfl ?_
    refine forAllVals_eq rfl ?_
    refine forAllVals_eq rfl ?_
    refine forAllVals_eq rfl ?_
    refine forAllVals_eq rfl ?_
    refine forAllVals_eq rfl ?_
    refine forAllVals_eq rfl ?_
    refine forAllVals_eq rfl ?_
    refine forAllVals_nil ?_; (try clear hs); intro hs
    refine WO.done (WX.seq ?_)
    refine WC.condD rfl (fun hlt => ?_) (fun hlt => ?_)
    · refine WC.skip (WX.seq (WC.seq (WC.block (WC.region (WO.step rfl (OR.move rfl (WO.step rfl ?_)))))))
      refine OR.move rfl (WO.step rfl (OR.move rfl (WO.step rfl (OR.nilCheck rfl (WO.step rfl (OR.fieldAddr FA172_1 rfl (WO.step rfl ?_)))))))
      refine OR.fieldAddr FA78_0 rfl (WO.step rfl (OR.load T3 rfl rfl (hs.cellM (i := 0) rfl rfl) (WO.step rfl (OR.buildAll T174 rfl rfl PL174 rfl rfl ?_))))
      refine WO.step rfl (OR.buildSlice (vs := [_]) hs T115.und T174 rfl rfl rfl rfl (by simp) ?_)
      clear hs; intro q1 w hq1 hs
      obtain ⟨H, hle1, hp_q1, hs9⟩ := hs.pub1 hq1; clear hs; have hs := hs9; clear hs9; replace hle := hle.trans hle1; (try replace hlb := hlb.trans hle1)
      have hone : RkL H (.slice (some ⟨q1, 0, none⟩) 1 1) [(d.base + i, c.g)] := Sl.block hp_q1 rfl rfl (by simp)
      obtain ⟨bo, co, rfl⟩ := ho.form
      have hs9 : HS [] H0 w0 H (Mo ++ [(xb, fObj c d tb (ptr sb) vr vk, false), (sb, o, false)]) w := HS.mtail (A := [_, _]) hs
      clear hs
      refine WO.step rfl (OR.append (m := 1) (news := rowCells (rkC [(d.base + i, c.g)])) (Mo := Mo) (M := [_, _]) hs9 ho T115.und T174 rfl (by omega) rfl rfl rfl (Sl.src hone hs9) (Sl.src0 hone) rfl (by omega) (by omega) ?_)
      clear hs9 ho; intro v' w Mo' hs ho hge
      replace hs := HS.mtail (B := [_, _]) hs
      refine WO.step rfl (OR.assign rfl (WO.done (WX.block (WX.seq (WC.region (WO.step rfl (OR.move rfl ?_)))))))
      refine WO.step rfl (OR.add rfl rfl ?_)
      rw [show IntKind.u64.wrap (((d.base + i : Nat) : Int) + 1) = ((d.base + (i + 1) : Nat) : Int) by rw [show (((d.base + i : Nat) : Int) + 1) = ((d.base + (i + 1) : Nat) : Int) by omega, u64_wrap _ (by omega)]]
      refine WO.step rfl (OR.assign rfl (WO.done ?_))
      refine WX.again ((i + 1, v')) ⟨rfl, rfl, rfl,  trivial⟩ ?_ ?_
      · refine ⟨by omega, by omega, H, Mo', hle, ?_, hs⟩
        simp only
        rw [srcRks_succ, show rkC (srcRks d.base i c.g ++ [(d.base + i, c.g)]) = rkC (srcRks d.base i c.g) ++ rkC [(d.base + i, c.g)] by simp [rkC], rowCells_append]
        exact ho
      · simp only; omega
    · refine WC.exit (WX.seq_exit (WX.loop_exit (WX.block_hit (WX.block (WX.seq (WC.seq (WC.region ?_)))))))
      refine WO.step rfl (OR.move rfl (WO.step rfl (OR.assign rfl (WO.done (WX.seq (WC.ret ?_))))))
      refine WX.ret1 rfl rfl ?_
      obtain ⟨H4, hle4, hs4, hsl, _⟩ := HS.pub (HS.mtail (A := [_, _]) hs) ho
      refine .mk (hs4.sublist (List.nil_sublist _)) ?_
      rw [show min c.win (D.chunks.length - d.base) = i by omega]
      unfold RkL
      rw [srcRks_len]
      exact hsl
  · have hg1 := hg
    refine WC.seq (WC.seq ?_)
    refine WC.draw 22 mixed hs (by kernel_rfl) ?_
    refine ⟨MF.eq _, by intro Mx H w hle hs; refine forVals_nil (ORg.plain (OR.move rfl ?_)); exact ⟨_, [], Hp.le.refl _, hs, rfl, rfl⟩, ?_⟩
    refine ⟨MF.eq _, by intro Mx H w hle hs; refine forVals_nil (ORg.plain (OR.move rfl ?_)); exact ⟨_, [], Hp.le.refl _, hs, rfl, rfl⟩, ?_⟩
    refine ⟨MF.eq _, by intro Mx H w hle hs; refine forVals_eq rfl rfl rfl ?_; refine forVals_nil (ORg.plain (OR.nilCheck rfl ?_)); exact ⟨_, [], Hp.le.refl _, hs, rfl, rfl⟩, ?_⟩
    refine ⟨MF.eq _, by intro Mx H w hle hs; refine forVals_eq rfl rfl rfl ?_; refine forVals_nil (ORg.plain (OR.fieldAddr FA172_3 rfl ?_)); exact ⟨_, [], Hp.le.refl _, hs, rfl, rfl⟩, ?_⟩
    refine ⟨MF.eq _, by intro Mx H w hle hs; refine forVals_eq rfl rfl rfl ?_; refine forVals_nil (ORg.plain (OR.load T66 rfl rfl (hs.right.cellM (i := 0) rfl rfl) ?_)); exact ⟨_, [], Hp.le.refl _, hs, rfl, rfl⟩, ?_⟩
    refine ⟨MF.eq (.int .u64 (D.chunks.length : Int)), ?_, ?_⟩
    · intro Mx H w hle2 hs; (try replace hle := hle.trans hle2); (try replace hlb := hlb.trans hle2); refine forVals_eq rfl rfl rfl ?_
      refine forVals_nil (ORg.plain (OR.call hs body31 rfl rfl (gens_ok sb D o _ _ hs.toSub (hs.right.blk (i := 1) rfl) (hs.right.nh (i := 1) rfl) (hx.mono hle) (by omega)) ?_))
      clear hs; rintro _ H w hs hle1 rfl
      exact ⟨_, [], hle1, hs, rfl, rfl⟩
    refine ⟨MF.eq _, by intro Mx H w hle hs; refine forVals_eq rfl rfl rfl ?_; refine forVals_eq rfl rfl rfl ?_; refine forVals_nil (ORg.plain (OR.lss rfl rfl ?_)); exact ⟨_, [], Hp.le.refl _, hs, rfl, rfl⟩, ?_⟩
    refine ⟨MF.eq _, by intro Mx H w hle hs; refine forVals_eq rfl rfl rfl ?_; refine forVals_nil (ORg.plain (OR.move rfl ?_)); exact ⟨_, [], Hp.le.refl _, hs, rfl, rfl⟩, ?_⟩
    refine ⟨MF.eq undef, by intro Mx H w hle hs; refine forVals_eq rfl rfl rfl ?_; refine forVals_nil (ORg.no rfl (decide_eq_false (by omega : ¬ ((d.base + i : Nat) : Int) < (D.chunks.length : Int))) rfl ?_); exact ⟨_, [], Hp.le.refl _, hs, rfl, rfl⟩, ?_⟩
    refine ⟨MF.eq undef, by intro Mx H w hle hs; refine forVals_eq rfl rfl rfl ?_; refine forVals_nil (ORg.no rfl (decide_eq_false (by omega : ¬ ((d.base + i : Nat) : Int) < (D.chunks.length : Int))) rfl ?_); exact ⟨_, [], Hp.le.refl _, hs, rfl, rfl⟩, ?_⟩
    refine ⟨MF.eq undef, by intro Mx H w hle hs; refine forVals_eq rfl rfl rfl ?_; refine forVals_eq rfl rfl rfl ?_; refine forVals_nil (ORg.no rfl (decide_eq_false (by omega : ¬ ((d.base + i : Nat) : Int) < (D.chunks.length : Int))) rfl ?_); exact ⟨_, [], Hp.le.refl _, hs, rfl, rfl⟩, ?_⟩
    refine ⟨MF.eq undef, by intro Mx H w hle hs; refine forVals_eq rfl rfl rfl ?_; refine forVals_eq rfl rfl rfl ?_; refine forVals_nil (ORg.no rfl (decide_eq_false (by omega : ¬ ((d.base + i : Nat) : Int) < (D.chunks.length : Int))) rfl ?_); exact ⟨_, [], Hp.le.refl _, hs, rfl, rfl⟩, ?_⟩
    refine ⟨MF.eq undef, by intro Mx H w hle hs; refine forVals_eq rfl rfl rfl ?_; refine forVals_eq rfl rfl rfl ?_; refine forVals_nil (ORg.no rfl (decide_eq_false (by omega : ¬ ((d.base + i : Nat) : Int) < (D.chunks.length : Int))) rfl ?_); exact ⟨_, [], Hp.le.refl _, hs, rfl, rfl⟩, ?_⟩
    refine ⟨MF.eq undef, by intro Mx H w hle hs; refine forVals_eq rfl rfl rfl ?_; refine forVals_eq rfl rfl rfl ?_; refine forVals_eq rfl rfl rfl ?_; refine forVals_nil (ORg.no rfl (decide_eq_false (by omega : ¬ ((d.base + i : Nat) : Int) < (D.chunks.length : Int))) rfl ?_); exact ⟨_, [], Hp.le.refl _, hs, rfl, rfl⟩, ?_⟩
    refine ⟨MF.eq undef, by intro Mx H w hle hs; refine forVals_eq rfl rfl rfl ?_; refine forVals_nil (ORg.no rfl (decide_eq_false (by omega : ¬ ((d.base + i : Nat) : Int) < (D.chunks.length : Int))) rfl ?_); exact ⟨_, [], Hp.le.refl _, hs, rfl, rfl⟩, ?_⟩
    refine ⟨MF.eq undef, by intro Mx H w hle hs; refine forVals_eq rfl rfl rfl ?_; refine forVals_eq rfl rfl rfl ?_; refine forVals_nil (ORg.no rfl (decide_eq_false (by omega : ¬ ((d.base + i : Nat) : Int) < (D.chunks.length : Int))) rfl ?_); exact ⟨_, [], Hp.le.refl _, hs, rfl, rfl⟩, ?_⟩
    refine ⟨MF.eq undef, by intro Mx H w hle hs; refine forVals_eq rfl rfl rfl ?_; refine forVals_eq rfl rfl rfl ?_; refine forVals_nil (ORg.no rfl (decide_eq_false (by omega : ¬ ((d.base + i : Nat) : Int) < (D.chunks.length : Int))) rfl ?_); exact ⟨_, [], Hp.le.refl _, hs, rfl, rfl⟩, ?_⟩
    refine ⟨MF.eq undef, by intro Mx H w hle hs; refine forVals_eq rfl rfl rfl ?_; refine forVals_eq rfl rfl rfl ?_; refine forVals_nil (ORg.no rfl (decide_eq_false (by omega : ¬ ((d.base + i : Nat) : Int) < (D.chunks.length : Int))) rfl ?_); exact ⟨_, [], Hp.le.refl _, hs, rfl, rfl⟩, ?_⟩
    refine ⟨MF.eq undef, by intro Mx H w hle hs; refine forVals_eq rfl rfl rfl ?_; refine forVals_eq rfl rfl rfl ?_; refine forVals_nil (ORg.no rfl (decide_eq_false (by omega : ¬ ((d.base + i : Nat) : Int) < (D.chunks.length : Int))) rfl ?_); exact ⟨_, [], Hp.le.refl _, hs, rfl, rfl⟩, ?_⟩
    refine ⟨MF.eq undef, by intro Mx H w hle hs; refine forVals_eq rfl rfl rfl ?_; refine forVals_eq rfl rfl rfl ?_; refine forVals_nil (ORg.no rfl (decide_eq_false (by omega : ¬ ((d.base + i : Nat) : Int) < (D.chunks.length : Int))) rfl ?_); exact ⟨_, [], Hp.le.refl _, hs, rfl, rfl⟩, ?_⟩
    refine ⟨MF.eq undef, by intro Mx H w hle hs; refine forVals_eq rfl rfl rfl ?_; refine forVals_eq rfl rfl rfl ?_; refine forVals_eq rfl rfl rfl ?_; refine forVals_nil (ORg.no rfl (decide_eq_false (by omega : ¬ ((d.base + i : Nat) : Int) < (D.chunks.length : Int))) rfl ?_); exact ⟨_, [], Hp.le.refl _, hs, rfl, rfl⟩, ?_⟩
    refine ⟨MF.eq _, by intro Mx H w hle hs; refine forVals_eq rfl rfl rfl ?_; refine forVals_eq rfl rfl rfl ?_; refine forVals_nil (ORg.plain (OR.pickF rfl (decide_eq_false (by omega : ¬ ((d.base + i : Nat) : Int) < (D.chunks.length : Int))) rfl ?_)); exact ⟨_, [], Hp.le.refl _, hs, rfl, rfl⟩, ?_⟩
    intro H w hle2; (try replace hle := hle.trans hle2); (try replace hlb := hlb.trans hle2)
    refine forAllVals_eq rfl ?_
    refine forAllVals_eq rfl ?_
    refine forAllVals_eq rfl ?_
    refine forAllVals_eq rfl ?_
    refine forAllVals_eq rfl ?_
    refine forAllVals_eq rfl ?_
    refine forAllVals_eq rfl ?_
    refine forAllVals_eq rfl ?_
    refine forAllVals_eq rfl ?_
    refine forAllVals_eq rfl ?_
    refine forAllVals_eq rfl ?_
    refine forAllVals_eq rfl ?_
    refine forAllVals_eq rfl ?_
    refine forAllVals_eq rfl ?_
    refine forAllVals_eq rfl ?_
    refine forAllVals_eq rfl ?_
    refine forAllVals_eq rfl ?_
    refine forAllVals_eq rfl ?_
    refine forAllVals_eq rfl ?_
    refine forAllVals_eq rfl ?_
    refine forAllVals_eq rfl ?_
    refine forAllVals_eq rfl ?_
    refine forAllVals_nil ?_; (try clear hs); intro hs
    refine WO.done (WX.seq (WC.no rfl rfl (WC.exit (WX.seq_exit (WX.loop_exit (WX.block_hit (WX.block ?_)))))))
    refine WX.seq (WC.seq (WC.region (WO.step rfl (OR.move rfl (WO.step rfl (OR.assign rfl (WO.done ?_)))))))
    refine WX.seq (WC.ret ?_)
    refine WX.ret1 rfl rfl ?_
    obtain ⟨H4, hle4, hs4, hsl, _⟩ := HS.pub (HS.mtail (A := [_, _]) hs) ho
    refine .mk (hs4.sublist (List.nil_sublist _)) ?_
    rw [show min c.win (D.chunks.length - d.base) = i by omega]
    unfold RkL
    rw [srcRks_len]
    exact hsl
theorem winNums_nodup (b n : Nat) : (winNums b n).Nodup := by
  unfold winNums
  rw [List.nodup_iff_pairwise_ne, List.pairwise_map]
  refine List.Pairwise.imp ?_ (List.nodup_iff_pairwise_ne.1 List.nodup_range)
  intro a c h e
  exact h (by omega)
theorem rks_fst (x : RelD) : x.rks.map (·.1) = (winNums x.base (winEnd x.base x.width - x.base)).filter fun gen => decide ((x.rk gen).length > 0) := by
  unfold RelD.rks
  generalize winNums x.base (winEnd x.base x.width - x.base) = l
  induction l with
  | nil => rfl
  | cons a l ih =>
    rw [List.flatMap_cons, List.map_append, ih, List.filter_cons]
    unfold RelD.rk1
    by_cases h : (x.rk a).length > 0
    · rw [if_pos h, decide_eq_true h]; rfl
    · rw [if_neg h, decide_eq_false h]; rfl
theorem rks_nodup (x : RelD) : (x.rks.map (·.1)).Nodup := by
  rw [rks_fst]
  exact (winNums_nodup _ _).filter _
theorem rks_mem {x : RelD} {gen : Nat} : gen ∈ x.rks.map (·.1) ↔ inWin x.base x.width gen ∧ x.rows (gen % x.width) ≠ [] := by
  rw [rks_fst, List.mem_filter]
  have h1 : gen ∈ winNums x.base (winEnd x.base x.width - x.base) ↔ inWin x.base x.width gen := by
    unfold winNums inWin
    rw [List.mem_map]
    constructor
    · rintro ⟨k, hk, rfl⟩
      have := List.mem_range.1 hk
      omega
    · rintro ⟨h, h'⟩
      exact ⟨gen - x.base, List.mem_range.2 (by omega), by omega⟩
  rw [h1]
  constructor
  · rintro ⟨h, h2⟩
    refine ⟨h, ?_⟩
    have h3 := of_decide_eq_true h2
    unfold RelD.rk at h3
    rw [if_pos h] at h3
    intro e
    rw [e] at h3
    simp at h3
  · rintro ⟨h, h2⟩
    refine ⟨h, decide_eq_true ?_⟩
    unfold RelD.rk
    rw [if_pos h]
    exact List.length_pos_iff.2 h2
theorem rks_len (x : RelD) (h : x.width ≤ 16) : x.rks.length ≤ x.width := by
  have h1 := flat_le x (winNums x.base (winEnd x.base x.width - x.base))
  have h2 : (winNums x.base (winEnd x.base x.width - x.base)).length = winEnd x.base x.width - x.base := by simp [winNums]
  have h3 : winEnd x.base x.width ≤ x.base + x.width := Nat.min_le_left _ _
  unfold RelD.rks
  omega
/-- Rows by their generations, in a map. -/
def RowsM (H : Hp) (x : RelD) (gs : List Nat) (m : List (Int × Value)) : Prop := m.length = gs.length ∧ ∀ i (h : i < gs.length) (h' : i < m.length), m[i].1 = (gs[i] : Int) ∧ Rws H m[i].2 (x.rk gs[i])
theorem RowsM.mono {H H' : Hp} {x : RelD} {gs : List Nat} {m : List (Int × Value)} (h : RowsM H x gs m) (hle : Hp.le H H') : RowsM H' x gs m := ⟨h.1, fun i h1 h2 => ⟨(h.2 i h1 h2).1, (h.2 i h1 h2).2.mono hle⟩⟩
theorem RowsM.snoc {H : Hp} {x : RelD} {gs : List Nat} {m : List (Int × Value)} (h : RowsM H x gs m) {gen : Nat} {v : Value} (hv : Rws H v (x.rk gen)) (hn : gen ∉ gs) : RowsM H x (gs ++ [gen]) (assocPut m (gen : Int) v) := by
  have hf : m.findIdx? (fun p => p.1 == (gen : Int)) = none := by
    rw [List.findIdx?_eq_none_iff]
    intro p hp
    obtain ⟨i, hi, rfl⟩ := List.getElem_of_mem hp
    have h1 := (h.2 i (by rw [← h.1]; exact hi) hi).1
    rw [h1]
    have h2 : gs[i]'(by rw [← h.1]; exact hi) ≠ gen := fun e => hn (e ▸ List.getElem_mem _)
    simp
    omega
  have e : assocPut m (gen : Int) v = m ++ [((gen : Int), v)] := by simp [assocPut, hf]
  rw [e]
  refine ⟨by simp [h.1], fun i h1 h2 => ?_⟩
  by_cases hi : i < gs.length
  · have hi2 : i < m.length := by rw [h.1]; exact hi
    rw [List.getElem_append_left hi, List.getElem_append_left hi2]
    exact h.2 i hi hi2
  · have e1 : i = gs.length := by simp at h1; omega
    subst e1
    rw [List.getElem_append_right (Nat.le_refl _), List.getElem_append_right (by rw [h.1]; exact Nat.le_refl _)]
    simp [h.1, hv]
set_option maxRecDepth 20000 in
set_option maxHeartbeats 2000000 in
theorem frows_ok (c : CfgD) (d : FD) (xb tb rb wb : Nat) (vs vk : Value) (x : RelD) (sl : Slots) (H0 : Hp) (w0 : World) (hs : HS [] H0 w0 H0 ((xb, fObj c d tb vs (ptr rb) vk, false) :: relMem false x rb wb sl) w0)
    (hx : SlotsOk H0 x sl) (hok : RelOk x) :
    Calls Tryz.prog 44 #[ptr xb] w0 (Ret [] H0 w0 fun v H' M' => ∃ mb m, v = .map (some mb) ∧ M' = [(mb, mObj .u64 m, true)] ∧ RowsM H' x (x.rks.map (·.1)) m) := by
  have hle := Hp.le.refl H0
  refine Calls.enter (args := [ptr xb]) Tryz.func44 rfl Tryz.ntmps44 rfl ?_
  refine WC.seq (WC.region (WO.step rfl (OR.assign rfl (WO.done (WX.seq (WC.seq (WC.region ?_)))))))
  refine WO.step rfl (OR.makeMap hs ?_)
  clear hs; intro mb w hmb hs
  refine WO.step rfl (OR.assign rfl (WO.done (WX.seq (WC.seq (WC.seq (WC.region (WO.step rfl ?_)))))))
  refine OR.move rfl ?_
  refine WO.step rfl (OR.call hs body96 rfl rfl (fmade_ok c d xb tb _ _ _ _ _ hs.toSub (hs.blk (i := 1) rfl) (hs.nh (i := 1) rfl)) ?_)
  clear hs; rintro _ H w hs hle1 rfl; replace hle := hle.trans hle1; (try replace hlb := hlb.trans hle1)
  refine WO.step rfl (OR.not rfl (WO.step rfl (OR.move rfl ?_)))
  refine WO.guardYes rfl rfl rfl rfl (OR.move rfl (WO.guardYes rfl rfl rfl rfl (OR.nilCheck rfl (WO.guardYes rfl rfl rfl rfl (OR.fieldAddr FA172_4 rfl (WO.guardYes rfl rfl rfl rfl (OR.load T34 rfl rfl (hs.cellM (i := 1) rfl rfl) ?_)))))))
  refine WO.guardYes rfl rfl rfl rfl (OR.eqlNilP T34.und rfl rfl (WO.step rfl (OR.pickF rfl rfl rfl (WO.done (WX.seq ?_)))))
  refine WC.no rfl rfl ?_
  refine WC.skip (WX.seq (WC.seq (WC.seq (WC.region (WO.step rfl (OR.move rfl (WO.step rfl ?_)))))))
  refine OR.nilCheck rfl (WO.step rfl (OR.fieldAddr FA172_4 rfl (WO.step rfl (OR.load T34 rfl rfl (hs.cellM (i := 1) rfl rfl) ?_))))
  refine WO.step rfl (OR.call hs body100 rfl rfl (rranks_ok rb wb x sl _ _ (HS.relRO4 (A := [_, _]) hs) (hx.mono hle) hok) ?_)
  clear hs; rintro _ H w hs hle1 hr; replace hle := hle.trans hle1; (try replace hlb := hlb.trans hle1)
  have hln := rks_len x hok.w2
  have hw16 := hok.w2
  have hnd := rks_nodup x
  have hgb : ∀ gen ∈ x.rks.map (·.1), gen < 18446744073709551616 := by
    intro gen hg
    have h1 := (rks_mem.1 hg).1
    have h6 : winEnd x.base x.width ≤ 1099511627776 := Nat.min_le_right _ _
    have := h1.2
    omega
  generalize x.rks = L at *
  obtain ⟨b1, c1, rfl⟩ := Sl.form hr
  refine WO.step rfl (OR.lenSlice T115.und rfl (WO.step rfl (OR.move rfl (WO.done (WX.seq (WC.block ?_))))))
  obtain ⟨HB, hHB⟩ : ∃ X, X = H := ⟨_, rfl⟩
  subst hHB
  refine WC.loop (ι := Nat) (fun k => [(0, ptr xb), (3, .map (some mb)), (22, .slice b1 L.length c1), (23, .int .i64 (L.length : Int)), (24, .int .i64 (k : Int))]) (fun k w => (k ≤ L.length ∧ ∃ H m, Hp.le H0 H ∧ Hp.le HB H ∧ RowsM H x ((L.take k).map (·.1)) m ∧ HS [] H0 w0 H ((mb, mObj .u64 m, true) :: (xb, fObj c d tb vs (ptr rb) vk, false) :: relMem false x rb wb sl) w)) (fun k => L.length - k) 0 ⟨rfl, rfl, rfl, rfl, rfl,  trivial⟩ ?_ (fun k w hW => ?_)
  · exact ⟨by omega, HB, [], hle, Hp.le.refl _, ⟨rfl, fun i h => absurd h (by simp)⟩, hs⟩
  clear hs hle
  obtain ⟨k, hk⟩ : ∃ k', k' = k := ⟨_, rfl⟩
  subst hk
  obtain ⟨hk, H, m, hle, hlb, hm, hs⟩ := hW
  refine WC.seq (WC.region (WO.step rfl (OR.lss rfl rfl (WO.done (WX.seq (WC.seq ?_))))))
  refine WC.condD rfl (fun hlt => ?_) (fun hlt => ?_)
  · have hk' : k < L.length := by omega
    have hg := hgb L[k].1 (List.mem_map.2 ⟨_, List.getElem_mem hk', rfl⟩)
    obtain ⟨yb, yo, rfl, hcy⟩ := hr.pos (by omega)
    have hcy2 := fun j u hj => hcell.mono hlb (hcy k hk' j u hj)
    refine WC.skip (WX.seq (WC.seq (WC.block (WC.seq (WC.region ?_)))))
    refine WO.step rfl (OR.idxN k T115.und T174 rfl rfl rfl hk' ?_)
    refine WO.step rfl (OR.loadN (cs := [.int .u64 (L[k].1 : Int), .int .i64 (L[k].2 : Int)]) T174 rfl rfl rfl (fun j u hj => hs.cell (hcy2 j u hj)) ?_)
    refine WO.step rfl (OR.alloc hs T174 ?_)
    clear hs; intro g1 w hg1 hs
    refine WO.stepN (OR.storeAll hs T174 rfl rfl rfl rfl rfl ?_)
    clear hs; intro w hs
    refine WO.done (WX.seq ?_)
    refine WC.sub [(0, ptr xb), (3, .map (some mb)), (5, ptr g1), (22, .slice (some ⟨yb, yo, none⟩) L.length c1), (23, .int .i64 (L.length : Int)), (24, .int .i64 (k : Int))] ⟨rfl, rfl, rfl, rfl, rfl, rfl,  trivial⟩ ?_
    refine WC.draw 10 mixed hs (by kernel_rfl) ?_
    refine ⟨MF.eq _, by intro Mx H w hle hs; refine forVals_nil (ORg.plain (OR.move rfl ?_)); exact ⟨_, [], Hp.le.refl _, hs, rfl, rfl⟩, ?_⟩
    refine ⟨MF.eq _, by intro Mx H w hle hs; refine forVals_nil (ORg.plain (OR.fieldAddr FA174_0 rfl ?_)); exact ⟨_, [], Hp.le.refl _, hs, rfl, rfl⟩, ?_⟩
    refine ⟨MF.eq _, by intro Mx H w hle hs; refine forVals_eq rfl rfl rfl ?_; refine forVals_nil (ORg.plain (OR.load T22 rfl rfl (hs.right.cellM (i := 0) rfl rfl) ?_)); exact ⟨_, [], Hp.le.refl _, hs, rfl, rfl⟩, ?_⟩
    refine ⟨MF.eq _, by intro Mx H w hle hs; refine forVals_nil (ORg.plain (OR.move rfl ?_)); exact ⟨_, [], Hp.le.refl _, hs, rfl, rfl⟩, ?_⟩
    refine ⟨MF.eq _, by intro Mx H w hle hs; refine forVals_eq rfl rfl rfl ?_; refine forVals_nil (ORg.plain (OR.nilCheck rfl ?_)); exact ⟨_, [], Hp.le.refl _, hs, rfl, rfl⟩, ?_⟩
    refine ⟨MF.eq _, by intro Mx H w hle hs; refine forVals_eq rfl rfl rfl ?_; refine forVals_nil (ORg.plain (OR.fieldAddr FA172_4 rfl ?_)); exact ⟨_, [], Hp.le.refl _, hs, rfl, rfl⟩, ?_⟩
    refine ⟨MF.eq _, by intro Mx H w hle hs; refine forVals_eq rfl rfl rfl ?_; refine forVals_nil (ORg.plain (OR.load T34 rfl rfl (hs.right.cellM (i := 2) rfl rfl) ?_)); exact ⟨_, [], Hp.le.refl _, hs, rfl, rfl⟩, ?_⟩
    refine ⟨MF.eq _, by intro Mx H w hle hs; refine forVals_nil (ORg.plain (OR.fieldAddr FA174_0 rfl ?_)); exact ⟨_, [], Hp.le.refl _, hs, rfl, rfl⟩, ?_⟩
    refine ⟨MF.eq _, by intro Mx H w hle hs; refine forVals_eq rfl rfl rfl ?_; refine forVals_nil (ORg.plain (OR.load T22 rfl rfl (hs.right.cellM (i := 0) rfl rfl) ?_)); exact ⟨_, [], Hp.le.refl _, hs, rfl, rfl⟩, ?_⟩
    refine ⟨MF.rows (x.rk L[k].1), ?_, ?_⟩
    · intro Mx H w hle2 hs; (try replace hle := hle.trans hle2); (try replace hlb := hlb.trans hle2); refine forVals_eq rfl rfl rfl ?_; refine forVals_eq rfl rfl rfl ?_
      refine forVals_nil (ORg.plain (OR.call hs body101 rfl rfl (rrows_ok rb wb L[k].1 x sl _ _ (HS.relRO4 (A := Mx ++ [_, _, _]) (by rw [List.append_assoc]; exact hs)) (hx.mono hle) hok hg) ?_))
      clear hs; rintro _ H w hs hle1 hv9
      exact ⟨_, [], hle1, hs, hv9, rfl⟩
    intro H w hle2; (try replace hle := hle.trans hle2); (try replace hlb := hlb.trans hle2)
    refine forAllVals_eq rfl ?_
    refine forAllVals_eq rfl ?_
    refine forAllVals_eq rfl ?_
    refine forAllVals_eq rfl ?_
    refine forAllVals_eq rfl ?_
    refine forAllVals_eq rfl ?_
    refine forAllVals_eq rfl ?_
    refine forAllVals_eq rfl ?_
    refine forAllVals_eq rfl ?_
    refine forAllVals_of rfl ?_; intro v9 h9
    refine forAllVals_nil ?_; (try clear hs); intro hs
    replace hs := hs.front (i := 1) rfl
    refine WO.stepN (OR.mapPut (K := .u64) (l := m) hs T98.und T22.und rfl rfl rfl ?_)
    clear hs; intro w hs
    refine WO.done (WX.block (WX.seq (WC.region (WO.step rfl (OR.addI rfl rfl (by omega) (by omega) (WO.step rfl (OR.move rfl ?_)))))))
    refine WO.done ?_
    refine WX.again (k + 1) ⟨rfl, rfl, rfl, rfl, rfl,  trivial⟩ ?_ ?_
    · refine ⟨by omega, H, _, hle, hlb, ?_, hs.drop 1⟩
      rw [List.take_succ_eq_append_getElem hk', List.map_append]
      refine (hm.mono hle2).snoc h9 ?_
      intro hmem
      have h8 : (L.take (k + 1)).map (·.1) = (L.take k).map (·.1) ++ [L[k].1] := by rw [List.take_succ_eq_append_getElem hk', List.map_append]; rfl
      have h7 : ((L.take (k + 1)).map (·.1)).Nodup := List.Sublist.nodup ((List.take_sublist _ _).map _) hnd
      rw [h8, List.nodup_append] at h7
      exact h7.2.2 _ hmem _ (List.mem_singleton.2 rfl) rfl
    · omega
  · have e : k = L.length := by omega
    subst e
    refine WC.exit (WX.seq_exit (WX.loop_exit (WX.block_hit (WX.seq (WC.seq (WC.region (WO.step rfl ?_)))))))
    refine OR.move rfl (WO.step rfl (OR.assign rfl (WO.done (WX.seq (WC.ret ?_)))))
    refine WX.ret1 rfl rfl ?_
    rw [List.take_length] at hm
    exact ⟨_, H, [(mb, mObj .u64 m, true)], rfl, hs.sublist (List.sublist_append_left [_] _), by simp, mb, m, rfl, rfl, hm⟩
end Go.Bw
namespace Go.Bw
set_option linter.unusedVariables false
set_option linter.unusedSimpArgs false
open Go.Proofs
theorem modW {a b d W : Nat} (h1 : d ≤ a) (h2 : a < d + W) (h3 : d ≤ b) (h4 : b < d + W) (h : a % W = b % W) : a = b := by
  have key : ∀ a b : Nat, d ≤ a → b < d + W → a ≤ b → a % W = b % W → a = b := by
    intro a b h1 h4 hab h
    have h5 := Nat.sub_mod_eq_zero_of_mod_eq h.symm
    rw [Nat.mod_eq_of_lt (by omega)] at h5
    omega
  rcases Nat.le_total a b with hab | hab
  · exact key a b h1 h4 hab h
  · exact (key b a h3 h2 hab h.symm).symm
theorem gone_memW {base W nb k n : Nat} : n ∈ winGone base W nb k ↔ (base ≤ n ∧ n < base + k) ∧ ¬ inWin nb W n := by
  unfold winGone winNums
  rw [List.mem_filter, List.mem_map]
  constructor
  · rintro ⟨⟨j, hj, rfl⟩, h⟩
    have := List.mem_range.1 hj
    exact ⟨⟨by omega, by omega⟩, by simpa using h⟩
  · rintro ⟨⟨h1, h2⟩, h3⟩
    exact ⟨⟨n - base, List.mem_range.2 (by omega), by omega⟩, by simpa using h3⟩
/-- Each slot is empty, or has true rows of a generation of the window. -/
structure Tru (X : SrcD) (W : Nat) (x : RelD) : Prop where
  g : x.g = X.g
  s : x.s = X.s
  w : x.width = W
  b : x.base ≤ 1099511627776
  sl : ∀ j, j < W → x.rows j = [] ∨ ∃ gen, inWin x.base W gen ∧ gen % W = j ∧ gen < X.chunks.length ∧ Good X.g X.s (symF X gen) (x.rows j)
section
variable {X : SrcD} {W : Nat} {x : RelD}
theorem inWin.lt {b W gen : Nat} (h : inWin b W gen) : b ≤ gen ∧ gen < b + W := by
  have h1 := h.2
  unfold winEnd at h1
  exact ⟨h.1, by omega⟩
theorem Tru.at (h : Tru X W x) (hW : 0 < W) {gen : Nat} (hin : inWin x.base W gen) : x.rows (gen % W) = [] ∨ (gen < X.chunks.length ∧ Good X.g X.s (symF X gen) (x.rows (gen % W))) := by
  rcases h.sl (gen % W) (Nat.mod_lt _ hW) with h1 | ⟨k, h1, h2, h3, h4⟩
  · exact .inl h1
  · have e := modW h1.lt.1 h1.lt.2 hin.lt.1 hin.lt.2 h2
    subst e
    exact .inr ⟨h3, h4⟩
theorem Tru.take (h : Tru X W x) (hW : 0 < W) {gen : Nat} (hg : gen < X.chunks.length) {r : RowD} (hr : RowGS X.g X.s r) (ht : Tr (symF X gen) r) : Tru X W (x.take gen r) := by
  unfold RelD.take
  by_cases hin : inWin x.base x.width gen
  · rw [if_pos hin]
    have hin' := hin
    rw [h.w] at hin'
    refine ⟨h.g, h.s, h.w, h.b, fun j hj => ?_⟩
    show (if j = gen % x.width then (insR x.g x.s (x.rows (gen % x.width)) r).2 else x.rows j) = [] ∨ ∃ k, inWin x.base W k ∧ k % W = j ∧ k < X.chunks.length ∧ Good X.g X.s (symF X k) (if j = gen % x.width then (insR x.g x.s (x.rows (gen % x.width)) r).2 else x.rows j)
    rw [h.w, h.g, h.s]
    by_cases e : j = gen % W
    · rw [if_pos e]
      refine .inr ⟨gen, hin', e.symm, hg, ?_⟩
      rcases h.at hW hin' with h1 | ⟨_, h1⟩
      · rw [h1]; exact (Good.nil _ _ _).ins hr ht
      · exact h1.ins hr ht
    · rw [if_neg e]
      exact h.sl j hj
  · rw [if_neg hin]
    exact h
theorem Tru.move (h : Tru X W x) {nb : Nat} (hn : nb ≤ 1099511627776) : Tru X W (x.moveTo nb) ∧ (x.moveTo nb).base = nb := by
  obtain ⟨d1, d2, d3, d4⟩ := drops_same (winGone x.base x.width nb (winEnd x.base x.width - x.base)) x
  have hmv : x.moveTo nb = { x.drops (winGone x.base x.width nb (winEnd x.base x.width - x.base)) with base := nb } := by rw [RelD.moveTo, if_pos hn]
  refine ⟨⟨by rw [hmv]; exact d1.trans h.g, by rw [hmv]; exact d2.trans h.s, by rw [hmv]; exact d4.trans h.w, by rw [hmv]; exact hn, fun j hj => ?_⟩, by rw [hmv]⟩
  have hr : (x.moveTo nb).rows j = if ∃ k ∈ winGone x.base x.width nb (winEnd x.base x.width - x.base), k % x.width = j then [] else x.rows j := by
    rw [hmv]
    exact drops_rows _ _ _
  have hb : (x.moveTo nb).base = nb := by rw [hmv]
  rw [hr, hb]
  by_cases hc : ∃ k ∈ winGone x.base x.width nb (winEnd x.base x.width - x.base), k % x.width = j
  · rw [if_pos hc]; exact .inl rfl
  · rw [if_neg hc]
    rcases h.sl j hj with h1 | ⟨gen, h1, h2, h3, h4⟩
    · exact .inl h1
    · refine .inr ⟨gen, ?_, h2, h3, h4⟩
      refine Classical.byContradiction fun hno => hc ⟨gen, ?_, by rw [h.w]; exact h2⟩
      rw [h.w]
      refine gone_memW.2 ⟨⟨h1.1, ?_⟩, hno⟩
      have := h1.2
      have := h1.1
      omega
theorem Tru.new {g s : Nat} (hg : g = X.g) (hs : s = X.s) (nb : Nat) (hn : nb ≤ 1099511627776) : Tru X W ((newR g s W).moveTo nb) ∧ ((newR g s W).moveTo nb).base = nb :=
  Tru.move (x := newR g s W) ⟨hg, hs, rfl, Nat.zero_le _, fun _ _ => .inl rfl⟩ hn
theorem symF_pre {X Y : SrcD} (hp : X.chunks <+: Y.chunks) (hg : Y.g = X.g) (hs : Y.s = X.s) {gen : Nat} (h : gen < X.chunks.length) : symF Y gen = symF X gen := by
  obtain ⟨t, ht⟩ := hp
  unfold symF
  rw [← ht, List.getElem?_append_left h, hg, hs]
theorem Tru.grow {Y : SrcD} (h : Tru X W x) (hp : X.chunks <+: Y.chunks) (hg : Y.g = X.g) (hs : Y.s = X.s) : Tru Y W x := by
  refine ⟨by rw [hg]; exact h.g, by rw [hs]; exact h.s, h.w, h.b, fun j hj => ?_⟩
  rcases h.sl j hj with h1 | ⟨gen, h1, h2, h3, h4⟩
  · exact .inl h1
  · exact .inr ⟨gen, h1, h2, Nat.lt_of_lt_of_le h3 hp.length_le, by rw [symF_pre hp hg hs h3, hg, hs]; exact h4⟩
theorem Tru.full (h : Tru X W x) (hX : SrcOk X) (hW : 0 < W) {gen : Nat} (hs : x.solE gen = 0) : ∃ hg : gen < X.chunks.length, x.base ≤ gen ∧ rdyE x gen = 0 ∧ rdyF x gen = X.chunks[gen] := by
  have hin := RelD.sol_in hs
  have hin' := hin
  rw [h.w] at hin'
  obtain ⟨n1, n2, n3, n4, n5⟩ := hX.nat
  have hlt : ¬ (x.rows (gen % W)).length < X.g := by
    intro hlt
    unfold RelD.solE at hs
    rw [if_pos hin, h.w, h.g, if_pos hlt] at hs
    cases hs
  obtain ⟨hgn, hgd⟩ : gen < X.chunks.length ∧ Good X.g X.s (symF X gen) (x.rows (gen % W)) := by
    rcases h.at hW hin' with h1 | h1
    · rw [h1] at hlt
      simp at hlt
      omega
    · exact h1
  have hl := hgd.red.len
  have hsol : x.solF gen = symF X gen := by
    unfold RelD.solF
    rw [if_pos hin, h.w, h.g, if_neg hlt]
    exact hgd.solved (by omega) (symF_len hX hgn) (symF_row hX hgn)
  have hc := hX.mem X.chunks[gen] (List.getElem_mem _)
  have hsy : symF X gen = layF X.g X.s X.chunks[gen] := by
    unfold symF
    rw [List.getElem?_eq_getElem hgn]
  have hfl : (x.solF gen).flatten = layAll X.g X.s X.chunks[gen] := by rw [hsol, hsy, layF_flat n5 hc.2]
  have hm : X.g * X.s ≤ 255 * 65535 := Nat.mul_le_mul n2 n4
  obtain ⟨p1, p2⟩ := pad_lay (g := X.g) (s := X.s) hc.1 hc.2 (by omega)
  refine ⟨hgn, hin.1, ?_, ?_⟩
  · unfold rdyE
    rw [h.g, h.s, hfl, padE, if_pos p1]
  · unfold rdyF
    rw [h.g, h.s, hfl]
    exact p2
theorem Tru.release (h : Tru X W x) (hX : SrcOk X) (hW : 0 < W) {d m : Nat} {e : Int} {br : Bool} (hd : d ≤ X.chunks.length) (hg : goodTo x d m) (hend : relEnd x d m e br) :
    e = 0 ∧ br = false ∧ d + m ≤ X.chunks.length ∧ rdyL x d m = (X.chunks.drop d).take m := by
  have hlen : d + m ≤ X.chunks.length := by
    rcases Nat.eq_zero_or_pos m with h0 | h0
    · omega
    · obtain ⟨h1, _⟩ := h.full hX hW (hg (m - 1) (by omega)).1
      omega
  have hL : rdyL x d m = (X.chunks.drop d).take m := by
    refine List.ext_getElem (by simp [rdyL]; omega) fun i h1 h2 => ?_
    have hi : i < m := by simpa [rdyL] using h1
    obtain ⟨h3, _, _, h4⟩ := h.full hX hW (hg i hi).1
    simp only [rdyL, List.getElem_map, List.getElem_range, List.getElem_take, List.getElem_drop]
    exact h4
  rcases hend with ⟨rfl, rfl, h1⟩ | ⟨rfl, rfl, h1, h2, h3⟩
  · exact ⟨rfl, rfl, hlen, hL⟩
  · obtain ⟨_, _, h4, _⟩ := h.full hX hW h2
    exact absurd h4 h3
/-- What goes out is right: if anything does, it is a true row of a generation, and not of noughts. -/
def Sent (X : SrcD) (gen : Nat) (r : RowD) (e : Int) : Prop := (e = 0 ∧ gen < X.chunks.length ∧ RowGS X.g X.s r ∧ Tr (symF X gen) r ∧ ¬ lead r.1 < 0) ∨ (e ≠ 0 ∧ r.1 = [])
theorem sent_src (hX : SrcOk X) (gen sent : Nat) (b : List UInt8) : Sent X gen (rowF X gen (sendC X sent b)) (thereE X gen) := by
  obtain ⟨n1, n2, n3, n4, n5⟩ := hX.nat
  by_cases h : gen < X.chunks.length
  · have hl : (sendC X sent b).length = X.g := coefF_len _ _ _
    have hz : ¬ lead (sendC X sent b) < 0 := coefF_lead _ _ _ (Nat.mod_lt _ n1)
    have hsr := symF_row hX h
    rw [rowF, if_pos ⟨h, hl⟩, thereE, if_pos h]
    refine .inl ⟨rfl, h, ⟨hl, comb_length _ _ _ hsr⟩, fun j => ?_, hz⟩
    exact comb_T (symF X gen) (sendC X sent b) hsr j
  · rw [rowF, if_neg (fun h9 => h h9.1), thereE, if_neg h]
    exact .inr ⟨by decide, rfl⟩
theorem sent_rel (h : Tru X W x) (hW : 0 < W) (gen sent : Nat) (b : List UInt8) : Sent X gen (x.sndF gen sent b) (x.sndE gen) := by
  by_cases hin : inWin x.base x.width gen
  · have hin' := hin
    rw [h.w] at hin'
    unfold RelD.sndF RelD.sndE
    rw [if_pos hin, if_pos hin, h.w, h.g, h.s]
    rcases h.at hW hin' with h1 | ⟨h1, h2⟩
    · rw [h1]
      exact .inr ⟨by decide, rfl⟩
    · by_cases h0 : (x.rows (gen % W)).length = 0
      · rw [if_pos h0, sndR, if_pos h0]
        exact .inr ⟨by decide, rfl⟩
      · rw [if_neg h0]
        exact .inl ⟨rfl, h1, snd_gs h2.red sent b h0, snd_tr h2 sent b h0, snd_some h2.red sent b h0⟩
  · unfold RelD.sndF RelD.sndE
    rw [if_neg hin, if_neg hin]
    exact .inr ⟨by decide, rfl⟩
theorem Tru.rowsOk (h : Tru X W x) (hW : 0 < W) {gen : Nat} : (x.rk gen).length ≤ X.g := by
  unfold RelD.rk
  split
  · rename_i hin
    rw [h.w] at hin ⊢
    rcases h.at hW hin with h1 | ⟨_, h1⟩
    · rw [h1]; exact Nat.zero_le _
    · exact h1.red.len
  · exact Nat.zero_le _
end
end Go.Bw
namespace Go.Bw
set_option linter.unusedVariables false
set_option linter.unusedSimpArgs false
open Go.Proofs
theorem HS.relV {xs : List Nat} {H0 H : Hp} {w0 w : World} {x : RelD} {rb wb xb : Nat} {l : Slots} {A B : Mem} {o : Obj} {t : Bool} (hs : HS xs H0 w0 H (A ++ ((xb, o, t) :: (B ++ relMem true x rb wb l))) w) : HS (Mem.keys (relMem true x rb wb l)) H w H ((xb, o, false) :: relMem true x rb wb l) w := by
  have h1 : HS xs H0 w0 H ((xb, o, t) :: relMem true x rb wb l) w := hs.sublist ((List.Sublist.cons_cons _ (List.sublist_append_right _ _)).trans (List.sublist_append_right _ _))
  refine h1.view _ ?_ (List.Sublist.refl _)
  intro p hp
  rcases List.mem_cons.1 hp with rfl | hp
  · exact ⟨⟨t, List.mem_cons_self ..⟩, fun h => by cases h⟩
  · exact ⟨⟨p.2.2, List.mem_cons_of_mem _ hp⟩, fun _ => List.mem_map.2 ⟨p, hp, rfl⟩⟩
set_option maxRecDepth 20000 in
set_option maxHeartbeats 2000000 in
theorem fconfig_ok (H0 : Hp) (w0 : World) (h0 : Sub H0 w0) :
    Calls Tryz.prog 56 #[] w0 (Pure H0 w0 fun v H' => ∃ vf vs, v = cfgV ⟨3, 2, 3, 4, 4, [2], vf, vs⟩ ∧ CfgIn H' ⟨3, 2, 3, 4, 4, [2], vf, vs⟩) := by
  have hs := HS.init h0
  have hle := Hp.le.refl H0
  refine Calls.enter (args := []) Tryz.func56 rfl Tryz.ntmps56 rfl ?_
  refine WC.seq (WC.region (WO.step rfl (OR.alloc hs T81 ?_)))
  clear hs; intro g1 w hg1 hs
  refine WO.done (WX.seq (WC.seq (WC.region ?_)))
  refine WO.step rfl (OR.buildSlice (vs := [.int .i64 2]) hs T76.und T3 rfl rfl rfl rfl (by simp) ?_)
  clear hs; intro q1 w hq1 hs
  refine WO.step rfl (OR.buildAll T78 rfl rfl PL78 rfl rfl ?_)
  obtain ⟨H, hle1, hp_q1, hs9⟩ := hs.pub1 hq1; clear hs; have hs := hs9; clear hs9; replace hle := hle.trans hle1; (try replace hlb := hlb.trans hle1)
  have hi1 : Ints H (.slice (some ⟨q1, 0, none⟩) 1 1) [2] := Sl.block hp_q1 rfl rfl (by simp)
  refine WO.step rfl (OR.buildSlice (vs := [_]) hs T79.und T78 rfl rfl rfl rfl (by simp) ?_)
  clear hs; intro q2 w hq2 hs
  refine WO.step rfl (OR.buildAll T81 rfl rfl PL81 rfl rfl ?_)
  replace hs := hs.front (i := 1) rfl
  refine WO.stepN (OR.storeAll hs T81 rfl rfl rfl rfl rfl ?_)
  clear hs; intro w hs
  refine WO.done (WX.seq (WC.ret ?_))
  replace hs := hs.front (i := 1) rfl
  obtain ⟨H, hle1, hp_q2, hs9⟩ := hs.pub1 hq2; clear hs; have hs := hs9; clear hs9; replace hle := hle.trans hle1; (try replace hlb := hlb.trans hle1)
  have hf1 : ∀ j u, [Value.int .i64 2, .int .i64 3, .int .i64 0, .slice (some ⟨q1, 0, none⟩) 1 1][j]? = some u → hcell H ((⟨q2, 0, none⟩ : Addr).add j) = some u := fun j u hj => by
    rw [add_off, Nat.zero_add]
    exact hcell_of hp_q2 (by rw [nth_eq]; exact hj)
  refine WX.retCell T81 rfl rfl rfl rfl (hs.blk (i := 0) rfl) ?_
  exact .mk (hs.drop 0) ⟨_, _, rfl, ⟨q2, 0, 1, rfl, by omega, hf1⟩, hi1.mono hle1⟩
theorem cfg24_ok (vf vs : Value) : CfgOk ⟨3, 2, 3, 4, 4, [2], vf, vs⟩ :=
  ⟨⟨by show 1 ≤ 3; omega, by show 3 ≤ 64; omega⟩, ⟨by show 1 ≤ 2; omega, by show 2 ≤ 255; omega, by show 1 ≤ 3; omega, by show 3 ≤ 65535; omega, by show 4 < 2 * 3; omega⟩, ⟨by show 1 ≤ 4; omega, by show 4 ≤ 16; omega⟩, ⟨by show 1 ≤ 4; omega, by show 4 ≤ 64; omega⟩, ⟨by show 1 ≤ 1; omega, by show 1 ≤ 8; omega⟩,
   fun i h => by have : i = 0 := by simp at h; omega
                 subst this; exact ⟨by show (1 : Int) ≤ 2; omega, by show (2 : Int) ≤ 3 - 1; omega⟩, fun i h hi => by simp at h; omega⟩
theorem permOwn2 {a b c : Nat × Obj × Bool} {R : Mem} : List.Perm (a :: b :: c :: R) (c :: a :: b :: R) := permK3
theorem next1 {a n m : Int} (h : 0 ≤ a ∧ a < n ∧ a ≠ m) : ∀ i (_ : i < [a].length), 0 ≤ [a][i] ∧ [a][i] < n ∧ [a][i] ≠ m := by
  intro i hi
  have : i = 0 := by simpa using hi
  subst this
  exact h
theorem up1 (a : Int) : ∀ i (h : i < [a].length), 0 < i → [a][i - 1]'(by omega) < [a][i] := by
  intro i hi h0
  simp at hi
  omega
def fwM : Nat := 1099511627776
def fwD : SrcD := subD (newD 2 3 [] [] false) [97, 98] (fwM + 2 * 4)
theorem fwD_ok : subE (newD 2 3 [] [] false) [97, 98] (fwM + 2 * 4) = 0 ∧ fwD.chunks = [[97, 98]] ∧ rowF fwD 0 (sendC fwD 0 []) = ([1, 0], [0, 0, 0]) ∧ rowF fwD 0 (sendC fwD 1 []) = ([0, 1], [2, 97, 98]) ∧ thereE fwD 0 = 0 := by decide +kernel
def fwA : RelD := (newR 2 3 4).moveTo 0
def fwB : RelD := fwA.take 0 ([1, 0], [0, 0, 0])
def fwC : RelD := fwB.take 0 ([0, 1], [2, 97, 98])
theorem fwR_g : (fwA.g = 2 ∧ fwA.s = 3) ∧ (fwB.g = 2 ∧ fwB.s = 3) ∧ fwC.g = 2 ∧ fwC.s = 3 := by decide +kernel
theorem fwC_0 : fwC.solE 0 = 0 ∧ rdyE fwC 0 = 0 ∧ rdyF fwC 0 = [97, 98] ∧ fwC.solE 1 ≠ 0 := by decide +kernel
theorem fwA_ok : RelOk fwA ∧ RelOk fwB ∧ RelOk fwC := by
  have h1 : RelOk fwA := (newR_ok (g := 2) (s := 3) (width := 4) (by omega) (by omega)).moveTo 0
  exact ⟨h1, h1.take _ _, (h1.take _ _).take _ _⟩
def fwD1 (nv : Value) : FD := ⟨0, [1], nv, [], fwM, false, 0, false⟩
def fwD2 (nv : Value) : FD := ⟨0, [1], nv, [(1, 0)], 0, true, 0, false⟩
def fwD3 (nv : Value) : FD := ⟨0, [1], nv, [(1, 1)], 1, true, 0, false⟩
theorem gs23 : goodGS (2 : Nat) (3 : Nat) := by unfold goodGS; decide
set_option maxHeartbeats 8000000 in
set_option maxRecDepth 20000 in
set_option maxHeartbeats 2000000 in
theorem fawake_ok (H0 : Hp) (w0 : World) (h0 : Sub H0 w0) :
    Calls Tryz.prog 36 #[] w0 (Pure H0 w0 fun v _ => v = .bool true) := by
  have hs := HS.init h0
  have hle := Hp.le.refl H0
  obtain ⟨e1, e2, e3, e4, e5⟩ := fwD_ok
  obtain ⟨gA, gB, gC⟩ := fwR_g
  obtain ⟨okA, okB, okC⟩ := fwA_ok
  have hokD0 : SrcOk (newD 2 3 [] [] false) := newD_ok gs23
  have hokD : SrcOk fwD := hokD0.sub _ _
  refine Calls.enter (args := []) Tryz.func36 rfl Tryz.ntmps36 rfl ?_
  refine WC.seq (WC.region (WO.step rfl (OR.assign rfl (WO.done (WX.seq (WC.seq (WC.region ?_)))))))
  refine WO.step rfl (OR.call hs body56 rfl rfl (fconfig_ok _ _ hs.toSub) ?_)
  clear hs; rintro _ H w hs hle1 ⟨vf, vs, rfl, hcf⟩; replace hle := hle.trans hle1; (try replace hlb := hlb.trans hle1)
  have hcok := cfg24_ok vf vs
  obtain ⟨c, hc⟩ : ∃ c : CfgD, c = ⟨3, 2, 3, 4, 4, [2], vf, vs⟩ := ⟨_, rfl⟩
  rw [← hc] at hcf hcok ⊢
  have hcn : c.win = 4 := by rw [hc]
  have hcg : c.g = 2 ∧ c.s = 3 := by rw [hc]; exact ⟨rfl, rfl⟩
  refine WO.step rfl (OR.callX (Mx := []) hs body35 rfl rfl (fnew_src c hcok _ _ hs.toSub hcf) rfl rfl ?_)
  clear hs; rintro _ H M w hs hle1 hnew ⟨xb, tb, sb, o, rfl, rfl, hx⟩; replace hle := hle.trans hle1; (try replace hlb := hlb.trans hle1)
  rw [hcg.1, hcg.2] at hx
  replace hs : HS [] H0 w0 H [(xb, fObj c (fN 0 fwM) tb (ptr sb) (.pointer none) (.pointer none), true), (tb, toldObj [], true), (sb, o, true)] w := hs
  refine WO.step rfl (OR.move rfl (WO.step rfl (OR.extract rfl rfl (WO.step rfl (OR.extract rfl rfl (WO.step rfl (OR.assign rfl ?_)))))))
  refine WO.step rfl (OR.assign rfl (WO.done (WX.seq (WC.seq (WC.region ?_)))))
  refine WO.step rfl (OR.call hs body56 rfl rfl (fconfig_ok _ _ hs.toSub) ?_)
  clear hs; rintro _ H w hs hle1 ⟨vf2, vs2, rfl, hcf2⟩; replace hle := hle.trans hle1; (try replace hlb := hlb.trans hle1)
  have hcok2 := cfg24_ok vf2 vs2
  obtain ⟨c2, hc2⟩ : ∃ c : CfgD, c = ⟨3, 2, 3, 4, 4, [2], vf2, vs2⟩ := ⟨_, rfl⟩
  rw [← hc2] at hcf2 hcok2 ⊢
  replace hx := hx.mono hle1
  refine WO.step rfl (OR.callX (Mx := []) hs body35 rfl rfl (fnew_sink c2 hcok2 2 0 _ _ hs.toSub hcf2 (by rw [hc2]; exact ⟨by omega, by show (2 : Int) < 3; omega⟩) (by rw [hc2]; exact List.mem_singleton.2 rfl) (by omega)) rfl rfl ?_)
  clear hs; rintro _ H M w hs hle1 hnew ⟨yb, ub, rb, wb, l0, kb, rfl, rfl, hro⟩; replace hle := hle.trans hle1; (try replace hlb := hlb.trans hle1)
  rw [show (newR c2.g c2.s c2.win).moveTo 0 = fwA by rw [hc2]; rfl] at hs hro
  rw [show (⟨c2.g, c2.s, 0, 0, false, false⟩ : SinkD) = skD fwA 0 false false 0 by rw [hc2, skD, gA.1, gA.2]] at hs
  replace hx := hx.mono hle1
  replace hs := HS.mtail (A := fMem c2 (fN 2 0) yb ub (.pointer none) (some ⟨fwA, rb, wb, l0⟩) (some (kb, skD fwA 0 false false 0))) hs
  replace hs : HS [] H0 w0 H ((xb, fObj c (fN 0 fwM) tb (ptr sb) (.pointer none) (.pointer none), true) :: (tb, toldObj [], true) :: (sb, o, true) :: (yb, fObj c2 (fN 2 0) ub (.pointer none) (ptr rb) (ptr kb), true) :: (ub, toldObj [], true) :: (kb, sinkObj (skD fwA 0 false false 0), true) :: relMem true fwA rb wb l0) w := hs
  refine WO.step rfl (OR.move rfl (WO.step rfl (OR.extract rfl rfl (WO.step rfl (OR.extract rfl rfl (WO.step rfl (OR.assign rfl ?_)))))))
  refine WO.step rfl (OR.assign rfl (WO.done (WX.seq (WC.seq (WC.seq (WC.region (WO.step rfl ?_)))))))
  refine OR.move rfl (WO.step rfl (OR.neq rfl rfl (WO.step rfl (OR.move rfl ?_))))
  refine WO.guardYes rfl rfl rfl rfl (OR.move rfl (WO.guardYes rfl rfl rfl rfl (OR.neq rfl rfl (WO.step rfl (OR.pickF rfl rfl rfl (WO.step rfl (OR.move rfl ?_)))))))
  refine WO.guardYes rfl rfl rfl rfl (OR.move rfl ?_)
  refine WO.guardYes rfl rfl rfl rfl (OR.buildSlice (vs := [B 97, B 98]) hs T43.und T5 rfl rfl rfl rfl (by simp) ?_)
  clear hs; intro q1 w hq1 hs
  refine WO.guardYes rfl rfl rfl rfl (OR.convText hs T43.und T5.und rfl ?_)
  clear hs; intro w hs
  obtain ⟨H, hle1, hp_q1, hs9⟩ := hs.pub1 hq1; clear hs; have hs := hs9; clear hs9; replace hle := hle.trans hle1; (try replace hlb := hlb.trans hle1)
  have hab : Bytes H (.slice (some ⟨q1, 0, none⟩) 2 2) [97, 98] := Bytes.block (l := [97, 98]) (cap := 2) hp_q1 rfl (by simp)
  replace hx := hx.mono hle1
  replace hro := hro.mono hle1
  replace hs := hs.front (i := 2) rfl
  refine WO.guardYes rfl rfl rfl rfl (OR.callX (Mx := [(sb, o, true)]) (Mr := (xb, fObj c (fN 0 fwM) tb (ptr sb) (.pointer none) (.pointer none), true) :: (tb, toldObj [], true) :: (yb, fObj c2 (fN 2 0) ub (.pointer none) (ptr rb) (ptr kb), true) :: (ub, toldObj [], true) :: (kb, sinkObj (skD fwA 0 false false 0), true) :: relMem true fwA rb wb l0) hs body41 rfl rfl (fsubmit_ok c (fN 0 fwM) xb tb sb _ _ _ (newD 2 3 [] [] false) o [97, 98] _ _ (hs.view [(sb, o, true), (xb, fObj c (fN 0 fwM) tb (ptr sb) (.pointer none) (.pointer none), false)] (by simp [dropAt]) (.cons_cons _ (.cons_cons _ (List.nil_sublist _)))) hx hokD0 hab (by decide) (by decide) (by omega) (Nat.le_refl _)) rfl rfl ?_)
  clear hs; rintro v H M w hs hle1 hnew ⟨rfl, o2, rfl, hx⟩
  rw [hcn] at hx ⊢
  replace hx : SrcIn H fwD o2 := hx
  replace hle := hle.trans hle1
  replace hro := hro.mono hle1
  rw [show subE (newD 2 3 [] [] false) [97, 98] ((fN 0 fwM).base + 2 * 4) = 0 from e1]
  refine WO.guardYes rfl rfl rfl rfl (OR.neq rfl rfl (WO.step rfl (OR.pickF rfl rfl rfl (WO.done (WX.seq ?_)))))
  refine WC.no rfl rfl ?_
  refine WC.skip (WX.seq (WC.seq (WC.region (WO.step rfl (OR.move rfl ?_)))))
  refine WO.step rfl (OR.buildSlice (vs := [.int .i64 1]) hs T76.und T3 rfl rfl rfl rfl (by simp) ?_)
  clear hs; intro q2 w hq2 hs
  obtain ⟨H, hle1, hp_q2, hs9⟩ := hs.pub1 hq2; clear hs; have hs := hs9; clear hs9; replace hle := hle.trans hle1; (try replace hlb := hlb.trans hle1)
  have hi1 : Ints H (.slice (some ⟨q2, 0, none⟩) 1 1) [1] := Sl.block hp_q2 rfl rfl (by simp)
  replace hx := hx.mono hle1
  replace hro := hro.mono hle1
  replace hs : HS [] H0 w0 H ((sb, o2, true) :: (xb, fObj c (fN 0 fwM) tb (ptr sb) (.pointer none) (.pointer none), true) :: (tb, toldObj [], true) :: (yb, fObj c2 (fN 2 0) ub (.pointer none) (ptr rb) (ptr kb), true) :: (ub, toldObj [], true) :: (kb, sinkObj (skD fwA 0 false false 0), true) :: relMem true fwA rb wb l0) w := hs
  replace hs := hs.perm permOwn2
  refine WO.step rfl (OR.callX (Mx := fMem c (fN 0 fwM) xb tb (ptr sb) none none) (Mr := (sb, o2, true) :: (yb, fObj c2 (fN 2 0) ub (.pointer none) (ptr rb) (ptr kb), true) :: (ub, toldObj [], true) :: (kb, sinkObj (skD fwA 0 false false 0), true) :: relMem true fwA rb wb l0) hs body38 rfl rfl (fepoch_ok c (fN 0 fwM) xb tb (ptr sb) none none _ [1] _ _ (HS.part (M := fMem c (fN 0 fwM) xb tb (ptr sb) none none) hs) trivial (Nat.le_refl _) hi1 (by decide) (next1 (by rw [hc]; exact ⟨by decide, by show (1 : Int) < 3; omega, by show (1 : Int) ≠ 0; decide⟩)) (up1 _)) rfl (fMem_flags _ _ _ _ _ _ _) ?_)
  clear hs; rintro v H M w hs hle1 hnew ⟨nv, tb2, l9, rfl, rfl, hnx, -⟩
  replace hx := hx.mono hle1
  replace hle := hle.trans hle1
  replace hro := hro.mono hle1
  replace hs : HS [] H0 w0 H ((xb, fObj c (fwD1 nv) tb2 (ptr sb) (.pointer none) (.pointer none), true) :: (tb2, toldObj [], true) :: (sb, o2, true) :: (yb, fObj c2 (fN 2 0) ub (.pointer none) (ptr rb) (ptr kb), true) :: (ub, toldObj [], true) :: (kb, sinkObj (skD fwA 0 false false 0), true) :: relMem true fwA rb wb l0) w := hs
  have hlb := Hp.le.refl H
  refine WO.done (WX.seq (WC.seq (WC.region (WO.step rfl (OR.move rfl ?_)))))
  refine WO.step rfl (OR.call hs body37 rfl rfl (fbase_ok c (fwD1 nv) xb tb2 _ _ _ _ _ hs.toSub (hs.blk (i := 0) rfl) (hs.nh (i := 0) rfl)) ?_)
  clear hs; rintro _ H w hs hle1 rfl; replace hle := hle.trans hle1; (try replace hlb := hlb.trans hle1)
  refine WO.step rfl (OR.move rfl (WO.step rfl (OR.extract rfl rfl (WO.step rfl (OR.extract rfl rfl (WO.step rfl (OR.assign rfl ?_)))))))
  refine WO.step rfl (OR.assign rfl (WO.done (WX.seq (WC.seq (WC.region (WO.step rfl (OR.move rfl ?_)))))))
  refine WO.step rfl (OR.callX (Mx := fMem c (fwD1 nv) xb tb2 (ptr sb) none none) (Mr := (sb, o2, true) :: (yb, fObj c2 (fN 2 0) ub (.pointer none) (ptr rb) (ptr kb), true) :: (ub, toldObj [], true) :: (kb, sinkObj (skD fwA 0 false false 0), true) :: relMem true fwA rb wb l0) hs body39 rfl rfl (fhop_ok c (fwD1 nv) xb tb2 (ptr sb) none none 1 0 _ _ (HS.part (M := fMem c (fwD1 nv) xb tb2 (ptr sb) none none) hs) trivial (Nat.le_refl _) (hnx.mono hlb) (by show 0 ≤ 900; omega) (by show 1 ≤ 1000; omega) (fun p hp => by cases hp) (List.mem_singleton.2 rfl) (by omega)) rfl (fMem_flags _ _ _ _ _ _ _) ?_)
  clear hs; rintro v H M w hs hle1 hnew ⟨l9, rfl, rfl, -⟩
  replace hle := hle.trans hle1
  replace hlb := hlb.trans hle1
  replace hs : HS [] H0 w0 H ((xb, fObj c (fwD2 nv) tb2 (ptr sb) (.pointer none) (.pointer none), true) :: (tb2, toldObj [(1, 0)], true) :: (sb, o2, true) :: (yb, fObj c2 (fN 2 0) ub (.pointer none) (ptr rb) (ptr kb), true) :: (ub, toldObj [], true) :: (kb, sinkObj (skD fwA 0 false false 0), true) :: relMem true fwA rb wb l0) w := hs
  refine WO.done (WX.seq (WC.seq (WC.region (WO.step rfl (OR.move rfl ?_)))))
  refine WO.step rfl (OR.call hs body61 rfl rfl (franks_src c (fwD2 nv) xb tb2 sb _ _ fwD o2 _ _ (hs.view [(xb, fObj c (fwD2 nv) tb2 (ptr sb) (.pointer none) (.pointer none), false), (sb, o2, false)] (by simp) (.cons_cons _ (.cons _ (.cons_cons _ (List.nil_sublist _))))) (hx.mono hlb) (by rw [e2]; decide) (by omega) (by show 0 ≤ _; omega)) ?_)
  clear hs; rintro _ H w hs hle1 hrk; replace hle := hle.trans hle1; (try replace hlb := hlb.trans hle1)
  rw [e2, hcn, hcg.1] at hrk
  replace hrk : RkL H _ [(0, 2)] := hrk
  have hlk := Hp.le.refl H
  refine WO.step rfl (OR.assign rfl (WO.done (WX.seq (WC.seq (WC.region (WO.step rfl (OR.move rfl ?_)))))))
  refine WO.step rfl (OR.call hs body45 rfl rfl (fsend_src c (fwD2 nv) xb tb2 sb 0 0 none _ (.slice none 0 0) fwD o2 [] _ _ ((hs.perm permK3.symm).view [(sb, o2, false), (xb, fObj c (fwD2 nv) tb2 (ptr sb) (.pointer none) (.pointer none), false)] (by simp) (.cons_cons _ (.cons_cons _ (List.nil_sublist _)))) (hx.mono hlb) hokD (Sl.empty _ _ _) (by omega)) ?_)
  clear hs; rintro _ H w hs hle1 ⟨_, rfl, p1, p2, rfl, hp1, hp2⟩; replace hle := hle.trans hle1; (try replace hlb := hlb.trans hle1)
  rw [e3] at hp1 hp2
  obtain ⟨bp1, cp1, rfl⟩ := hp1.form
  obtain ⟨bp2, cp2, rfl⟩ := hp2.form
  rw [e5]
  replace hlk := hlk.trans hle1
  have hlp := Hp.le.refl H
  refine WO.step rfl (OR.move rfl (WO.step rfl (OR.extract rfl rfl (WO.step rfl (OR.extract rfl rfl (WO.step rfl (OR.alloc hs T45 ?_)))))))
  clear hs; intro g1 w hg1 hs
  refine WO.stepN (OR.storeAll hs T45 rfl rfl rfl rfl rfl ?_)
  clear hs; intro w hs
  refine WO.step rfl (OR.assign rfl (WO.done (WX.seq (WC.seq (WC.region (WO.step rfl (OR.move rfl ?_)))))))
  refine WO.step rfl (OR.call hs body45 rfl rfl (fsend_src c (fwD2 nv) xb tb2 sb 0 1 none _ (.slice none 0 0) fwD o2 [] _ _ (((hs.drop 0).perm permK3.symm).view [(sb, o2, false), (xb, fObj c (fwD2 nv) tb2 (ptr sb) (.pointer none) (.pointer none), false)] (by simp) (.cons_cons _ (.cons_cons _ (List.nil_sublist _)))) (hx.mono hlb) hokD (Sl.empty _ _ _) (by omega)) ?_)
  clear hs; rintro _ H w hs hle1 ⟨_, rfl, q1, q2, rfl, hq1, hq2⟩; replace hle := hle.trans hle1; (try replace hlb := hlb.trans hle1)
  rw [e4] at hq1 hq2
  obtain ⟨bq1, cq1, rfl⟩ := hq1.form
  obtain ⟨bq2, cq2, rfl⟩ := hq2.form
  rw [e5]
  replace hlk := hlk.trans hle1
  replace hlp := hlp.trans hle1
  have hlq := Hp.le.refl H
  refine WO.step rfl (OR.move rfl (WO.step rfl (OR.extract rfl rfl (WO.step rfl (OR.extract rfl rfl (WO.step rfl (OR.alloc hs T45 ?_)))))))
  clear hs; intro g2 w hg2 hs
  refine WO.stepN (OR.storeAll hs T45 rfl rfl rfl rfl rfl ?_)
  clear hs; intro w hs
  refine WO.step rfl (OR.assign rfl (WO.done (WX.seq (WC.seq (WC.region (WO.step rfl (OR.move rfl ?_)))))))
  refine WO.step rfl (OR.loadAll T45 rfl rfl (hs.blk (i := 1) rfl) rfl ?_)
  have hs9 := HS.mtail (A := [_, _, _, _, _, _, _, _]) hs
  refine WO.step rfl (OR.callX (Mx := relMem true fwA rb wb l0) (Mr := [_, _, _, _, _, _, _, _]) hs9 body43 rfl rfl (ftake_ok c2 (fN 2 0) yb ub rb wb 0 _ _ _ fwA l0 ([1, 0], [0, 0, 0]) _ _ (HS.relV (A := [_, _, _, _, _]) (B := [_, _]) hs) (hro.1.mono hlb) okA (by omega) ⟨_, _, rfl, hp1.mono hlp, hp2.mono hlp⟩) rfl (relMem_flags _ _ _ _) ?_)
  clear hs hs9; rintro v H M w hs hle1 hnew ⟨rfl, l1, rfl, hso1⟩
  replace hle := hle.trans hle1
  replace hlb := hlb.trans hle1
  replace hlk := hlk.trans hle1
  replace hlq := hlq.trans hle1
  replace hs := HS.mtail (B := [_, _, _, _, _, _, _, _]) hs
  refine WO.done (WX.seq (WC.seq (WC.region (WO.step rfl (OR.move rfl (WO.step rfl (OR.loadAll T45 rfl rfl (hs.blk (i := 0) rfl) rfl ?_)))))))
  have hs9 := HS.mtail (A := [_, _, _, _, _, _, _, _]) hs
  refine WO.step rfl (OR.callX (Mx := relMem true fwB rb wb l1) (Mr := [_, _, _, _, _, _, _, _]) hs9 body43 rfl rfl (ftake_ok c2 (fN 2 0) yb ub rb wb 0 _ _ _ fwB l1 ([0, 1], [2, 97, 98]) _ _ (HS.relV (A := [_, _, _, _, _]) (B := [_, _]) hs) hso1 okB (by omega) ⟨_, _, rfl, hq1.mono hlq, hq2.mono hlq⟩) rfl (relMem_flags _ _ _ _) ?_)
  clear hs hs9; rintro v H M w hs hle1 hnew ⟨rfl, l2, rfl, hso2⟩
  replace hle := hle.trans hle1
  replace hlb := hlb.trans hle1
  replace hlk := hlk.trans hle1
  replace hs := HS.mtail (B := [_, _, _, _, _, _, _, _]) hs
  rw [show skD fwA 0 false false 0 = skD fwC 0 false false 0 by rw [skD, skD, gA.1, gA.2, gC.1, gC.2]] at hs
  replace hs := ((hs.drop 0).drop 0)
  replace hs : HS [] H0 w0 H ([(xb, fObj c (fwD2 nv) tb2 (ptr sb) (.pointer none) (.pointer none), true), (tb2, toldObj [(1, 0)], true), (sb, o2, true)] ++ fMem c2 (fN 2 0) yb ub (.pointer none) (some ⟨fwC, rb, wb, l2⟩) (some (kb, skD fwC 0 false false 0))) w := hs
  replace hs := HS.mtail hs
  refine WO.done (WX.seq (WC.seq (WC.region (WO.step rfl (OR.move rfl ?_)))))
  refine WO.step rfl (OR.callX (Mx := fMem c2 (fN 2 0) yb ub (.pointer none) (some ⟨fwC, rb, wb, l2⟩) (some (kb, skD fwC 0 false false 0))) (Mr := [_, _, _]) hs body54 rfl rfl (frel_ok c2 (fN 2 0) yb ub kb 0 0 false (.pointer none) ⟨fwC, rb, wb, l2⟩ _ _ (HS.part hs) ⟨hso2, okC⟩ (by show 4 < fwC.g * fwC.s; rw [gC.1, gC.2]; decide) (by decide) (Ints.nil _) (by show 0 ≤ 1000; omega) (fun p hp => by cases hp)) rfl (fMem_flags _ _ _ _ _ _ _) ?_)
  clear hs; rintro v H M w hs hle1 hnew ⟨n, r, e, br, l3, rfl, hr, hgood, hdn, hend, rfl, hro2⟩
  replace hle := hle.trans hle1
  replace hlb := hlb.trans hle1
  replace hlk := hlk.trans hle1
  obtain ⟨rfl, rfl, rfl⟩ := rel_stop (m := 1) hgood hend (good1 fwC_0.1 fwC_0.2.1) (by decide) fwC_0.2.2.2
  rw [show rdyL (RelS.y ⟨fwC, rb, wb, l2⟩) 0 1 = [[97, 98]] by rw [← fwC_0.2.2.1]; rfl] at hr
  have hlr := Hp.le.refl H
  replace hs := HS.mtail hs
  replace hs : HS [] H0 w0 H (fMem c (fwD2 nv) xb tb2 (ptr sb) none none ++ ((sb, o2, true) :: fMem c2 (fN 2 1) yb ub (.pointer none) (workR (fN 2 0) (0 + 1) l3 (some ⟨fwC, rb, wb, l2⟩)) (some (kb, skD fwC 0 false false (0 + 1))))) w := hs
  refine WO.step rfl (OR.move rfl (WO.step rfl (OR.extract rfl rfl (WO.step rfl (OR.extract rfl rfl (WO.step rfl (OR.assign rfl ?_)))))))
  refine WO.step rfl (OR.assign rfl (WO.done (WX.seq (WC.seq (WC.region (WO.step rfl (OR.move rfl ?_)))))))
  refine WO.step rfl (OR.callX (Mx := fMem c (fwD2 nv) xb tb2 (ptr sb) none none) (Mr := (sb, o2, true) :: fMem c2 (fN 2 1) yb ub (.pointer none) (workR (fN 2 0) (0 + 1) l3 (some ⟨fwC, rb, wb, l2⟩)) (some (kb, skD fwC 0 false false (0 + 1)))) hs body39 rfl rfl (fhop_ok c (fwD2 nv) xb tb2 (ptr sb) none none 1 1 _ _ (HS.part (M := fMem c (fwD2 nv) xb tb2 (ptr sb) none none) hs) trivial (Nat.le_refl _) (hnx.mono hlb) (by show 1 ≤ 900; omega) (by show 1 ≤ 1000; omega) (fun p hp => by rw [List.mem_singleton.1 hp]; show 0 ≤ _; omega) (List.mem_singleton.2 rfl) (by omega)) rfl (fMem_flags _ _ _ _ _ _ _) ?_)
  clear hs; rintro v H M w hs hle1 hnew ⟨l9, rfl, rfl, -⟩
  replace hle := hle.trans hle1
  replace hlk := hlk.trans hle1
  replace hlr := hlr.trans hle1
  replace hs : HS [] H0 w0 H ((xb, fObj c (fwD3 nv) tb2 (ptr sb) (.pointer none) (.pointer none), true) :: (tb2, toldObj [(1, 1)], true) :: (sb, o2, true) :: (yb, fObj c2 (fN 2 1) ub (.pointer none) (rlV (workR (fN 2 0) (0 + 1) l3 (some ⟨fwC, rb, wb, l2⟩))) (ptr kb), true) :: (ub, toldObj [], true) :: (skMem (some (kb, skD fwC 0 false false (0 + 1))) ++ rlMem (workR (fN 2 0) (0 + 1) l3 (some ⟨fwC, rb, wb, l2⟩)))) w := hs
  refine WO.done (WX.seq (WC.seq (WC.region (WO.step rfl (OR.move rfl ?_)))))
  refine WO.step rfl (OR.call hs body37 rfl rfl (fbase_ok c (fwD3 nv) xb tb2 _ _ _ _ _ hs.toSub (hs.blk (i := 0) rfl) (hs.nh (i := 0) rfl)) ?_)
  clear hs; rintro _ H w hs hle1 rfl; replace hle := hle.trans hle1; (try replace hlb := hlb.trans hle1)
  replace hlk := hlk.trans hle1
  replace hlr := hlr.trans hle1
  refine WO.step rfl (OR.move rfl (WO.step rfl (OR.extract rfl rfl (WO.step rfl (OR.extract rfl rfl (WO.step rfl (OR.assign rfl ?_)))))))
  refine WO.step rfl (OR.assign rfl (WO.done (WX.seq (WC.seq (WC.region (WO.step rfl (OR.move rfl ?_)))))))
  refine WO.step rfl (OR.call hs body37 rfl rfl (fbase_ok c2 (fN 2 1) yb ub _ _ _ _ _ hs.toSub (hs.blk (i := 3) rfl) (hs.nh (i := 3) rfl)) ?_)
  clear hs; rintro _ H w hs hle1 rfl; replace hle := hle.trans hle1; (try replace hlb := hlb.trans hle1)
  replace hlk := hlk.trans hle1
  replace hlr := hlr.trans hle1
  obtain ⟨b1, c1, rfl⟩ := Sl.form hrk
  obtain ⟨b2, c2', rfl⟩ := hr.form
  obtain ⟨kb1, ko1, rfl, hcr⟩ := hrk.pos (by decide)
  obtain ⟨rb1, ro1, rfl, hcb⟩ := hr.pos (by decide)
  obtain ⟨v97, hv97, hb97⟩ := hcb 0 (by decide)
  refine WO.step rfl (OR.move rfl (WO.step rfl (OR.extract rfl rfl (WO.step rfl (OR.extract rfl rfl (WO.step rfl (OR.assign rfl ?_)))))))
  refine WO.step rfl (OR.assign rfl (WO.done (WX.seq (WC.seq (WC.region (WO.step rfl (OR.move rfl ?_)))))))
  refine WO.step rfl (OR.not rfl (WO.step rfl (OR.move rfl ?_)))
  refine WO.guardYes rfl rfl rfl rfl (OR.move rfl (WO.guardYes rfl rfl rfl rfl (OR.lenSlice T115.und rfl (WO.guardYes rfl rfl rfl rfl (OR.eql rfl rfl (WO.step rfl (OR.pickT rfl rfl rfl ?_)))))))
  refine WO.step rfl (OR.move rfl ?_)
  refine WO.guardYes rfl rfl rfl rfl (OR.move rfl ?_)
  refine WO.guardYes rfl rfl rfl rfl (OR.idxN 0 T115.und T174 rfl rfl rfl (by decide) ?_)
  refine WO.guardYes rfl rfl rfl rfl (OR.loadN (cs := [.int .u64 0, .int .i64 2]) T174 rfl rfl rfl (fun j u hj => hs.cell (hcell.mono hlk (hcr 0 (by decide) j u hj))) ?_)
  refine WO.guardYes rfl rfl rfl rfl (OR.buildAll T174 rfl rfl PL174 rfl rfl ?_)
  refine WO.guardYes rfl rfl rfl rfl (OR.eqlAgg Tryz.eqGuardType174 rfl rfl (rank_eq _ _ _) ?_)
  refine WO.step rfl (OR.pickT rfl rfl rfl (WO.step rfl (OR.move rfl ?_)))
  refine WO.guardYes rfl rfl rfl rfl (OR.move rfl (WO.guardYes rfl rfl rfl rfl (OR.eql rfl rfl (WO.step rfl (OR.pickT rfl rfl rfl (WO.step rfl (OR.move rfl ?_)))))))
  refine WO.guardYes rfl rfl rfl rfl (OR.move rfl (WO.guardYes rfl rfl rfl rfl (OR.lenSlice T40.und rfl (WO.guardYes rfl rfl rfl rfl (OR.eql rfl rfl (WO.step rfl (OR.pickT rfl rfl rfl ?_)))))))
  refine WO.step rfl (OR.move rfl ?_)
  refine WO.guardYes rfl rfl rfl rfl (OR.move rfl ?_)
  refine WO.guardYes rfl rfl rfl rfl (OR.idx 0 T40.und T43 rfl rfl rfl (by decide) ?_)
  refine WO.guardYes rfl rfl rfl rfl (OR.load T43 rfl rfl (hs.cell (hcell.mono hlr hv97)) ?_)
  refine WO.guardYes rfl rfl rfl rfl (OR.toStr hs T43.und T9.und T5.und rfl (hb97.mono hlr) ?_)
  refine WO.guardYes rfl rfl rfl rfl (OR.eqlStr rfl rfl (WO.step rfl (OR.pickT rfl rfl rfl (WO.step rfl (OR.move rfl ?_)))))
  refine WO.guardYes rfl rfl rfl rfl (OR.move rfl (WO.guardYes rfl rfl rfl rfl (OR.eql rfl rfl (WO.step rfl (OR.pickT rfl rfl rfl (WO.step rfl (OR.move rfl ?_)))))))
  refine WO.guardYes rfl rfl rfl rfl (OR.move rfl (WO.step rfl (OR.pickT rfl rfl rfl (WO.step rfl (OR.move rfl ?_)))))
  refine WO.guardYes rfl rfl rfl rfl (OR.move rfl (WO.guardYes rfl rfl rfl rfl (OR.eql rfl rfl (WO.step rfl (OR.pickT rfl rfl rfl (WO.step rfl (OR.move rfl ?_)))))))
  refine WO.guardYes rfl rfl rfl rfl (OR.move rfl (WO.step rfl (OR.pickT rfl rfl rfl (WO.step rfl (OR.assign rfl (WO.done (WX.seq ?_)))))))
  refine WC.ret ?_
  refine WX.ret1 rfl rfl ?_
  exact .mk (hs.sublist (List.nil_sublist _)) rfl
end Go.Bw
namespace Go.Bw
set_option linter.unusedVariables false
set_option linter.unusedSimpArgs false
open Go.Proofs
structure MovD where
  what : Int
  n : UInt8
  sent : UInt8
  b : List UInt8
abbrev movC (m : MovD) (v : Value) : List Value := [.int .i64 m.what, B m.n, B m.sent, v]
/-- A list of moves in memory. -/
def Movs (H : Hp) (v : Value) (len : Nat) (A : Nat → MovD) (V : Nat → Value) : Prop :=
  Sl H 4 v len ((List.range len).flatMap fun i => movC (A i) (V i)) ∧ ∀ i, i < len → Bytes H (V i) (A i).b ∧ (A i).b.length ≤ 9223372036854775807
theorem Movs.pos {H : Hp} {len cap : Nat} {base : Option Addr} {A : Nat → MovD} {V : Nat → Value} (h : Movs H (.slice base len cap) len A V) (hn : 0 < len) :
    ∃ b o, base = some ⟨b, o, none⟩ ∧ ∀ i, i < len → ∀ j u, (movC (A i) (V i))[j]? = some u → hcell H ((⟨b, o + i * 4, none⟩ : Addr).add j) = some u := by
  obtain ⟨b, o, h4, h5⟩ := h.1.pos hn
  refine ⟨b, o, h4, fun i hi j u hj => ?_⟩
  have h6 := (flat_get (C := fun i => movC (A i) (V i)) (sz := 4) len (fun _ _ => rfl)).2 i hi j (by have := (List.getElem?_eq_some_iff.1 hj).1; simpa using this)
  rw [add_off, Nat.add_assoc]
  exact h5 _ _ (h6.trans hj)
end Go.Bw
namespace Go.Bw
set_option linter.unusedVariables false
set_option linter.unusedSimpArgs false
open Go.Proofs
theorem HS.relVm {xs : List Nat} {H0 H : Hp} {w0 w : World} {x : RelD} {rb wb yb : Nat} {l : Slots} {A : Mem} {o : Obj} {t : Bool} (hs : HS xs H0 w0 H (A ++ relMem true x rb wb l) w) (hm : (yb, o, t) ∈ A) : HS (Mem.keys (relMem true x rb wb l)) H w H ((yb, o, false) :: relMem true x rb wb l) w := by
  have hy := hs.mem yb o t (List.mem_append_left _ hm)
  refine HS.start _ hs.sub (fun b u q h => ?_) ?_
  · rcases List.mem_cons.1 h with e | h
    · cases e
      exact ⟨hy.1, hy.2.1, fun h => by cases h⟩
    · have h1 := hs.mem b u q (List.mem_append_right _ h)
      exact ⟨h1.1, h1.2.1, fun _ => List.mem_map.2 ⟨_, h, rfl⟩⟩
  · have h1 := hs.nd
    simp only [Mem.keys, List.map_append, List.nodup_append] at h1
    refine List.nodup_cons.2 ⟨fun h9 => h1.2.2 yb (List.mem_map.2 ⟨_, hm, rfl⟩) yb h9 rfl, h1.2.1⟩
set_option maxHeartbeats 8000000 in
set_option maxRecDepth 20000 in
set_option maxHeartbeats 2000000 in
theorem fsend_any (pf : Value) (c cy : CfgD) (dx dy : FD) (xb txb sb yb tyb rb wb g7 g9 g8 : Nat) (vrx vkx vsy vky vb : Value) (tx ts ty : Bool) (cx : CfgD) (X : SrcD) (o : Obj) (y : RelD) (sl : Slots) (a : MovD) (r : RowD) (e : Int) (A : Mem) (xs : List Nat) (H0 : Hp) (w0 : World)
    (hxs : xs = Mem.keys (relMem true y rb wb sl)) (hs : HS xs H0 w0 H0 (A ++ relMem true y rb wb sl) w0) (hxb : (xb, fObj cx dx txb (ptr sb) vrx vkx, tx) ∈ A) (hsb : (sb, o, ts) ∈ A) (hyb : (yb, fObj cy dy tyb vsy (ptr rb) vky, ty) ∈ A)
    (h7 : hcell H0 ⟨g7, 0 + 2, none⟩ = some (.int .i64 (c.win : Int))) (h9 : hcell H0 ⟨g9, 0, none⟩ = some (ptr xb)) (h8 : hcell H0 ⟨g8, 0 + 1, none⟩ = some (.int .i64 (X.s : Int)))
    (hx : SrcIn H0 X o) (hX : SrcOk X) (hsl : SlotsOk H0 y sl) (hok : RelOk y) (hb : Bytes H0 vb a.b) (hbase : dy.base ≤ 1099511627776) (hw : 1 ≤ c.win ∧ c.win ≤ 16)
    (hsend : ∀ H w, Hp.le H0 H → HS xs H0 w0 H (A ++ relMem true y rb wb sl) w → Calls Tryz.prog 45 #[pf, .int .u64 ((dy.base + a.n.toNat % c.win : Nat) : Int), .int .u64 (a.sent.toNat : Int), vb] w (Pure H w fun v H' => TupR H' v r e))
    (hsent : Sent X (dy.base + a.n.toNat % c.win) r e) :
    Calls Tryz.prog 48 #[pf, ptr yb, .agg #[.int .i64 a.what, B a.n, B a.sent, vb], ptr g7, ptr g9, ptr g8] w0 (Ret xs H0 w0 fun v H' M' => v = .bool true ∧ ∃ l', M' = relMem true (if e = 0 then y.take (dy.base + a.n.toNat % c.win) r else y) rb wb l' ∧ SlotsOk H' (if e = 0 then y.take (dy.base + a.n.toNat % c.win) r else y) l') := by
  have hle := Hp.le.refl H0
  obtain ⟨bb, cb, hvb⟩ := hb.form
  subst hvb
  have hn8 := a.n.toNat_lt
  have hs8 := a.sent.toNat_lt
  have hmod : a.n.toNat % c.win < 16 := Nat.lt_of_lt_of_le (Nat.mod_lt _ (by omega)) hw.2
  refine Calls.enter (args := [pf, ptr yb, .agg #[.int .i64 a.what, B a.n, B a.sent, .slice bb a.b.length cb], ptr g7, ptr g9, ptr g8]) Tryz.func48 rfl Tryz.ntmps48 rfl ?_
  refine WC.seq (WC.region (WO.step rfl (OR.box hs rfl ?_)))
  clear hs; intro g1 w hg1 hs
  refine WO.step rfl (OR.assign rfl (WO.done (WX.seq (WC.seq (WC.region (WO.step rfl (OR.move rfl ?_)))))))
  have hmy := hs.mem yb _ ty (List.mem_cons_of_mem _ (List.mem_append_left _ hyb))
  refine WO.step rfl (OR.call hs body37 rfl rfl (fbase_ok cy dy yb tyb _ _ _ _ _ hs.toSub hmy.1 hmy.2.1) ?_)
  clear hs; rintro _ H w hs hle1 rfl; replace hle := hle.trans hle1; (try replace hlb := hlb.trans hle1)
  refine WO.step rfl (OR.move rfl (WO.step rfl (OR.extract rfl rfl (WO.step rfl (OR.extract rfl rfl (WO.step rfl (OR.assign rfl ?_)))))))
  refine WO.step rfl (OR.assign rfl (WO.done (WX.seq (WC.seq (WC.region (WO.step rfl (OR.move rfl ?_)))))))
  refine WO.step rfl (OR.fieldAddr FA87_1 rfl (WO.step rfl (OR.load T5 rfl rfl (hs.cellM (i := 0) rfl rfl) ?_)))
  refine WO.step rfl (OR.convI T5.und T22.und rfl ?_)
  rw [u64_wrap a.n.toNat (by omega)]
  refine WO.step rfl (OR.fieldAddr FA81_2 rfl ?_)
  refine WO.step rfl (OR.load T3 rfl rfl (hs.cell (hcell.mono hle h7)) ?_)
  refine WO.step rfl (OR.convI T3.und T22.und rfl ?_)
  rw [u64_wrap c.win (by omega)]
  refine WO.step rfl (OR.rem rfl rfl (by omega) ?_)
  refine WO.step rfl (OR.add rfl rfl ?_)
  rw [show (dy.base : Int) + ((a.n.toNat : Int).tmod (c.win : Int)) = ((dy.base + a.n.toNat % c.win : Nat) : Int) from rfl, u64_wrap _ (by omega)]
  obtain ⟨gen, hgen⟩ : ∃ gen, gen = dy.base + a.n.toNat % c.win := ⟨_, rfl⟩
  rw [← hgen] at hsend hsent ⊢
  have hg64 : gen < 18446744073709551616 := by omega
  refine WO.step rfl (OR.assign rfl (WO.done (WX.seq (WC.seq (WC.region (WO.step rfl (OR.move rfl ?_)))))))
  refine WO.step rfl (OR.move rfl (WO.step rfl (OR.fieldAddr FA87_2 rfl (WO.step rfl (OR.load T5 rfl rfl (hs.cellM (i := 0) rfl rfl) ?_)))))
  refine WO.step rfl (OR.convI T5.und T22.und rfl ?_)
  rw [u64_wrap a.sent.toNat (by omega)]
  refine WO.step rfl (OR.fieldAddr FA87_3 rfl (WO.step rfl (OR.load T43 rfl rfl (hs.cellM (i := 0) rfl rfl) ?_)))
  refine WO.step rfl (OR.call hs body45 rfl rfl (hsend _ _ hle (hs.drop 0)) ?_)
  clear hs; rintro _ H w hs hle1 ⟨_, rfl, r1, r2, rfl, hr1, hr2⟩; replace hle := hle.trans hle1; (try replace hlb := hlb.trans hle1)
  obtain ⟨b1, c1, rfl⟩ := hr1.form
  obtain ⟨b2, c2, rfl⟩ := hr2.form
  have hlr := Hp.le.refl H
  refine WO.step rfl (OR.move rfl (WO.step rfl (OR.extract rfl rfl (WO.step rfl (OR.extract rfl rfl (WO.step rfl (OR.alloc hs T45 ?_)))))))
  clear hs; intro g2 w hg2 hs
  refine WO.stepN (OR.storeAll hs T45 rfl rfl rfl rfl rfl ?_)
  clear hs; intro w hs
  refine WO.step rfl (OR.assign rfl (WO.done (WX.seq (WC.seq (WC.seq (WC.region (WO.step rfl ?_)))))))
  refine OR.move rfl (WO.step rfl (OR.neq rfl rfl (WO.done (WX.seq ?_))))
  rcases hsent with ⟨he, hgn, hgs, htr, hld⟩ | ⟨he, hr0⟩
  · subst he
    have hsy := symF_row hX hgn
    have hsl2 := symF_len hX hgn
    obtain ⟨n1, n2, n3, n4, n5⟩ := hX.nat
    refine WC.no rfl (decide_eq_false (by omega)) ?_
    refine WC.skip (WX.seq (WC.seq (WC.region ?_)))
    refine WO.step rfl (OR.load T82 rfl rfl (hs.cell (hcell.mono hle h9)) ?_)
    have hmx := hs.mem xb _ tx (List.mem_cons_of_mem _ (List.mem_cons_of_mem _ (List.mem_append_left _ hxb)))
    refine WO.step rfl (OR.call hs body42 rfl rfl (fsource_ok cx dx xb txb _ _ _ _ _ hs.toSub hmx.1 hmx.2.1) ?_)
    clear hs; rintro _ H w hs hle1 rfl; replace hle := hle.trans hle1; (try replace hlb := hlb.trans hle1)
    have hms := hs.mem sb _ ts (List.mem_cons_of_mem _ (List.mem_cons_of_mem _ (List.mem_append_left _ hsb)))
    replace hlr := hlr.trans hle1
    refine WO.step rfl (OR.move rfl ?_)
    refine WO.step rfl (OR.call hs body49 rfl rfl (symbols_ok sb gen X o _ _ hs.toSub hms.1 hms.2.1 (hx.mono hle) hX) ?_)
    clear hs; rintro _ H w hs hle1 ⟨vy, rfl, hvy⟩; replace hle := hle.trans hle1; (try replace hlb := hlb.trans hle1)
    rw [thereE, if_pos hgn]
    replace hlr := hlr.trans hle1
    have hly := Hp.le.refl H
    refine WO.step rfl (OR.move rfl (WO.step rfl (OR.extract rfl rfl (WO.step rfl (OR.extract rfl rfl (WO.step rfl (OR.assign rfl ?_)))))))
    refine WO.step rfl (OR.assign rfl (WO.done (WX.seq (WC.seq (WC.seq ?_)))))
    refine WC.draw 19 mixed hs (by kernel_rfl) ?_
    refine ⟨MF.eq _, by intro Mx H w hle hs; refine forVals_nil (ORg.plain (OR.move rfl ?_)); exact ⟨_, [], Hp.le.refl _, hs, rfl, rfl⟩, ?_⟩
    refine ⟨MF.eq _, by intro Mx H w hle hs; refine forVals_eq rfl rfl rfl ?_; refine forVals_nil (ORg.plain (OR.neq rfl rfl ?_)); exact ⟨_, [], Hp.le.refl _, hs, rfl, rfl⟩, ?_⟩
    refine ⟨MF.eq _, by intro Mx H w hle hs; refine forVals_eq rfl rfl rfl ?_; refine forVals_nil (ORg.plain (OR.move rfl ?_)); exact ⟨_, [], Hp.le.refl _, hs, rfl, rfl⟩, ?_⟩
    refine ⟨MF.eq _, by intro Mx H w hle hs; refine forVals_eq rfl rfl rfl ?_; refine forVals_nil (ORg.yes rfl rfl rfl (OR.fieldAddr FA45_0 rfl ?_)); exact ⟨_, [], Hp.le.refl _, hs, rfl, rfl⟩, ?_⟩
    refine ⟨MF.eq _, by intro Mx H w hle hs; refine forVals_eq rfl rfl rfl ?_; refine forVals_eq rfl rfl rfl ?_; refine forVals_nil (ORg.yes rfl rfl rfl (OR.load T43 rfl rfl (hs.right.cellM (i := 0) rfl rfl) ?_)); exact ⟨_, [], Hp.le.refl _, hs, rfl, rfl⟩, ?_⟩
    refine ⟨MF.eq (.bool false), ?_, ?_⟩
    · intro Mx H w hle2 hs; (try replace hle := hle.trans hle2); (try replace hlb := hlb.trans hle2); refine forVals_eq rfl rfl rfl ?_; refine forVals_eq rfl rfl rfl ?_
      refine forVals_nil (ORg.yes rfl rfl rfl (OR.call hs body50 rfl rfl (isZero_ok _ _ _ _ hs.toSub (hr1.mono (hlr.trans hle2)) (by have := hgs.1; omega)) ?_))
      clear hs; rintro _ H w hs hle1 rfl
      exact ⟨_, [], hle1, hs, (by rw [decide_eq_false hld]), rfl⟩
    refine ⟨MF.eq _, by intro Mx H w hle hs; refine forVals_eq rfl rfl rfl ?_; refine forVals_eq rfl rfl rfl ?_; refine forVals_nil (ORg.plain (OR.pickF rfl rfl rfl ?_)); exact ⟨_, [], Hp.le.refl _, hs, rfl, rfl⟩, ?_⟩
    refine ⟨MF.eq _, by intro Mx H w hle hs; refine forVals_eq rfl rfl rfl ?_; refine forVals_nil (ORg.plain (OR.move rfl ?_)); exact ⟨_, [], Hp.le.refl _, hs, rfl, rfl⟩, ?_⟩
    refine ⟨MF.eq _, by intro Mx H w hle hs; refine forVals_eq rfl rfl rfl ?_; refine forVals_nil (ORg.yes rfl rfl rfl (OR.fieldAddr FA45_1 rfl ?_)); exact ⟨_, [], Hp.le.refl _, hs, rfl, rfl⟩, ?_⟩
    refine ⟨MF.eq _, by intro Mx H w hle hs; refine forVals_eq rfl rfl rfl ?_; refine forVals_eq rfl rfl rfl ?_; refine forVals_nil (ORg.yes rfl rfl rfl (OR.load T43 rfl rfl (hs.right.cellM (i := 0) rfl rfl) ?_)); exact ⟨_, [], Hp.le.refl _, hs, rfl, rfl⟩, ?_⟩
    refine ⟨MF.eq _, by intro Mx H w hle hs; refine forVals_eq rfl rfl rfl ?_; refine forVals_nil (ORg.yes rfl rfl rfl (OR.fieldAddr FA45_0 rfl ?_)); exact ⟨_, [], Hp.le.refl _, hs, rfl, rfl⟩, ?_⟩
    refine ⟨MF.eq _, by intro Mx H w hle hs; refine forVals_eq rfl rfl rfl ?_; refine forVals_eq rfl rfl rfl ?_; refine forVals_nil (ORg.yes rfl rfl rfl (OR.load T43 rfl rfl (hs.right.cellM (i := 0) rfl rfl) ?_)); exact ⟨_, [], Hp.le.refl _, hs, rfl, rfl⟩, ?_⟩
    refine ⟨MF.eq _, by intro Mx H w hle hs; refine forVals_eq rfl rfl rfl ?_; refine forVals_nil (ORg.yes rfl rfl rfl (OR.move rfl ?_)); exact ⟨_, [], Hp.le.refl _, hs, rfl, rfl⟩, ?_⟩
    refine ⟨MF.eq _, by intro Mx H w hle hs; refine forVals_eq rfl rfl rfl ?_; refine forVals_nil (ORg.yes rfl rfl rfl (OR.fieldAddr FA78_1 rfl ?_)); exact ⟨_, [], Hp.le.refl _, hs, rfl, rfl⟩, ?_⟩
    refine ⟨MF.eq (.int .i64 (X.s : Int)), ?_, ?_⟩
    · intro Mx H w hle2 hs; (try replace hle := hle.trans hle2); (try replace hlb := hlb.trans hle2); refine forVals_eq rfl rfl rfl ?_; refine forVals_eq rfl rfl rfl ?_
      refine forVals_nil (ORg.yes rfl rfl rfl (OR.load T3 rfl rfl (hs.cell (hcell.mono hle h8)) ?_))
      exact ⟨_, [], Hp.le.refl _, hs, rfl, rfl⟩
    refine ⟨MF.bytes (Bw.comb X.s (symF X gen) r.1), ?_, ?_⟩
    · intro Mx H w hle2 hs; (try replace hle := hle.trans hle2); (try replace hlb := hlb.trans hle2); refine forVals_eq rfl rfl rfl ?_; refine forVals_eq rfl rfl rfl ?_; refine forVals_eq rfl rfl rfl ?_; refine forVals_eq rfl rfl rfl ?_
      refine forVals_nil (ORg.yes rfl rfl rfl (OR.call hs body52 rfl rfl (times_ok _ _ r.1 (symF X gen) X.s _ _ hs.toSub (hr1.mono (hlr.trans hle2)) (hvy.mono hle2) hsy n4 (by have := hgs.1; omega) (by omega)) ?_))
      clear hs; rintro _ H w hs hle1 hv15
      exact ⟨_, [], hle1, hs, hv15, rfl⟩
    refine ⟨MF.eq (.bool true), ?_, ?_⟩
    · intro Mx H w hle2 hs; (try replace hle := hle.trans hle2); (try replace hlb := hlb.trans hle2); refine forVals_eq rfl rfl rfl ?_; refine forVals_of rfl rfl rfl ?_; intro v15 h15; refine forVals_eq rfl rfl rfl ?_
      refine forVals_nil (ORg.yes rfl rfl rfl (OR.call hs body51 rfl rfl (equal_ok _ _ r.2 (Bw.comb X.s (symF X gen) r.1) _ _ hs.toSub (hr2.mono (hlr.trans hle2)) h15) ?_))
      clear hs; rintro _ H w hs hle1 rfl
      exact ⟨_, [], hle1, hs, (by rw [decide_eq_true (htr.pay hgs hsy)]), rfl⟩
    refine ⟨MF.eq _, by intro Mx H w hle hs; refine forVals_eq rfl rfl rfl ?_; refine forVals_eq rfl rfl rfl ?_; refine forVals_nil (ORg.yes rfl rfl rfl (OR.not rfl ?_)); exact ⟨_, [], Hp.le.refl _, hs, rfl, rfl⟩, ?_⟩
    refine ⟨MF.eq _, by intro Mx H w hle hs; refine forVals_eq rfl rfl rfl ?_; refine forVals_eq rfl rfl rfl ?_; refine forVals_nil (ORg.plain (OR.pickF rfl rfl rfl ?_)); exact ⟨_, [], Hp.le.refl _, hs, rfl, rfl⟩, ?_⟩
    intro H w hle2; (try replace hle := hle.trans hle2); (try replace hlb := hlb.trans hle2)
    refine forAllVals_eq rfl ?_
    refine forAllVals_eq rfl ?_
    refine forAllVals_eq rfl ?_
    refine forAllVals_eq rfl ?_
    refine forAllVals_eq rfl ?_
    refine forAllVals_eq rfl ?_
    refine forAllVals_eq rfl ?_
    refine forAllVals_eq rfl ?_
    refine forAllVals_eq rfl ?_
    refine forAllVals_eq rfl ?_
    refine forAllVals_eq rfl ?_
    refine forAllVals_eq rfl ?_
    refine forAllVals_eq rfl ?_
    refine forAllVals_eq rfl ?_
    refine forAllVals_eq rfl ?_
    refine forAllVals_of rfl ?_; intro v15 h15
    refine forAllVals_eq rfl ?_
    refine forAllVals_eq rfl ?_
    refine forAllVals_eq rfl ?_
    refine forAllVals_nil ?_; (try clear hs); intro hs
    replace hlr := hlr.trans hle2
    refine WO.done (WX.seq ?_)
    refine WC.no rfl rfl ?_
    refine WC.skip (WX.seq (WC.seq (WC.region (WO.step rfl (OR.move rfl (WO.step rfl (OR.move rfl ?_)))))))
    refine WO.step rfl (OR.loadAll T45 rfl rfl (hs.blk (i := 0) rfl) rfl ?_)
    have hs9 := HS.mtail (A := _ :: _ :: A) hs
    refine WO.step rfl (OR.callX (Mx := relMem true y rb wb sl) (Mr := _ :: _ :: A) hs9 body43 rfl rfl (ftake_ok cy dy yb tyb rb wb gen vsy vky _ y sl r _ _ (HS.relVm (A := _ :: _ :: A) hs (List.mem_cons_of_mem _ (List.mem_cons_of_mem _ hyb))) (hsl.mono hle) hok hg64 ⟨_, _, rfl, hr1.mono hlr, hr2.mono hlr⟩) rfl (relMem_flags _ _ _ _) ?_)
    clear hs hs9; rintro v H2 M w hs hle1 hnew ⟨rfl, l', rfl, hso⟩
    refine WO.done (WX.seq (WC.seq (WC.region (WO.step rfl (OR.assign rfl (WO.done (WX.seq ?_)))))))
    refine WC.ret ?_
    refine WX.ret1 rfl rfl ?_
    exact ⟨_, H2, relMem true (y.take gen r) rb wb l', rfl, hs.sublist (List.sublist_append_left _ _), List.all_eq_true.1 (relMem_flags _ _ _ _), rfl, l', by rw [if_pos rfl], by rw [if_pos rfl]; exact hso⟩
  · have hr9 := hr0
    refine WC.yes rfl (decide_eq_true he) ?_
    refine WC.seq (WC.region (WO.step rfl (OR.fieldAddr FA45_0 rfl (WO.step rfl (OR.load T43 rfl rfl (hs.cellM (i := 0) rfl rfl) (WO.step rfl (OR.lenSlice T43.und rfl ?_)))))))
    refine WO.step rfl (OR.eql rfl rfl (WO.step rfl (OR.assign rfl (WO.done (WX.seq (WC.ret (WX.seq_ret ?_)))))))
    refine WX.ret1 rfl rfl ?_
    refine ⟨_, H, relMem true y rb wb sl, rfl, hs.sublist (List.sublist_append_right (_ :: _ :: A) _), List.all_eq_true.1 (relMem_flags _ _ _ _), by rw [hr0]; rfl, sl, by rw [if_neg he], by rw [if_neg he]; exact hsl.mono hle⟩
end Go.Bw
namespace Go.Bw
set_option linter.unusedVariables false
set_option linter.unusedSimpArgs false
open Go.Proofs
theorem HS.shrink {xs : List Nat} {H0 H K : Hp} {w0 w : World} {M : Mem} (hs : HS xs H0 w0 H M w) (h0 : Hp.le H0 K) (hK : Hp.le K H) : HS xs H0 w0 K M w :=
  ⟨h0, fun b o h => hs.sub b o (hK b o h), fun b o h => hs.new b o (hK b o h), hs.keep, hs.size, hs.os, hs.tape, hs.out, (fun g o t hm => by
    have h1 := hs.mem g o t hm
    refine ⟨h1.1, ?_, h1.2.2⟩
    cases hk : K g with
    | none => rfl
    | some u =>
      have h2 := hK g u hk
      rw [h1.2.1] at h2
      cases h2), hs.nd⟩
/-- A block known anew. -/
theorem HS.learn {xs : List Nat} {H0 K : Hp} {w0 w : World} {M Ml : Mem} {g : Nat} {o : Obj} (hs : HS xs H0 w0 K (M ++ Ml) w) (hg : w.heap[g]? = some o) (hK : K g = none) (hM : g ∉ Mem.keys (M ++ Ml)) (hn : w0.heap.size ≤ g) : HS xs H0 w0 K (M ++ ((g, o, true) :: Ml)) w := by
  have h1 : HS xs H0 w0 K ((g, o, true) :: (M ++ Ml)) w := by
    refine ⟨hs.le, hs.sub, hs.new, hs.keep, hs.size, hs.os, hs.tape, hs.out, fun q u t hm => ?_, List.nodup_cons.2 ⟨hM, hs.nd⟩⟩
    rcases List.mem_cons.1 hm with e | hm
    · cases e
      exact ⟨hg, hK, fun _ => .inr hn⟩
    · exact hs.mem q u t hm
  exact h1.perm List.perm_middle
/-- What was told to a call stays the caller's. -/
theorem HS.regain {H0 H2 K : Hp} {w0 w : World} {M Mo : Mem} {e : TypeId} {sz n : Nat} {vo : Value} {cs : List Value} (hs : HS [] H0 w0 H2 M w) (h0 : Hp.le H0 K) (hK : Hp.le K H2) (ho : Own w0.heap.size e sz vo n cs Mo) (hin : ∀ p ∈ Mo, H2 p.1 = some p.2.1) (hno : ∀ p ∈ Mo, K p.1 = Option.none) : HS [] H0 w0 K (M ++ Mo) w := by
  have h1 := hs.shrink h0 hK
  have ho2 := ho
  obtain ⟨hl, ⟨rfl, ⟨b9, rfl⟩, rfl⟩ | ⟨g, c, cap, rfl, rfl, hn, hc, hx, hg⟩⟩ := ho
  · rw [List.append_nil]; exact h1
  · have h3 := hin (g, .cells c e, true) (by simp)
    simp only at h3
    have hM : g ∉ Mem.keys (M ++ []) := by
      rw [List.append_nil]
      intro hm
      obtain ⟨⟨q, o, t⟩, hq, e⟩ := List.mem_map.1 hm
      simp only at e
      subst e
      have h6 := (hs.mem q o t hq).2.1
      rw [h3] at h6
      cases h6
    exact HS.learn (Ml := []) (by rw [List.append_nil]; exact h1) (hs.sub _ _ h3) (hno (g, .cells c e, true) (by simp)) hM hg
/-- What is owned is lent to a call that reads it. -/
theorem HS.lend {H0 H : Hp} {w0 w : World} {M Mo : Mem} {e : TypeId} {sz n : Nat} {vo : Value} {cs : List Value} (hs : HS [] H0 w0 H (M ++ Mo) w) (ho : Own w0.heap.size e sz vo n cs Mo) :
    ∃ H2, Hp.le H H2 ∧ HS [] H0 w0 H2 M w ∧ (∀ p ∈ Mo, H2 p.1 = some p.2.1) ∧ (∀ p ∈ Mo, H p.1 = Option.none) ∧ Sl H2 sz vo n cs := by
  have h1 := hs.perm (List.perm_append_comm (l₁ := Mo) (l₂ := M))
  have ho2 := ho
  obtain ⟨hl, ⟨rfl, ⟨b9, rfl⟩, rfl⟩ | ⟨g, c, cap, rfl, rfl, hn, hc, hx, hg⟩⟩ := ho
  · have : cs = [] := List.eq_nil_of_length_eq_zero (by simpa using hl)
    subst this
    exact ⟨H, .refl H, h1, (fun p hp => by cases hp), (fun p hp => by cases hp), Sl.empty _ sz b9⟩
  · have h0 := h1.mem g (.cells c e) true (by simp)
    exact ⟨H.put g (.cells c e), Hp.le_put h0.2.1 _, HS.publish h1 hg, (fun p hp => by rw [List.mem_singleton.1 hp]; exact Hp.put_same ..), (fun p hp => by rw [List.mem_singleton.1 hp]; exact h0.2.1), Sl.block (Hp.put_same ..) hl hx hn⟩
end Go.Bw
namespace Go.Bw
set_option linter.unusedVariables false
set_option linter.unusedSimpArgs false
open Go.Proofs
theorem HS.mid {xs : List Nat} {H0 H : Hp} {w0 w : World} {A B C : Mem} (h : HS xs H0 w0 H (A ++ (B ++ C)) w) : HS xs H0 w0 H (B ++ (A ++ C)) w :=
  h.perm (by rw [← List.append_assoc, ← List.append_assoc]; exact List.Perm.append_right _ List.perm_append_comm)
theorem Calls.lift {P : Program} {f : FuncId} {args : Array Value} {xs xs' : List Nat} {H0 H : Hp} {w0 w : World} {Mx Mr : Mem} {C : Value → Hp → Mem → Prop} {R : Ending → World → Prop} (hs : HS xs H0 w0 H (Mx ++ Mr) w) (hc : Calls P f args w (Ret xs' H w C)) (hk : Mem.keys Mx = xs') (ht : ∀ p ∈ Mx, p.2.2 = true)
    (hR : ∀ v H' M' w', HS xs H0 w0 H' (M' ++ Mr) w' → H.le H' → C v H' M' → R (.returned v) w') : Calls P f args w R := by
  refine hc.mono ?_
  rintro e w' ⟨v, H', M', rfl, k, hM, hC⟩
  exact hR v H' M' w' (hs.after k rfl hk ht hM) k.le hC
/-- The same blocks, to be read only. -/
def roM (A : Mem) : Mem := A.map fun p => (p.1, p.2.1, false)
theorem roM_keys (A : Mem) : Mem.keys (roM A) = Mem.keys A := by simp [roM, Mem.keys]
theorem roM_app (A B : Mem) : roM (A ++ B) = roM A ++ roM B := by simp [roM]
theorem roM_rel (x : RelD) (rb wb : Nat) (l : Slots) (t : Bool) : roM (relMem t x rb wb l) = relMem false x rb wb l := by
  unfold relMem roM
  simp only [List.map_cons]
  congr 2
  induction l with
  | nil => rfl
  | cons y l ih =>
    show List.map _ (slotMem x.g x.s t (y :: l)) = slotMem x.g x.s false (y :: l)
    unfold slotMem at ih ⊢
    rw [List.flatMap_cons, List.flatMap_cons, List.map_append, ih]
    congr 1
    cases y with
    | none => rfl
    | some p => rfl
theorem HS.lendTo {xs : List Nat} {H0 H : Hp} {w0 w : World} {B A : Mem} (hs : HS xs H0 w0 H (B ++ A) w) : HS (Mem.keys B) H w H (roM A ++ B) w := by
  have hs := hs.mtail
  refine HS.start _ hs.sub (fun b o t h => ?_) ?_
  · rcases List.mem_append.1 h with h | h
    · obtain ⟨p, hp, e⟩ := List.mem_map.1 h
      cases e
      have h1 := hs.mem p.1 p.2.1 p.2.2 (List.mem_append_left _ hp)
      exact ⟨h1.1, h1.2.1, fun h => by cases h⟩
    · have h1 := hs.mem b o t (List.mem_append_right _ h)
      exact ⟨h1.1, h1.2.1, fun _ => List.mem_map.2 ⟨_, h, rfl⟩⟩
  · have h1 := hs.nd
    unfold Mem.keys at h1 ⊢
    rw [List.map_append] at h1 ⊢
    have e : List.map (·.1) (roM A) = List.map (·.1) A := roM_keys A
    rw [e]
    exact h1
theorem HS.viewSub {xs : List Nat} {H0 H : Hp} {w0 w : World} {M M' : Mem} (hs : HS xs H0 w0 H M w) (h : M'.Sublist M) (hf : ∀ p ∈ M', p.2.2 = false) : HS [] H w H M' w :=
  HS.view hs M' (fun p hp => ⟨⟨p.2.2, h.subset hp⟩, fun ht => by rw [hf p hp] at ht; cases ht⟩) (h.map _)

/-- A part with one next hop. -/
structure Hop1 (k : Int) (d : FD) : Prop where
  next : d.next = [k]
  told : d.told = [] ∨ ∃ n, n ≤ 1099511627776 ∧ d.told = [(k, n)]
  base : d.base ≤ 1099511627776
theorem Hop1.put {k : Int} {d : FD} (h : Hop1 k d) (n : Nat) : toldPut d.told k n = [(k, n)] := by
  rcases h.told with h1 | ⟨m, _, h1⟩
  · rw [h1]; rfl
  · rw [h1]; simp [toldPut]
theorem Hop1.len {k : Int} {d : FD} (h : Hop1 k d) : d.told.length ≤ 900 ∧ d.next.length ≤ 1000 ∧ ∀ p ∈ d.told, p.2 ≤ 1099511627776 := by
  rw [h.next]
  rcases h.told with h1 | ⟨m, hm, h1⟩
  · rw [h1]; exact ⟨by show 0 ≤ 900; omega, by show 1 ≤ 1000; omega, fun p hp => by cases hp⟩
  · rw [h1]; exact ⟨by show 1 ≤ 900; omega, by show 1 ≤ 1000; omega, fun p hp => by rw [List.mem_singleton.1 hp]; exact hm⟩
theorem Hop1.idle {k : Int} {d : FD} (h : Hop1 k d) (n : Nat) : ¬ ((d.hop k n).idle = true) := by
  intro h9
  have h1 : (toldPut d.told k n).length < d.next.length := of_decide_eq_true h9
  rw [h.put, h.next] at h1
  exact Nat.lt_irrefl _ h1
theorem Hop1.hop {k : Int} {d : FD} (h : Hop1 k d) {n : Nat} (hn : n ≤ 1099511627776) : Hop1 k ((d.hop k n).work 1099511627776) ∧ ((d.hop k n).work 1099511627776).base = n ∧ ((d.hop k n).work 1099511627776).nv = d.nv ∧ leastN 1099511627776 (d.hop k n).told = n := by
  have e : (d.hop k n).work 1099511627776 = { d.hop k n with base := leastN 1099511627776 (toldPut d.told k n), worked := true } := by rw [FD.work, if_neg (h.idle n)]; rfl
  have hl : leastN 1099511627776 (toldPut d.told k n) = n := by rw [h.put]; simp only [leastN]; omega
  rw [e]
  refine ⟨⟨h.next, .inr ⟨n, hn, h.put n⟩, ?_⟩, hl, rfl, hl⟩
  show leastN 1099511627776 (toldPut d.told k n) ≤ _
  rw [hl]; exact hn
theorem Hop1.epoch {k node : Int} {b B : Nat} (nv : Value) (hb : b ≤ 1099511627776) : ((fN node b).epoch [k] nv).work B = (fN node b).epoch [k] nv ∧ ((fN node b).epoch [k] nv).idle = true ∧ Hop1 k ((fN node b).epoch [k] nv) :=
  ⟨rfl, rfl, rfl, .inl rfl, hb⟩

structure FtD where
  dx : FD
  dy : FD
  txb : Nat
  tyb : Nat
  tzb : Nat
  o : Obj
  X : SrcD
  Ry : RelS
  Rz : RelS
  dl : Nat
  kb : Nat
  Ma : Mem
  Mg : Mem
def ftZ (c : CfgD) (zb : Nat) (q : FtD) : Mem := fMem c (fN 2 q.dl) zb q.tzb (.pointer none) (some q.Rz) (some (q.kb, ⟨c.g, c.s, q.dl, 0, false, false⟩))
def ftY (c : CfgD) (yb : Nat) (q : FtD) : Mem := fMem c q.dy yb q.tyb (.pointer none) (some q.Ry) none
def ftX (c : CfgD) (sb xb : Nat) (q : FtD) : Mem := fMem c q.dx xb q.txb (ptr sb) none none
def FtM (c : CfgD) (sb xb yb zb : Nat) (q : FtD) : Mem := (sb, q.o, true) :: (ftX c sb xb q ++ (ftY c yb q ++ (ftZ c zb q ++ (q.Ma ++ q.Mg))))
structure FtI (c : CfgD) (i N : Nat) (H0 HB H : Hp) (q : FtD) (st gl : List UInt8) (va vg : Value) : Prop where
  le : Hp.le H0 H
  lb : Hp.le HB H
  ok : SrcOk q.X
  gs : q.X.g = c.g ∧ q.X.s = c.s
  cl : q.X.cl = false
  cuts : q.X.cuts.length ≤ i
  src : SrcIn H q.X q.o
  oy : RlOk H (some q.Ry)
  oz : RlOk H (some q.Rz)
  ty : Tru q.X c.win q.Ry.y
  tz : Tru q.X c.win q.Rz.y
  ey : q.Ry.y.base = q.dy.base
  ez : q.Rz.y.base = q.dl
  dl : q.dl ≤ q.X.chunks.length
  hx : Hop1 1 q.dx
  hy : Hop1 2 q.dy
  nx : Ints H q.dx.nv [1]
  ny : Ints H q.dy.nv [2]
  all : Own N 5 1 va st.length (st.map B) q.Ma
  got : Own N 5 1 vg gl.length (gl.map B) q.Mg
section
variable {c : CfgD} {i N : Nat} {H0 HB H : Hp} {q : FtD} {st gl : List UInt8} {va vg : Value} {w0 w : World} {sb xb yb zb : Nat}
theorem FtI.mono {H' : Hp} (h : FtI c i N H0 HB H q st gl va vg) (hle : Hp.le H H') : FtI c i N H0 HB H' q st gl va vg :=
  ⟨h.le.trans hle, h.lb.trans hle, h.ok, h.gs, h.cl, h.cuts, h.src.mono hle, h.oy.mono hle, h.oz.mono hle, h.ty, h.tz, h.ey, h.ez, h.dl, h.hx, h.hy, h.nx.mono hle, h.ny.mono hle, h.all, h.got⟩
theorem FtI.grow (h : FtI c i N H0 HB H q st gl va vg) {X' : SrcD} {o' : Obj} {i' : Nat} (hok : SrcOk X') (hp : q.X.chunks <+: X'.chunks) (hg : X'.g = q.X.g ∧ X'.s = q.X.s) (hcl : X'.cl = false) (hcu : X'.cuts.length ≤ i') (hx : SrcIn H X' o') : FtI c i' N H0 HB H { q with o := o', X := X' } st gl va vg :=
  ⟨h.le, h.lb, hok, ⟨hg.1.trans h.gs.1, hg.2.trans h.gs.2⟩, hcl, hcu, hx, h.oy, h.oz, h.ty.grow hp hg.1 hg.2, h.tz.grow hp hg.1 hg.2, h.ey, h.ez, Nat.le_trans h.dl hp.length_le, h.hx, h.hy, h.nx, h.ny, h.all, h.got⟩
theorem FtI.later (h : FtI c i N H0 HB H q st gl va vg) {i' : Nat} (hi : i ≤ i') : FtI c i' N H0 HB H q st gl va vg := { h with cuts := Nat.le_trans h.cuts hi }
theorem subD_same (x : SrcD) (l : List UInt8) (m : Nat) : (subD x l m).g = x.g ∧ (subD x l m).s = x.s ∧ (subD x l m).cl = x.cl ∧ (subD x l m).cuts = x.cuts := by
  unfold subD
  split
  · exact ⟨rfl, rfl, rfl, rfl⟩
  · split
    · exact ⟨rfl, rfl, rfl, rfl⟩
    · exact ⟨rfl, rfl, rfl, rfl⟩
theorem subD_st {x : SrcD} (h : x.cl = false) (l : List UInt8) (m : Nat) : (subE x l m = 0 ∧ (subD x l m).st = x.st ++ l) ∨ (subE x l m = 7 ∧ (subD x l m).st = x.st) := by
  have hc : ¬ x.cl = true := by rw [h]; decide
  by_cases hf : subFits x l m
  · have e1 : subE x l m = 0 := by rw [subE, if_neg hc, if_pos hf]
    have e2 : subD x l m = longD x l := by rw [subD, if_neg hc, if_pos hf]
    rw [e1, e2]; exact .inl ⟨rfl, rfl⟩
  · have e1 : subE x l m = 7 := by rw [subE, if_neg hc, if_neg hf]
    have e2 : subD x l m = x := by rw [subD, if_neg hc, if_neg hf]
    rw [e1, e2]; exact .inr ⟨rfl, rfl⟩
theorem flushD_same {x : SrcD} (h : x.cl = false) : (flushD x).g = x.g ∧ (flushD x).s = x.s ∧ (flushD x).cl = false ∧ (flushD x).cuts.length ≤ x.cuts.length + 1 ∧ (flushD x).st = x.st := by
  unfold flushD
  rw [if_neg (by rw [h]; decide)]
  unfold cutD
  split
  · exact ⟨rfl, rfl, h, Nat.le_succ _, rfl⟩
  · exact ⟨rfl, rfl, h, by simp, rfl⟩
theorem ft_submit (hI : FtI c i N H0 HB H q st gl va vg) (hs : HS [] H0 w0 H (FtM c sb xb yb zb q) w) (hi : i ≤ 1000) (hw : c.win ≤ 16) {bv : Value} {l : List UInt8} (hl : Bytes H bv l) (hll : l.length ≤ 9223372036854775807) :
    Calls Tryz.prog 41 #[ptr xb, bv] w (fun e w' => ∃ H' o', e = .returned (.int .i64 (subE q.X l (q.dx.base + 2 * c.win))) ∧ Hp.le H H' ∧ FtI c i N H0 HB H' { q with o := o', X := subD q.X l (q.dx.base + 2 * c.win) } st gl va vg ∧ HS [] H0 w0 H' (FtM c sb xb yb zb { q with o := o', X := subD q.X l (q.dx.base + 2 * c.win) }) w') := by
  have hcu := hI.cuts
  refine Calls.lift (Mx := [(sb, q.o, true)]) hs (fsubmit_ok c q.dx xb q.txb sb _ _ bv q.X q.o l H w (hs.view [(sb, q.o, true), (xb, fObj c q.dx q.txb (ptr sb) (.pointer none) (.pointer none), false)] (by simp [FtM, ftX, fMem, rlV, skV]) (.cons_cons _ (.cons_cons _ (List.nil_sublist _)))) hI.src hI.ok hl hll (by omega) hw hI.hx.base) rfl (by simp) ?_
  rintro v H' M' w' hs' hle ⟨rfl, o', rfl, hx'⟩
  obtain ⟨e1, e2, e3, e4⟩ := subD_same q.X l (q.dx.base + 2 * c.win)
  exact ⟨H', o', rfl, hle, (hI.mono hle).grow (hI.ok.sub _ _) (hI.ok.sub_prefix _ _) ⟨e1, e2⟩ (by rw [e3]; exact hI.cl) (by rw [e4]; exact hI.cuts) hx', hs'⟩
theorem ft_flush (hI : FtI c i N H0 HB H q st gl va vg) (hs : HS [] H0 w0 H (FtM c sb xb yb zb q) w) (hi : i ≤ 1000) :
    Calls Tryz.prog 53 #[ptr xb] w (fun e w' => ∃ H' o' v, e = .returned v ∧ Hp.le H H' ∧ FtI c (i + 1) N H0 HB H' { q with o := o', X := flushD q.X } st gl va vg ∧ HS [] H0 w0 H' (FtM c sb xb yb zb { q with o := o', X := flushD q.X }) w') := by
  have hcu := hI.cuts
  refine Calls.lift (Mx := [(sb, q.o, true)]) hs (fflush_ok c q.dx xb q.txb sb _ _ q.X q.o H w (hs.view [(sb, q.o, true), (xb, fObj c q.dx q.txb (ptr sb) (.pointer none) (.pointer none), false)] (by simp [FtM, ftX, fMem, rlV, skV]) (.cons_cons _ (.cons_cons _ (List.nil_sublist _)))) hI.src hI.ok (by omega)) rfl (by simp) ?_
  rintro v H' M' w' hs' hle ⟨rfl, o', rfl, hx'⟩
  obtain ⟨e1, e2, e3, e4, _⟩ := flushD_same hI.cl
  exact ⟨H', o', _, rfl, hle, (hI.mono hle).grow hI.ok.flush hI.ok.flush_prefix ⟨e1, e2⟩ e3 (by omega) hx', hs'⟩
theorem take_base (x : RelD) (gen : Nat) (r : RowD) : (x.take gen r).base = x.base := by
  unfold RelD.take
  split <;> rfl
/-- What a row that came leaves of a relay. -/
theorem sent_tru {X : SrcD} {W : Nat} {y : RelD} {gen : Nat} {r : RowD} {e : Int} (h : Tru X W y) (hW : 0 < W) (hS : Sent X gen r e) : Tru X W (if e = 0 then y.take gen r else y) ∧ (if e = 0 then y.take gen r else y).base = y.base := by
  rcases hS with ⟨rfl, h1, h2, h3, _⟩ | ⟨he, _⟩
  · rw [if_pos rfl]; exact ⟨h.take hW h1 h2 h3, take_base _ _ _⟩
  · rw [if_neg he]; exact ⟨h, rfl⟩
theorem sent_ok {y : RelD} {gen : Nat} {r : RowD} {e : Int} (h : RelOk y) : RelOk (if e = 0 then y.take gen r else y) := by
  split
  · exact h.take _ _
  · exact h
/-- What the passing on of a row needs to know of the law's own slots. -/
structure FtG (c : CfgD) (xb g7 g9 g8 : Nat) (H : Hp) : Prop where
  h7 : hcell H ⟨g7, 0 + 2, none⟩ = some (.int .i64 (c.win : Int))
  h9 : hcell H ⟨g9, 0, none⟩ = some (ptr xb)
  h8 : hcell H ⟨g8, 0 + 1, none⟩ = some (.int .i64 (c.s : Int))
theorem FtG.mono {xb g7 g9 g8 : Nat} {H' : Hp} (h : FtG c xb g7 g9 g8 H) (hle : Hp.le H H') : FtG c xb g7 g9 g8 H' := ⟨hcell.mono hle h.h7, hcell.mono hle h.h9, hcell.mono hle h.h8⟩
theorem ft_sendxy {g7 g9 g8 : Nat} (hI : FtI c i N H0 HB H q st gl va vg) (hs : HS [] H0 w0 H (FtM c sb xb yb zb q) w) (hG : FtG c xb g7 g9 g8 HB) (hw : 1 ≤ c.win ∧ c.win ≤ 16) {vb : Value} {a : MovD} (hb : Bytes H vb a.b) :
    Calls Tryz.prog 48 #[ptr xb, ptr yb, .agg #[.int .i64 a.what, B a.n, B a.sent, vb], ptr g7, ptr g9, ptr g8] w (fun e w' => ∃ H' R', e = .returned (.bool true) ∧ Hp.le H H' ∧ FtI c i N H0 HB H' { q with Ry := R' } st gl va vg ∧ HS [] H0 w0 H' (FtM c sb xb yb zb { q with Ry := R' }) w') := by
  have hG' := hG.mono hI.lb
  have hs8 := a.sent.toNat_lt
  obtain ⟨Rs, hRs⟩ : ∃ Rs : Mem, Rs = ftZ c zb q ++ (q.Ma ++ q.Mg) := ⟨_, rfl⟩
  obtain ⟨P5, hP5⟩ : ∃ P5 : Mem, P5 = [(sb, q.o, true), (xb, fObj c q.dx q.txb (ptr sb) (.pointer none) (.pointer none), true), (q.txb, toldObj q.dx.told, true), (yb, fObj c q.dy q.tyb (.pointer none) (ptr q.Ry.rb) (.pointer none), true), (q.tyb, toldObj q.dy.told, true)] := ⟨_, rfl⟩
  have hM : ∀ R' : RelS, R'.rb = q.Ry.rb → FtM c sb xb yb zb { q with Ry := R' } = P5 ++ (relMem true R'.y R'.rb R'.wb R'.l ++ Rs) := by
    intro R' hr
    rw [hP5, hRs]
    unfold FtM ftX ftY fMem
    simp [skMem, rlMem, rlV, skV, hr]
    rfl
  have hs1 : HS [] H0 w0 H (P5 ++ (relMem true q.Ry.y q.Ry.rb q.Ry.wb q.Ry.l ++ Rs)) w := by
    rw [← hM q.Ry rfl]; exact hs
  have hs2 := HS.mid hs1
  have hS := sent_src hI.ok (q.dy.base + a.n.toNat % c.win) a.sent.toNat a.b
  refine Calls.lift hs2 (fsend_any (ptr xb) c c q.dx q.dy xb q.txb sb yb q.tyb q.Ry.rb q.Ry.wb g7 g9 g8 (.pointer none) (.pointer none) (.pointer none) (.pointer none) vb false false false c q.X q.o q.Ry.y q.Ry.l a _ _ (roM (P5 ++ Rs)) _ H w rfl (HS.lendTo hs2) (by rw [hP5]; simp [roM]) (by rw [hP5]; simp [roM]) (by rw [hP5]; simp [roM]) hG'.h7 hG'.h9 (by rw [hI.gs.2]; exact hG'.h8) hI.src hI.ok hI.oy.1 hI.oy.2 hb hI.hy.base hw
    (fun H2 w2 hle hs3 => fsend_src c q.dx xb q.txb sb _ _ none _ vb q.X q.o a.b H2 w2 (hs3.viewSub (M' := [(sb, q.o, false), (xb, fObj c q.dx q.txb (ptr sb) (.pointer none) (.pointer none), false)]) (by rw [hP5]; exact .cons_cons _ (.cons_cons _ (List.nil_sublist _))) (by simp)) (hI.src.mono hle) hI.ok (hb.mono hle) (by omega)) hS) rfl (List.all_eq_true.1 (relMem_flags _ _ _ _)) ?_
  rintro v H' M' w' hs' hle ⟨rfl, l', rfl, hso⟩
  obtain ⟨t1, t2⟩ := sent_tru hI.ty (by omega) hS
  refine ⟨H', ⟨(if thereE q.X (q.dy.base + a.n.toNat % c.win) = 0 then q.Ry.y.take (q.dy.base + a.n.toNat % c.win) (rowF q.X (q.dy.base + a.n.toNat % c.win) (sendC q.X a.sent.toNat a.b)) else q.Ry.y), q.Ry.rb, q.Ry.wb, l'⟩, rfl, hle, ?_, ?_⟩
  · have h1 := hI.mono hle
    exact { h1 with oy := ⟨hso, sent_ok hI.oy.2⟩, ty := t1, ey := t2.trans hI.ey }
  · exact (congrArg (fun M => HS [] H0 w0 H' M w') (hM ⟨_, q.Ry.rb, q.Ry.wb, l'⟩ rfl)).mpr (HS.mid hs')
theorem ft_sendyz {g7 g9 g8 : Nat} (hI : FtI c i N H0 HB H q st gl va vg) (hs : HS [] H0 w0 H (FtM c sb xb yb zb q) w) (hG : FtG c xb g7 g9 g8 HB) (hw : 1 ≤ c.win ∧ c.win ≤ 16) {vb : Value} {a : MovD} (hb : Bytes H vb a.b) :
    Calls Tryz.prog 48 #[ptr yb, ptr zb, .agg #[.int .i64 a.what, B a.n, B a.sent, vb], ptr g7, ptr g9, ptr g8] w (fun e w' => ∃ H' R', e = .returned (.bool true) ∧ Hp.le H H' ∧ FtI c i N H0 HB H' { q with Rz := R' } st gl va vg ∧ HS [] H0 w0 H' (FtM c sb xb yb zb { q with Rz := R' }) w') := by
  have hG' := hG.mono hI.lb
  have hs8 := a.sent.toNat_lt
  have hn8 := a.n.toNat_lt
  have hchl := hI.ok.chl
  have hdl := hI.dl
  have hmod : a.n.toNat % c.win < 16 := Nat.lt_of_lt_of_le (Nat.mod_lt _ (by omega)) hw.2
  obtain ⟨P8, hP8⟩ : ∃ P8 : Mem, P8 = (sb, q.o, true) :: (xb, fObj c q.dx q.txb (ptr sb) (.pointer none) (.pointer none), true) :: (q.txb, toldObj q.dx.told, true) :: (yb, fObj c q.dy q.tyb (.pointer none) (ptr q.Ry.rb) (.pointer none), true) :: (q.tyb, toldObj q.dy.told, true) :: (relMem true q.Ry.y q.Ry.rb q.Ry.wb q.Ry.l ++ [(zb, fObj c (fN 2 q.dl) q.tzb (.pointer none) (ptr q.Rz.rb) (ptr q.kb), true), (q.tzb, toldObj [], true), (q.kb, sinkObj ⟨c.g, c.s, q.dl, 0, false, false⟩, true)]) := ⟨_, rfl⟩
  have hM : ∀ R' : RelS, R'.rb = q.Rz.rb → FtM c sb xb yb zb { q with Rz := R' } = P8 ++ (relMem true R'.y R'.rb R'.wb R'.l ++ (q.Ma ++ q.Mg)) := by
    intro R' hr
    rw [hP8]
    unfold FtM ftX ftY ftZ fMem
    simp [skMem, rlMem, rlV, skV, hr]
    rfl
  have hs1 : HS [] H0 w0 H (P8 ++ (relMem true q.Rz.y q.Rz.rb q.Rz.wb q.Rz.l ++ (q.Ma ++ q.Mg))) w := by
    rw [← hM q.Rz rfl]; exact hs
  have hs2 := HS.mid hs1
  have hS := sent_rel hI.ty (by omega) (q.dl + a.n.toNat % c.win) a.sent.toNat a.b
  have hro : roM (P8 ++ (q.Ma ++ q.Mg)) = (sb, q.o, false) :: (xb, fObj c q.dx q.txb (ptr sb) (.pointer none) (.pointer none), false) :: (q.txb, toldObj q.dx.told, false) :: (yb, fObj c q.dy q.tyb (.pointer none) (ptr q.Ry.rb) (.pointer none), false) :: (q.tyb, toldObj q.dy.told, false) :: (relMem false q.Ry.y q.Ry.rb q.Ry.wb q.Ry.l ++ ((zb, fObj c (fN 2 q.dl) q.tzb (.pointer none) (ptr q.Rz.rb) (ptr q.kb), false) :: (q.tzb, toldObj [], false) :: (q.kb, sinkObj ⟨c.g, c.s, q.dl, 0, false, false⟩, false) :: roM (q.Ma ++ q.Mg))) := by
    rw [hP8, roM_app]
    show _ :: _ :: _ :: _ :: _ :: (roM (relMem true q.Ry.y q.Ry.rb q.Ry.wb q.Ry.l ++ _) ++ _) = _
    rw [roM_app, roM_rel]
    simp [roM]
  have hs3 := HS.lendTo hs2
  rw [hro] at hs3
  refine Calls.lift hs2 (fsend_any (ptr yb) c c q.dx (fN 2 q.dl) xb q.txb sb zb q.tzb q.Rz.rb q.Rz.wb g7 g9 g8 (.pointer none) (.pointer none) (.pointer none) (ptr q.kb) vb false false false c q.X q.o q.Rz.y q.Rz.l a _ _ _ _ H w rfl hs3 (by simp) (by simp) (by simp) hG'.h7 hG'.h9 (by rw [hI.gs.2]; exact hG'.h8) hI.src hI.ok hI.oz.1 hI.oz.2 hb (by show q.dl ≤ _; omega) hw
    (fun H2 w2 hle hs4 => fsend_rel c q.dy yb q.tyb q.Ry.rb q.Ry.wb _ _ _ vb q.Ry.y q.Ry.l a.b H2 w2 (hs4.viewSub (M' := (yb, fObj c q.dy q.tyb (.pointer none) (ptr q.Ry.rb) (.pointer none), false) :: relMem false q.Ry.y q.Ry.rb q.Ry.wb q.Ry.l) (.cons _ (.cons _ (.cons _ (.cons_cons _ (.cons _ ((List.sublist_append_left _ _).trans (List.sublist_append_left _ _))))))) (fun p hp => by rcases List.mem_cons.1 hp with rfl | hp; exact rfl; exact relMem_false hp)) (hI.oy.1.mono hle) hI.oy.2 (hb.mono hle) (by show q.dl + _ < _; omega) (by omega)) hS) rfl (List.all_eq_true.1 (relMem_flags _ _ _ _)) ?_
  rintro v H' M' w' hs' hle ⟨rfl, l', rfl, hso⟩
  obtain ⟨t1, t2⟩ := sent_tru hI.tz (by omega) hS
  refine ⟨H', ⟨(if q.Ry.y.sndE (q.dl + a.n.toNat % c.win) = 0 then q.Rz.y.take (q.dl + a.n.toNat % c.win) (q.Ry.y.sndF (q.dl + a.n.toNat % c.win) a.sent.toNat a.b) else q.Rz.y), q.Rz.rb, q.Rz.wb, l'⟩, rfl, hle, ?_, ?_⟩
  · have h1 := hI.mono hle
    exact { h1 with oz := ⟨hso, sent_ok hI.oz.2⟩, tz := t1, ez := t2.trans hI.ez }
  · exact (congrArg (fun M => HS [] H0 w0 H' M w') (hM ⟨_, q.Rz.rb, q.Rz.wb, l'⟩ rfl)).mpr (HS.mid hs')
theorem work_y {R : RelS} {d : FD} {B : Nat} {l : Slots} (h : ¬ (d.idle = true)) : (R.work d B l).y = R.y.moveTo (leastN B d.told) ∧ (R.work d B l).rb = R.rb := by
  unfold RelS.work
  rw [if_neg h]
  exact ⟨rfl, rfl⟩
theorem ft_hopy (hI : FtI c i N H0 HB H q st gl va vg) (hs : HS [] H0 w0 H (FtM c sb xb yb zb q) w) {n : Nat} (hn : n ≤ 1099511627776) :
    Calls Tryz.prog 39 #[ptr yb, .int .i64 2, .int .u64 (n : Int)] w (fun e w' => ∃ H' d' R' v, e = .returned v ∧ Hp.le H H' ∧ FtI c i N H0 HB H' { q with dy := d', Ry := R' } st gl va vg ∧ HS [] H0 w0 H' (FtM c sb xb yb zb { q with dy := d', Ry := R' }) w') := by
  obtain ⟨q1, q2, q3⟩ := hI.hy.len
  obtain ⟨p1, p2, p3, p4⟩ := hI.hy.hop hn
  have hny : Ints H q.dy.nv q.dy.next := by rw [hI.hy.next]; exact hI.ny
  have hs2 : HS [] H0 w0 H (ftY c yb q ++ (((sb, q.o, true) :: ftX c sb xb q) ++ (ftZ c zb q ++ (q.Ma ++ q.Mg)))) w := HS.mid (A := (sb, q.o, true) :: ftX c sb xb q) hs
  refine Calls.lift hs2 (fhop_ok c q.dy yb q.tyb (.pointer none) (some q.Ry) none 2 n H w (HS.part hs2) hI.oy (Nat.le_refl _) hny q1 q2 q3 (by rw [hI.hy.next]; exact List.mem_singleton.2 rfl) hn) rfl (List.all_eq_true.1 (fMem_flags _ _ _ _ _ _ _)) ?_
  rintro v H' M' w' hs' hle ⟨l', rfl, rfl, hro⟩
  obtain ⟨e1, e2⟩ := work_y (R := q.Ry) (B := 1099511627776) (l := l') (hI.hy.idle n)
  obtain ⟨t1, t2⟩ := hI.ty.move hn
  have h1 := hI.mono hle
  refine ⟨H', (q.dy.hop 2 n).work 1099511627776, q.Ry.work (q.dy.hop 2 n) 1099511627776 l', _, rfl, hle, ?_, HS.mid hs'⟩
  exact { h1 with oy := hro, ty := by rw [e1, p4]; exact t1, ey := by rw [e1, p4, t2]; exact p2.symm, hy := p1, ny := by rw [p3]; exact h1.ny }
theorem ft_hopx (hI : FtI c i N H0 HB H q st gl va vg) (hs : HS [] H0 w0 H (FtM c sb xb yb zb q) w) {n : Nat} (hn : n ≤ 1099511627776) :
    Calls Tryz.prog 39 #[ptr xb, .int .i64 1, .int .u64 (n : Int)] w (fun e w' => ∃ H' d' v, e = .returned v ∧ Hp.le H H' ∧ FtI c i N H0 HB H' { q with dx := d' } st gl va vg ∧ HS [] H0 w0 H' (FtM c sb xb yb zb { q with dx := d' }) w') := by
  obtain ⟨q1, q2, q3⟩ := hI.hx.len
  obtain ⟨p1, p2, p3, p4⟩ := hI.hx.hop hn
  have hnx : Ints H q.dx.nv q.dx.next := by rw [hI.hx.next]; exact hI.nx
  have hs2 : HS [] H0 w0 H (ftX c sb xb q ++ ([(sb, q.o, true)] ++ (ftY c yb q ++ (ftZ c zb q ++ (q.Ma ++ q.Mg))))) w := HS.mid (A := [(sb, q.o, true)]) hs
  refine Calls.lift hs2 (fhop_ok c q.dx xb q.txb (ptr sb) none none 1 n H w (HS.part hs2) trivial (Nat.le_refl _) hnx q1 q2 q3 (by rw [hI.hx.next]; exact List.mem_singleton.2 rfl) hn) rfl (List.all_eq_true.1 (fMem_flags _ _ _ _ _ _ _)) ?_
  rintro v H' M' w' hs' hle ⟨l', rfl, rfl, -⟩
  have h1 := hI.mono hle
  refine ⟨H', (q.dx.hop 1 n).work 1099511627776, _, rfl, hle, ?_, HS.mid hs'⟩
  exact { h1 with hx := p1, nx := by rw [p3]; exact h1.nx }
theorem ft_release (hI : FtI c i N H0 HB H q st gl va vg) (hs : HS [] H0 w0 H (FtM c sb xb yb zb q) w) (hw : 1 ≤ c.win) :
    Calls Tryz.prog 54 #[ptr zb] w (fun e w' => ∃ H' n R' r, e = .returned (.tuple #[r, .int .i64 0]) ∧ Hp.le H H' ∧ BytesL H' r ((q.X.chunks.drop q.dl).take n) ∧ q.dl + n ≤ q.X.chunks.length ∧ FtI c i N H0 HB H' { q with dl := q.dl + n, Rz := R' } st gl va vg ∧ HS [] H0 w0 H' (FtM c sb xb yb zb { q with dl := q.dl + n, Rz := R' }) w') := by
  have hchl := hI.ok.chl
  have hdl := hI.dl
  obtain ⟨n1, n2, n3, n4, n5⟩ := hI.ok.nat
  have hg : q.Rz.y.g = c.g := hI.tz.g.trans hI.gs.1
  have hgs : q.Rz.y.s = c.s := hI.tz.s.trans hI.gs.2
  have hsk : ∀ d br, skD q.Rz.y 0 false br d = ⟨c.g, c.s, d, 0, false, br⟩ := fun d br => by rw [skD, hg, hgs]
  have hs1 : HS [] H0 w0 H (((sb, q.o, true) :: (ftX c sb xb q ++ ftY c yb q)) ++ (ftZ c zb q ++ (q.Ma ++ q.Mg))) w := by
    have e : ((sb, q.o, true) :: (ftX c sb xb q ++ ftY c yb q)) ++ (ftZ c zb q ++ (q.Ma ++ q.Mg)) = FtM c sb xb yb zb q := by simp [FtM]
    rw [e]; exact hs
  have hs2 := HS.mid hs1
  have ez : ftZ c zb q = fMem c (fN 2 q.dl) zb q.tzb (.pointer none) (some q.Rz) (some (q.kb, skD q.Rz.y 0 false false q.dl)) := by rw [hsk]; rfl
  have hs3 := hs2
  rw [ez] at hs3
  refine Calls.lift hs3 (frel_ok c (fN 2 q.dl) zb q.tzb q.kb q.dl 0 false (.pointer none) q.Rz H w (HS.part hs3) hI.oz (by rw [hI.tz.g, hI.tz.s]; exact n5) (by omega) (Ints.nil _) (by show 0 ≤ 1000; omega) (fun p hp => by cases hp)) rfl (List.all_eq_true.1 (fMem_flags _ _ _ _ _ _ _)) ?_
  rintro v H' M' w' hs' hle ⟨n, r, e, br, l', rfl, hbl, hgood, hdn, hend, rfl, hro⟩
  obtain ⟨rfl, rfl, hlen, hL⟩ := hI.tz.release hI.ok hw hdl hgood hend
  rw [hL] at hbl
  obtain ⟨e1, e2⟩ := work_y (R := q.Rz) (d := fN 2 q.dl) (B := q.dl + n) (l := l') (fun h => Nat.lt_irrefl 0 (of_decide_eq_true h))
  obtain ⟨t1, t2⟩ := hI.tz.move (nb := q.dl + n) hdn
  have h1 := hI.mono hle
  refine ⟨H', n, q.Rz.work (fN 2 q.dl) (q.dl + n) l', r, rfl, hle, hbl, hlen, ?_, ?_⟩
  · exact { h1 with oz := hro, tz := by rw [e1]; exact t1, ez := by rw [e1]; exact t2, dl := hlen }
  · rw [hsk] at hs'
    have hs4 := HS.mid hs'
    have e9 : FtM c sb xb yb zb { q with dl := q.dl + n, Rz := q.Rz.work (fN 2 q.dl) (q.dl + n) l' } = ((sb, q.o, true) :: (ftX c sb xb q ++ ftY c yb q)) ++ (ftZ c zb { q with dl := q.dl + n, Rz := q.Rz.work (fN 2 q.dl) (q.dl + n) l' } ++ (q.Ma ++ q.Mg)) := by simp [FtM, ftX, ftY]
    rw [e9]
    exact hs4
def ftPb (yb zb : Nat) : Nat → Nat
  | 0 => yb
  | _ => zb
def ftR (q : FtD) : Nat → RelS
  | 0 => q.Ry
  | _ => q.Rz
theorem HS.ro {xs : List Nat} {H0 H : Hp} {w0 w : World} {M : Mem} (hs : HS xs H0 w0 H M w) : HS [] H w H (roM M) w := by
  have := HS.lendTo (B := []) (A := M) hs
  rwa [List.append_nil] at this
theorem ft_view {A : Mem} (hs : HS [] H0 w0 H (A ++ FtM c sb xb yb zb q) w) (k : Nat) : ∃ d tb vs vk, HS [] H w H ((ftPb yb zb k, fObj c d tb vs (ptr (ftR q k).rb) vk, false) :: relMem false (ftR q k).y (ftR q k).rb (ftR q k).wb (ftR q k).l) w := by
  have h1 := hs.right.ro
  have e : roM (FtM c sb xb yb zb q) = (sb, q.o, false) :: (xb, fObj c q.dx q.txb (ptr sb) (.pointer none) (.pointer none), false) :: (q.txb, toldObj q.dx.told, false) :: (yb, fObj c q.dy q.tyb (.pointer none) (ptr q.Ry.rb) (.pointer none), false) :: (q.tyb, toldObj q.dy.told, false) :: (relMem false q.Ry.y q.Ry.rb q.Ry.wb q.Ry.l ++ ((zb, fObj c (fN 2 q.dl) q.tzb (.pointer none) (ptr q.Rz.rb) (ptr q.kb), false) :: (q.tzb, toldObj [], false) :: (q.kb, sinkObj ⟨c.g, c.s, q.dl, 0, false, false⟩, false) :: (relMem false q.Rz.y q.Rz.rb q.Rz.wb q.Rz.l ++ roM (q.Ma ++ q.Mg)))) := by
    show _ :: _ :: _ :: _ :: _ :: roM (relMem true q.Ry.y q.Ry.rb q.Ry.wb q.Ry.l ++ (_ :: _ :: _ :: (relMem true q.Rz.y q.Rz.rb q.Rz.wb q.Rz.l ++ (q.Ma ++ q.Mg)))) = _
    rw [roM_app, roM_rel]
    show _ :: _ :: _ :: _ :: _ :: (_ ++ (_ :: _ :: _ :: roM (relMem true q.Rz.y q.Rz.rb q.Rz.wb q.Rz.l ++ (q.Ma ++ q.Mg)))) = _
    rw [roM_app, roM_rel]
    rfl
  rw [e] at h1
  have hfl : ∀ (x : RelD) (rb wb pb : Nat) (l : Slots) (o : Obj), ∀ p ∈ (pb, o, false) :: relMem false x rb wb l, p.2.2 = false := fun x rb wb pb l o p hp => by
    rcases List.mem_cons.1 hp with rfl | hp
    · rfl
    · exact relMem_false hp
  cases k with
  | zero => exact ⟨_, _, _, _, h1.viewSub (.cons _ (.cons _ (.cons _ (.cons_cons _ (.cons _ (List.sublist_append_left _ _)))))) (hfl _ _ _ _ _ _)⟩
  | succ k => exact ⟨_, _, _, _, h1.viewSub (.cons _ (.cons _ (.cons _ (.cons _ (.cons _ (.trans (.cons_cons _ (.cons _ (.cons _ (List.sublist_append_left _ _)))) (List.sublist_append_right _ _)))))) ) (hfl _ _ _ _ _ _)⟩
theorem FtI.part (hI : FtI c i N H0 HB H q st gl va vg) (k : Nat) : RlOk H (some (ftR q k)) ∧ Tru q.X c.win (ftR q k).y := by
  cases k with
  | zero => exact ⟨hI.oy, hI.ty⟩
  | succ k => exact ⟨hI.oz, hI.tz⟩
theorem ft_rows (hI : FtI c i N H0 HB H q st gl va vg) (hs : HS [] H0 w0 H (FtM c sb xb yb zb q) w) (k : Nat) :
    Calls Tryz.prog 44 #[ptr (ftPb yb zb k)] w (fun e w' => ∃ H' mb m, e = .returned (.map (some mb)) ∧ Hp.le H H' ∧ HS [] H0 w0 H' ((mb, mObj .u64 m, true) :: FtM c sb xb yb zb q) w' ∧ RowsM H' (ftR q k).y ((ftR q k).y.rks.map (·.1)) m) := by
  obtain ⟨d, tb, vs, vk, hv⟩ := ft_view (A := []) hs k
  obtain ⟨p1, p2⟩ := hI.part k
  refine Calls.lift (Mx := []) hs (frows_ok c d _ tb _ _ vs vk _ _ H w hv p1.1 p1.2) rfl (by simp) ?_
  rintro v H' M' w' hs' hle ⟨mb, m, rfl, rfl, hm⟩
  exact ⟨H', mb, m, rfl, hle, hs', hm⟩
theorem FtM_ma : FtM c sb xb yb zb q = ((sb, q.o, true) :: (ftX c sb xb q ++ (ftY c yb q ++ ftZ c zb q))) ++ (q.Ma ++ q.Mg) := by simp [FtM]
theorem FtM_mg : FtM c sb xb yb zb q = (((sb, q.o, true) :: (ftX c sb xb q ++ (ftY c yb q ++ ftZ c zb q))) ++ q.Ma) ++ q.Mg := by simp [FtM]
theorem ft_atz (hs : HS [] H0 w0 H (FtM c sb xb yb zb q) w) : w.heap[zb]? = some (fObj c (fN 2 q.dl) q.tzb (.pointer none) (ptr q.Rz.rb) (ptr q.kb)) ∧ H zb = none := by
  have h := hs.mem zb (fObj c (fN 2 q.dl) q.tzb (.pointer none) (ptr q.Rz.rb) (ptr q.kb)) true (by simp [FtM, ftZ, fMem, rlV, skV])
  exact ⟨h.1, h.2.1⟩
theorem ft_aty (hs : HS [] H0 w0 H (FtM c sb xb yb zb q) w) : w.heap[yb]? = some (fObj c q.dy q.tyb (.pointer none) (ptr q.Ry.rb) (.pointer none)) ∧ H yb = none := by
  have h := hs.mem yb (fObj c q.dy q.tyb (.pointer none) (ptr q.Ry.rb) (.pointer none)) true (by simp [FtM, ftY, fMem, rlV, skV])
  exact ⟨h.1, h.2.1⟩
theorem ft_zk (hs : HS [] H0 w0 H (FtM c sb xb yb zb q) w) : HS [] H w H [(zb, fObj c (fN 2 q.dl) q.tzb (.pointer none) (ptr q.Rz.rb) (ptr q.kb), false), (q.kb, sinkObj ⟨c.g, c.s, q.dl, 0, false, false⟩, false)] w := by
  refine hs.ro.viewSub ?_ (by simp)
  rw [FtM_ma]
  have e : ftZ c zb q = [(zb, fObj c (fN 2 q.dl) q.tzb (.pointer none) (ptr q.Rz.rb) (ptr q.kb), true), (q.tzb, toldObj [], true), (q.kb, sinkObj ⟨c.g, c.s, q.dl, 0, false, false⟩, true)] ++ relMem true q.Rz.y q.Rz.rb q.Rz.wb q.Rz.l := rfl
  rw [e]
  simp only [roM_app, roM, List.map_cons, List.map_append, List.map_nil]
  refine List.Sublist.trans ?_ (List.sublist_append_left _ _)
  refine .cons _ (List.Sublist.trans ?_ (List.sublist_append_right _ _))
  refine List.Sublist.trans ?_ (List.sublist_append_right _ _)
  exact .cons_cons _ (.cons _ (.cons_cons _ (List.nil_sublist _)))
/-- Another relay in its place. -/
theorem ft_newY {M : Mem} (hs : HS [] H0 w0 H (M ++ FtM c sb xb yb zb q) w) : HS [] H0 w0 H (((sb, q.o, true) :: ftX c sb xb q) ++ (M ++ (ftZ c zb q ++ (q.Ma ++ q.Mg)))) w := by
  have h1 : HS [] H0 w0 H (M ++ (((sb, q.o, true) :: ftX c sb xb q) ++ (ftZ c zb q ++ (q.Ma ++ q.Mg)))) w :=
    hs.sublist (List.Sublist.append (List.Sublist.refl _) (List.Sublist.append (l₁ := (sb, q.o, true) :: ftX c sb xb q) (List.Sublist.refl _) (List.sublist_append_right _ _)))
  exact HS.mid h1
theorem ft_newZ {M : Mem} (hs : HS [] H0 w0 H (M ++ FtM c sb xb yb zb q) w) : HS [] H0 w0 H (((sb, q.o, true) :: (ftX c sb xb q ++ ftY c yb q)) ++ (M ++ (q.Ma ++ q.Mg))) w := by
  have e : FtM c sb xb yb zb q = ((sb, q.o, true) :: (ftX c sb xb q ++ ftY c yb q)) ++ (ftZ c zb q ++ (q.Ma ++ q.Mg)) := by simp [FtM]
  rw [e] at hs
  have h1 : HS [] H0 w0 H (M ++ (((sb, q.o, true) :: (ftX c sb xb q ++ ftY c yb q)) ++ (q.Ma ++ q.Mg))) w :=
    hs.sublist (List.Sublist.append (List.Sublist.refl _) (List.Sublist.append (List.Sublist.refl _) (List.sublist_append_right _ _)))
  exact HS.mid h1
theorem take_pre {α : Type} {l m : List α} {n : Nat} (hp : l <+: m) (hn : n ≤ l.length) : m.take n = l.take n := by
  obtain ⟨t, ht⟩ := hp
  rw [← ht, List.take_append_of_le_length hn]
end
end Go.Bw
namespace Go.Bw
set_option linter.unusedVariables false
set_option linter.unusedSimpArgs false
open Go.Proofs Go.RowKit Go.ChangeShapes Go.Deep
instance : Inhabited MovD := ⟨⟨0, 0, 0, []⟩⟩
theorem read_i64 {H : Type} {enc : TypeId × Value → H} {P : Program} {w : World} {base : Nat} {spare : Nat → Bool} {held : Bool} {t : TypeId} {fuel : Nat} {cs : List Value} {x : DataW H × List MemPlace} (ht : P.underlying t = some (.int .i64)) (h : DataW.trod enc P w base spare held fuel t cs = some x) : ∃ n : Int, cs = [.int .i64 n] := by
  obtain ⟨n, rfl, _, _⟩ := DataW.trod_int ht h
  exact ⟨n, rfl⟩
set_option maxRecDepth 20000 in
theorem read_mov {H : Type} {enc : TypeId × Value → H} {W : World} {spare : Nat → Bool} {held : Bool} {fuel base : Nat} {cs : List Value} {x : DataW H × List MemPlace} (h : DataW.trod enc Tryz.prog W base spare held fuel 87 cs = some x) :
    ∃ (a : MovD) (v : Value), cs = movC a v ∧ Bytes (heapOf W) v a.b ∧ a.b.length ≤ 9223372036854775807 := by
  obtain ⟨hsz, n, hf⟩ := read_fields T87.und h
  have c1 : Tryz.prog.cellsOf 5 = 1 := by kernel_rfl
  have c2 : Tryz.prog.cellsOf 43 = 1 := by kernel_rfl
  have c3 : Tryz.prog.cellsOf 3 = 1 := by kernel_rfl
  have c4 : Tryz.prog.cellsOf 87 = 4 := by kernel_rfl
  rw [c4] at hsz
  match cs, hsz with
  | [a0, a1, a2, a3], _ =>
    obtain ⟨y0, h0⟩ := read_field 3 [a0] (hf 0 _ rfl) rfl c3 rfl
    obtain ⟨y1, h1⟩ := read_field 5 [a1] (hf 1 _ rfl) rfl c1 rfl
    obtain ⟨y2, h2⟩ := read_field 5 [a2] (hf 2 _ rfl) rfl c1 rfl
    obtain ⟨y3, h3⟩ := read_field 43 [a3] (hf 3 _ rfl) rfl c2 rfl
    obtain ⟨wh, e0⟩ := read_i64 T3.und h0
    obtain ⟨nn, e1⟩ := read_byte T5.und h1
    obtain ⟨se, e2⟩ := read_byte T5.und h2
    obtain ⟨v1, l, e3, hl, hll⟩ := read_bytes T43.und T5.und c1 h3
    simp at e0 e1 e2 e3
    subst e0 e1 e2 e3
    exact ⟨⟨wh, nn, se, l⟩, _, rfl, hl, hll⟩
set_option maxRecDepth 20000 in
/-- A list of moves, read. -/
theorem read_movs {H : Type} {enc : TypeId × Value → H} {W : World} {spare : Nat → Bool} {held : Bool} {fuel base : Nat} {cs : List Value} {x : DataW H × List MemPlace} (h : DataW.trod enc Tryz.prog W base spare held fuel 75 cs = some x) :
    ∃ (vl : Value) (ln : Nat) (A : Nat → MovD) (V : Nat → Value), cs = [vl] ∧ Movs (heapOf W) vl ln A V ∧ ln ≤ 9223372036854775807 := by
  have c4 : Tryz.prog.cellsOf 87 = 4 := by kernel_rfl
  obtain ⟨vl, ln, C, n, e2, hln, hC, hsl⟩ := read_slice T75.und c4 (by omega) h
  obtain ⟨q, hq⟩ := choose_lt (α := MovD × Value) (p := fun i q => C i = movC q.1 q.2 ∧ Bytes (heapOf W) q.2 q.1.b ∧ q.1.b.length ≤ 9223372036854775807) (fun i hi => by
    obtain ⟨_, y, hy⟩ := hC i hi
    obtain ⟨a, v, h1, h2⟩ := read_mov hy
    exact ⟨(a, v), h1, h2⟩)
  refine ⟨vl, ln, fun i => (q i).1, fun i => (q i).2, e2, ⟨?_, fun i hi => (hq i hi).2⟩, hln⟩
  have : (List.range ln).flatMap C = (List.range ln).flatMap fun i => movC (q i).1 (q i).2 := by
    rw [List.flatMap_def, List.flatMap_def]
    congr 1
    exact List.map_congr_left fun i hi => (hq i (List.mem_range.1 hi)).1
  rw [← this]
  exact hsl
end Go.Bw
