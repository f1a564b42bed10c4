/- What law_FlowBase needs: laid out of own texts. No condition. -/
import Derived.Test.YtdibepkfgemddaaGreatKFlowBase2
namespace Go.Bw
set_option linter.unusedVariables false
set_option linter.unusedSimpArgs false
open Go.Proofs
set_option maxRecDepth 20000 in
set_option maxHeartbeats 2000000 in
theorem cloneRows_ok (v : Value) (n : Nat) (cs : List Value) (H0 : Hp) (w0 : World) (h0 : Sub H0 w0) (hv : Sl H0 2 v n cs) (h1 : cs.all (·.oneCell') = true) (hl : n ≤ 100000) :
    Calls Tryz.prog 124 #[v] w0 (Ret [] H0 w0 fun v H' M' => H' = H0 ∧ Own w0.heap.size 45 2 v n cs M') := by
  have hs := HS.init h0
  obtain ⟨base, cp, rfl⟩ := hv.form
  refine Calls.enter (args := [.slice base n cp]) Tryz.func124 rfl Tryz.ntmps124 rfl ?_
  refine WC.seq (WC.region (WO.step rfl (OR.assign rfl (WO.done (WX.seq (WC.seq (WC.seq ?_)))))))
  refine WC.region (WO.step rfl (OR.move rfl (WO.step rfl (OR.eqlNil T97.und rfl rfl (WO.done (WX.seq ?_))))))
  refine WC.cond rfl (fun hb => ?_) (fun hb => ?_)
  · refine WC.seq (WC.region (WO.step rfl (OR.assign rfl (WO.done (WX.seq (WC.ret (WX.seq_ret ?_)))))))
    refine WX.ret1 rfl rfl ?_
    have hb' : base = none := by cases base with | none => rfl | some a => cases hb
    subst hb'
    have h2 := Sl.src0 hv rfl
    subst h2
    refine ⟨_, H0, [], rfl, hs, by simp, rfl, ?_⟩
    have : cs = [] := List.eq_nil_of_length_eq_zero (by simpa using hv.1)
    subst this
    exact Own.nil _ _ _
  · refine WC.skip (WX.seq (WC.seq (WC.region ?_)))
    refine WO.step rfl (OR.buildSlice (vs := []) hs T97.und T45 rfl rfl rfl rfl (by simp) ?_)
    clear hs; intro g1 w hg1 hs
    refine WO.step rfl (OR.move rfl ?_)
    refine WO.step rfl (OR.append (n := 0) (cs := []) (news := cs) (Mo := [_]) (M := []) hs (Own.block (cap := 0) (by omega) rfl rfl hg1) T97.und T45 rfl (by omega) rfl rfl hv.1 (Sl.src hv hs) (Sl.src0 hv) h1 (by omega) (by omega) ?_)
    clear hs; intro v' w Mo hs ho hge
    refine WO.step rfl (OR.assign rfl (WO.done (WX.seq (WC.ret ?_))))
    refine WX.ret1 rfl rfl ?_
    rw [Nat.zero_add, List.nil_append] at ho
    refine ⟨_, H0, Mo, rfl, by simpa using hs, ?_, rfl, ho⟩
    rcases ho.2 with ⟨rfl, _⟩ | ⟨g, c, cap, rfl, _⟩ <;> simp

theorem take_ins (cs Z : List Value) (a b : Value) (n i : Nat) (hl : cs.length = n * 2) (hi : i < n) (hz : 2 ≤ Z.length + i * 2) (h9 : i * 2 + Z.length ≥ (n + 1) * 2) :
    (setL (setL (cs.take (i * 2) ++ Z) (i * 2) [a, b]) ((i + 1) * 2) (cs.drop (i * 2))).take ((n + 1) * 2) = cs.take (i * 2) ++ [a, b] ++ cs.drop (i * 2) := by
  have e1 : (cs.take (i * 2)).length = i * 2 := by rw [List.length_take]; omega
  have e2 : (cs.drop (i * 2)).length = (n - i) * 2 := by rw [List.length_drop, hl, ← Nat.sub_mul]
  rw [setL_at [a, b] _ _ (by simp [e1]; omega)]
  rw [show (cs.take (i * 2) ++ Z).take (i * 2) = cs.take (i * 2) by rw [List.take_left' e1]]
  rw [setL_at _ _ _ (by simp [e1, e2]; omega)]
  have e3 : (cs.take (i * 2) ++ [a, b]).length = (i + 1) * 2 := by simp [e1]; omega
  rw [List.take_left' e3]
  rw [List.take_left' (by simp only [List.length_append, e1, e2, List.length_cons, List.length_nil]; omega)]

theorem take_ins2 (cc : List Value) (a b : Value) (n i : Nat) (hl : (n + 1) * 2 ≤ cc.length) (hi : i < n) :
    (setL (setL cc ((i + 1) * 2) ((cc.take (n * 2)).drop (i * 2))) (i * 2) [a, b]).take ((n + 1) * 2) = (cc.take (n * 2)).take (i * 2) ++ [a, b] ++ (cc.take (n * 2)).drop (i * 2) := by
  have e2 : ((cc.take (n * 2)).drop (i * 2)).length = (n - i) * 2 := by rw [List.length_drop, List.length_take, Nat.min_eq_left (by omega), ← Nat.sub_mul]
  have e1 : (cc.take (i * 2)).length = i * 2 := by rw [List.length_take]; omega
  have e3 : (cc.take ((i + 1) * 2)).length = (i + 1) * 2 := by rw [List.length_take]; omega
  have A : (cc.take ((i + 1) * 2) ++ (cc.take (n * 2)).drop (i * 2) ++ cc.drop ((i + 1) * 2 + ((cc.take (n * 2)).drop (i * 2)).length)).take (i * 2) = (cc.take (n * 2)).take (i * 2) := by
    rw [List.append_assoc, List.take_append_of_le_length (by omega), List.take_take, List.take_take]
    congr 1; omega
  have B : (cc.take ((i + 1) * 2) ++ (cc.take (n * 2)).drop (i * 2) ++ cc.drop ((i + 1) * 2 + ((cc.take (n * 2)).drop (i * 2)).length)).drop (i * 2 + [a, b].length) = (cc.take (n * 2)).drop (i * 2) ++ cc.drop ((i + 1) * 2 + ((cc.take (n * 2)).drop (i * 2)).length) := by
    rw [List.append_assoc, List.drop_left' (by rw [e3]; simp; omega)]
  rw [setL_at _ cc _ (by rw [e2]; omega), setL_at [a, b] _ _ (by simp [e2, e3]; omega), A, B, ← List.append_assoc]
  have e1' : ((cc.take (n * 2)).take (i * 2)).length = i * 2 := by rw [List.length_take, List.length_take]; omega
  rw [List.take_left' (by simp only [List.length_append, e1', e2, List.length_cons, List.length_nil]; omega)]

set_option maxRecDepth 20000 in
set_option maxHeartbeats 2000000 in
theorem insRows_ok (N n i : Nat) (rv a b : Value) (cs : List Value) (Mo : Mem) (gv : Nat) (H0 : Hp) (w0 : World) (h0 : Sub H0 w0) (hi : i ≤ n) (ho : Own N 45 2 rv n cs Mo) (hN : N ≤ w0.heap.size)
    (hM : ∀ q ∈ Mo, w0.heap[q.1]? = some q.2.1 ∧ H0 q.1 = none) (hgv : w0.heap[gv]? = some (.cells #[a, b] 45)) (hgn : H0 gv = none) (hne : ∀ q ∈ Mo, gv ≠ q.1)
    (h1 : a.oneCell' = true) (h2 : b.oneCell' = true) (hcs : cs.all (·.oneCell') = true) (hn : n ≤ 255) :
    Calls Tryz.prog 126 #[rv, .int .i64 (i : Int), .slice (some ⟨gv, 0, none⟩) 1 1] w0
      (Ret (Mem.keys Mo) H0 w0 fun v H' M' => Own N 45 2 v (n + 1) (cs.take (i * 2) ++ [a, b] ++ cs.drop (i * 2)) M') := by
  have hnews : ∀ w : World, w.heap[gv]? = some (.cells #[a, b] 45) → ∀ ad, some (⟨gv, 0, none⟩ : Addr) = some ad → ∀ j u, [a, b][j]? = some u → w.cell? (ad.add j) = some u := fun w h => cells_of h
  have hab : [a, b].all (·.oneCell') = true := by simp [h1, h2]
  rcases Nat.lt_or_ge i n with hlt | hge
  · obtain ⟨hcl, ⟨rfl, ⟨b9, rfl⟩, rfl⟩ | ⟨g, c, cap, rfl, rfl, hnc, hc, hx, hg⟩⟩ := ho
    · omega
    have hgb := (hM _ (List.mem_singleton_self _)).1
    have hgn' := (hM _ (List.mem_singleton_self _)).2
    have hgg := hne _ (List.mem_singleton_self _)
    simp only at hgb hgn' hgg
    have hs : HS [g] H0 w0 H0 [(g, .cells c 45, true), (gv, .cells #[a, b] 45, false)] w0 :=
      HS.start2 h0 hgb hgn' hgv hgn hgg rfl
    refine Calls.enter (args := [.slice (some ⟨g, 0, none⟩) n cap, .int .i64 (i : Int), .slice (some ⟨gv, 0, none⟩) 1 1]) Tryz.func126 rfl Tryz.ntmps126 rfl ?_
    refine WC.seq (WC.region (WO.step rfl (OR.assign rfl (WO.done (WX.seq (WC.seq (WC.region ?_)))))))
    refine WO.step rfl (OR.move rfl (WO.step rfl (OR.move rfl ?_)))
    refine WO.step rfl (OR.sliceLoG i T97.und T45 rfl rfl rfl hi ?_)
    refine WO.done (WX.seq (WC.seq (WC.region (WO.step rfl (OR.move rfl (WO.step rfl (OR.lenSlice T97.und rfl ?_)))))))
    refine WO.step rfl (OR.assign rfl (WO.done (WX.seq (WC.seq (WC.seq (WC.region (WO.step rfl ?_)))))))
    refine OR.move rfl (WO.step rfl (OR.eql rfl rfl (WO.done (WX.seq ?_))))
    refine WC.no rfl (decide_eq_false (by omega)) ?_
    refine WC.skip (WX.seq (WC.seq (WC.region (WO.step rfl (OR.move rfl (WO.step rfl (OR.lenSlice T97.und rfl ?_)))))))
    refine WO.step rfl (OR.assign rfl (WO.done (WX.seq (WC.seq (WC.seq (WC.region (WO.step rfl ?_)))))))
    refine OR.move rfl (WO.step rfl (OR.move rfl (WO.step rfl (OR.eql rfl rfl (WO.done (WX.seq ?_))))))
    refine WC.no rfl (decide_eq_false (by omega)) ?_
    refine WC.skip (WX.seq (WC.seq (WC.seq (WC.region (WO.step rfl (OR.move rfl (WO.step rfl ?_)))))))
    refine OR.move rfl (WO.step rfl (OR.addI rfl rfl (by omega) (by omega) (WO.step rfl (OR.move rfl (WO.step rfl (OR.capSlice T97.und rfl (WO.step rfl ?_)))))))
    refine OR.gtr rfl rfl (WO.done (WX.seq ?_))
    refine WC.condD rfl (fun hroom => ?_) (fun hroom => ?_)
    · refine WC.seq (WC.region (WO.step rfl (OR.move rfl (WO.step rfl (OR.move rfl ?_)))))
      refine WO.step rfl (OR.sliceHi i T97.und T45 rfl rfl rfl (by omega) ?_)
      refine WO.step rfl (OR.move rfl (WO.step rfl (OR.move rfl (WO.step rfl (OR.addI rfl rfl (by omega) (by omega) (WO.step rfl (OR.move rfl ?_)))))))
      refine WO.step rfl (OR.subI rfl rfl (by omega) (by omega) ?_)
      refine WO.step rfl (OR.appendZeros (l := i) (m := n + 1 - i) (cs := cs.take (i * 2)) hN hs T97.und T45 rfl (by omega) T3.und rfl rfl (by omega) (by rw [List.length_take]; omega) (fun ad hb j u hj => by subst hx; exact cells_of hgb ad hb j u (get_take (get_take hj))) (by simp) (by omega) (by omega) (by omega) (by omega) ?_)
      clear hs; intro g2 w c2 Z hg2 hc2 hZ hs
      have hZ' : Z.length + i * 2 = c2 * 2 := by rw [hZ, ← Nat.add_mul]; congr 1; omega
      have e1 : (cs.take (i * 2)).length = i * 2 := by rw [List.length_take]; omega
      have hgw := hs.blk (i := 2) rfl
      refine WO.step rfl (OR.assign rfl (WO.done (WX.seq (WC.seq (WC.region (WO.step rfl (OR.move rfl ?_)))))))
      refine WO.step rfl (OR.move rfl ?_)
      refine WO.step rfl (OR.sliceLo i T97.und T45 rfl rfl rfl (by omega) (by omega) ?_)
      refine WO.step rfl (OR.move rfl ?_)
      refine WO.step rfl (OR.copy hs [a, b] T97.und T45 rfl rfl (by rw [natmin (c := 1) (by omega)]; rfl) (hnews _ hgw _ rfl) (by simp only [List.size_toArray, List.length_append, e1, List.length_cons, List.length_nil]; omega) hab ?_)
      clear hs; intro w hs
      have hgw := hs.blk (i := 1) rfl
      refine WO.done (WX.seq (WC.seq ?_))
      refine WC.draw 8 mixed hs (by kernel_rfl) ?_
      refine ⟨MF.eq _, by intro Mx H w hle hs; refine forVals_nil (ORg.plain (OR.move rfl ?_)); exact ⟨_, [], Hp.le.refl _, hs, rfl, rfl⟩, ?_⟩
      refine ⟨MF.eq _, by intro Mx H w hle hs; refine forVals_nil (ORg.plain (OR.move rfl ?_)); exact ⟨_, [], Hp.le.refl _, hs, rfl, rfl⟩, ?_⟩
      refine ⟨MF.eq _, by intro Mx H w hle hs; refine forVals_nil (ORg.plain (OR.move rfl ?_)); exact ⟨_, [], Hp.le.refl _, hs, rfl, rfl⟩, ?_⟩
      refine ⟨MF.eq _, by intro Mx H w hle hs; refine forVals_eq rfl rfl rfl ?_; refine forVals_eq rfl rfl rfl ?_; refine forVals_nil (ORg.plain (OR.addI rfl rfl (by omega) (by omega) ?_)); exact ⟨_, [], Hp.le.refl _, hs, rfl, rfl⟩, ?_⟩
      refine ⟨MF.eq (.slice (some ⟨g2, 0 + (i + 1) * 2, none⟩) (i + (n + 1 - i) - (i + 1)) (c2 - (i + 1))), ?_, ?_⟩
      · intro Mx H w hle2 hs; (try replace hle := hle.trans hle2); (try replace hlb := hlb.trans hle2); refine forVals_eq rfl rfl rfl ?_; refine forVals_eq rfl rfl rfl ?_
        refine forVals_nil (ORg.plain (OR.sliceLo (i + 1) T97.und T45 rfl rfl (by omega) (by omega) (by omega) ?_))
        exact ⟨_, [], Hp.le.refl _, hs, rfl, rfl⟩
      refine ⟨MF.eq _, by intro Mx H w hle hs; refine forVals_nil (ORg.plain (OR.move rfl ?_)); exact ⟨_, [], Hp.le.refl _, hs, rfl, rfl⟩, ?_⟩
      refine ⟨MF.eq _, by intro Mx H w hle hs; refine forVals_nil (ORg.plain (OR.move rfl ?_)); exact ⟨_, [], Hp.le.refl _, hs, rfl, rfl⟩, ?_⟩
      refine ⟨MF.eq (.slice (some ⟨g, 0 + i * 2, none⟩) (n - i) (cap - i)), ?_, ?_⟩
      · intro Mx H w hle2 hs; (try replace hle := hle.trans hle2); (try replace hlb := hlb.trans hle2); refine forVals_eq rfl rfl rfl ?_; refine forVals_eq rfl rfl rfl ?_
        refine forVals_nil (ORg.plain (OR.sliceLo i T97.und T45 rfl rfl rfl (by omega) (by omega) ?_))
        exact ⟨_, [], Hp.le.refl _, hs, rfl, rfl⟩
      intro H w hle2; (try replace hle := hle.trans hle2); (try replace hlb := hlb.trans hle2)
      refine forAllVals_eq rfl ?_
      refine forAllVals_eq rfl ?_
      refine forAllVals_eq rfl ?_
      refine forAllVals_eq rfl ?_
      refine forAllVals_eq rfl ?_
      refine forAllVals_eq rfl ?_
      refine forAllVals_eq rfl ?_
      refine forAllVals_eq rfl ?_
      refine forAllVals_nil ?_; (try clear hs); intro hs
      have hgw := hs.blk (i := 1) rfl
      refine WO.step rfl (OR.copy hs (cs.drop (i * 2)) T97.und T45 rfl rfl (by rw [List.length_drop, natmin (a := n - i) (b := i + (n + 1 - i) - (i + 1)) (c := n - i) (by omega), Nat.sub_mul]; omega) (fun j u hj => by subst hx; rw [Nat.zero_add]; exact cells_at hgw (get_take (get_drop hj))) (by simp only [List.size_toArray, setL_length, List.length_append, e1, List.length_drop]; omega) (List.all_eq_true.2 fun v hv => List.all_eq_true.1 hcs v (List.mem_of_mem_drop hv)) ?_)
      clear hs; intro w hs
      refine WO.done (WX.seq (WC.seq (WC.region (WO.step rfl (OR.move rfl (WO.step rfl (OR.assign rfl ?_)))))))
      refine WO.done (WX.seq (WC.ret (WX.seq_ret ?_)))
      refine WX.ret1 rfl rfl ?_
      have e9 : i + (n + 1 - i) = n + 1 := by omega
      rw [e9]
      refine ⟨_, H, [_], rfl, (hs.drop 2).drop 1, by simp, Own.block (by omega) (by simp [setL_length, e1]; omega) ?_ hg2⟩
      simp only [Nat.zero_add]
      exact take_ins cs Z a b n i hcl hlt (by omega) (by omega)
    · refine WC.skip (WX.seq (WC.seq (WC.region (WO.step rfl (OR.move rfl (WO.step rfl (OR.move rfl ?_)))))))
      refine WO.step rfl (OR.move rfl (WO.step rfl (OR.addI rfl rfl (by omega) (by omega) ?_)))
      refine WO.step rfl (OR.sliceHi (n + 1) T97.und T45 rfl rfl rfl (by omega) ?_)
      refine WO.step rfl (OR.assign rfl (WO.done (WX.seq (WC.seq (WC.seq (WC.region (WO.step rfl ?_)))))))
      refine OR.move rfl (WO.step rfl (OR.move rfl (WO.step rfl (OR.move rfl (WO.step rfl (OR.move rfl (WO.step rfl ?_)))))))
      refine OR.addI rfl rfl (by omega) (by omega) ?_
      refine WO.step rfl (OR.sliceLo (i + 1) T97.und T45 rfl rfl rfl (by omega) (by omega) ?_)
      refine WO.step rfl (OR.callAt rfl rfl (apart_run (P := Tryz.prog) Tryz.func167 rfl rfl rfl rfl T97.und T45 hgv hgb hgg (by omega)) ?_)
      refine WO.step rfl (OR.not rfl (WO.done (WX.seq ?_)))
      refine WC.yes rfl rfl ?_
      have hdl : ((c.toList.take (n * 2)).drop (i * 2)).length = (n - i) * 2 := by rw [List.length_drop, List.length_take, Array.length_toList, Nat.min_eq_left (by omega), ← Nat.sub_mul]
      refine WC.seq ?_
      refine WC.draw 8 mixed hs (by kernel_rfl) ?_
      refine ⟨MF.eq _, by intro Mx H w hle hs; refine forVals_nil (ORg.plain (OR.move rfl ?_)); exact ⟨_, [], Hp.le.refl _, hs, rfl, rfl⟩, ?_⟩
      refine ⟨MF.eq _, by intro Mx H w hle hs; refine forVals_nil (ORg.plain (OR.move rfl ?_)); exact ⟨_, [], Hp.le.refl _, hs, rfl, rfl⟩, ?_⟩
      refine ⟨MF.eq _, by intro Mx H w hle hs; refine forVals_nil (ORg.plain (OR.move rfl ?_)); exact ⟨_, [], Hp.le.refl _, hs, rfl, rfl⟩, ?_⟩
      refine ⟨MF.eq _, by intro Mx H w hle hs; refine forVals_eq rfl rfl rfl ?_; refine forVals_eq rfl rfl rfl ?_; refine forVals_nil (ORg.plain (OR.addI rfl rfl (by omega) (by omega) ?_)); exact ⟨_, [], Hp.le.refl _, hs, rfl, rfl⟩, ?_⟩
      refine ⟨MF.eq (.slice (some ⟨g, 0 + (i + 1) * 2, none⟩) (n + 1 - (i + 1)) (cap - (i + 1))), ?_, ?_⟩
      · intro Mx H w hle2 hs; (try replace hle := hle.trans hle2); (try replace hlb := hlb.trans hle2); refine forVals_eq rfl rfl rfl ?_; refine forVals_eq rfl rfl rfl ?_
        refine forVals_nil (ORg.plain (OR.sliceLo (i + 1) T97.und T45 rfl rfl (by omega) (by omega) (by omega) ?_))
        exact ⟨_, [], Hp.le.refl _, hs, rfl, rfl⟩
      refine ⟨MF.eq _, by intro Mx H w hle hs; refine forVals_nil (ORg.plain (OR.move rfl ?_)); exact ⟨_, [], Hp.le.refl _, hs, rfl, rfl⟩, ?_⟩
      refine ⟨MF.eq _, by intro Mx H w hle hs; refine forVals_nil (ORg.plain (OR.move rfl ?_)); exact ⟨_, [], Hp.le.refl _, hs, rfl, rfl⟩, ?_⟩
      refine ⟨MF.eq (.slice (some ⟨g, 0 + i * 2, none⟩) (n + 1 - i) (cap - i)), ?_, ?_⟩
      · intro Mx H w hle2 hs; (try replace hle := hle.trans hle2); (try replace hlb := hlb.trans hle2); refine forVals_eq rfl rfl rfl ?_; refine forVals_eq rfl rfl rfl ?_
        refine forVals_nil (ORg.plain (OR.sliceLo i T97.und T45 rfl rfl rfl (by omega) (by omega) ?_))
        exact ⟨_, [], Hp.le.refl _, hs, rfl, rfl⟩
      intro H w hle2; (try replace hle := hle.trans hle2); (try replace hlb := hlb.trans hle2)
      refine forAllVals_eq rfl ?_
      refine forAllVals_eq rfl ?_
      refine forAllVals_eq rfl ?_
      refine forAllVals_eq rfl ?_
      refine forAllVals_eq rfl ?_
      refine forAllVals_eq rfl ?_
      refine forAllVals_eq rfl ?_
      refine forAllVals_eq rfl ?_
      refine forAllVals_nil ?_; (try clear hs); intro hs
      have hgw := hs.blk (i := 0) rfl
      refine WO.step rfl (OR.copy hs ((c.toList.take (n * 2)).drop (i * 2)) T97.und T45 rfl rfl (by rw [hdl, natmin (a := n + 1 - i) (b := n + 1 - (i + 1)) (c := n - i) (by omega)]) (fun j u hj => by rw [Nat.zero_add]; exact cells_at hgw (get_take (get_drop hj))) (by rw [hdl]; omega) (by rw [hx]; exact List.all_eq_true.2 fun v hv => List.all_eq_true.1 hcs v (List.mem_of_mem_drop hv)) ?_)
      clear hs; intro w hs
      have hgw := hs.blk (i := 1) rfl
      refine WO.done (WX.seq (WC.seq (WC.region (WO.step rfl (OR.move rfl (WO.step rfl (OR.move rfl ?_)))))))
      refine WO.step rfl (OR.sliceLo i T97.und T45 rfl rfl rfl (by omega) (by omega) ?_)
      refine WO.step rfl (OR.move rfl ?_)
      refine WO.step rfl (OR.copy hs [a, b] T97.und T45 rfl rfl (by rw [natmin (c := 1) (by omega)]; rfl) (hnews _ hgw _ rfl) (by simp only [List.size_toArray, setL_length, Array.length_toList, List.length_cons, List.length_nil]; omega) hab ?_)
      clear hs; intro w hs
      refine WO.done (WX.seq (WC.seq (WC.region (WO.step rfl (OR.move rfl (WO.step rfl (OR.assign rfl ?_)))))))
      refine WO.done (WX.seq (WC.ret (WX.seq_ret ?_)))
      refine WX.ret1 rfl rfl ?_
      refine ⟨_, H, [_], rfl, hs.drop 1, by simp, Own.block (by omega) (by simp [setL_length, hc]) ?_ hg⟩
      simp only [Nat.zero_add]
      subst hx
      exact take_ins2 c.toList a b n i (by rw [Array.length_toList]; omega) hlt
  · have : i = n := by omega
    subst this
    have hM' : ∀ q ∈ Mo, q.2.2 = true := ho.tt
    have hs : HS (Mem.keys Mo) H0 w0 H0 (Mo ++ [(gv, .cells #[a, b] 45, false)]) w0 := by
      refine HS.start _ h0 (fun q o t hm => ?_) ?_
      · rcases List.mem_append.1 hm with hm | hm
        · exact ⟨(hM _ hm).1, (hM _ hm).2, fun _ => List.mem_map.2 ⟨_, hm, rfl⟩⟩
        · have := List.mem_singleton.1 hm; cases this; exact ⟨hgv, hgn, fun h => by cases h⟩
      · rcases ho.2 with ⟨rfl, _⟩ | ⟨g, c, cap, rfl, _⟩
        · simp [Mem.keys]
        · have := hne _ (List.mem_singleton_self _); simp [Mem.keys]; exact Ne.symm this
    obtain ⟨br, cr, rfl⟩ := ho.form
    refine Calls.enter (args := [.slice br i cr, .int .i64 (i : Int), .slice (some ⟨gv, 0, none⟩) 1 1]) Tryz.func126 rfl Tryz.ntmps126 rfl ?_
    refine WC.seq (WC.region (WO.step rfl (OR.assign rfl (WO.done (WX.seq (WC.seq (WC.region ?_)))))))
    refine WO.step rfl (OR.move rfl (WO.step rfl (OR.move rfl ?_)))
    refine WO.step rfl (OR.sliceLoG i T97.und T45 rfl rfl rfl (Nat.le_refl _) ?_)
    refine WO.done (WX.seq (WC.seq (WC.region (WO.step rfl (OR.move rfl (WO.step rfl (OR.lenSlice T97.und rfl ?_)))))))
    refine WO.step rfl (OR.assign rfl (WO.done (WX.seq (WC.seq (WC.seq (WC.region (WO.step rfl ?_)))))))
    refine OR.move rfl (WO.step rfl (OR.eql rfl rfl (WO.done (WX.seq ?_))))
    refine WC.no rfl (decide_eq_false (by omega)) ?_
    refine WC.skip (WX.seq (WC.seq (WC.region (WO.step rfl (OR.move rfl (WO.step rfl (OR.lenSlice T97.und rfl ?_)))))))
    refine WO.step rfl (OR.assign rfl (WO.done (WX.seq (WC.seq (WC.seq (WC.region (WO.step rfl ?_)))))))
    refine OR.move rfl (WO.step rfl (OR.move rfl (WO.step rfl (OR.eql rfl rfl (WO.done (WX.seq ?_))))))
    refine WC.yes rfl (decide_eq_true rfl) ?_
    refine WC.seq (WC.region (WO.step rfl (OR.move rfl (WO.step rfl (OR.move rfl ?_)))))
    refine WO.step rfl (OR.appendN (m := 1) (news := [a, b]) hN hs ho T97.und T45 rfl (by omega) rfl rfl rfl (hnews _ hgv) (fun h => by cases h) hab (by omega) (by omega) ?_)
    have ho0 := ho
    clear hs ho; intro vo' w Mo' hs ho hge
    replace hs := hs.dropMid
    refine WO.step rfl (OR.assign rfl (WO.done (WX.seq (WC.ret (WX.seq_ret ?_)))))
    refine WX.ret1 rfl rfl ?_
    refine ⟨_, H0, Mo', rfl, by simpa using hs, ho.tt, ?_⟩
    have e1 : i * 2 = cs.length := ho0.1.symm
    rw [e1, List.take_length, List.drop_length, List.append_nil]
    exact ho

end Go.Bw
namespace Go.Bw
set_option linter.unusedVariables false
set_option linter.unusedSimpArgs false
open Go.Proofs
/-- A row made 1 at its lead. -/
def normR (q : RowD) : RowD :=
  (q.1.map (fun x => mul x (pw ((255 - lg (q.1.getD (lead q.1).toNat 0)) % 255))), q.2.map (fun x => mul x (pw ((255 - lg (q.1.getD (lead q.1).toNat 0)) % 255))))
/-- One put into a list. -/
def insAt {α : Type} (l : List α) (i : Nat) (x : α) : List α := l.take i ++ [x] ++ l.drop i
/-- A row of the basis, freed of the new one's lead. -/
def freeR (q : RowD) (x : RowD) : RowD := plusR x (normR q) (x.1.getD (lead q.1).toNat 0)
/-- What Insert does. -/
def insR (g s : Nat) (rows : List RowD) (r : RowD) : Bool × List RowD :=
  if r.1.length = g ∧ r.2.length = s then
    if lead (redR rows r).1 < 0 then (false, rows)
    else (true, insAt (rows.map (freeR (redR rows r))) (placeOf rows (lead (redR rows r).1)) (normR (redR rows r)))
  else (false, rows)

theorem rowCells_take : ∀ (cs : List (Value × Value)) (i : Nat), (rowCells cs).take (i * 2) = rowCells (cs.take i)
  | [], i => by simp [rowCells]
  | (c, p) :: l, 0 => by simp [rowCells]
  | (c, p) :: l, i + 1 => by rw [show (i + 1) * 2 = i * 2 + 1 + 1 by omega]; simp [rowCells, rowCells_take l i]
theorem rowCells_drop : ∀ (cs : List (Value × Value)) (i : Nat), (rowCells cs).drop (i * 2) = rowCells (cs.drop i)
  | [], i => by simp [rowCells]
  | (c, p) :: l, 0 => by simp [rowCells]
  | (c, p) :: l, i + 1 => by rw [show (i + 1) * 2 = i * 2 + 1 + 1 by omega]; simp [rowCells, rowCells_drop l i]
theorem rowCells_set : ∀ (cs : List (Value × Value)) (i : Nat) (a b : Value), setL (rowCells cs) (i * 2) [a, b] = rowCells (cs.set i (a, b))
  | [], i, a, b => by cases i <;> simp [rowCells, setL]
  | (c, p) :: l, 0, a, b => by simp [rowCells, setL, setL_nil]
  | (c, p) :: l, i + 1, a, b => by
    rw [show (i + 1) * 2 = i * 2 + 1 + 1 by omega, List.set_cons_succ]
    show c :: p :: setL (rowCells l) (i * 2) [a, b] = c :: p :: rowCells (l.set i (a, b))
    rw [rowCells_set l i a b]
theorem take_setL (c : List Value) (k m : Nat) (vs : List Value) (h : k + vs.length ≤ m) (hm : m ≤ c.length) : (setL c k vs).take m = setL (c.take m) k vs := by
  rw [setL_at _ _ _ (by omega), setL_at _ _ _ (by rw [List.length_take]; omega)]
  rw [List.take_take, Nat.min_eq_left (by omega)]
  have e1 : (c.take k ++ vs).length = k + vs.length := by rw [List.length_append, List.length_take]; omega
  rw [List.take_append, List.take_of_length_le (by omega : (c.take k ++ vs).length ≤ m), e1, List.drop_take]
theorem RowsOk.set {H : Hp} {cs : List (Value × Value)} {rs : List RowD} (h : RowsOk H cs rs) (k : Nat) {c p : Value} {r : RowD} (hc : Bytes H c r.1) (hp : Bytes H p r.2) : RowsOk H (cs.set k (c, p)) (rs.set k r) := by
  refine ⟨by simp [h.1], fun i a b => ?_⟩
  simp only [List.getElem_set]
  split
  · exact ⟨hc, hp⟩
  · exact h.2 i (by simpa using a) (by simpa using b)
theorem RowsOk.ins {H : Hp} {cs : List (Value × Value)} {rs : List RowD} (h : RowsOk H cs rs) (k : Nat) (hk : k ≤ rs.length) {c p : Value} {r : RowD} (hc : Bytes H c r.1) (hp : Bytes H p r.2) : RowsOk H (insAt cs k (c, p)) (insAt rs k r) := by
  have hl := h.1
  have e1 : (cs.take k ++ [(c, p)]).length = k + 1 := by simp; omega
  have e2 : (rs.take k ++ [r]).length = k + 1 := by simp; omega
  refine ⟨by simp [insAt]; omega, fun i a b => ?_⟩
  unfold insAt at a b ⊢
  simp only [List.getElem_append, e1, e2, List.length_take, Nat.min_eq_left hk, Nat.min_eq_left (hl ▸ hk : k ≤ cs.length), List.getElem_take, List.getElem_drop]
  by_cases h1 : i < k + 1
  · simp only [h1, dif_pos]
    by_cases h2 : i < k
    · simp only [h2, dif_pos]
      exact h.2 i _ _
    · simp only [h2, dif_neg, not_false_iff]
      have : i - k = 0 := by omega
      simp only [this, List.getElem_cons_zero]
      exact ⟨hc, hp⟩
  · simp only [h1, dif_neg, not_false_iff]
    exact h.2 _ _ _
theorem rows_one {H : Hp} {cs : List (Value × Value)} {rs : List RowD} (h : RowsOk H cs rs) : (rowCells cs).all (·.oneCell') = true := by
  rw [List.all_eq_true]
  intro v hv
  obtain ⟨i, hi, e⟩ := List.mem_iff_getElem.1 hv
  rw [rowCells_length] at hi
  have h1 := rowCells_get cs (i / 2) (by omega)
  have hok := h.2 (i / 2) (by have := h.1; omega) (by omega)
  obtain ⟨_, _, e1⟩ := hok.1.form
  obtain ⟨_, _, e2⟩ := hok.2.form
  have h4 : (rowCells cs)[i]? = some v := by rw [List.getElem?_eq_getElem (by rw [rowCells_length]; omega), e]
  rcases Nat.mod_two_eq_zero_or_one i with h2 | h2
  · have h3 := h1.1
    rw [show i / 2 * 2 = i by omega, h4] at h3
    rw [Option.some.inj h3, e1]; rfl
  · have h3 := h1.2
    rw [show i / 2 * 2 + 1 = i by omega, h4] at h3
    rw [Option.some.inj h3, e2]; rfl
theorem two_cells {w : World} {g o : Nat} {c : Array Value} {e : TypeId} {fr : Nat × Nat} {x y : Value} (hb : w.heap[g]? = some (.cells c e fr)) (h0 : c.toList[o]? = some x) (h1 : c.toList[o + 1]? = some y) :
    ∀ j u, [x, y][j]? = some u → w.cell? ((⟨g, o, none⟩ : Addr).add j) = some u := by
  intro j u hj
  match j, hj with
  | 0, hj => simp at hj; subst hj; exact cells_at hb h0
  | 1, hj => simp at hj; subst hj; exact cells_at hb h1
/-- The first k freed. -/
def updR (f : RowD → RowD) (rows : List RowD) (k : Nat) : List RowD := (rows.take k).map f ++ rows.drop k
theorem updR_len (f : RowD → RowD) (rows : List RowD) (k : Nat) : (updR f rows k).length = rows.length := by simp [updR]; omega
theorem updR_step (f : RowD → RowD) (rows : List RowD) (k : Nat) (h : k < rows.length) : (updR f rows k).set k (f rows[k]) = updR f rows (k + 1) := by
  unfold updR
  rw [List.take_succ_eq_append_getElem h, List.map_append, List.set_append_right _ _ (by simp; omega)]
  have : k - ((rows.take k).map f).length = 0 := by simp; omega
  rw [this, List.drop_eq_getElem_cons h, List.set_cons_zero, List.append_assoc]
  rfl
theorem updR_at (f : RowD → RowD) (rows : List RowD) (k : Nat) (h : k < rows.length) (h' : k < (updR f rows k).length) : (updR f rows k)[k] = rows[k] := by
  have : (updR f rows k)[k]? = some rows[k] := by
    unfold updR
    rw [List.getElem?_append_right (by simp; omega)]
    have e : k - ((rows.take k).map f).length = 0 := by simp; omega
    rw [e, List.drop_eq_getElem_cons h]
    rfl
  rw [List.getElem?_eq_getElem h'] at this
  exact Option.some.inj this

theorem lead_some {l : List UInt8} {i : Nat} (h : lead l = (i : Int)) : ∃ h : i < l.length, l[i] ≠ 0 ∧ ∀ j (hj : j < i), l[j]'(by omega) = 0 := by
  unfold lead idxFrom at h
  rw [List.drop_zero] at h
  cases hf : l.findIdx? (fun x => decide (x ≠ 0)) with
  | none => rw [hf] at h; simp only at h; omega
  | some k =>
    rw [hf] at h
    simp only at h
    have : k = i := by omega
    subst this
    obtain ⟨h1, h2, h3⟩ := List.findIdx?_eq_some_iff_getElem.1 hf
    exact ⟨h1, by simpa using h2, fun j hj => by simpa using h3 j hj⟩

set_option maxRecDepth 20000 in
set_option maxHeartbeats 2000000 in
theorem insert_ok (rows : List RowD) (r : RowD) (rv rc rp : Value) (b g s : Nat) (H0 : Hp) (w0 : World) (h0 : Sub H0 w0) (hb : w0.heap[b]? = some (basisObj g s rv)) (hn : H0 b = none) (hv : Rws H0 rv rows)
    (hrc : Bytes H0 rc r.1) (hrp : Bytes H0 rp r.2) (hrs : ∀ x ∈ rows, RowGS g s x ∧ 0 ≤ lead x.1) (hg0 : 0 < g) (hg : g ≤ 255) (hsm : s ≤ 65535) (hlen : rows.length ≤ 255) :
    Calls Tryz.prog 72 #[ptr b, .agg #[rc, rp]] w0 (Ret [b] H0 w0 fun v H' M' => ∃ rv', M' = [(b, basisObj g s rv', true)] ∧ Rws H' rv' (insR g s rows r).2 ∧
      v = .tuple #[.bool (insR g s rows r).1, .int .i64 (if r.1.length = g ∧ r.2.length = s then 0 else 21)]) := by
  have hs := HS.start1 h0 hb hn
  have hle := Hp.le.refl H0
  have hv0 := hv
  obtain ⟨br, cr, rfl⟩ := hv.form
  obtain ⟨b1, c1, rfl⟩ := hrc.form
  obtain ⟨b2, c2, rfl⟩ := hrp.form
  refine Calls.enter (args := [ptr b, .agg #[.slice b1 r.1.length c1, .slice b2 r.2.length c2]]) Tryz.func72 rfl Tryz.ntmps72 rfl ?_
  refine WC.seq (WC.region (WO.step rfl (OR.box hs rfl ?_)))
  clear hs; intro g1 w hg1 hs
  refine WO.step rfl (OR.assign rfl (WO.step rfl (OR.assign rfl (WO.done (WX.seq (WC.seq (WC.block ?_)))))))
  refine WC.seq (WC.region (WO.step rfl (OR.move rfl ?_)))
  have hbw := hs.blk (i := 1) rfl
  refine WO.step rfl (OR.call hs body119 rfl rfl (made_yes b g s _ _ _ hs.toSub hbw hn hg0) ?_)
  clear hs; rintro _ H w hs hle1 rfl; replace hle := hle.trans hle1; (try replace hlb := hlb.trans hle1)
  refine WO.step rfl (OR.not rfl (WO.step rfl (OR.assign rfl (WO.done (WX.seq ?_)))))
  refine WC.no rfl rfl ?_
  by_cases hdim : r.1.length = g ∧ r.2.length = s
  · have hone : insR g s rows r = if lead (redR rows r).1 < 0 then (false, rows) else (true, insAt (rows.map (freeR (redR rows r))) (placeOf rows (lead (redR rows r).1)) (normR (redR rows r))) := by rw [insR, if_pos hdim]
    rw [hone]
    simp only [if_pos hdim]
    refine WC.seq ?_
    refine WC.draw 19 mixed hs (by kernel_rfl) ?_
    refine ⟨MF.eq _, by intro Mx H w hle hs; refine forVals_nil (ORg.plain (OR.fieldAddr FA45_0 rfl ?_)); exact ⟨_, [], Hp.le.refl _, hs, rfl, rfl⟩, ?_⟩
    refine ⟨MF.eq _, by intro Mx H w hle hs; refine forVals_eq rfl rfl rfl ?_; refine forVals_nil (ORg.plain (OR.load T43 rfl rfl (hs.right.cellM (i := 0) rfl rfl) ?_)); exact ⟨_, [], Hp.le.refl _, hs, rfl, rfl⟩, ?_⟩
    refine ⟨MF.eq _, by intro Mx H w hle hs; refine forVals_eq rfl rfl rfl ?_; refine forVals_nil (ORg.plain (OR.lenSlice T43.und rfl ?_)); exact ⟨_, [], Hp.le.refl _, hs, rfl, rfl⟩, ?_⟩
    refine ⟨MF.eq _, by intro Mx H w hle hs; refine forVals_nil (ORg.plain (OR.move rfl ?_)); exact ⟨_, [], Hp.le.refl _, hs, rfl, rfl⟩, ?_⟩
    refine ⟨MF.eq _, by intro Mx H w hle hs; refine forVals_eq rfl rfl rfl ?_; refine forVals_nil (ORg.plain (OR.nilCheck rfl ?_)); exact ⟨_, [], Hp.le.refl _, hs, rfl, rfl⟩, ?_⟩
    refine ⟨MF.eq _, by intro Mx H w hle hs; refine forVals_eq rfl rfl rfl ?_; refine forVals_nil (ORg.plain (OR.fieldAddr FA194_0 rfl ?_)); exact ⟨_, [], Hp.le.refl _, hs, rfl, rfl⟩, ?_⟩
    refine ⟨MF.eq _, by intro Mx H w hle hs; refine forVals_eq rfl rfl rfl ?_; refine forVals_nil (ORg.plain (OR.load T3 rfl rfl (hs.right.cellM (i := 1) rfl rfl) ?_)); exact ⟨_, [], Hp.le.refl _, hs, rfl, rfl⟩, ?_⟩
    refine ⟨MF.eq _, by intro Mx H w hle hs; refine forVals_eq rfl rfl rfl ?_; refine forVals_eq rfl rfl rfl ?_; refine forVals_nil (ORg.plain (OR.neq rfl rfl ?_)); exact ⟨_, [], Hp.le.refl _, hs, rfl, rfl⟩, ?_⟩
    refine ⟨MF.eq _, by intro Mx H w hle hs; refine forVals_eq rfl rfl rfl ?_; refine forVals_nil (ORg.plain (OR.move rfl ?_)); exact ⟨_, [], Hp.le.refl _, hs, rfl, rfl⟩, ?_⟩
    refine ⟨MF.eq _, by intro Mx H w hle hs; refine forVals_eq rfl rfl rfl ?_; refine forVals_nil (ORg.yes rfl (decide_eq_false (by omega : ¬ ((r.1.length : Int) ≠ (g : Int)))) rfl (OR.fieldAddr FA45_1 rfl ?_)); exact ⟨_, [], Hp.le.refl _, hs, rfl, rfl⟩, ?_⟩
    refine ⟨MF.eq _, by intro Mx H w hle hs; refine forVals_eq rfl rfl rfl ?_; refine forVals_eq rfl rfl rfl ?_; refine forVals_nil (ORg.yes rfl (decide_eq_false (by omega : ¬ ((r.1.length : Int) ≠ (g : Int)))) rfl (OR.load T43 rfl rfl (hs.right.cellM (i := 0) rfl rfl) ?_)); exact ⟨_, [], Hp.le.refl _, hs, rfl, rfl⟩, ?_⟩
    refine ⟨MF.eq _, by intro Mx H w hle hs; refine forVals_eq rfl rfl rfl ?_; refine forVals_eq rfl rfl rfl ?_; refine forVals_nil (ORg.yes rfl (decide_eq_false (by omega : ¬ ((r.1.length : Int) ≠ (g : Int)))) rfl (OR.lenSlice T43.und rfl ?_)); exact ⟨_, [], Hp.le.refl _, hs, rfl, rfl⟩, ?_⟩
    refine ⟨MF.eq _, by intro Mx H w hle hs; refine forVals_eq rfl rfl rfl ?_; refine forVals_nil (ORg.yes rfl (decide_eq_false (by omega : ¬ ((r.1.length : Int) ≠ (g : Int)))) rfl (OR.move rfl ?_)); exact ⟨_, [], Hp.le.refl _, hs, rfl, rfl⟩, ?_⟩
    refine ⟨MF.eq _, by intro Mx H w hle hs; refine forVals_eq rfl rfl rfl ?_; refine forVals_eq rfl rfl rfl ?_; refine forVals_nil (ORg.yes rfl (decide_eq_false (by omega : ¬ ((r.1.length : Int) ≠ (g : Int)))) rfl (OR.nilCheck rfl ?_)); exact ⟨_, [], Hp.le.refl _, hs, rfl, rfl⟩, ?_⟩
    refine ⟨MF.eq _, by intro Mx H w hle hs; refine forVals_eq rfl rfl rfl ?_; refine forVals_eq rfl rfl rfl ?_; refine forVals_nil (ORg.yes rfl (decide_eq_false (by omega : ¬ ((r.1.length : Int) ≠ (g : Int)))) rfl (OR.fieldAddr FA194_1 rfl ?_)); exact ⟨_, [], Hp.le.refl _, hs, rfl, rfl⟩, ?_⟩
    refine ⟨MF.eq _, by intro Mx H w hle hs; refine forVals_eq rfl rfl rfl ?_; refine forVals_eq rfl rfl rfl ?_; refine forVals_nil (ORg.yes rfl (decide_eq_false (by omega : ¬ ((r.1.length : Int) ≠ (g : Int)))) rfl (OR.load T3 rfl rfl (hs.right.cellM (i := 1) rfl rfl) ?_)); exact ⟨_, [], Hp.le.refl _, hs, rfl, rfl⟩, ?_⟩
    refine ⟨MF.eq _, by intro Mx H w hle hs; refine forVals_eq rfl rfl rfl ?_; refine forVals_eq rfl rfl rfl ?_; refine forVals_eq rfl rfl rfl ?_; refine forVals_nil (ORg.yes rfl (decide_eq_false (by omega : ¬ ((r.1.length : Int) ≠ (g : Int)))) rfl (OR.neq rfl rfl ?_)); exact ⟨_, [], Hp.le.refl _, hs, rfl, rfl⟩, ?_⟩
    refine ⟨MF.eq _, by intro Mx H w hle hs; refine forVals_eq rfl rfl rfl ?_; refine forVals_eq rfl rfl rfl ?_; refine forVals_nil (ORg.plain (OR.pickF rfl (decide_eq_false (by omega : ¬ ((r.1.length : Int) ≠ (g : Int)))) rfl ?_)); exact ⟨_, [], Hp.le.refl _, hs, rfl, rfl⟩, ?_⟩
    refine ⟨MF.eq _, by intro Mx H w hle hs; refine forVals_eq rfl rfl rfl ?_; refine forVals_nil (ORg.plain (OR.assign rfl ?_)); exact ⟨_, [], Hp.le.refl _, hs, rfl, rfl⟩, ?_⟩
    intro H w hle2; (try replace hle := hle.trans hle2); (try replace hlb := hlb.trans hle2)
    refine forAllVals_eq rfl ?_
    refine forAllVals_eq rfl ?_
    refine forAllVals_eq rfl ?_
    refine forAllVals_eq rfl ?_
    refine forAllVals_eq rfl ?_
    refine forAllVals_eq rfl ?_
    refine forAllVals_eq rfl ?_
    refine forAllVals_eq rfl ?_
    refine forAllVals_eq rfl ?_
    refine forAllVals_eq rfl ?_
    refine forAllVals_eq rfl ?_
    refine forAllVals_eq rfl ?_
    refine forAllVals_eq rfl ?_
    refine forAllVals_eq rfl ?_
    refine forAllVals_eq rfl ?_
    refine forAllVals_eq rfl ?_
    refine forAllVals_eq rfl ?_
    refine forAllVals_eq rfl ?_
    refine forAllVals_eq rfl ?_
    refine forAllVals_nil ?_; (try clear hs); intro hs
    refine WO.done (WX.seq ?_)
    refine WC.no rfl (decide_eq_false (by omega)) ?_
    refine WC.skip (WX.block (WX.seq (WC.seq (WC.region (WO.step rfl (OR.move rfl (WO.step rfl ?_)))))))
    refine OR.loadAll T45 rfl rfl (hs.blk (i := 0) rfl) rfl ?_
    refine WO.step rfl (OR.call hs body121 rfl rfl (own_ok r _ _ _ _ hs.toSub (hrc.mono hle) (hrp.mono hle) (by omega) (by omega)) ?_)
    clear hs; rintro _ H w hs hle1 ⟨q1, q2, rfl, hq1, hq2⟩; replace hle := hle.trans hle1; (try replace hlb := hlb.trans hle1)
    have hbw := hs.blk (i := 1) rfl
    refine WO.step rfl (OR.call hs body120 rfl rfl (reduced_ok r rows _ _ _ b g s _ _ hs.toSub hbw (hs.mem b _ true (List.mem_cons_of_mem _ (List.mem_cons_self ..))).2.1 (hv.mono hle) hq1 hq2 hdim hrs hg hsm hlen) ?_)
    clear hs; rintro _ H w hs hle1 ⟨q3, q4, rfl, hq3, hq4⟩; replace hle := hle.trans hle1; (try replace hlb := hlb.trans hle1)
    have hq := redR_gs rows r hdim (fun x hx => (hrs x hx).1)
    generalize hqd : redR rows r = q at hq hq3 hq4 ⊢
    obtain ⟨b3, c3, rfl⟩ := hq3.form
    obtain ⟨b4, c4, rfl⟩ := hq4.form
    have hlb := Hp.le.refl H
    refine WO.stepN (OR.storeAll hs T45 rfl rfl rfl rfl rfl ?_)
    clear hs; intro w hs
    refine WO.done (WX.seq (WC.seq (WC.seq (WC.region (WO.step rfl (OR.fieldAddr FA45_0 rfl (WO.step rfl ?_)))))))
    refine OR.load T43 rfl rfl (hs.cellM (i := 0) rfl rfl) ?_
    refine WO.step rfl (OR.call hs body50 rfl rfl (isZero_ok _ _ _ _ hs.toSub hq3 (by rw [hq.1]; omega)) ?_)
    clear hs; rintro _ H w hs hle1 rfl; replace hle := hle.trans hle1; (try replace hlb := hlb.trans hle1)
    refine WO.done (WX.seq ?_)
    refine WC.condD rfl (fun hz => ?_) (fun hz => ?_)
    · refine WC.seq (WC.region (WO.step rfl (OR.assign rfl (WO.step rfl (OR.assign rfl (WO.done (WX.seq ?_)))))))
      refine WC.ret (WX.seq_ret ?_)
      replace hs := hs.drop (i := 0)
      refine WX.ret2 rfl rfl rfl ?_
      simp only [if_pos hz]
      exact ⟨_, H, _, rfl, hs, by simp, _, rfl, hv.mono hle, rfl⟩
    · simp only [if_neg hz]
      have hld : 0 ≤ lead q.1 := by omega
      obtain ⟨L, hL⟩ := Int.eq_ofNat_of_zero_le hld
      obtain ⟨hLt, hne, _⟩ := lead_some hL
      have hcoef : q.1.getD (lead q.1).toNat 0 = q.1[L] := by rw [hL]; simp [hLt]
      obtain ⟨xb, xo, rfl, hcr⟩ := hq3.pos (by omega)
      refine WC.skip (WX.seq (WC.seq (WC.region (WO.step rfl (OR.fieldAddr FA45_0 rfl (WO.step rfl (OR.load T43 rfl rfl (hs.cellM (i := 0) rfl rfl) ?_)))))))
      refine WO.step rfl (OR.call hs body110 rfl rfl (lead_ok _ _ _ _ hs.toSub (hq3.mono hlb) (by rw [hq.1]; omega)) ?_)
      clear hs; rintro _ H w hs hle1 rfl; replace hle := hle.trans hle1; (try replace hlb := hlb.trans hle1)
      refine WO.step rfl (OR.assign rfl (WO.done (WX.seq (WC.seq (WC.region (WO.step rfl (OR.fieldAddr FA45_0 rfl ?_)))))))
      refine WO.step rfl (OR.load T43 rfl rfl (hs.cellM (i := 0) rfl rfl) (WO.step rfl (OR.move rfl ?_)))
      refine WO.step rfl (OR.idx L T43.und T5 rfl rfl hL hLt ?_)
      refine WO.step rfl (OR.load T5 rfl rfl (hs.cell (hcell.mono hlb (hcr L hLt))) ?_)
      refine WO.step rfl (OR.call hs body122 rfl rfl (inv_ok q.1[L] _ _ hs.toSub) ?_)
      clear hs; rintro _ H w hs hle1 rfl; replace hle := hle.trans hle1; (try replace hlb := hlb.trans hle1)
      rw [if_neg hne]
      refine WO.step rfl (OR.move rfl (WO.step rfl (OR.extract rfl rfl (WO.step rfl (OR.extract rfl rfl (WO.step rfl (OR.assign rfl ?_)))))))
      refine WO.step rfl (OR.assign rfl (WO.done (WX.seq (WC.seq ?_))))
      have hnorm : normR q = (q.1.map (fun x => mul x (pw ((255 - lg q.1[L]) % 255))), q.2.map (fun x => mul x (pw ((255 - lg q.1[L]) % 255)))) := by rw [normR, hcoef]
      refine WC.draw 9 mixed hs (by kernel_rfl) ?_
      refine ⟨MF.eq _, by intro Mx H w hle hs; refine forVals_nil (ORg.plain (OR.fieldAddr FA45_0 rfl ?_)); exact ⟨_, [], Hp.le.refl _, hs, rfl, rfl⟩, ?_⟩
      refine ⟨MF.eq _, by intro Mx H w hle hs; refine forVals_eq rfl rfl rfl ?_; refine forVals_nil (ORg.plain (OR.load T43 rfl rfl (hs.right.cellM (i := 0) rfl rfl) ?_)); exact ⟨_, [], Hp.le.refl _, hs, rfl, rfl⟩, ?_⟩
      refine ⟨MF.eq _, by intro Mx H w hle hs; refine forVals_nil (ORg.plain (OR.move rfl ?_)); exact ⟨_, [], Hp.le.refl _, hs, rfl, rfl⟩, ?_⟩
      refine ⟨MF.bytes (normR q).1, ?_, ?_⟩
      · intro Mx H w hle2 hs; (try replace hle := hle.trans hle2); (try replace hlb := hlb.trans hle2); refine forVals_eq rfl rfl rfl ?_; refine forVals_eq rfl rfl rfl ?_
        refine forVals_nil (ORg.plain (OR.call hs body123 rfl rfl (scale_ok _ q.1 (pw ((255 - lg q.1[L]) % 255)) _ _ hs.toSub (hq3.mono hlb) (by rw [hq.1]; omega)) ?_))
        clear hs; rintro _ H w hs hle1 hr
        exact ⟨_, [], hle1, hs, (by rw [hnorm]; exact hr), rfl⟩
      refine ⟨MF.eq _, by intro Mx H w hle hs; refine forVals_nil (ORg.plain (OR.fieldAddr FA45_1 rfl ?_)); exact ⟨_, [], Hp.le.refl _, hs, rfl, rfl⟩, ?_⟩
      refine ⟨MF.eq _, by intro Mx H w hle hs; refine forVals_eq rfl rfl rfl ?_; refine forVals_nil (ORg.plain (OR.load T43 rfl rfl (hs.right.cellM (i := 0) rfl rfl) ?_)); exact ⟨_, [], Hp.le.refl _, hs, rfl, rfl⟩, ?_⟩
      refine ⟨MF.eq _, by intro Mx H w hle hs; refine forVals_nil (ORg.plain (OR.move rfl ?_)); exact ⟨_, [], Hp.le.refl _, hs, rfl, rfl⟩, ?_⟩
      refine ⟨MF.bytes (normR q).2, ?_, ?_⟩
      · intro Mx H w hle2 hs; (try replace hle := hle.trans hle2); (try replace hlb := hlb.trans hle2); refine forVals_eq rfl rfl rfl ?_; refine forVals_eq rfl rfl rfl ?_
        refine forVals_nil (ORg.plain (OR.call hs body123 rfl rfl (scale_ok _ q.2 (pw ((255 - lg q.1[L]) % 255)) _ _ hs.toSub (hq4.mono hlb) (by rw [hq.2]; omega)) ?_))
        clear hs; rintro _ H w hs hle1 hr
        exact ⟨_, [], hle1, hs, (by rw [hnorm]; exact hr), rfl⟩
      refine ⟨MF.row (normR q), ?_, ?_⟩
      · intro Mx H w hle2 hs; (try replace hle := hle.trans hle2); (try replace hlb := hlb.trans hle2); refine forVals_of rfl rfl rfl ?_; intro v3 h3; refine forVals_of rfl rfl rfl ?_; intro v7 h7
        obtain ⟨_, _, rfl⟩ := h3.form
        obtain ⟨_, _, rfl⟩ := h7.form
        refine forVals_nil (ORg.plain (OR.buildAll T45 rfl rfl PL45 rfl rfl ?_))
        exact ⟨_, [], Hp.le.refl _, hs, ⟨_, _, rfl, h3, h7⟩, rfl⟩
      intro H w hle2; (try replace hle := hle.trans hle2); (try replace hlb := hlb.trans hle2)
      refine forAllVals_eq rfl ?_
      refine forAllVals_eq rfl ?_
      refine forAllVals_eq rfl ?_
      refine forAllVals_of rfl ?_; intro v3 h3
      refine forAllVals_eq rfl ?_
      refine forAllVals_eq rfl ?_
      refine forAllVals_eq rfl ?_
      refine forAllVals_of rfl ?_; intro v7 h7
      refine forAllVals_of rfl ?_; intro v8 h8
      refine forAllVals_nil ?_; (try clear hs); intro hs
      obtain ⟨nc, np, rfl, hnc, hnp⟩ := h8
      obtain ⟨b5, c5, rfl⟩ := hnc.form
      obtain ⟨b6, c6, rfl⟩ := hnp.form
      have hngs : RowGS g s (normR q) := by rw [hnorm]; exact ⟨by simpa using hq.1, by simpa using hq.2⟩
      clear hlb; have hlb := Hp.le.refl H
      obtain ⟨cs, hsl, hok⟩ := hv0
      refine WO.stepN (OR.storeAll hs T45 rfl rfl rfl rfl rfl ?_)
      clear hs; intro w hs
      refine WO.done (WX.seq (WC.seq (WC.region (WO.step rfl (OR.move rfl (WO.step rfl (OR.nilCheck rfl ?_)))))))
      refine WO.step rfl (OR.fieldAddr FA194_2 rfl (WO.step rfl (OR.load T97 rfl rfl (hs.cellM (i := 1) rfl rfl) ?_)))
      have hsz := hs.size
      refine WO.step rfl (OR.callX (Mx := []) hs body124 rfl rfl (cloneRows_ok _ rows.length (rowCells cs) _ _ hs.toSub (hsl.mono hle) (rows_one hok) (by omega)) rfl rfl ?_)
      clear hs; rintro _ H M' w hs hle1 hnew ⟨rfl, ho⟩; replace hle := hle.trans hle1; (try replace hlb := hlb.trans hle1)
      replace hs := hs.perm (List.perm_append_comm (l₁ := [_, _]) (l₂ := _))
      replace ho := ho
      obtain ⟨bo, co, rfl⟩ := ho.form
      refine WO.step rfl (OR.assign rfl (WO.done (WX.seq (WC.seq (WC.seq (WC.region (WO.step rfl ?_)))))))
      refine OR.move rfl (WO.step rfl (OR.lenSlice T97.und rfl (WO.step rfl (OR.move rfl (WO.done (WX.seq (WC.block ?_)))))))
      refine WC.loop (ι := Nat) (fun k => [(0, ptr b), (3, ptr g1), (6, .int .i64 (lead q.1)), (9, .slice bo rows.length co), (68, .slice bo rows.length co), (69, .int .i64 (rows.length : Int)), (70, .int .i64 (k : Int))]) (fun k w => (k ≤ rows.length ∧ ∃ H2 cs Mo, Hp.le H0 H2 ∧ Hp.le H H2 ∧ RowsOk H2 cs (updR (freeR q) rows k) ∧ Own w0.heap.size 45 2 (.slice bo rows.length co) rows.length (rowCells cs) Mo ∧ HS [b] H0 w0 H2 ((g1, .cells #[.slice b5 (normR q).1.length c5, .slice b6 (normR q).2.length c6] 45, true) :: (b, basisObj g s (.slice br rows.length cr), true) :: Mo) w)) (fun k => rows.length - k) 0 ⟨rfl, rfl, rfl, rfl, rfl, rfl, rfl,  trivial⟩ ?_ (fun k w hW => ?_)
      · refine ⟨by omega, H, cs, _, hle, Hp.le.refl H, ?_, ho.mono hsz, hs⟩
        have : updR (freeR q) rows 0 = rows := by simp [updR]
        rw [this]; exact hok.mono hle
      obtain ⟨hk, H2, cs2, Mo, hle', hlb2, hok2, ho2, hs⟩ := hW
      clear hle; have hle := hle'
      refine WC.seq (WC.region (WO.step rfl (OR.lss rfl rfl (WO.done (WX.seq (WC.seq ?_))))))
      refine WC.condD rfl (fun hlt => ?_) (fun hlt => ?_)
      · have hk' : k < rows.length := by omega
        obtain ⟨hcl, ⟨rfl, hq9, h09⟩ | ⟨g3, cc, cap, rfl, hveq, hnc9, hcc, hxx, hg3⟩⟩ := ho2
        · omega
        cases hveq
        obtain ⟨ec, ep, hec0, hep0, hec, hep⟩ := hok2.get k (by rw [updR_len]; exact hk')
        rw [updR_at _ _ _ hk'] at hec hep
        have hgs := (hrs rows[k] (List.getElem_mem _)).1
        obtain ⟨be, ce, rfl⟩ := hec.form
        obtain ⟨bp, cp, rfl⟩ := hep.form
        obtain ⟨yb, yo, rfl, hcy⟩ := hec.pos (by rw [hgs.1]; omega)
        have hb3 := hs.blk (i := 2) rfl
        rw [← hxx] at hec0 hep0
        have hlb := Hp.le.refl H2
        refine WC.skip (WX.seq (WC.seq (WC.block (WC.seq (WC.region (WO.step rfl (OR.move rfl ?_)))))))
        refine WO.step rfl (OR.idxN k T97.und T45 rfl rfl rfl hk' ?_)
        refine WO.step rfl (OR.loadN (cs := [.slice (some ⟨yb, yo, none⟩) rows[k].1.length ce, .slice bp rows[k].2.length cp]) T45 rfl rfl rfl (two_cells hb3 (by rw [Nat.zero_add]; exact get_take hec0) (by rw [Nat.zero_add]; exact get_take hep0)) ?_)
        refine WO.step rfl (OR.alloc hs T45 ?_)
        clear hs; intro g2 w hg2 hs
        refine WO.step rfl (OR.assign rfl (WO.stepN (OR.storeAll hs T45 rfl rfl rfl rfl rfl ?_)))
        clear hs; intro w hs
        refine WO.done (WX.seq ?_)
        refine WC.draw 10 mixed hs (by kernel_rfl) ?_
        refine ⟨MF.eq _, by intro Mx H w hle hs; refine forVals_nil (ORg.plain (OR.move rfl ?_)); exact ⟨_, [], Hp.le.refl _, hs, rfl, rfl⟩, ?_⟩
        refine ⟨MF.eq _, by intro Mx H w hle hs; refine forVals_nil (ORg.plain (OR.move rfl ?_)); exact ⟨_, [], Hp.le.refl _, hs, rfl, rfl⟩, ?_⟩
        refine ⟨MF.eq _, by intro Mx H w hle hs; refine forVals_nil (ORg.plain (OR.loadAll T45 rfl rfl (hs.right.blk (i := 0) rfl) rfl ?_)); exact ⟨_, [], Hp.le.refl _, hs, rfl, rfl⟩, ?_⟩
        refine ⟨MF.eq _, by intro Mx H w hle hs; refine forVals_nil (ORg.plain (OR.loadAll T45 rfl rfl (hs.right.blk (i := 1) rfl) rfl ?_)); exact ⟨_, [], Hp.le.refl _, hs, rfl, rfl⟩, ?_⟩
        refine ⟨MF.eq _, by intro Mx H w hle hs; refine forVals_nil (ORg.plain (OR.fieldAddr FA45_0 rfl ?_)); exact ⟨_, [], Hp.le.refl _, hs, rfl, rfl⟩, ?_⟩
        refine ⟨MF.eq _, by intro Mx H w hle hs; refine forVals_eq rfl rfl rfl ?_; refine forVals_nil (ORg.plain (OR.load T43 rfl rfl (hs.right.cellM (i := 0) rfl rfl) ?_)); exact ⟨_, [], Hp.le.refl _, hs, rfl, rfl⟩, ?_⟩
        refine ⟨MF.eq _, by intro Mx H w hle hs; refine forVals_nil (ORg.plain (OR.move rfl ?_)); exact ⟨_, [], Hp.le.refl _, hs, rfl, rfl⟩, ?_⟩
        refine ⟨MF.eq (.pointer (some ⟨yb, yo + L, none⟩)), ?_, ?_⟩
        · intro Mx H w hle2 hs; (try replace hle := hle.trans hle2); (try replace hlb := hlb.trans hle2); refine forVals_eq rfl rfl rfl ?_; refine forVals_eq rfl rfl rfl ?_
          refine forVals_nil (ORg.plain (OR.idx L T43.und T5 rfl rfl hL (by rw [hgs.1, ← hq.1]; exact hLt) ?_))
          exact ⟨_, [], Hp.le.refl _, hs, rfl, rfl⟩
        refine ⟨MF.eq (B (rows[k].1[L]'(by rw [hgs.1, ← hq.1]; exact hLt))), ?_, ?_⟩
        · intro Mx H w hle2 hs; (try replace hle := hle.trans hle2); (try replace hlb := hlb.trans hle2); refine forVals_eq rfl rfl rfl ?_
          refine forVals_nil (ORg.plain (OR.load T5 rfl rfl (hs.cell (hcell.mono hlb (hcy L (by rw [hgs.1, ← hq.1]; exact hLt)))) ?_))
          exact ⟨_, [], Hp.le.refl _, hs, rfl, rfl⟩
        refine ⟨MF.row (freeR q rows[k]), ?_, ?_⟩
        · intro Mx H w hle2 hs; (try replace hle := hle.trans hle2); (try replace hlb := hlb.trans hle2); refine forVals_eq rfl rfl rfl ?_; refine forVals_eq rfl rfl rfl ?_; refine forVals_eq rfl rfl rfl ?_
          refine forVals_nil (ORg.plain (OR.call hs body125 rfl rfl (plus_ok rows[k] (normR q) _ _ _ _ _ _ _ hs.toSub (hec.mono hlb) (hep.mono hlb) (hnc.mono (hlb2.trans hlb)) (hnp.mono (hlb2.trans hlb)) (by rw [hgs.1]; omega) (by rw [hgs.2]; omega)) ?_))
          clear hs; rintro _ H w hs hle1 hr
          exact ⟨_, [], hle1, hs, (by rw [freeR, hL]; simpa [hgs.1, ← hq.1, hLt] using hr), rfl⟩
        intro H w hle2; (try replace hle := hle.trans hle2); (try replace hlb := hlb.trans hle2)
        refine forAllVals_eq rfl ?_
        refine forAllVals_eq rfl ?_
        refine forAllVals_eq rfl ?_
        refine forAllVals_eq rfl ?_
        refine forAllVals_eq rfl ?_
        refine forAllVals_eq rfl ?_
        refine forAllVals_eq rfl ?_
        refine forAllVals_eq rfl ?_
        refine forAllVals_eq rfl ?_
        refine forAllVals_of rfl ?_; intro v9 h9
        refine forAllVals_nil ?_; (try clear hs); intro hs
        obtain ⟨wc, wp, rfl, hwc, hwp⟩ := h9
        obtain ⟨b7, c7, rfl⟩ := hwc.form
        obtain ⟨b8, c8, rfl⟩ := hwp.form
        refine WO.step rfl (OR.idxN k T97.und T45 rfl rfl rfl hk' ?_)
        replace hs := hs.front (i := 3) rfl
        refine WO.stepN (OR.store hs T45 rfl rfl rfl (by rw [hcc]; omega) rfl ?_)
        clear hs; intro w hs
        refine WO.done (WX.block (WX.seq (WC.region (WO.step rfl (OR.addI rfl rfl (by omega) (by omega) (WO.step rfl (OR.move rfl ?_)))))))
        refine WO.done ?_
        replace hs := hs.drop (i := 1)
        replace hs := hs.front (i := 2) rfl
        replace hs := hs.front (i := 2) rfl
        refine WX.again (k + 1) ⟨rfl, rfl, rfl, rfl, rfl, rfl, rfl,  trivial⟩ ?_ ?_
        · refine ⟨hk', _, cs2.set k (.slice b7 (freeR q rows[k]).1.length c7, .slice b8 (freeR q rows[k]).2.length c8), _, hle, hlb2.trans hlb, ?_, Own.block hnc9 ?_ ?_ hg3, hs⟩
          · rw [← updR_step _ _ _ hk']
            exact (hok2.mono hlb).set k hwc hwp
          · simp [setL_length, hcc]
          · rw [Nat.zero_add, ← rowCells_set, ← hxx]
            exact take_setL _ _ _ _ (by show k * 2 + 2 ≤ rows.length * 2; omega) (Nat.le_trans (Nat.mul_le_mul_right 2 hnc9) (Nat.le_of_eq hcc.symm))
        · omega
      · have e : k = rows.length := by omega
        subst e
        have hup : updR (freeR q) rows rows.length = rows.map (freeR q) := by simp [updR]
        rw [hup] at hok2
        have hbw := hs.blk (i := 1) rfl
        have hnw := (hs.mem b _ true (List.mem_cons_of_mem _ (List.mem_cons_self ..))).2.1
        have hlb := Hp.le.refl H2
        refine WC.exit (WX.seq_exit (WX.loop_exit (WX.block_hit (WX.seq (WC.seq ?_)))))
        refine WC.drawF 7 [0] mixed hs (by kernel_rfl) ?_
        refine ⟨MF.eq _, by intro Mx H w hle hs; refine forVals_nil (ORg.plain (OR.move rfl ?_)); exact ⟨_, [], Hp.le.refl _, hs, rfl, rfl⟩, ?_⟩
        refine ⟨MF.eq _, by intro Mx H w hle hs; refine forVals_nil (ORg.plain (OR.move rfl ?_)); exact ⟨_, [], Hp.le.refl _, hs, rfl, rfl⟩, ?_⟩
        refine ⟨MF.eq _, by intro Mx H w hle hs; refine forVals_nil (ORg.plain (OR.move rfl ?_)); exact ⟨_, [], Hp.le.refl _, hs, rfl, rfl⟩, ?_⟩
        refine ⟨MF.eq _, by intro Mx H w hle hs; refine forVals_nil (ORg.plain (OR.move rfl ?_)); exact ⟨_, [], Hp.le.refl _, hs, rfl, rfl⟩, ?_⟩
        refine ⟨MF.eq (.int .i64 (placeOf rows (lead q.1) : Int)), ?_, ?_⟩
        · intro Mx H w hle2 hs; (try replace hle := hle.trans hle2); (try replace hlb := hlb.trans hle2); refine forVals_eq rfl rfl rfl ?_; refine forVals_eq rfl rfl rfl ?_
          have hbw := hs.right.blk (i := 1) rfl
          have hnw := (hs.right.mem b _ true (List.mem_cons_of_mem _ (List.mem_cons_self ..))).2.1
          refine forVals_nil (ORg.plain (OR.call hs body127 rfl rfl (place_ok rows _ (lead q.1) b g s _ _ hs.toSub hbw hnw (hv.mono hle) (fun x hx => (hrs x hx).1) hg hlen) ?_))
          clear hs; rintro _ H w hs hle1 rfl
          exact ⟨_, [], hle1, hs, rfl, rfl⟩
        refine ⟨MF.eq _, by intro Mx H w hle hs; refine forVals_nil (ORg.plain (OR.loadAll T45 rfl rfl (hs.right.blk (i := 0) rfl) rfl ?_)); exact ⟨_, [], Hp.le.refl _, hs, rfl, rfl⟩, ?_⟩
        refine ⟨MF.sl w0.heap.size 1 (.cells #[.slice b5 (normR q).1.length c5, .slice b6 (normR q).2.length c6] 45), ?_, ?_⟩
        · intro Mx H w hle2 hs; (try replace hle := hle.trans hle2); (try replace hlb := hlb.trans hle2); refine forVals_eq rfl rfl rfl ?_
          refine forVals_nil (ORg.plain (OR.buildSlice (vs := [_]) hs T97.und T45 rfl rfl rfl rfl (by simp) ?_))
          intro g w hg hs; exact ⟨_, [_], Hp.le.refl _, hs, g, hg, rfl, rfl⟩
        intro H w hle2; (try replace hle := hle.trans hle2); (try replace hlb := hlb.trans hle2)
        refine forAllVals_eq rfl ?_
        refine forAllVals_eq rfl ?_
        refine forAllVals_eq rfl ?_
        refine forAllVals_eq rfl ?_
        refine forAllVals_eq rfl ?_
        refine forAllVals_eq rfl ?_
        refine forAllVals_sl rfl ?_; intro g9 hg9
        refine forAllVals_nil ?_; (try clear hs); intro hs
        replace hs := hs.perm (List.perm_append_comm (l₁ := Mo) (l₂ := [_, _, _]))
        refine WO.step rfl (OR.callX (Mx := Mo) hs body126 rfl rfl (insRows_ok w0.heap.size rows.length (placeOf rows (lead q.1)) _ _ _ _ Mo g9 _ _ hs.toSub (placeOf_le _ _) ho2 hs.size hs.known (hs.mem g9 _ true (List.mem_append_right _ (List.mem_cons_self ..))).1 (hs.mem g9 _ true (List.mem_append_right _ (List.mem_cons_self ..))).2.1 hs.apart rfl rfl (rows_one hok2) hlen) rfl (List.all_eq_true.2 ho2.tt) ?_)
        clear hs; rintro v H3 M3 w hs hle1 hnew ho3; replace hle := hle.trans hle1; replace hlb := hlb.trans hle1
        obtain ⟨H4, hle4, hs, hsl4, _⟩ := HS.pub hs ho3
        obtain ⟨bf, cf, rfl⟩ := ho3.form
        refine WO.step rfl (OR.nilCheck rfl (WO.step rfl (OR.fieldAddr FA194_2 rfl ?_)))
        replace hs := hs.front (i := 2) rfl
        refine WO.stepN (OR.store hs T97 rfl rfl rfl (Nat.le_of_ble_eq_true rfl) rfl ?_)
        clear hs; intro w hs
        refine WO.done (WX.seq (WC.seq (WC.region (WO.step rfl (OR.assign rfl (WO.step rfl (OR.assign rfl ?_)))))))
        refine WO.done (WX.seq (WC.ret ?_))
        refine WX.ret2 rfl rfl rfl ?_
        refine ⟨_, H4, _, rfl, (hs.drop 1).drop 1, by simp [dropAt], _, rfl, ?_, rfl⟩
        have hpl := placeOf_le rows (lead q.1)
        refine ⟨insAt cs2 (placeOf rows (lead q.1)) (.slice b5 (normR q).1.length c5, .slice b6 (normR q).2.length c6), ?_, ?_⟩
        · have e1 : (insAt (rows.map (freeR q)) (placeOf rows (lead q.1)) (normR q)).length = rows.length + 1 := by simp [insAt]; omega
          rw [e1]
          have e2 : rowCells (insAt cs2 (placeOf rows (lead q.1)) (.slice b5 (normR q).1.length c5, .slice b6 (normR q).2.length c6)) = (rowCells cs2).take (placeOf rows (lead q.1) * 2) ++ [.slice b5 (normR q).1.length c5, .slice b6 (normR q).2.length c6] ++ (rowCells cs2).drop (placeOf rows (lead q.1) * 2) := by
            rw [insAt, rowCells_append, rowCells_append, rowCells_take, rowCells_drop]; rfl
          rw [e2]
          exact hsl4
        · exact RowsOk.ins (hok2.mono (hlb.trans hle4)) _ (by simpa using hpl) (hnc.mono (hlb2.trans (hlb.trans hle4))) (hnp.mono (hlb2.trans (hlb.trans hle4)))
  · have hone : insR g s rows r = (false, rows) := by rw [insR, if_neg hdim]
    rw [hone]
    simp only [if_neg hdim]
    by_cases hd1 : r.1.length = g
    · have hd2 : ¬ r.2.length = s := fun h => hdim ⟨hd1, h⟩
      refine WC.seq ?_
      refine WC.draw 19 mixed hs (by kernel_rfl) ?_
      refine ⟨MF.eq _, by intro Mx H w hle hs; refine forVals_nil (ORg.plain (OR.fieldAddr FA45_0 rfl ?_)); exact ⟨_, [], Hp.le.refl _, hs, rfl, rfl⟩, ?_⟩
      refine ⟨MF.eq _, by intro Mx H w hle hs; refine forVals_eq rfl rfl rfl ?_; refine forVals_nil (ORg.plain (OR.load T43 rfl rfl (hs.right.cellM (i := 0) rfl rfl) ?_)); exact ⟨_, [], Hp.le.refl _, hs, rfl, rfl⟩, ?_⟩
      refine ⟨MF.eq _, by intro Mx H w hle hs; refine forVals_eq rfl rfl rfl ?_; refine forVals_nil (ORg.plain (OR.lenSlice T43.und rfl ?_)); exact ⟨_, [], Hp.le.refl _, hs, rfl, rfl⟩, ?_⟩
      refine ⟨MF.eq _, by intro Mx H w hle hs; refine forVals_nil (ORg.plain (OR.move rfl ?_)); exact ⟨_, [], Hp.le.refl _, hs, rfl, rfl⟩, ?_⟩
      refine ⟨MF.eq _, by intro Mx H w hle hs; refine forVals_eq rfl rfl rfl ?_; refine forVals_nil (ORg.plain (OR.nilCheck rfl ?_)); exact ⟨_, [], Hp.le.refl _, hs, rfl, rfl⟩, ?_⟩
      refine ⟨MF.eq _, by intro Mx H w hle hs; refine forVals_eq rfl rfl rfl ?_; refine forVals_nil (ORg.plain (OR.fieldAddr FA194_0 rfl ?_)); exact ⟨_, [], Hp.le.refl _, hs, rfl, rfl⟩, ?_⟩
      refine ⟨MF.eq _, by intro Mx H w hle hs; refine forVals_eq rfl rfl rfl ?_; refine forVals_nil (ORg.plain (OR.load T3 rfl rfl (hs.right.cellM (i := 1) rfl rfl) ?_)); exact ⟨_, [], Hp.le.refl _, hs, rfl, rfl⟩, ?_⟩
      refine ⟨MF.eq _, by intro Mx H w hle hs; refine forVals_eq rfl rfl rfl ?_; refine forVals_eq rfl rfl rfl ?_; refine forVals_nil (ORg.plain (OR.neq rfl rfl ?_)); exact ⟨_, [], Hp.le.refl _, hs, rfl, rfl⟩, ?_⟩
      refine ⟨MF.eq _, by intro Mx H w hle hs; refine forVals_eq rfl rfl rfl ?_; refine forVals_nil (ORg.plain (OR.move rfl ?_)); exact ⟨_, [], Hp.le.refl _, hs, rfl, rfl⟩, ?_⟩
      refine ⟨MF.eq _, by intro Mx H w hle hs; refine forVals_eq rfl rfl rfl ?_; refine forVals_nil (ORg.yes rfl (decide_eq_false (by omega : ¬ ((r.1.length : Int) ≠ (g : Int)))) rfl (OR.fieldAddr FA45_1 rfl ?_)); exact ⟨_, [], Hp.le.refl _, hs, rfl, rfl⟩, ?_⟩
      refine ⟨MF.eq _, by intro Mx H w hle hs; refine forVals_eq rfl rfl rfl ?_; refine forVals_eq rfl rfl rfl ?_; refine forVals_nil (ORg.yes rfl (decide_eq_false (by omega : ¬ ((r.1.length : Int) ≠ (g : Int)))) rfl (OR.load T43 rfl rfl (hs.right.cellM (i := 0) rfl rfl) ?_)); exact ⟨_, [], Hp.le.refl _, hs, rfl, rfl⟩, ?_⟩
      refine ⟨MF.eq _, by intro Mx H w hle hs; refine forVals_eq rfl rfl rfl ?_; refine forVals_eq rfl rfl rfl ?_; refine forVals_nil (ORg.yes rfl (decide_eq_false (by omega : ¬ ((r.1.length : Int) ≠ (g : Int)))) rfl (OR.lenSlice T43.und rfl ?_)); exact ⟨_, [], Hp.le.refl _, hs, rfl, rfl⟩, ?_⟩
      refine ⟨MF.eq _, by intro Mx H w hle hs; refine forVals_eq rfl rfl rfl ?_; refine forVals_nil (ORg.yes rfl (decide_eq_false (by omega : ¬ ((r.1.length : Int) ≠ (g : Int)))) rfl (OR.move rfl ?_)); exact ⟨_, [], Hp.le.refl _, hs, rfl, rfl⟩, ?_⟩
      refine ⟨MF.eq _, by intro Mx H w hle hs; refine forVals_eq rfl rfl rfl ?_; refine forVals_eq rfl rfl rfl ?_; refine forVals_nil (ORg.yes rfl (decide_eq_false (by omega : ¬ ((r.1.length : Int) ≠ (g : Int)))) rfl (OR.nilCheck rfl ?_)); exact ⟨_, [], Hp.le.refl _, hs, rfl, rfl⟩, ?_⟩
      refine ⟨MF.eq _, by intro Mx H w hle hs; refine forVals_eq rfl rfl rfl ?_; refine forVals_eq rfl rfl rfl ?_; refine forVals_nil (ORg.yes rfl (decide_eq_false (by omega : ¬ ((r.1.length : Int) ≠ (g : Int)))) rfl (OR.fieldAddr FA194_1 rfl ?_)); exact ⟨_, [], Hp.le.refl _, hs, rfl, rfl⟩, ?_⟩
      refine ⟨MF.eq _, by intro Mx H w hle hs; refine forVals_eq rfl rfl rfl ?_; refine forVals_eq rfl rfl rfl ?_; refine forVals_nil (ORg.yes rfl (decide_eq_false (by omega : ¬ ((r.1.length : Int) ≠ (g : Int)))) rfl (OR.load T3 rfl rfl (hs.right.cellM (i := 1) rfl rfl) ?_)); exact ⟨_, [], Hp.le.refl _, hs, rfl, rfl⟩, ?_⟩
      refine ⟨MF.eq _, by intro Mx H w hle hs; refine forVals_eq rfl rfl rfl ?_; refine forVals_eq rfl rfl rfl ?_; refine forVals_eq rfl rfl rfl ?_; refine forVals_nil (ORg.yes rfl (decide_eq_false (by omega : ¬ ((r.1.length : Int) ≠ (g : Int)))) rfl (OR.neq rfl rfl ?_)); exact ⟨_, [], Hp.le.refl _, hs, rfl, rfl⟩, ?_⟩
      refine ⟨MF.eq _, by intro Mx H w hle hs; refine forVals_eq rfl rfl rfl ?_; refine forVals_eq rfl rfl rfl ?_; refine forVals_nil (ORg.plain (OR.pickF rfl (decide_eq_false (by omega : ¬ ((r.1.length : Int) ≠ (g : Int)))) rfl ?_)); exact ⟨_, [], Hp.le.refl _, hs, rfl, rfl⟩, ?_⟩
      refine ⟨MF.eq _, by intro Mx H w hle hs; refine forVals_eq rfl rfl rfl ?_; refine forVals_nil (ORg.plain (OR.assign rfl ?_)); exact ⟨_, [], Hp.le.refl _, hs, rfl, rfl⟩, ?_⟩
      intro H w hle2; (try replace hle := hle.trans hle2); (try replace hlb := hlb.trans hle2)
      refine forAllVals_eq rfl ?_
      refine forAllVals_eq rfl ?_
      refine forAllVals_eq rfl ?_
      refine forAllVals_eq rfl ?_
      refine forAllVals_eq rfl ?_
      refine forAllVals_eq rfl ?_
      refine forAllVals_eq rfl ?_
      refine forAllVals_eq rfl ?_
      refine forAllVals_eq rfl ?_
      refine forAllVals_eq rfl ?_
      refine forAllVals_eq rfl ?_
      refine forAllVals_eq rfl ?_
      refine forAllVals_eq rfl ?_
      refine forAllVals_eq rfl ?_
      refine forAllVals_eq rfl ?_
      refine forAllVals_eq rfl ?_
      refine forAllVals_eq rfl ?_
      refine forAllVals_eq rfl ?_
      refine forAllVals_eq rfl ?_
      refine forAllVals_nil ?_; (try clear hs); intro hs
      refine WO.done (WX.seq ?_)
      refine WC.yes rfl (decide_eq_true (by omega)) ?_
      refine WC.seq (WC.region (WO.step rfl (OR.assign rfl (WO.step rfl (OR.assign rfl (WO.done (WX.seq ?_)))))))
      refine WC.ret (WX.block_ret (WX.seq_ret ?_))
      replace hs := hs.drop (i := 0)
      refine WX.ret2 rfl rfl rfl ?_
      exact ⟨_, H, _, rfl, hs, by simp, _, rfl, hv.mono hle, rfl⟩
    · have hd2 : True := trivial
      refine WC.seq ?_
      refine WC.draw 19 mixed hs (by kernel_rfl) ?_
      refine ⟨MF.eq _, by intro Mx H w hle hs; refine forVals_nil (ORg.plain (OR.fieldAddr FA45_0 rfl ?_)); exact ⟨_, [], Hp.le.refl _, hs, rfl, rfl⟩, ?_⟩
      refine ⟨MF.eq _, by intro Mx H w hle hs; refine forVals_eq rfl rfl rfl ?_; refine forVals_nil (ORg.plain (OR.load T43 rfl rfl (hs.right.cellM (i := 0) rfl rfl) ?_)); exact ⟨_, [], Hp.le.refl _, hs, rfl, rfl⟩, ?_⟩
      refine ⟨MF.eq _, by intro Mx H w hle hs; refine forVals_eq rfl rfl rfl ?_; refine forVals_nil (ORg.plain (OR.lenSlice T43.und rfl ?_)); exact ⟨_, [], Hp.le.refl _, hs, rfl, rfl⟩, ?_⟩
      refine ⟨MF.eq _, by intro Mx H w hle hs; refine forVals_nil (ORg.plain (OR.move rfl ?_)); exact ⟨_, [], Hp.le.refl _, hs, rfl, rfl⟩, ?_⟩
      refine ⟨MF.eq _, by intro Mx H w hle hs; refine forVals_eq rfl rfl rfl ?_; refine forVals_nil (ORg.plain (OR.nilCheck rfl ?_)); exact ⟨_, [], Hp.le.refl _, hs, rfl, rfl⟩, ?_⟩
      refine ⟨MF.eq _, by intro Mx H w hle hs; refine forVals_eq rfl rfl rfl ?_; refine forVals_nil (ORg.plain (OR.fieldAddr FA194_0 rfl ?_)); exact ⟨_, [], Hp.le.refl _, hs, rfl, rfl⟩, ?_⟩
      refine ⟨MF.eq _, by intro Mx H w hle hs; refine forVals_eq rfl rfl rfl ?_; refine forVals_nil (ORg.plain (OR.load T3 rfl rfl (hs.right.cellM (i := 1) rfl rfl) ?_)); exact ⟨_, [], Hp.le.refl _, hs, rfl, rfl⟩, ?_⟩
      refine ⟨MF.eq _, by intro Mx H w hle hs; refine forVals_eq rfl rfl rfl ?_; refine forVals_eq rfl rfl rfl ?_; refine forVals_nil (ORg.plain (OR.neq rfl rfl ?_)); exact ⟨_, [], Hp.le.refl _, hs, rfl, rfl⟩, ?_⟩
      refine ⟨MF.eq _, by intro Mx H w hle hs; refine forVals_eq rfl rfl rfl ?_; refine forVals_nil (ORg.plain (OR.move rfl ?_)); exact ⟨_, [], Hp.le.refl _, hs, rfl, rfl⟩, ?_⟩
      refine ⟨MF.eq undef, by intro Mx H w hle hs; refine forVals_eq rfl rfl rfl ?_; refine forVals_nil (ORg.no rfl (decide_eq_true (by omega : ((r.1.length : Int) ≠ (g : Int)))) rfl ?_); exact ⟨_, [], Hp.le.refl _, hs, rfl, rfl⟩, ?_⟩
      refine ⟨MF.eq undef, by intro Mx H w hle hs; refine forVals_eq rfl rfl rfl ?_; refine forVals_eq rfl rfl rfl ?_; refine forVals_nil (ORg.no rfl (decide_eq_true (by omega : ((r.1.length : Int) ≠ (g : Int)))) rfl ?_); exact ⟨_, [], Hp.le.refl _, hs, rfl, rfl⟩, ?_⟩
      refine ⟨MF.eq undef, by intro Mx H w hle hs; refine forVals_eq rfl rfl rfl ?_; refine forVals_eq rfl rfl rfl ?_; refine forVals_nil (ORg.no rfl (decide_eq_true (by omega : ((r.1.length : Int) ≠ (g : Int)))) rfl ?_); exact ⟨_, [], Hp.le.refl _, hs, rfl, rfl⟩, ?_⟩
      refine ⟨MF.eq undef, by intro Mx H w hle hs; refine forVals_eq rfl rfl rfl ?_; refine forVals_nil (ORg.no rfl (decide_eq_true (by omega : ((r.1.length : Int) ≠ (g : Int)))) rfl ?_); exact ⟨_, [], Hp.le.refl _, hs, rfl, rfl⟩, ?_⟩
      refine ⟨MF.eq undef, by intro Mx H w hle hs; refine forVals_eq rfl rfl rfl ?_; refine forVals_eq rfl rfl rfl ?_; refine forVals_nil (ORg.no rfl (decide_eq_true (by omega : ((r.1.length : Int) ≠ (g : Int)))) rfl ?_); exact ⟨_, [], Hp.le.refl _, hs, rfl, rfl⟩, ?_⟩
      refine ⟨MF.eq undef, by intro Mx H w hle hs; refine forVals_eq rfl rfl rfl ?_; refine forVals_eq rfl rfl rfl ?_; refine forVals_nil (ORg.no rfl (decide_eq_true (by omega : ((r.1.length : Int) ≠ (g : Int)))) rfl ?_); exact ⟨_, [], Hp.le.refl _, hs, rfl, rfl⟩, ?_⟩
      refine ⟨MF.eq undef, by intro Mx H w hle hs; refine forVals_eq rfl rfl rfl ?_; refine forVals_eq rfl rfl rfl ?_; refine forVals_nil (ORg.no rfl (decide_eq_true (by omega : ((r.1.length : Int) ≠ (g : Int)))) rfl ?_); exact ⟨_, [], Hp.le.refl _, hs, rfl, rfl⟩, ?_⟩
      refine ⟨MF.eq undef, by intro Mx H w hle hs; refine forVals_eq rfl rfl rfl ?_; refine forVals_eq rfl rfl rfl ?_; refine forVals_eq rfl rfl rfl ?_; refine forVals_nil (ORg.no rfl (decide_eq_true (by omega : ((r.1.length : Int) ≠ (g : Int)))) rfl ?_); exact ⟨_, [], Hp.le.refl _, hs, rfl, rfl⟩, ?_⟩
      refine ⟨MF.eq _, by intro Mx H w hle hs; refine forVals_eq rfl rfl rfl ?_; refine forVals_eq rfl rfl rfl ?_; refine forVals_nil (ORg.plain (OR.pickT rfl (decide_eq_true (by omega : ((r.1.length : Int) ≠ (g : Int)))) rfl ?_)); exact ⟨_, [], Hp.le.refl _, hs, rfl, rfl⟩, ?_⟩
      refine ⟨MF.eq _, by intro Mx H w hle hs; refine forVals_eq rfl rfl rfl ?_; refine forVals_nil (ORg.plain (OR.assign rfl ?_)); exact ⟨_, [], Hp.le.refl _, hs, rfl, rfl⟩, ?_⟩
      intro H w hle2; (try replace hle := hle.trans hle2); (try replace hlb := hlb.trans hle2)
      refine forAllVals_eq rfl ?_
      refine forAllVals_eq rfl ?_
      refine forAllVals_eq rfl ?_
      refine forAllVals_eq rfl ?_
      refine forAllVals_eq rfl ?_
      refine forAllVals_eq rfl ?_
      refine forAllVals_eq rfl ?_
      refine forAllVals_eq rfl ?_
      refine forAllVals_eq rfl ?_
      refine forAllVals_eq rfl ?_
      refine forAllVals_eq rfl ?_
      refine forAllVals_eq rfl ?_
      refine forAllVals_eq rfl ?_
      refine forAllVals_eq rfl ?_
      refine forAllVals_eq rfl ?_
      refine forAllVals_eq rfl ?_
      refine forAllVals_eq rfl ?_
      refine forAllVals_eq rfl ?_
      refine forAllVals_eq rfl ?_
      refine forAllVals_nil ?_; (try clear hs); intro hs
      refine WO.done (WX.seq (WC.yes rfl rfl (WC.seq (WC.region (WO.step rfl (OR.assign rfl (WO.step rfl ?_)))))))
      refine OR.assign rfl (WO.done (WX.seq (WC.ret (WX.block_ret (WX.seq_ret ?_)))))
      replace hs := hs.drop (i := 0)
      refine WX.ret2 rfl rfl rfl ?_
      exact ⟨_, H, _, rfl, hs, by simp, _, rfl, hv.mono hle, rfl⟩

end Go.Bw
namespace Go.Bw
set_option linter.unusedVariables false
set_option linter.unusedSimpArgs false
open Go.Proofs
end Go.Bw
namespace Go.Bw
set_option linter.unusedVariables false
set_option linter.unusedSimpArgs false
theorem all256 {p : UInt8 → Bool} (h : (List.range 256).all (fun i => p (UInt8.ofNat i)) = true) (a : UInt8) : p a = true := by
  have := List.all_eq_true.1 h a.toNat (List.mem_range.2 a.toNat_lt)
  simpa using this

theorem xor_self8 (a : UInt8) : a ^^^ a = 0 := UInt8.xor_self
theorem xor_zero8 (a : UInt8) : a ^^^ 0 = a := UInt8.xor_zero
theorem zero_xor8 (a : UInt8) : 0 ^^^ a = a := UInt8.zero_xor
theorem xor_assoc8 (a b c : UInt8) : a ^^^ b ^^^ c = a ^^^ (b ^^^ c) := UInt8.xor_assoc a b c
theorem t3_zero : t3 0 = 0 := by decide

def it : Nat → UInt8 → UInt8
  | 0, a => a
  | n + 1, a => t3 (it n a)
theorem it_zero : ∀ n, it n 0 = 0
  | 0 => rfl
  | n + 1 => by rw [it, it_zero n, t3_zero]
theorem it_add : ∀ (m n : Nat) (a : UInt8), it m (it n a) = it (n + m) a
  | 0, _, _ => rfl
  | m + 1, n, a => by rw [it, it_add m]; rfl
theorem pw_it : ∀ n, pw n = it n 1
  | 0 => rfl
  | n + 1 => by rw [pw, pw_it n]; rfl
theorem it_pw (m n : Nat) : it m (pw n) = pw (n + m) := by rw [pw_it, pw_it, it_add]

/-- The powers in a row. -/
def pwL : Nat → UInt8 → List UInt8
  | 0, _ => []
  | n + 1, x => x :: pwL n (t3 x)
theorem pwL_len : ∀ n x, (pwL n x).length = n
  | 0, _ => rfl
  | n + 1, x => by simp [pwL, pwL_len n]
theorem pwL_get : ∀ (n : Nat) (x : UInt8) (k : Nat) (h : k < n), (pwL n x)[k]? = some (it k x)
  | 0, _, _, h => by omega
  | n + 1, x, 0, _ => rfl
  | n + 1, x, k + 1, h => by
    rw [pwL, List.getElem?_cons_succ, pwL_get n (t3 x) k (by omega)]
    have := it_add k 1 x
    rw [show it 1 x = t3 x from rfl, Nat.add_comm] at this
    rw [this]
def memB : List UInt8 → Nat → Bool
  | [], _ => false
  | x :: l, a => Nat.beq x.toNat a || memB l a
def nodupB : List UInt8 → Bool
  | [] => true
  | x :: l => !memB l x.toNat && nodupB l
theorem memB_iff : ∀ (l : List UInt8) (a : UInt8), memB l a.toNat = true ↔ a ∈ l
  | [], a => by simp [memB]
  | x :: l, a => by
    rw [memB, Bool.or_eq_true, memB_iff l a, List.mem_cons]
    refine or_congr ⟨fun h => ?_, fun h => ?_⟩ Iff.rfl
    · exact (UInt8.toNat_inj.1 (Nat.eq_of_beq_eq_true h)).symm
    · rw [h]; exact Nat.beq_refl _
theorem nodupB_ok : ∀ (l : List UInt8), nodupB l = true → l.Nodup
  | [], _ => List.nodup_nil
  | x :: l, h => by
    rw [nodupB, Bool.and_eq_true, Bool.not_eq_true', ← Bool.not_eq_true, memB_iff] at h
    exact List.nodup_cons.2 ⟨h.1, nodupB_ok l h.2⟩
theorem pwL_nodup : (pwL 255 1).Nodup := nodupB_ok _ (by kernel_rfl)
theorem pwL_all (a : UInt8) (h : a ≠ 0) : a ∈ pwL 255 1 := by
  have := all256 (p := fun a => Nat.beq a.toNat 0 || memB (pwL 255 1) a.toNat) (by kernel_rfl) a
  rw [Bool.or_eq_true, memB_iff] at this
  rcases this with h1 | h1
  · exact absurd (UInt8.toNat_inj.1 (Nat.eq_of_beq_eq_true h1)) h
  · exact h1
theorem pw_255 : pw 255 = 1 := by kernel_rfl

theorem pw_inj (i j : Nat) (hi : i < 255) (hj : j < 255) (h : pw i = pw j) : i = j := by
  have h1 := pwL_get 255 1 i hi
  have h2 := pwL_get 255 1 j hj
  rw [← pw_it] at h1 h2
  rw [← h] at h2
  exact (List.getElem?_inj (by rw [pwL_len]; exact hi) pwL_nodup).1 (h1.trans h2.symm)
theorem exists_pw (a : UInt8) (h : a ≠ 0) : ∃ k, k < 255 ∧ pw k = a := by
  obtain ⟨k, hk, e⟩ := List.mem_iff_getElem.1 (pwL_all a h)
  rw [pwL_len] at hk
  have := pwL_get 255 1 k hk
  rw [List.getElem?_eq_getElem (by rw [pwL_len]; exact hk), e, ← pw_it] at this
  exact ⟨k, hk, (Option.some.inj this).symm⟩
theorem pw_ne (k : Nat) : pw k ≠ 0 := by
  have key : ∀ a : UInt8, t3 a = 0 → a = 0 := by
    intro a h
    have := all256 (p := fun a => !Nat.beq (t3 a).toNat 0 || Nat.beq a.toNat 0) (by kernel_rfl) a
    rw [h] at this
    exact UInt8.toNat_inj.1 (Nat.eq_of_beq_eq_true (by simpa using this))
  induction k with
  | zero => decide
  | succ k ih => exact fun h => ih (key _ h)
theorem pw_add255 (k : Nat) : pw (k + 255) = pw k := by
  have := it_pw k 255
  rw [pw_255, ← pw_it, Nat.add_comm] at this
  exact this.symm
theorem pw_mod (k : Nat) : pw (k % 255) = pw k := by
  have key : ∀ q r, pw (r + 255 * q) = pw r := by
    intro q
    induction q with
    | zero => intro r; rfl
    | succ q ih => intro r; rw [Nat.mul_succ, ← Nat.add_assoc, pw_add255, ih]
  have := key (k / 255) (k % 255)
  rw [Nat.mod_add_div] at this
  exact this.symm
theorem lgTo_pw (k : Nat) (hk : k < 255) : ∀ n, n ≤ 255 → k < n → lgTo (pw k) n = k
  | 0, _, h => by omega
  | n + 1, hn, h => by
    unfold lgTo
    by_cases e : n = k
    · subst e; simp
    · have : pw n ≠ pw k := fun h2 => e (pw_inj n k (by omega) hk h2)
      rw [if_neg this]
      exact lgTo_pw k hk n (by omega) (by omega)
theorem lg_pw (k : Nat) : lg (pw k) = k % 255 := by
  rw [← pw_mod]
  exact lgTo_pw _ (Nat.mod_lt _ (by omega)) 255 (Nat.le_refl _) (Nat.mod_lt _ (by omega))
theorem pw_lg (a : UInt8) (h : a ≠ 0) : pw (lg a) = a := by
  obtain ⟨k, hk, rfl⟩ := exists_pw a h
  rw [lg_pw, pw_mod]

theorem mul_pw (a : UInt8) (k : Nat) : mul a (pw k) = it k a := by
  unfold mul
  by_cases h : a = 0
  · subst h; rw [if_pos (.inl rfl), it_zero]
  · rw [if_neg (by simp [h, pw_ne]), lg_pw, Nat.add_mod_mod, pw_mod, ← it_pw, pw_lg a h]
theorem mul_zero (a : UInt8) : mul a 0 = 0 := by simp [mul]
theorem zero_mul (a : UInt8) : mul 0 a = 0 := by simp [mul]
theorem mul_comm (a b : UInt8) : mul a b = mul b a := by
  unfold mul
  rw [Nat.add_comm]
  simp only [or_comm]
theorem mul_assoc (a b c : UInt8) : mul (mul a b) c = mul a (mul b c) := by
  by_cases h : c = 0
  · subst h; simp [mul_zero]
  · by_cases h2 : b = 0
    · subst h2; simp [mul_zero, zero_mul]
    · obtain ⟨k, _, rfl⟩ := exists_pw c h
      obtain ⟨j, _, rfl⟩ := exists_pw b h2
      rw [mul_pw, mul_pw, mul_pw, it_pw, mul_pw, it_add]
theorem mul_one (a : UInt8) : mul a 1 = a := mul_pw a 0
theorem one_mul (a : UInt8) : mul 1 a = a := by rw [mul_comm, mul_one]
/-- What Inv answers. -/
def inv (a : UInt8) : UInt8 := pw ((255 - lg a) % 255)
theorem mul_inv (a : UInt8) (h : a ≠ 0) : mul a (inv a) = 1 := by
  unfold inv
  rw [pw_mod, mul_pw]
  have h1 := lg_lt a
  have : it (255 - lg a) (pw (lg a)) = pw (lg a + (255 - lg a)) := it_pw _ _
  rw [pw_lg a h, show lg a + (255 - lg a) = 255 by omega, pw_255] at this
  exact this
theorem mul_eq_zero (a b : UInt8) : mul a b = 0 ↔ a = 0 ∨ b = 0 := by
  constructor
  · intro h
    by_cases hb : b = 0
    · exact .inr hb
    · left
      have : mul (mul a b) (inv b) = a := by rw [mul_assoc, mul_inv b hb, mul_one]
      rw [h, zero_mul] at this
      exact this.symm
  · rintro (rfl | rfl)
    · exact zero_mul _
    · exact mul_zero _

end Go.Bw
namespace Go.Bw
set_option linter.unusedVariables false
set_option linter.unusedSimpArgs false
theorem addS_getD (c : UInt8) (a b : List UInt8) (h : a.length = b.length) (j : Nat) : (addS c a b).getD j 0 = a.getD j 0 ^^^ mul (b.getD j 0) c := by
  rw [addS, eachR, if_pos h]
  simp only [List.getD_eq_getElem?_getD, List.getElem?_zipWith]
  by_cases hj : j < a.length
  · have hb : j < b.length := by omega
    simp [hj, hb]
  · have hb : ¬ j < b.length := by omega
    simp [hj, hb, zero_mul]

/-- A place in a row: in its coefficients, or in its payload. -/
abbrev Pl := Nat ⊕ Nat
def ent (r : RowD) : Pl → UInt8
  | .inl j => r.1.getD j 0
  | .inr j => r.2.getD j 0
theorem plus_ent {g s : Nat} {r x : RowD} (hr : RowGS g s r) (hx : RowGS g s x) (c : UInt8) (i : Pl) : ent (plusR r x c) i = ent r i ^^^ mul (ent x i) c := by
  cases i with
  | inl j => exact addS_getD c r.1 x.1 (hr.1.trans hx.1.symm) j
  | inr j => exact addS_getD c r.2 x.2 (hr.2.trans hx.2.symm) j

/-- Sums. -/
def S (rows : List RowD) (cf : RowD → UInt8) (i : Pl) : UInt8 :=
  match rows with
  | [] => 0
  | x :: rows => mul (ent x i) (cf x) ^^^ S rows cf i
theorem S_zero : ∀ (rows : List RowD) (f : RowD → UInt8) (i : Pl), (∀ x ∈ rows, f x = 0 ∨ ent x i = 0) → S rows f i = 0
  | [], _, _, _ => rfl
  | x :: rows, f, i, h => by
    rw [S, S_zero rows f i (fun y hy => h y (by simp [hy])), xor_zero8, mul_eq_zero]
    rcases h x (by simp) with h1 | h1
    · exact .inr h1
    · exact .inl h1
theorem S_app : ∀ (a b : List RowD) (f : RowD → UInt8) (i : Pl), S (a ++ b) f i = S a f i ^^^ S b f i
  | [], b, f, i => by rw [List.nil_append, S, zero_xor8]
  | x :: a, b, f, i => by rw [List.cons_append, S, S, S_app a b f i, xor_assoc8]
theorem fold_ent {g s : Nat} : ∀ (rows : List RowD) (cf : RowD → UInt8) (r : RowD), RowGS g s r → (∀ x ∈ rows, RowGS g s x) → ∀ i, ent (rows.foldl (fun a x => plusR a x (cf x)) r) i = ent r i ^^^ S rows cf i
  | [], _, r, h, _, i => by rw [S, xor_zero8]; rfl
  | x :: rows, cf, r, h, hx, i => by
    rw [List.foldl_cons, fold_ent rows cf _ (plusR_gs h (hx x (by simp)) _) (fun y hy => hx y (by simp [hy])), plus_ent h (hx x (by simp)), S, xor_assoc8]

/-- The place of a row's lead. -/
def ldp (x : RowD) : Nat := (lead x.1).toNat
/-- A basis in reduced form. -/
structure Red (g s : Nat) (rows : List RowD) : Prop where
  gs : ∀ x ∈ rows, RowGS g s x
  ld : ∀ x ∈ rows, 0 ≤ lead x.1
  asc : rows.Pairwise fun x y => lead x.1 < lead y.1
  one : ∀ x ∈ rows, ent x (.inl (ldp x)) = 1
  zero : ∀ x ∈ rows, ∀ y ∈ rows, lead y.1 ≠ lead x.1 → ent y (.inl (ldp x)) = 0

theorem Red.nil (g s : Nat) : Red g s [] := ⟨by simp, by simp, List.Pairwise.nil, by simp, by simp⟩
theorem Red.inj {g s : Nat} {rows : List RowD} (h : Red g s rows) {x y : RowD} (hx : x ∈ rows) (hy : y ∈ rows) (e : lead x.1 = lead y.1) : x = y := by
  have key : ∀ l : List RowD, l.Pairwise (fun x y => lead x.1 < lead y.1) → ∀ x ∈ l, ∀ y ∈ l, lead x.1 = lead y.1 → x = y := by
    intro l hl
    induction hl with
    | nil => intro x hx; cases hx
    | cons hz _ ih =>
      intro x hx y hy e
      rcases List.mem_cons.1 hx with h1 | h1 <;> rcases List.mem_cons.1 hy with h2 | h2
      · rw [h1, h2]
      · have := hz y h2; rw [← h1] at this; omega
      · have := hz x h1; rw [← h2] at this; omega
      · exact ih x h1 y h2 e
  exact key rows h.asc x hx y hy e
theorem Red.S_at {g s : Nat} {rows : List RowD} (h : Red g s rows) (cf : RowD → UInt8) {x : RowD} (hx : x ∈ rows) : S rows cf (.inl (ldp x)) = cf x := by
  obtain ⟨a, b, rfl⟩ := List.append_of_mem hx
  have hp := List.pairwise_append.1 h.asc
  have hpc := List.pairwise_cons.1 hp.2.1
  rw [S_app, S, h.one x hx, one_mul, S_zero a, S_zero b, zero_xor8, xor_zero8]
  · intro y hy
    exact .inr (h.zero x hx y (by simp [hy]) (by have := hpc.1 y hy; omega))
  · intro y hy
    exact .inr (h.zero x hx y (by simp [hy]) (by have := hp.2.2 y hy x (by simp); omega))

theorem stepR_eq (r x : RowD) : stepR r x = plusR r x (ent r (.inl (ldp x))) := rfl
theorem redR_fold {g s : Nat} {rows : List RowD} (h : Red g s rows) (r : RowD) (hr : RowGS g s r) : redR rows r = rows.foldl (fun a x => plusR a x (ent r (.inl (ldp x)))) r := by
  have key : ∀ (l : List RowD) (acc : RowD), (∀ x ∈ l, x ∈ rows) → l.Pairwise (fun x y => lead x.1 < lead y.1) → RowGS g s acc → (∀ x ∈ l, ent acc (.inl (ldp x)) = ent r (.inl (ldp x))) →
      l.foldl stepR acc = l.foldl (fun a x => plusR a x (ent r (.inl (ldp x)))) acc := by
    intro l
    induction l with
    | nil => intro acc _ _ _ _; rfl
    | cons x l ih =>
      intro acc hm hp hg he
      have hpc := List.pairwise_cons.1 hp
      have hxg := h.gs x (hm x (by simp))
      rw [List.foldl_cons, List.foldl_cons, stepR_eq, he x (by simp)]
      refine ih _ (fun y hy => hm y (by simp [hy])) hpc.2 (plusR_gs hg hxg _) (fun y hy => ?_)
      rw [plus_ent hg hxg, h.zero y (hm y (by simp [hy])) x (hm x (by simp)) (by have := hpc.1 y hy; omega), zero_mul, xor_zero8]
      exact he y (by simp [hy])
  exact key rows r (fun _ hx => hx) h.asc hr (fun _ _ => rfl)
theorem redR_ent {g s : Nat} {rows : List RowD} (h : Red g s rows) (r : RowD) (hr : RowGS g s r) (i : Pl) : ent (redR rows r) i = ent r i ^^^ S rows (fun x => ent r (.inl (ldp x))) i := by
  rw [redR_fold h r hr]
  exact fold_ent rows (fun x => ent r (.inl (ldp x))) r hr h.gs i
theorem redR_at {g s : Nat} {rows : List RowD} (h : Red g s rows) (r : RowD) (hr : RowGS g s r) {x : RowD} (hx : x ∈ rows) : ent (redR rows r) (.inl (ldp x)) = 0 := by
  rw [redR_ent h r hr, h.S_at _ hx, xor_self8]

theorem lead_of {l : List UInt8} {i : Nat} (h1 : l.getD i 0 ≠ 0) (h2 : ∀ j, j < i → l.getD j 0 = 0) : lead l = (i : Int) := by
  have hi : i < l.length := by
    rcases Nat.lt_or_ge i l.length with h | h
    · exact h
    · exact absurd (by rw [List.getD_eq_getElem?_getD, List.getElem?_eq_none h]; rfl) h1
  have hf : l.findIdx? (fun x => decide (x ≠ 0)) = some i := by
    rw [List.findIdx?_eq_some_iff_getElem]
    refine ⟨hi, by simpa [hi] using h1, fun j hj => ?_⟩
    have := h2 j hj
    have hjl : j < l.length := by omega
    simpa [hjl] using this
  unfold lead idxFrom
  rw [List.drop_zero, hf]
  simp
theorem lead_ent {x : RowD} (h : 0 ≤ lead x.1) : ent x (.inl (ldp x)) ≠ 0 ∧ ∀ j, j < ldp x → ent x (.inl j) = 0 := by
  obtain ⟨i, hi⟩ := Int.eq_ofNat_of_zero_le h
  obtain ⟨h2, h3, h4⟩ := lead_some hi
  have e : ldp x = i := by unfold ldp; omega
  rw [e]
  refine ⟨by simpa [ent, h2] using h3, fun j hj => ?_⟩
  have h5 : j < x.1.length := by omega
  simpa [ent, h5] using h4 j hj
theorem lead_lt_of {x : RowD} (h : 0 ≤ lead x.1) : (ldp x : Int) = lead x.1 := by unfold ldp; omega

theorem map_getD (l : List UInt8) (f : UInt8 → UInt8) (h : f 0 = 0) (j : Nat) : (l.map f).getD j 0 = f (l.getD j 0) := by
  simp only [List.getD_eq_getElem?_getD, List.getElem?_map]
  cases l[j]? <;> simp [h]
theorem norm_ent (q : RowD) (i : Pl) : ent (normR q) i = mul (ent q i) (inv (ent q (.inl (ldp q)))) := by
  cases i with
  | inl j => exact map_getD q.1 (fun x => mul x (inv (ent q (.inl (ldp q))))) (zero_mul _) j
  | inr j => exact map_getD q.2 (fun x => mul x (inv (ent q (.inl (ldp q))))) (zero_mul _) j
theorem norm_gs {g s : Nat} {q : RowD} (h : RowGS g s q) : RowGS g s (normR q) := ⟨by simpa [normR] using h.1, by simpa [normR] using h.2⟩
theorem norm_lead {q : RowD} (h : 0 ≤ lead q.1) : lead (normR q).1 = lead q.1 ∧ ent (normR q) (.inl (ldp q)) = 1 := by
  obtain ⟨h1, h2⟩ := lead_ent h
  have e1 : ent (normR q) (.inl (ldp q)) = 1 := by rw [norm_ent, mul_inv _ h1]
  refine ⟨?_, e1⟩
  rw [← lead_lt_of h]
  refine lead_of (l := (normR q).1) ?_ ?_
  · show ent (normR q) (.inl (ldp q)) ≠ 0
    rw [e1]; decide
  · intro j hj
    show ent (normR q) (.inl j) = 0
    rw [norm_ent, h2 j hj, zero_mul]

section
variable {g s : Nat} {rows : List RowD} {q : RowD}
/-- A new row's place is free. -/
theorem free_ent (h : Red g s rows) (hq : RowGS g s q) {x : RowD} (hx : x ∈ rows) (i : Pl) : ent (freeR q x) i = ent x i ^^^ mul (ent (normR q) i) (ent x (.inl (ldp q))) := plus_ent (h.gs x hx) (norm_gs hq) _ i
theorem free_lead (h : Red g s rows) (hq : RowGS g s q) (hld : 0 ≤ lead q.1) (h0 : ∀ x ∈ rows, ent q (.inl (ldp x)) = 0) {x : RowD} (hx : x ∈ rows) : lead (freeR q x).1 = lead x.1 := by
  have hxl := h.ld x hx
  obtain ⟨h1, h2⟩ := lead_ent hxl
  obtain ⟨h3, h4⟩ := lead_ent hld
  rw [← lead_lt_of hxl]
  refine lead_of (l := (freeR q x).1) ?_ ?_
  · show ent (freeR q x) (.inl (ldp x)) ≠ 0
    rw [free_ent h hq hx, norm_ent, h0 x hx, zero_mul, zero_mul, xor_zero8]
    exact h1
  · intro j hj
    show ent (freeR q x) (.inl j) = 0
    rw [free_ent h hq hx, h2 j hj, zero_xor8, mul_eq_zero]
    by_cases hj2 : j < ldp q
    · left; rw [norm_ent, h4 j hj2, zero_mul]
    · right; exact h2 _ (by omega)
theorem lead_ne (h : Red g s rows) (hld : 0 ≤ lead q.1) (h0 : ∀ x ∈ rows, ent q (.inl (ldp x)) = 0) {x : RowD} (hx : x ∈ rows) : lead x.1 ≠ lead q.1 := by
  intro e
  obtain ⟨h3, _⟩ := lead_ent hld
  have := h0 x hx
  unfold ldp at this h3
  rw [e] at this
  exact h3 this
theorem ins_perm {α : Type} (l : List α) (i : Nat) (x : α) : (insAt l i x).Perm (x :: l) := by
  unfold insAt
  have h : (l.take i ++ [x] ++ l.drop i).Perm (x :: (l.take i ++ l.drop i)) := by
    rw [List.append_assoc, List.singleton_append]
    exact List.perm_middle
  rwa [List.take_append_drop] at h
theorem mem_ins {α : Type} {l : List α} {i : Nat} {x y : α} : y ∈ insAt l i x ↔ y = x ∨ y ∈ l := by
  rw [(ins_perm l i x).mem_iff, List.mem_cons]
theorem place_split : ∀ (rows : List RowD) (L : Int), rows.Pairwise (fun x y => lead x.1 < lead y.1) → (∀ x ∈ rows, lead x.1 ≠ L) → (∀ x ∈ rows.take (placeOf rows L), lead x.1 < L) ∧ ∀ x ∈ rows.drop (placeOf rows L), L < lead x.1
  | [], _, _, _ => by simp [placeOf]
  | x :: rows, L, hp, hne => by
    have hpc := List.pairwise_cons.1 hp
    unfold placeOf
    split
    · rename_i hgt
      refine ⟨by simp, fun y hy => ?_⟩
      rw [List.drop_zero] at hy
      rcases List.mem_cons.1 hy with h1 | h1
      · rw [h1]; omega
      · have := hpc.1 y h1; omega
    · rename_i hgt
      obtain ⟨h1, h2⟩ := place_split rows L hpc.2 (fun y hy => hne y (by simp [hy]))
      refine ⟨fun y hy => ?_, fun y hy => h2 y (by simpa using hy)⟩
      rw [List.take_succ_cons] at hy
      rcases List.mem_cons.1 hy with h3 | h3
      · rw [h3]; have := hne x (by simp); omega
      · exact h1 y h3

/-- The basis with a new row is reduced. -/
theorem Red.ins (h : Red g s rows) (hq : RowGS g s q) (hld : 0 ≤ lead q.1) (h0 : ∀ x ∈ rows, ent q (.inl (ldp x)) = 0) :
    Red g s (insAt (rows.map (freeR q)) (placeOf rows (lead q.1)) (normR q)) := by
  have hn := norm_lead hld
  have hldp : ldp (normR q) = ldp q := by unfold ldp; rw [hn.1]
  have hfl : ∀ x ∈ rows, lead (freeR q x).1 = lead x.1 := fun x hx => free_lead h hq hld h0 hx
  have hfp : ∀ x ∈ rows, ldp (freeR q x) = ldp x := fun x hx => by unfold ldp; rw [hfl x hx]
  have hmem : ∀ y, y ∈ insAt (rows.map (freeR q)) (placeOf rows (lead q.1)) (normR q) → y = normR q ∨ ∃ x ∈ rows, y = freeR q x := by
    intro y hy
    rcases mem_ins.1 hy with h1 | h1
    · exact .inl h1
    · obtain ⟨x, hx, e⟩ := List.mem_map.1 h1
      exact .inr ⟨x, hx, e.symm⟩
  have hsp := place_split rows (lead q.1) h.asc (fun x hx => lead_ne h hld h0 hx)
  refine ⟨?_, ?_, ?_, ?_, ?_⟩
  · intro y hy
    rcases hmem y hy with rfl | ⟨x, hx, rfl⟩
    · exact norm_gs hq
    · exact plusR_gs (h.gs x hx) (norm_gs hq) _
  · intro y hy
    rcases hmem y hy with rfl | ⟨x, hx, rfl⟩
    · rw [hn.1]; exact hld
    · rw [hfl x hx]; exact h.ld x hx
  · unfold insAt
    have hm : (rows.map (freeR q)).Pairwise (fun x y => lead x.1 < lead y.1) := by
      rw [List.pairwise_map]
      exact h.asc.imp_of_mem fun ha hb hab => by rw [hfl _ ha, hfl _ hb]; exact hab
    rw [List.append_assoc, List.pairwise_append]
    refine ⟨hm.sublist (List.take_sublist _ _), ?_, ?_⟩
    · rw [List.singleton_append, List.pairwise_cons]
      refine ⟨fun y hy => ?_, hm.sublist (List.drop_sublist _ _)⟩
      rw [← List.map_drop] at hy
      obtain ⟨x, hx, rfl⟩ := List.mem_map.1 hy
      rw [hn.1, hfl x (List.mem_of_mem_drop hx)]
      exact hsp.2 x hx
    · intro y hy z hz
      rw [← List.map_take] at hy
      obtain ⟨x, hx, rfl⟩ := List.mem_map.1 hy
      have hx' := List.mem_of_mem_take hx
      rw [hfl x hx']
      rcases List.mem_append.1 hz with h1 | h1
      · rw [List.mem_singleton.1 h1, hn.1]; exact hsp.1 x hx
      · rw [← List.map_drop] at h1
        obtain ⟨x2, hx2, rfl⟩ := List.mem_map.1 h1
        rw [hfl x2 (List.mem_of_mem_drop hx2)]
        have := hsp.1 x hx
        have := hsp.2 x2 hx2
        omega
  · intro y hy
    rcases hmem y hy with rfl | ⟨x, hx, rfl⟩
    · rw [hldp]; exact hn.2
    · rw [hfp x hx, free_ent h hq hx, norm_ent, h0 x hx, zero_mul, zero_mul, xor_zero8]
      exact h.one x hx
  · intro y hy z hz hne
    rcases hmem y hy with rfl | ⟨x, hx, rfl⟩ <;> rcases hmem z hz with rfl | ⟨x2, hx2, rfl⟩
    · exact absurd rfl hne
    · rw [hldp, free_ent h hq hx2, hn.2, one_mul, xor_self8]
    · rw [hfp x hx, norm_ent, h0 x hx, zero_mul]
    · rw [hfp x hx, free_ent h hq hx2, norm_ent, h0 x hx, zero_mul, zero_mul, xor_zero8]
      exact h.zero x hx x2 hx2 (by rwa [hfl x hx, hfl x2 hx2] at hne)

end
end Go.Bw
namespace Go.Bw
set_option linter.unusedVariables false
set_option linter.unusedSimpArgs false
/-- One place of coefficients times symbols. -/
def T : List (List UInt8) → List UInt8 → Nat → UInt8
  | y :: ys, c :: cs, j => mul (y.getD j 0) c ^^^ T ys cs j
  | _, _, _ => 0
end Go.Bw
namespace Go.Bw
set_option linter.unusedVariables false
set_option linter.unusedSimpArgs false
section
variable {g s : Nat} {ys : List (List UInt8)} {b : List RowD} {r : RowD}
theorem insR_out (hr : RowGS g s r) (h : lead (redR b r).1 < 0) : insR g s b r = (false, b) := by rw [insR, if_pos (show r.1.length = g ∧ r.2.length = s from hr), if_pos h]
theorem insR_in (hr : RowGS g s r) (h : ¬ lead (redR b r).1 < 0) : insR g s b r = (true, insAt (b.map (freeR (redR b r))) (placeOf b (lead (redR b r).1)) (normR (redR b r))) := by rw [insR, if_pos (show r.1.length = g ∧ r.2.length = s from hr), if_neg h]
theorem asc_len : ∀ (l : List Int) (lo hi : Int), l.Pairwise (· < ·) → (∀ x ∈ l, lo ≤ x ∧ x < hi) → (l.length : Int) ≤ max 0 (hi - lo)
  | [], lo, hi, _, _ => by simp; omega
  | x :: l, lo, hi, hp, hb => by
    have hpc := List.pairwise_cons.1 hp
    have hx := hb x (by simp)
    have := asc_len l (x + 1) hi hpc.2 (fun y hy => ⟨by have := hpc.1 y hy; omega, (hb y (by simp [hy])).2⟩)
    simp only [List.length_cons]
    omega
theorem Red.len (h : Red g s b) : b.length ≤ g := by
  have := asc_len (b.map (fun x => lead x.1)) 0 g (by rw [List.pairwise_map]; exact h.asc) (by
    intro v hv
    obtain ⟨x, hx, rfl⟩ := List.mem_map.1 hv
    have h1 := h.ld x hx
    have h2 := lead_lt h1
    have h3 := (h.gs x hx).1
    omega)
  simp at this
  omega
end
end Go.Bw
namespace Go.Bw
set_option linter.unusedVariables false
set_option linter.unusedSimpArgs false
section
variable {g s : Nat} {ys : List (List UInt8)} {b A C : List RowD} {r : RowD}
end
end Go.Bw
namespace Go.Bw
set_option linter.unusedVariables false
set_option linter.unusedSimpArgs false
open Go.Proofs
/-- Of each slot: the block of its basis, and where that has its rows; none: it has no basis. -/
abbrev Slots := List (Option (Nat × Value))
def slotV : Option (Nat × Value) → Value
  | none => .pointer none
  | some p => ptr p.1
def slotM (g s : Nat) (t : Bool) : Option (Nat × Value) → Mem
  | none => []
  | some p => [(p.1, basisObj g s p.2, t)]
def slotMem (g s : Nat) (t : Bool) (l : Slots) : Mem := l.flatMap (slotM g s t)
def winObj (base width : Nat) : Obj := .cells #[.int .u64 (base : Int), .int .i64 (width : Int)] 192
def relObj (g s wb : Nat) (l : Slots) : Obj := .cells (.int .i64 (g : Int) :: .int .i64 (s : Int) :: ptr wb :: l.map slotV).toArray 131

theorem slots_split {l : Slots} {i : Nat} {x : Option (Nat × Value)} (h : l[i]? = some x) (y : Option (Nat × Value)) : l = l.take i ++ x :: l.drop (i + 1) ∧ l.set i y = l.take i ++ y :: l.drop (i + 1) := by
  have hi : i < l.length := (List.getElem?_eq_some_iff.1 h).1
  have hx : l[i] = x := by rw [List.getElem?_eq_getElem hi] at h; exact Option.some.inj h
  refine ⟨?_, List.set_eq_take_append_cons_drop .. |>.trans (by rw [if_pos hi])⟩
  rw [← hx, ← List.drop_eq_getElem_cons hi, List.take_append_drop]
theorem slotMem_perm (g s : Nat) (t : Bool) {l : Slots} {i : Nat} {x : Option (Nat × Value)} (h : l[i]? = some x) (y : Option (Nat × Value)) : (slotMem g s t (l.set i y)).Perm (slotM g s t y ++ slotMem g s t (l.set i none)) := by
  obtain ⟨_, h2⟩ := slots_split h y
  obtain ⟨_, h3⟩ := slots_split h none
  rw [h2, h3]
  simp only [slotMem, List.flatMap_append, List.flatMap_cons, slotM, List.nil_append]
  rw [← List.append_assoc, ← List.append_assoc]
  exact (List.perm_append_comm).append_right _
theorem slotMem_same (g s : Nat) (t : Bool) {l : Slots} {i : Nat} {x : Option (Nat × Value)} (h : l[i]? = some x) : (slotMem g s t l).Perm (slotM g s t x ++ slotMem g s t (l.set i none)) := by
  have := slotMem_perm g s t h x
  rwa [show l.set i x = l from by
    have hi : i < l.length := (List.getElem?_eq_some_iff.1 h).1
    have hx : l[i] = x := by rw [List.getElem?_eq_getElem hi] at h; exact Option.some.inj h
    rw [← hx, List.set_getElem_self]] at this
theorem slotMem_flags (g s : Nat) (l : Slots) : ∀ p ∈ slotMem g s true l, p.2.2 = true := by
  intro p hp
  obtain ⟨x, _, hx⟩ := List.mem_flatMap.1 hp
  cases x with
  | none => cases hx
  | some q => rw [List.mem_singleton.1 hx]

structure RelD where
  g : Nat
  s : Nat
  base : Nat
  width : Nat
  rows : Nat → List RowD
structure RelOk (x : RelD) : Prop where
  g1 : 1 ≤ x.g
  g2 : x.g ≤ 255
  s1 : 1 ≤ x.s
  s2 : x.s ≤ 65535
  w1 : 1 ≤ x.width
  w2 : x.width ≤ 16
  b : x.base ≤ 1099511627776
  red : ∀ i, Red x.g x.s (x.rows i)
def slotOk (H : Hp) (rows : List RowD) : Option (Nat × Value) → Prop
  | none => rows = []
  | some p => Rws H p.2 rows
theorem slotOk.mono {H H' : Hp} {rows : List RowD} {x : Option (Nat × Value)} (h : slotOk H rows x) (hle : Hp.le H H') : slotOk H' rows x := by
  cases x with
  | none => exact h
  | some p => exact Rws.mono h hle
def SlotsOk (H : Hp) (x : RelD) (l : Slots) : Prop := l.length = 16 ∧ ∀ i y, l[i]? = some y → slotOk H (x.rows i) y
theorem SlotsOk.mono {H H' : Hp} {x : RelD} {l : Slots} (h : SlotsOk H x l) (hle : Hp.le H H') : SlotsOk H' x l := ⟨h.1, fun i y hy => (h.2 i y hy).mono hle⟩
/-- A relay's memory: its own block, its window's, its bases'. -/
def relMem (t : Bool) (x : RelD) (rb wb : Nat) (l : Slots) : Mem := (rb, relObj x.g x.s wb l, t) :: (wb, winObj x.base x.width, t) :: slotMem x.g x.s t l
theorem relMem_flags (x : RelD) (rb wb : Nat) (l : Slots) : (relMem true x rb wb l).all (·.2.2) = true := by
  rw [List.all_eq_true]
  intro p hp
  rcases List.mem_cons.1 hp with rfl | hp
  · rfl
  · rcases List.mem_cons.1 hp with rfl | hp
    · rfl
    · exact slotMem_flags _ _ _ p hp
/-- Which generations are in the window. -/
def RelD.end_ (x : RelD) : Nat := min (x.base + x.width) 1099511627776
def RelD.isIn (x : RelD) (gen : Nat) : Prop := x.base ≤ gen ∧ gen < x.end_
instance (x : RelD) (gen : Nat) : Decidable (x.isIn gen) := inferInstanceAs (Decidable (_ ∧ _))
/-- A slot's rows set. -/
def RelD.put (x : RelD) (gen : Nat) (rows : List RowD) : RelD := { x with rows := fun i => if i = gen % x.width then rows else x.rows i }
theorem insAny_red {g s : Nat} {A : List RowD} (h : Red g s A) (r : RowD) : Red g s (insR g s A r).2 := by
  by_cases hd : r.1.length = g ∧ r.2.length = s
  · have hr : RowGS g s r := hd
    by_cases hl : lead (redR A r).1 < 0
    · rw [insR_out hr hl]; exact h
    · rw [insR_in hr hl]
      exact h.ins (redR_gs A r hr h.gs) (by omega) (fun x hx => redR_at h r hr hx)
  · unfold insR
    rw [if_neg hd]
    exact h
theorem insAny_false {g s : Nat} {rows : List RowD} {r : RowD} (h : (insR g s rows r).1 = false) : (insR g s rows r).2 = rows := by
  unfold insR at h ⊢
  split
  · rename_i h1
    rw [if_pos h1] at h
    split
    · rfl
    · rename_i h2
      rw [if_neg h2] at h
      cases h
  · rfl
theorem RelOk.slot {x : RelD} (h : RelOk x) (gen : Nat) : gen % x.width < 16 := Nat.lt_of_lt_of_le (Nat.mod_lt _ h.w1) h.w2
theorem RelOk.put {x : RelD} (h : RelOk x) (gen : Nat) (rows : List RowD) (hr : Red x.g x.s rows) : RelOk (x.put gen rows) :=
  ⟨h.g1, h.g2, h.s1, h.s2, h.w1, h.w2, h.b, fun i => by
    show Red x.g x.s (if i = gen % x.width then rows else x.rows i)
    split
    · exact hr
    · exact h.red i⟩
theorem nth_slots (a b c : Value) (l : Slots) (i : Nat) (x : Option (Nat × Value)) (h : l[i]? = some x) : nth (a :: b :: c :: l.map slotV) (3 + i) = some (slotV x) := by
  rw [nth_eq, show 3 + i = i + 1 + 1 + 1 by omega]
  simp [h]
theorem setL_slots (a b c : Value) (l : Slots) (i : Nat) (y : Option (Nat × Value)) (hi : i < l.length) : setL (a :: b :: c :: l.map slotV) (3 + i) [slotV y] = a :: b :: c :: (l.set i y).map slotV := by
  have key : ∀ (m : List Value) (i : Nat) (v : Value), setL m i [v] = m.set i v := by
    intro m
    induction m with
    | nil => intro i v; simp [setL]
    | cons p m ih =>
      intro i v
      cases i with
      | zero => simp [setL, setL_nil]
      | succ i => simp [setL, ih]
  rw [key, show 3 + i = i + 1 + 1 + 1 by omega]
  simp [List.map_set]
theorem slotMem_keys (g s : Nat) (t : Bool) (l : Slots) : Mem.keys (slotMem g s t l) = Mem.keys (slotMem g s true l) := by
  unfold slotMem Mem.keys
  rw [List.map_flatMap, List.map_flatMap]
  congr 1
  funext x
  cases x <;> rfl
theorem slotMem_ro {g s : Nat} {l : Slots} {b : Nat} {o : Obj} {t : Bool} (h : (b, o, t) ∈ slotMem g s false l) : t = false ∧ (b, o, true) ∈ slotMem g s true l := by
  obtain ⟨x, hx, h1⟩ := List.mem_flatMap.1 h
  cases x with
  | none => cases h1
  | some p =>
    have := List.mem_singleton.1 h1
    cases this
    exact ⟨rfl, List.mem_flatMap.2 ⟨_, hx, by simp [slotM]⟩⟩
/-- A relay that is only read. -/
theorem HS.relRO {xs : List Nat} {H0 H : Hp} {w0 w : World} {x : RelD} {rb wb : Nat} {l : Slots} {Mr : Mem} (hs : HS xs H0 w0 H (relMem true x rb wb l ++ Mr) w) : HS [] H w H (relMem false x rb wb l) w := by
  refine HS.start [] hs.sub (fun b o t h => ?_) ?_
  · have h' : t = false ∧ (b, o, true) ∈ relMem true x rb wb l ++ Mr := by
      rcases List.mem_cons.1 h with e | h
      · cases e; exact ⟨rfl, by simp [relMem]⟩
      · rcases List.mem_cons.1 h with e | h
        · cases e; exact ⟨rfl, by simp [relMem]⟩
        · have := slotMem_ro h
          exact ⟨this.1, List.mem_append_left _ (List.mem_cons_of_mem _ (List.mem_cons_of_mem _ this.2))⟩
    have h1 := hs.mem b o true h'.2
    exact ⟨h1.1, h1.2.1, fun ht => by rw [h'.1] at ht; cases ht⟩
  · have h1 := hs.nd
    simp only [Mem.keys, List.map_append, List.nodup_append] at h1
    have h2 := h1.1
    have e : (relMem false x rb wb l).map (·.1) = (relMem true x rb wb l).map (·.1) := by
      have := slotMem_keys x.g x.s false l
      simp only [Mem.keys] at this
      simp [relMem, this]
    show ((relMem false x rb wb l).map (·.1)).Nodup
    rw [e]
    exact h2
/-- A relay that may be written. -/
theorem HS.relRW {xs : List Nat} {H0 H : Hp} {w0 w : World} {x : RelD} {rb wb : Nat} {l : Slots} {Mr : Mem} (hs : HS xs H0 w0 H (relMem true x rb wb l ++ Mr) w) : HS (Mem.keys (relMem true x rb wb l)) H w H (relMem true x rb wb l) w := by
  refine HS.start _ hs.sub (fun b o t h => ?_) ?_
  · have h1 := hs.mem b o t (List.mem_append_left _ h)
    exact ⟨h1.1, h1.2.1, fun _ => List.mem_map.2 ⟨_, h, rfl⟩⟩
  · have h1 := hs.nd
    simp only [Mem.keys, List.map_append, List.nodup_append] at h1
    exact h1.1
/-- A slot's basis comes first; and goes back. -/
theorem HS.slotOut {xs : List Nat} {H0 H : Hp} {w0 w : World} {g s : Nat} {t : Bool} {l : Slots} {A Mr : Mem} {i b : Nat} {rv : Value} (hs : HS xs H0 w0 H (A ++ (slotMem g s t l ++ Mr)) w) (h : l[i]? = some (some (b, rv))) :
    HS xs H0 w0 H ((b, basisObj g s rv, t) :: (A ++ (slotMem g s t (l.set i none) ++ Mr))) w := by
  refine hs.perm ?_
  have h1 := (slotMem_same g s t h).append_right Mr
  have h2 : (A ++ (slotMem g s t l ++ Mr)).Perm (A ++ ((b, basisObj g s rv, t) :: (slotMem g s t (l.set i none) ++ Mr))) := List.Perm.append_left A h1
  exact (h2.trans List.perm_middle).symm
theorem HS.slotIn {xs : List Nat} {H0 H : Hp} {w0 w : World} {g s : Nat} {t : Bool} {l : Slots} {A Mr : Mem} {i b : Nat} {rv : Value} {y : Option (Nat × Value)} (hs : HS xs H0 w0 H ((b, basisObj g s rv, t) :: (A ++ (slotMem g s t (l.set i none) ++ Mr))) w) (h : l[i]? = some y) :
    HS xs H0 w0 H (A ++ (slotMem g s t (l.set i (some (b, rv))) ++ Mr)) w := by
  refine hs.perm ?_
  have h1 := (slotMem_perm g s t h (some (b, rv))).append_right Mr
  have h2 : (A ++ (slotMem g s t (l.set i (some (b, rv))) ++ Mr)).Perm (A ++ ((b, basisObj g s rv, t) :: (slotMem g s t (l.set i none) ++ Mr))) := List.Perm.append_left A h1
  exact h2.trans List.perm_middle
end Go.Bw
namespace Go.Bw
set_option linter.unusedVariables false
set_option linter.unusedSimpArgs false
open Go.Proofs
theorem u64_wrap (n : Nat) (h : n < 18446744073709551616) : IntKind.u64.wrap (n : Int) = (n : Int) := IntWalk.u64_in _ (by omega)
set_option maxRecDepth 20000 in
set_option maxHeartbeats 2000000 in
theorem room_ok (g s : Int) (H0 : Hp) (w0 : World) (h0 : Sub H0 w0) :
    Calls Tryz.prog 62 #[.int .i64 g, .int .i64 s] w0 (Pure H0 w0 fun v _ => v = if 1 ≤ g ∧ g ≤ 255 ∧ 1 ≤ s ∧ s ≤ 65535 ∧ 4 < g * s then .tuple #[.int .i64 (g * s - 4), .int .i64 0] else .tuple #[.int .i64 0, .int .i64 1]) := by
  have hs := HS.init h0
  refine Calls.enter (args := [.int .i64 g, .int .i64 s]) Tryz.func62 rfl Tryz.ntmps62 rfl ?_
  refine WC.seq (WC.region (WO.step rfl (OR.assign rfl (WO.step rfl (OR.assign rfl (WO.done (WX.seq ?_)))))))
  refine WC.seq (WC.seq (WC.region (WO.step rfl (OR.move rfl (WO.step rfl (OR.lss rfl rfl (WO.step rfl ?_)))))))
  refine OR.move rfl ?_
  refine WO.guardSplit (j := 2) rfl (fun q1 => ?_) (fun q1 => ?_)
  · refine WO.guardNo rfl (decide_eq_true q1) rfl rfl (WO.guardNo rfl (decide_eq_true q1) rfl rfl (WO.step rfl (OR.pickT rfl (decide_eq_true q1) rfl (WO.step rfl (OR.move rfl (WO.guardNo rfl rfl rfl rfl (WO.guardNo rfl rfl rfl rfl ?_)))))))
    refine WO.step rfl (OR.pickT rfl rfl rfl (WO.step rfl (OR.move rfl (WO.guardNo rfl rfl rfl rfl (WO.guardNo rfl rfl rfl rfl (WO.step rfl (OR.pickT rfl rfl rfl ?_)))))))
    refine WO.step rfl (OR.move rfl (WO.guardNo rfl rfl rfl rfl (WO.guardNo rfl rfl rfl rfl (WO.guardNo rfl rfl rfl rfl (WO.guardNo rfl rfl rfl rfl (WO.step rfl (OR.pickT rfl rfl rfl ?_)))))))
    refine WO.done (WX.seq (WC.yes rfl rfl (WC.seq (WC.region (WO.step rfl (OR.assign rfl (WO.step rfl ?_)))))))
    refine OR.assign rfl (WO.done (WX.seq (WC.ret (WX.seq_ret ?_))))
    refine WX.ret2 rfl rfl rfl ?_
    exact .mk hs (by rw [if_neg (by omega)])
  · refine WO.guardYes rfl (decide_eq_false q1) rfl rfl (OR.move rfl (WO.guardYes rfl (decide_eq_false q1) rfl rfl (OR.gtr rfl rfl (WO.step rfl (OR.pickF rfl (decide_eq_false q1) rfl (WO.step rfl (OR.move rfl ?_)))))))
    refine WO.guardSplit (j := 6) rfl (fun q2 => ?_) (fun q2 => ?_)
    · refine WO.guardNo rfl (decide_eq_true q2) rfl rfl (WO.guardNo rfl (decide_eq_true q2) rfl rfl (WO.step rfl (OR.pickT rfl (decide_eq_true q2) rfl (WO.step rfl (OR.move rfl (WO.guardNo rfl rfl rfl rfl (WO.guardNo rfl rfl rfl rfl ?_)))))))
      refine WO.step rfl (OR.pickT rfl rfl rfl (WO.step rfl (OR.move rfl (WO.guardNo rfl rfl rfl rfl (WO.guardNo rfl rfl rfl rfl (WO.guardNo rfl rfl rfl rfl (WO.guardNo rfl rfl rfl rfl ?_)))))))
      refine WO.step rfl (OR.pickT rfl rfl rfl (WO.done (WX.seq (WC.yes rfl rfl (WC.seq (WC.region (WO.step rfl ?_)))))))
      refine OR.assign rfl (WO.step rfl (OR.assign rfl (WO.done (WX.seq (WC.ret (WX.seq_ret ?_))))))
      refine WX.ret2 rfl rfl rfl ?_
      exact .mk hs (by rw [if_neg (by omega)])
    · refine WO.guardYes rfl (decide_eq_false q2) rfl rfl (OR.move rfl (WO.guardYes rfl (decide_eq_false q2) rfl rfl (OR.lss rfl rfl (WO.step rfl (OR.pickF rfl (decide_eq_false q2) rfl (WO.step rfl (OR.move rfl ?_)))))))
      refine WO.guardSplit (j := 10) rfl (fun q3 => ?_) (fun q3 => ?_)
      · refine WO.guardNo rfl (decide_eq_true q3) rfl rfl (WO.guardNo rfl (decide_eq_true q3) rfl rfl (WO.step rfl (OR.pickT rfl (decide_eq_true q3) rfl (WO.step rfl (OR.move rfl (WO.guardNo rfl rfl rfl rfl (WO.guardNo rfl rfl rfl rfl ?_)))))))
        refine WO.guardNo rfl rfl rfl rfl (WO.guardNo rfl rfl rfl rfl (WO.step rfl (OR.pickT rfl rfl rfl (WO.done (WX.seq (WC.yes rfl rfl (WC.seq ?_)))))))
        refine WC.region (WO.step rfl (OR.assign rfl (WO.step rfl (OR.assign rfl (WO.done (WX.seq (WC.ret ?_)))))))
        refine WX.seq_ret ?_
        refine WX.ret2 rfl rfl rfl ?_
        exact .mk hs (by rw [if_neg (by omega)])
      · refine WO.guardYes rfl (decide_eq_false q3) rfl rfl (OR.move rfl (WO.guardYes rfl (decide_eq_false q3) rfl rfl (OR.gtr rfl rfl (WO.step rfl (OR.pickF rfl (decide_eq_false q3) rfl (WO.step rfl (OR.move rfl ?_)))))))
        refine WO.guardSplit (j := 14) rfl (fun q4 => ?_) (fun q4 => ?_)
        · refine WO.guardNo rfl (decide_eq_true q4) rfl rfl (WO.guardNo rfl (decide_eq_true q4) rfl rfl (WO.guardNo rfl (decide_eq_true q4) rfl rfl (WO.guardNo rfl (decide_eq_true q4) rfl rfl (WO.step rfl (OR.pickT rfl (decide_eq_true q4) rfl (WO.done (WX.seq ?_)))))))
          refine WC.yes rfl rfl (WC.seq (WC.region (WO.step rfl (OR.assign rfl (WO.step rfl (OR.assign rfl (WO.done ?_)))))))
          refine WX.seq (WC.ret (WX.seq_ret ?_))
          refine WX.ret2 rfl rfl rfl ?_
          exact .mk hs (by rw [if_neg (by omega)])
        · have hb1 : 0 ≤ g * s := Int.mul_nonneg (by omega) (by omega)
          have hb2 : g * s ≤ 255 * 65535 := Int.mul_le_mul (by omega) (by omega) (by omega) (by omega)
          refine WO.guardYes rfl (decide_eq_false q4) rfl rfl (OR.move rfl (WO.guardYes rfl (decide_eq_false q4) rfl rfl (OR.move rfl (WO.guardYes rfl (decide_eq_false q4) rfl rfl (OR.mulI rfl rfl (by omega) (by omega) (WO.guardYes rfl (decide_eq_false q4) rfl rfl (OR.leq rfl rfl ?_)))))))
          refine WO.step rfl (OR.pickF rfl (decide_eq_false q4) rfl (WO.done (WX.seq ?_)))
          refine WC.condD rfl (fun q5 => ?_) (fun q5 => ?_)
          · refine WC.seq (WC.region (WO.step rfl (OR.assign rfl (WO.step rfl (OR.assign rfl (WO.done (WX.seq ?_)))))))
            refine WC.ret (WX.seq_ret ?_)
            refine WX.ret2 rfl rfl rfl ?_
            exact .mk hs (by rw [if_neg (fun h => by have := h.2.2.2.2; omega)])
          · refine WC.skip (WX.seq (WC.seq (WC.region (WO.step rfl (OR.move rfl (WO.step rfl (OR.move rfl ?_)))))))
            refine WO.step rfl (OR.mulI rfl rfl (by omega) (by omega) (WO.step rfl (OR.subI rfl rfl (by omega) (by omega) (WO.step rfl (OR.assign rfl (WO.step rfl (OR.assign rfl ?_)))))))
            refine WO.done (WX.seq (WC.ret ?_))
            refine WX.ret2 rfl rfl rfl ?_
            exact .mk hs (by rw [if_pos ⟨by omega, by omega, by omega, by omega, by omega⟩])

theorem BytesL.single {H : Hp} {v c : Value} {l : List UInt8} (hs : Sl H 1 v 1 [c]) (hb : Bytes H c l) : BytesL H v [l] := by
  refine ⟨[c], hs, rfl, fun i h h' => ?_⟩
  cases i with
  | zero => exact hb
  | succ i => simp at h
/-- A published block, owned again. -/
theorem HS.unpub {xs : List Nat} {H0 H : Hp} {w0 w : World} {M : Mem} {g : Nat} {o : Obj} (h0 : Sub H0 w0) (hs : HS xs H0 w0 H M w) (hg : H g = some o) (hnew : w0.heap.size ≤ g) : HS xs H0 w0 (H.del g) ((g, o, true) :: M) w := by
  refine ⟨fun b u hb => ?_, fun b u hb => ?_, fun b u hb => ?_, hs.keep, hs.size, hs.os, hs.tape, hs.out, fun q u t hm => ?_, ?_⟩
  · have hne : b ≠ g := fun e => by
      have := lt_of_heap (h0 b u hb)
      omega
    unfold Hp.del
    rw [if_neg hne]
    exact hs.le b u hb
  · unfold Hp.del at hb
    split at hb
    · cases hb
    · exact hs.sub b u hb
  · unfold Hp.del at hb
    split at hb
    · cases hb
    · exact hs.new b u hb
  · rcases List.mem_cons.1 hm with e | hm
    · cases e
      exact ⟨hs.sub _ _ hg, by simp [Hp.del], fun _ => .inr hnew⟩
    · have h1 := hs.mem q u t hm
      refine ⟨h1.1, ?_, h1.2.2⟩
      unfold Hp.del
      split
      · rfl
      · exact h1.2.1
  · refine List.nodup_cons.2 ⟨?_, hs.nd⟩
    intro hm
    obtain ⟨⟨q, u, t⟩, h1, h2⟩ := List.mem_map.1 hm
    have h3 := (hs.mem q u t h1).2.1
    simp at h2
    subst h2
    rw [hg] at h3
    cases h3
theorem Hp.le_del {H H' : Hp} {g : Nat} (h : Hp.le H H') (hg : H g = none) : Hp.le H (H'.del g) := by
  intro b u hb
  have hne : b ≠ g := fun e => by rw [e, hg] at hb; cases hb
  unfold Hp.del
  rw [if_neg hne]
  exact h b u hb
end Go.Bw
namespace Go.Bw
set_option linter.unusedVariables false
set_option linter.unusedSimpArgs false
open Go.Proofs
def winEnd (base width : Nat) : Nat := min (base + width) 1099511627776
def inWin (base width gen : Nat) : Prop := base ≤ gen ∧ gen < winEnd base width
instance (base width gen : Nat) : Decidable (inWin base width gen) := inferInstanceAs (Decidable (_ ∧ _))
section
variable (wb base width : Nat) (H0 : Hp) (w0 : World)
set_option maxRecDepth 20000 in
set_option maxHeartbeats 2000000 in
theorem wbase_ok (h0 : Sub H0 w0) (hb : w0.heap[wb]? = some (winObj base width)) (hn : H0 wb = none) : Calls Tryz.prog 170 #[ptr wb] w0 (Pure H0 w0 fun v _ => v = .int .u64 (base : Int)) := by
  have hs := HS.startR h0 hb hn
  refine Calls.enter (args := [ptr wb]) Tryz.func170 rfl Tryz.ntmps170 rfl ?_
  refine WC.seq (WC.region (WO.step rfl (OR.assign rfl (WO.done (WX.seq (WC.seq (WC.seq ?_)))))))
  refine WC.region (WO.step rfl (OR.move rfl (WO.step rfl (OR.eqlNilP T123.und rfl rfl (WO.done (WX.seq (WC.no rfl rfl ?_)))))))
  refine WC.skip (WX.seq (WC.seq (WC.region (WO.step rfl (OR.move rfl (WO.step rfl (OR.nilCheck rfl ?_)))))))
  refine WO.step rfl (OR.fieldAddr FA192_0 rfl (WO.step rfl (OR.load T22 rfl rfl (hs.cellM (i := 0) rfl rfl) (WO.step rfl (OR.assign rfl (WO.done (WX.seq ?_)))))))
  refine WC.ret ?_
  refine WX.ret1 rfl rfl ?_
  exact .mk hs rfl
set_option maxRecDepth 20000 in
set_option maxHeartbeats 2000000 in
theorem wwidth_ok (h0 : Sub H0 w0) (hb : w0.heap[wb]? = some (winObj base width)) (hn : H0 wb = none) : Calls Tryz.prog 79 #[ptr wb] w0 (Pure H0 w0 fun v _ => v = .int .i64 (width : Int)) := by
  have hs := HS.startR h0 hb hn
  refine Calls.enter (args := [ptr wb]) Tryz.func79 rfl Tryz.ntmps79 rfl ?_
  refine WC.seq (WC.region (WO.step rfl (OR.assign rfl (WO.done (WX.seq (WC.seq (WC.seq ?_)))))))
  refine WC.region (WO.step rfl (OR.move rfl (WO.step rfl (OR.eqlNilP T123.und rfl rfl (WO.done (WX.seq (WC.no rfl rfl ?_)))))))
  refine WC.skip (WX.seq (WC.seq (WC.region (WO.step rfl (OR.move rfl (WO.step rfl (OR.nilCheck rfl ?_)))))))
  refine WO.step rfl (OR.fieldAddr FA192_1 rfl (WO.step rfl (OR.load T3 rfl rfl (hs.cellM (i := 0) rfl rfl) (WO.step rfl (OR.assign rfl (WO.done (WX.seq ?_)))))))
  refine WC.ret ?_
  refine WX.ret1 rfl rfl ?_
  exact .mk hs rfl
set_option maxRecDepth 20000 in
set_option maxHeartbeats 2000000 in
theorem wend_ok (h0 : Sub H0 w0) (hb : w0.heap[wb]? = some (winObj base width)) (hn : H0 wb = none) (hB : base ≤ 1099511627776) (hW : width ≤ 16) : Calls Tryz.prog 171 #[ptr wb] w0 (Pure H0 w0 fun v _ => v = .int .u64 (winEnd base width : Int)) := by
  have hs := HS.startR h0 hb hn
  have hle := Hp.le.refl H0
  refine Calls.enter (args := [ptr wb]) Tryz.func171 rfl Tryz.ntmps171 rfl ?_
  refine WC.seq (WC.region (WO.step rfl (OR.assign rfl (WO.done (WX.seq (WC.seq (WC.seq ?_)))))))
  refine WC.region (WO.step rfl (OR.move rfl (WO.step rfl (OR.eqlNilP T123.und rfl rfl (WO.done (WX.seq (WC.no rfl rfl ?_)))))))
  refine WC.skip (WX.seq (WC.seq ?_))
  refine WC.draw 9 mixed hs (by kernel_rfl) ?_
  refine ⟨MF.eq _, by intro Mx H w hle hs; refine forVals_nil (ORg.plain (OR.move rfl ?_)); exact ⟨_, [], Hp.le.refl _, hs, rfl, rfl⟩, ?_⟩
  refine ⟨MF.eq _, by intro Mx H w hle hs; refine forVals_eq rfl rfl rfl ?_; refine forVals_nil (ORg.plain (OR.nilCheck rfl ?_)); exact ⟨_, [], Hp.le.refl _, hs, rfl, rfl⟩, ?_⟩
  refine ⟨MF.eq _, by intro Mx H w hle hs; refine forVals_eq rfl rfl rfl ?_; refine forVals_nil (ORg.plain (OR.fieldAddr FA192_0 rfl ?_)); exact ⟨_, [], Hp.le.refl _, hs, rfl, rfl⟩, ?_⟩
  refine ⟨MF.eq _, by intro Mx H w hle hs; refine forVals_eq rfl rfl rfl ?_; refine forVals_nil (ORg.plain (OR.load T22 rfl rfl (hs.right.cellM (i := 0) rfl rfl) ?_)); exact ⟨_, [], Hp.le.refl _, hs, rfl, rfl⟩, ?_⟩
  refine ⟨MF.eq _, by intro Mx H w hle hs; refine forVals_nil (ORg.plain (OR.move rfl ?_)); exact ⟨_, [], Hp.le.refl _, hs, rfl, rfl⟩, ?_⟩
  refine ⟨MF.eq _, by intro Mx H w hle hs; refine forVals_eq rfl rfl rfl ?_; refine forVals_nil (ORg.plain (OR.nilCheck rfl ?_)); exact ⟨_, [], Hp.le.refl _, hs, rfl, rfl⟩, ?_⟩
  refine ⟨MF.eq _, by intro Mx H w hle hs; refine forVals_eq rfl rfl rfl ?_; refine forVals_nil (ORg.plain (OR.fieldAddr FA192_1 rfl ?_)); exact ⟨_, [], Hp.le.refl _, hs, rfl, rfl⟩, ?_⟩
  refine ⟨MF.eq _, by intro Mx H w hle hs; refine forVals_eq rfl rfl rfl ?_; refine forVals_nil (ORg.plain (OR.load T3 rfl rfl (hs.right.cellM (i := 0) rfl rfl) ?_)); exact ⟨_, [], Hp.le.refl _, hs, rfl, rfl⟩, ?_⟩
  refine ⟨MF.eq (.int .u64 (width : Int)), ?_, ?_⟩
  · intro Mx H w hle2 hs; (try replace hle := hle.trans hle2); (try replace hlb := hlb.trans hle2); refine forVals_eq rfl rfl rfl ?_
    refine forVals_nil (ORg.plain (OR.convI T3.und T22.und rfl ?_))
    exact ⟨_, [], Hp.le.refl _, hs, (by rw [u64_wrap _ (by omega)]), rfl⟩
  intro H w hle2; (try replace hle := hle.trans hle2); (try replace hlb := hlb.trans hle2)
  refine forAllVals_eq rfl ?_
  refine forAllVals_eq rfl ?_
  refine forAllVals_eq rfl ?_
  refine forAllVals_eq rfl ?_
  refine forAllVals_eq rfl ?_
  refine forAllVals_eq rfl ?_
  refine forAllVals_eq rfl ?_
  refine forAllVals_eq rfl ?_
  refine forAllVals_eq rfl ?_
  refine forAllVals_nil ?_; (try clear hs); intro hs
  refine WO.step rfl (OR.add rfl rfl ?_)
  rw [show IntKind.u64.wrap ((base : Int) + (width : Int)) = ((base + width : Nat) : Int) from u64_wrap (base + width) (by omega)]
  refine WO.step rfl (OR.minI rfl rfl ?_)
  refine WO.step rfl (OR.assign rfl (WO.done (WX.seq (WC.ret ?_))))
  refine WX.ret1 rfl rfl ?_
  refine .mk hs ?_
  unfold winEnd
  congr 1
  split <;> omega
set_option maxRecDepth 20000 in
set_option maxHeartbeats 2000000 in
theorem win_ok (gen : Nat) (h0 : Sub H0 w0) (hb : w0.heap[wb]? = some (winObj base width)) (hn : H0 wb = none) (hB : base ≤ 1099511627776) (hW : width ≤ 16) : Calls Tryz.prog 135 #[ptr wb, .int .u64 (gen : Int)] w0 (Pure H0 w0 fun v _ => v = .bool (decide (inWin base width gen))) := by
  have hs := HS.startR h0 hb hn
  have hle := Hp.le.refl H0
  refine Calls.enter (args := [ptr wb, .int .u64 (gen : Int)]) Tryz.func135 rfl Tryz.ntmps135 rfl ?_
  refine WC.seq (WC.region (WO.step rfl (OR.assign rfl (WO.done (WX.seq (WC.seq (WC.region ?_)))))))
  refine WO.step rfl (OR.move rfl (WO.step rfl (OR.move rfl ?_)))
  refine WO.step rfl (OR.call hs body170 rfl rfl (wbase_ok wb base width _ _ hs.toSub (hs.blk (i := 0) rfl) (hs.nh (i := 0) rfl)) ?_)
  clear hs; rintro _ H w hs hle1 rfl; replace hle := hle.trans hle1; (try replace hlb := hlb.trans hle1)
  refine WO.step rfl (OR.geq rfl rfl (WO.step rfl (OR.move rfl ?_)))
  refine WO.guardSplit (j := 4) rfl (fun hg => ?_) (fun hg => ?_)
  · refine WO.guardYes rfl (decide_eq_true hg) rfl rfl (OR.move rfl (WO.guardYes rfl (decide_eq_true hg) rfl rfl (OR.move rfl ?_)))
    refine WO.guardYes rfl (decide_eq_true hg) rfl rfl (OR.call hs body171 rfl rfl (wend_ok wb base width _ _ hs.toSub (hs.blk (i := 0) rfl) (hs.nh (i := 0) rfl) hB hW) ?_)
    clear hs; rintro _ H w hs hle1 rfl; replace hle := hle.trans hle1; (try replace hlb := hlb.trans hle1)
    refine WO.guardYes rfl (decide_eq_true hg) rfl rfl (OR.lss rfl rfl (WO.step rfl (OR.pickT rfl (decide_eq_true hg) rfl (WO.step rfl (OR.assign rfl (WO.done (WX.seq ?_)))))))
    refine WC.ret ?_
    refine WX.ret1 rfl rfl ?_
    refine .mk (hs.drop 0) ?_
    congr 1
    rw [decide_eq_decide]
    constructor
    · intro h; exact ⟨by omega, by omega⟩
    · intro h; have := h.2; omega
  · refine WO.guardNo rfl (decide_eq_false hg) rfl rfl (WO.guardNo rfl (decide_eq_false hg) rfl rfl (WO.guardNo rfl (decide_eq_false hg) rfl rfl (WO.guardNo rfl (decide_eq_false hg) rfl rfl (WO.step rfl (OR.pickF rfl (decide_eq_false hg) rfl (WO.step rfl (OR.assign rfl ?_)))))))
    refine WO.done (WX.seq (WC.ret ?_))
    refine WX.ret1 rfl rfl ?_
    refine .mk (hs.drop 0) ?_
    rw [decide_eq_false (fun h => hg (by have := h.1; omega))]
set_option maxRecDepth 20000 in
set_option maxHeartbeats 2000000 in
theorem wslot_ok (gen : Nat) (h0 : Sub H0 w0) (hb : w0.heap[wb]? = some (winObj base width)) (hn : H0 wb = none) (hB : base ≤ 1099511627776) (hW : width ≤ 16) (hW1 : 1 ≤ width) (hg : gen < 18446744073709551616) : Calls Tryz.prog 118 #[ptr wb, .int .u64 (gen : Int)] w0 (Pure H0 w0 fun v _ => v = .tuple #[.int .i64 (if inWin base width gen then ((gen % width : Nat) : Int) else 0), .int .i64 (if inWin base width gen then 0 else 1)]) := by
  have hs := HS.startR h0 hb hn
  have hle := Hp.le.refl H0
  refine Calls.enter (args := [ptr wb, .int .u64 (gen : Int)]) Tryz.func118 rfl Tryz.ntmps118 rfl ?_
  refine WC.seq (WC.region (WO.step rfl (OR.assign rfl (WO.step rfl (OR.assign rfl (WO.done (WX.seq ?_)))))))
  refine WC.seq (WC.block (WC.seq (WC.region (WO.step rfl (OR.move rfl ?_)))))
  refine WO.step rfl (OR.call hs body79 rfl rfl (wwidth_ok wb base width _ _ hs.toSub (hs.blk (i := 0) rfl) (hs.nh (i := 0) rfl)) ?_)
  clear hs; rintro _ H w hs hle1 rfl; replace hle := hle.trans hle1; (try replace hlb := hlb.trans hle1)
  refine WO.step rfl (OR.eql rfl rfl (WO.step rfl (OR.assign rfl (WO.done (WX.seq ?_)))))
  refine WC.no rfl (decide_eq_false (by omega)) ?_
  refine WC.seq (WC.region (WO.step rfl (OR.move rfl (WO.step rfl (OR.move rfl ?_)))))
  refine WO.step rfl (OR.call hs body135 rfl rfl (win_ok wb base width _ _ gen hs.toSub (hs.blk (i := 0) rfl) (hs.nh (i := 0) rfl) hB hW) ?_)
  clear hs; rintro _ H w hs hle1 rfl; replace hle := hle.trans hle1; (try replace hlb := hlb.trans hle1)
  by_cases hin : inWin base width gen
  · rw [decide_eq_true hin, if_pos hin, if_pos hin]
    refine WO.step rfl (OR.not rfl (WO.step rfl (OR.assign rfl (WO.done (WX.seq ?_)))))
    refine WC.no rfl rfl ?_
    refine WC.skip (WX.block (WX.seq (WC.seq (WC.region (WO.step rfl (OR.move rfl (WO.step rfl ?_)))))))
    refine OR.move rfl (WO.step rfl (OR.nilCheck rfl (WO.step rfl (OR.fieldAddr FA192_1 rfl (WO.step rfl (OR.load T3 rfl rfl (hs.cellM (i := 0) rfl rfl) ?_))))))
    refine WO.step rfl (OR.convI T3.und T22.und rfl ?_)
    rw [u64_wrap _ (by omega)]
    refine WO.step rfl (OR.rem rfl rfl (by omega) ?_)
    rw [← Int.ofNat_tmod]
    have hlt := Nat.mod_lt gen (by omega : 0 < width)
    refine WO.step rfl (OR.convI T22.und T3.und rfl ?_)
    rw [IntWalk.i64_in ((gen % width : Nat) : Int) (by omega)]
    refine WO.step rfl (OR.assign rfl (WO.step rfl (OR.assign rfl (WO.done (WX.seq (WC.ret ?_))))))
    refine WX.ret2 rfl rfl rfl ?_
    exact .mk (hs.drop 0) rfl
  · rw [decide_eq_false hin, if_neg hin, if_neg hin]
    refine WO.step rfl (OR.not rfl (WO.step rfl (OR.assign rfl (WO.done (WX.seq ?_)))))
    refine WC.yes rfl rfl ?_
    refine WC.seq (WC.region (WO.step rfl (OR.assign rfl (WO.step rfl (OR.assign rfl (WO.done (WX.seq ?_)))))))
    refine WC.ret (WX.block_ret (WX.seq_ret ?_))
    refine WX.ret2 rfl rfl rfl ?_
    exact .mk (hs.drop 0) rfl
end
set_option maxRecDepth 20000 in
set_option maxHeartbeats 2000000 in
theorem wnewW_ok (width : Int) (H0 : Hp) (w0 : World) (h0 : Sub H0 w0) :
    Calls Tryz.prog 64 #[.int .i64 width] w0 (Ret [] H0 w0 fun v H' M' => H' = H0 ∧ if 1 ≤ width ∧ width ≤ 16 then ∃ b, v = .tuple #[ptr b, .int .i64 0] ∧ M' = [(b, winObj 0 width.toNat, true)] else v = .tuple #[.pointer none, .int .i64 1] ∧ M' = []) := by
  have hs := HS.init h0
  have hle := Hp.le.refl H0
  refine Calls.enter (args := [.int .i64 width]) Tryz.func64 rfl Tryz.ntmps64 rfl ?_
  refine WC.seq (WC.region (WO.step rfl (OR.assign rfl (WO.step rfl (OR.assign rfl (WO.done (WX.seq ?_)))))))
  refine WC.seq (WC.seq (WC.region (WO.step rfl (OR.move rfl (WO.step rfl (OR.lss rfl rfl (WO.step rfl ?_)))))))
  refine OR.move rfl ?_
  refine WO.guardSplit (j := 2) rfl (fun hg => ?_) (fun hg => ?_)
  · refine WO.guardNo rfl (decide_eq_true hg) rfl rfl (WO.guardNo rfl (decide_eq_true hg) rfl rfl (WO.step rfl (OR.pickT rfl (decide_eq_true hg) rfl (WO.done (WX.seq (WC.yes rfl rfl (WC.seq ?_)))))))
    refine WC.region (WO.step rfl (OR.assign rfl (WO.step rfl (OR.assign rfl (WO.done (WX.seq (WC.ret ?_)))))))
    refine WX.seq_ret ?_
    refine WX.ret2 rfl rfl rfl ?_
    refine ⟨_, _, [], rfl, hs, by simp, rfl, ?_⟩
    rw [if_neg (by omega)]
    exact ⟨rfl, rfl⟩
  · refine WO.guardYes rfl (decide_eq_false hg) rfl rfl (OR.move rfl (WO.guardYes rfl (decide_eq_false hg) rfl rfl (OR.gtr rfl rfl (WO.step rfl (OR.pickF rfl (decide_eq_false hg) rfl (WO.done (WX.seq ?_)))))))
    refine WC.condD rfl (fun hbig => ?_) (fun hbig => ?_)
    · refine WC.seq (WC.region (WO.step rfl (OR.assign rfl (WO.step rfl (OR.assign rfl (WO.done (WX.seq ?_)))))))
      refine WC.ret (WX.seq_ret ?_)
      refine WX.ret2 rfl rfl rfl ?_
      refine ⟨_, _, [], rfl, hs, by simp, rfl, ?_⟩
      rw [if_neg (by omega)]
      exact ⟨rfl, rfl⟩
    · refine WC.skip (WX.seq (WC.seq (WC.region (WO.step rfl (OR.move rfl ?_)))))
      refine WO.step rfl (OR.build (cs := #[.int .u64 0, .int .i64 width]) rfl (by intro w; kernel_rfl) ?_)
      refine WO.step rfl (OR.box hs rfl ?_)
      clear hs; intro g1 w hg1 hs
      refine WO.step rfl (OR.assign rfl (WO.step rfl (OR.assign rfl (WO.done (WX.seq (WC.ret ?_))))))
      refine WX.ret2 rfl rfl rfl ?_
      refine ⟨_, _, [_], rfl, hs, by simp, rfl, ?_⟩
      rw [if_pos (by omega)]
      obtain ⟨n, rfl⟩ := Int.eq_ofNat_of_zero_le (show 0 ≤ width by omega)
      exact ⟨g1, rfl, rfl⟩
end Go.Bw
namespace Go.Bw
set_option linter.unusedVariables false
set_option linter.unusedSimpArgs false
open Go.Proofs
set_option maxRecDepth 20000 in
set_option maxHeartbeats 2000000 in
theorem weach_ok (wb base width lp : Nat) (t : Bool) (xs : List Nat) (H0 : Hp) (w0 : World) (hB : base ≤ 1099511627776) (hWd : width ≤ 16) (I : Nat → Hp → Mem → Prop) (hI : ∀ k H H' M, Hp.le H H' → I k H M → I k H' M) (Cx : World → Prop)
    (hround : ∀ k H M w, k < winEnd base width - base → HS xs H0 w0 H ((wb, winObj base width, t) :: M) w → I k H M → YieldAt (fen none) 0 Tryz.prog lp #[.int .u64 ((base + k : Nat) : Int)] w (fun e w' =>
      (e = .returned (.bool true) ∧ ∃ H' M', HS xs H0 w0 H' ((wb, winObj base width, t) :: M') w' ∧ I (k + 1) H' M') ∨ (e = .returned (.bool false) ∧ Cx w')))
    (H1 : Hp) (M1 : Mem) (w1 : World) (hs : HS xs H0 w0 H1 ((wb, winObj base width, t) :: M1) w1) (h0 : I 0 H1 M1) :
    Calls Tryz.prog 134 #[ptr wb, .func (.yield lp) #[] #[]] w1 (fun e w' => e = .returned (.tuple #[]) ∧ ((∃ H' M', HS xs H0 w0 H' ((wb, winObj base width, t) :: M') w' ∧ I (winEnd base width - base) H' M') ∨ Cx w')) := by
  have hle := Hp.le.refl H1
  have hle9 : winEnd base width ≤ 1099511627776 := Nat.min_le_right _ _
  refine Calls.enter (args := [ptr wb, .func (.yield lp) #[] #[]]) Tryz.func134 rfl Tryz.ntmps134 rfl ?_
  refine WC.seq (WC.region (WO.step rfl (OR.move rfl ?_)))
  refine WO.step rfl (OR.call hs body170 rfl rfl (wbase_ok wb base width _ _ hs.toSub (hs.blk (i := 0) rfl) (hs.nh (i := 0) rfl)) ?_)
  clear hs; rintro _ H w hs hle1 rfl; replace hle := hle.trans hle1; (try replace hlb := hlb.trans hle1)
  refine WO.step rfl (OR.assign rfl (WO.done (WX.seq (WC.block ?_))))
  refine WC.loop (ι := Nat) (fun k => [(0, ptr wb), (1, .func (.yield lp) #[] #[]), (4, .int .u64 ((base + k : Nat) : Int))]) (fun k w => (base + k ≤ max base (winEnd base width) ∧ ∃ H M, HS xs H0 w0 H ((wb, winObj base width, t) :: M) w ∧ I k H M)) (fun k => winEnd base width - base - k) 0 ⟨rfl, rfl, rfl,  trivial⟩ ?_ (fun k w hW => ?_)
  · exact ⟨by omega, H, M1, hs, hI _ _ _ _ hle h0⟩
  clear hs hle hle1
  obtain ⟨hk, H, M, hs, hinv⟩ := hW
  have hle := Hp.le.refl H
  refine WC.seq (WC.seq ?_)
  refine WC.regionR ?_
  refine RO.step rfl rfl (OR.move rfl (RO.step rfl rfl (OR.move rfl ?_)))
  refine RO.step rfl rfl (OR.call hs body171 rfl rfl (wend_ok wb base width _ _ hs.toSub (hs.blk (i := 0) rfl) (hs.nh (i := 0) rfl) hB hWd) ?_)
  clear hs; rintro _ H w hs hle1 rfl; replace hle := hle.trans hle1; (try replace hlb := hlb.trans hle1)
  refine RO.step rfl rfl (OR.lss rfl rfl (RO.step rfl rfl (OR.move rfl ?_)))
  refine RO.guardSplit (j := 4) rfl (fun hlt => ?_) (fun hlt => ?_)
  · have hk2 : k < winEnd base width - base := by omega
    refine RO.guardYes rfl (decide_eq_true hlt) rfl rfl rfl (OR.move rfl (RO.guardYes rfl (decide_eq_true hlt) rfl rfl rfl (OR.move rfl ?_)))
    refine RO.yieldG rfl (decide_eq_true hlt) rfl rfl rfl rfl (hround k _ _ _ hk2 hs (hI _ _ _ _ hle hinv)) ?_
    rintro e w hC
    clear hs
    rcases hC with ⟨rfl, H2, M2, hs, hinv2⟩ | ⟨rfl, hx⟩
    · refine ⟨_, rfl, ?_⟩
      refine RO.step rfl rfl (OR.pickT rfl (decide_eq_true hlt) rfl ?_)
      refine RO.doneW ?_
      refine WX.seq ?_
      refine WC.yes rfl rfl ?_
      refine WC.skip (WX.seq (WC.seq (WC.block (WC.skip (WX.block (WX.seq (WC.region ?_)))))))
      refine WO.step rfl (OR.move rfl ?_)
      refine WO.step rfl (OR.add rfl rfl ?_)
      rw [show IntKind.u64.wrap (((base + k : Nat) : Int) + 1) = ((base + (k + 1) : Nat) : Int) from u64_wrap (base + (k + 1)) (by omega)]
      refine WO.step rfl (OR.assign rfl (WO.done ?_))
      refine WX.again (k + 1) ⟨rfl, rfl, rfl,  trivial⟩ ?_ ?_
      · exact ⟨by omega, H2, M2, hs, hinv2⟩
      · omega
    · refine ⟨_, rfl, ?_⟩
      refine RO.step rfl rfl (OR.pickT rfl (decide_eq_true hlt) rfl ?_)
      refine RO.doneW ?_
      refine WX.seq ?_
      refine WC.no rfl rfl ?_
      refine WC.exit (WX.seq_exit (WX.loop_exit (WX.block_hit ?_)))
      refine WX.end0 rfl ?_
      exact ⟨rfl, .inr hx⟩
  · refine RO.guardNo rfl (decide_eq_false hlt) rfl rfl (RO.guardNo rfl (decide_eq_false hlt) rfl rfl (RO.guardNo rfl (decide_eq_false hlt) rfl rfl (RO.step rfl rfl (OR.pickF rfl (decide_eq_false hlt) rfl ?_))))
    refine RO.doneW ?_
    refine WX.seq (WC.no rfl rfl (WC.exit (WX.seq_exit (WX.loop_exit (WX.block_hit ?_)))))
    refine WX.end0 rfl ?_
    have e : k = winEnd base width - base := by omega
    subst e
    exact ⟨rfl, .inl ⟨_, _, hs, hI _ _ _ _ hle hinv⟩⟩

/-- Whole numbers in a slice. -/
def Nums (H : Hp) (v : Value) (l : List Nat) : Prop := Sl H 1 v l.length (l.map fun n : Nat => Value.int .u64 (n : Int))
theorem Nums.mono {H H' : Hp} {v : Value} {l : List Nat} (h : Nums H v l) (hle : Hp.le H H') : Nums H' v l := Sl.mono h hle
def numsC (l : List Nat) : List Value := l.map fun n : Nat => Value.int .u64 (n : Int)
theorem nums_one (l : List Nat) : (numsC l).all (·.oneCell') = true := by
  rw [List.all_eq_true]
  intro u hu
  obtain ⟨n, _, rfl⟩ := List.mem_map.1 hu
  rfl
/-- The numbers that are in a window. -/
def winNums (base n : Nat) : List Nat := (List.range n).map fun k => base + k
theorem winNums_succ (base n : Nat) : winNums base (n + 1) = winNums base n ++ [base + n] := by
  unfold winNums
  rw [List.range_succ, List.map_append]
  rfl
end Go.Bw
namespace Go.Bw
set_option linter.unusedVariables false
set_option linter.unusedSimpArgs false
open Go.Proofs
/-- What falls out of a window. -/
def winGone (base width nb k : Nat) : List Nat := (winNums base k).filter fun n => !decide (inWin nb width n)
theorem winGone_succ (base width nb k : Nat) : winGone base width nb (k + 1) = winGone base width nb k ++ (if inWin nb width (base + k) then [] else [base + k]) := by
  unfold winGone
  rw [winNums_succ, List.filter_append]
  congr 1
  by_cases h : inWin nb width (base + k)
  · simp [h]
  · simp [h]
theorem winGone_len (base width nb k : Nat) : (winGone base width nb k).length ≤ k := by
  refine Nat.le_trans (List.length_filter_le _ _) ?_
  simp [winNums]
set_option maxRecDepth 20000 in
set_option maxHeartbeats 2000000 in
theorem wmove_ok (wb base width nb : Nat) (H0 : Hp) (w0 : World) (h0 : Sub H0 w0) (hb : w0.heap[wb]? = some (winObj base width)) (hn : H0 wb = none) (hB : base ≤ 1099511627776) (hWd : width ≤ 16) (hW1 : 1 ≤ width) (hnb : nb < 18446744073709551616) :
    Calls Tryz.prog 78 #[ptr wb, .int .u64 (nb : Int)] w0 (Ret [wb] H0 w0 fun v H' M' => if nb ≤ 1099511627776 then ∃ r, v = .tuple #[r, .int .i64 0] ∧ Nums H' r (winGone base width nb (winEnd base width - base)) ∧ M' = [(wb, winObj nb width, true)]
      else v = .tuple #[.slice none 0 0, .int .i64 1] ∧ M' = [(wb, winObj base width, true)]) := by
  have hs := HS.start1 h0 hb hn
  have hle := Hp.le.refl H0
  refine Calls.enterM (args := [ptr wb, .int .u64 (nb : Int)]) Tryz.func78 rfl Tryz.ntmps78 rfl ?_
  refine WC.seq (WC.region (WO.step rfl (OR.assign rfl (WO.step rfl (OR.assign rfl (WO.done (WX.seq ?_)))))))
  refine WC.seq (WC.block (WC.seq (WC.region (WO.step rfl (OR.move rfl ?_)))))
  refine WO.step rfl (OR.call hs body79 rfl rfl (wwidth_ok wb base width _ _ hs.toSub (hs.blk (i := 0) rfl) (hs.nh (i := 0) rfl)) ?_)
  clear hs; rintro _ H w hs hle1 rfl; replace hle := hle.trans hle1; (try replace hlb := hlb.trans hle1)
  refine WO.step rfl (OR.eql rfl rfl (WO.step rfl (OR.assign rfl (WO.done (WX.seq ?_)))))
  refine WC.no rfl (decide_eq_false (by omega)) ?_
  refine WC.seq (WC.region (WO.step rfl (OR.move rfl (WO.step rfl (OR.gtr rfl rfl (WO.step rfl (OR.assign rfl ?_)))))))
  refine WO.done (WX.seq ?_)
  refine WC.condD rfl (fun hbig => ?_) (fun hbig => ?_)
  · refine WC.seq (WC.region (WO.step rfl (OR.assign rfl (WO.step rfl (OR.assign rfl (WO.done (WX.seq ?_)))))))
    refine WC.ret (WX.block_ret (WX.seq_ret ?_))
    refine WX.retM0 fun a ha => ⟨_, results_tmp2 rfl a.tmps _ w, ?_⟩
    rw [ha 4 _ rfl, ha 5 _ rfl]
    refine ⟨_, _, _, rfl, hs, by simp, ?_⟩
    show ite _ _ _
    rw [if_neg (by omega)]
    exact ⟨rfl, rfl⟩
  · have hnb2 : nb ≤ 1099511627776 := by omega
    refine WC.skip (WX.block (WX.seq (WC.seq (WC.region (WO.step rfl (OR.move rfl (WO.step rfl ?_)))))))
    refine OR.move rfl (WO.step rfl (OR.nilCheck rfl (WO.step rfl (OR.fieldAddr FA192_1 rfl (WO.step rfl (OR.load T3 rfl rfl (hs.cellM (i := 0) rfl rfl) (WO.step rfl ?_)))))))
    refine OR.buildAll T192 rfl rfl PL192 rfl rfl (WO.step rfl (OR.box hs rfl ?_))
    clear hs; intro g1 w hg1 hs
    refine WO.step rfl (OR.alloc hs T123 ?_)
    clear hs; intro g2 w hg2 hs
    refine WO.stepN (OR.storeAll hs T123 rfl rfl rfl rfl rfl ?_)
    clear hs; intro w hs
    refine WO.done (WX.seq (WC.seq (WC.region (WO.step rfl (OR.alloc hs T152 ?_)))))
    clear hs; intro g3 w hg3 hs
    refine WO.done (WX.seq (WC.seq (WC.seq (WC.region (WO.step rfl (OR.move rfl (WO.step rfl ?_)))))))
    refine OR.makeFunc rfl rfl (WO.done (WX.seq (WC.block ?_)))
    refine WC.rangeFunc (fl := [ptr wb]) (lb := []) hs rfl body134 ?_
    clear hs; intro fn tmps D lp w hD hlp hst hs
    refine (weach_ok wb base width lp true [wb] H0 w0 hB hWd (fun k H M => Hp.le H0 H ∧ ∃ v Mo, M = (lp, loopObj .ready none fn tmps _ _ _ D, true) :: (D, .deferred (some []), true) :: (g3, .cells #[v] 152, true) :: (g2, .cells #[ptr g1] 123, true) :: (g1, winObj nb width, true) :: Mo ∧ Own w0.heap.size 22 1 v (winGone base width nb k).length (numsC (winGone base width nb k)) Mo) (fun k H H' M hle h => ⟨h.1.trans hle, h.2⟩) (fun _ => False) ?_ H _ w ((hs.front (i := 5) rfl)) ⟨hle, _, [], rfl, Own.nil _ _ _⟩).mono ?_
    · clear hs
      rintro k H M w hk hs ⟨hle0, v, Mo, rfl, ho⟩
      replace hs := hs.front (i := 1) rfl
      refine yieldAt hs rfl (hst.param1 rfl _) ?_
      have hle := Hp.le.refl H
      have hk9 : k ≤ 16 := by have : winEnd base width ≤ base + width := Nat.min_le_left _ _; omega
      have hgl := winGone_len base width nb k
      obtain ⟨bo, co, rfl⟩ := ho.form
      refine RC.region (RO.step rfl rfl (OR.assign rfl (RO.done ?_)))
      refine RC.assigned hs ?_; clear hs; intro w hs
      refine RC.block (RC.seq (RC.region (RO.step rfl rfl (OR.load T123 rfl rfl (hs.cellM (i := 4) rfl rfl) (RO.step rfl rfl (OR.move rfl ?_))))))
      refine RO.step rfl rfl (OR.call hs body135 rfl rfl (win_ok g1 nb width _ _ (base + k) hs.toSub (hs.blk (i := 5) rfl) (hs.nh (i := 5) rfl) hnb2 hWd) ?_)
      clear hs; rintro _ H w hs hle1 rfl; replace hle := hle.trans hle1; (try replace hlb := hlb.trans hle1)
      refine RO.step rfl rfl (OR.not rfl (RO.done (RX.seq ?_)))
      by_cases hin : inWin nb width (base + k)
      · rw [decide_eq_true hin]
        refine RC.no rfl rfl ?_
        refine RC.skip (RX.block ?_)
        refine RX.on hs fun w hs => ?_
        replace hs := hs.front (i := 1) rfl
        refine .inl ⟨rfl, H, _, hs, hle0.trans hle1, _, Mo, rfl, ?_⟩
        rw [winGone_succ, if_pos hin, List.append_nil]
        exact ho
      · rw [decide_eq_false hin]
        refine RC.yes rfl rfl ?_
        refine RC.region (RO.step rfl rfl (OR.load T152 rfl rfl (hs.cellM (i := 3) rfl rfl) (RO.step rfl rfl (OR.move rfl ?_))))
        refine RO.step rfl rfl (OR.buildSlice (vs := [_]) hs T152.und T22 rfl rfl rfl rfl (by simp) ?_)
        clear hs; intro q1 w hq1 hs
        have hle9 := hle1
        obtain ⟨H, hle1, hp_q1, hs9⟩ := hs.pub1 hq1; clear hs; have hs := hs9; clear hs9; replace hle := hle.trans hle1; (try replace hlb := hlb.trans hle1)
        have hone : Nums H (.slice (some ⟨q1, 0, none⟩) 1 1) [base + k] := Sl.block hp_q1 rfl rfl (by simp)
        refine RO.step rfl rfl (OR.append (m := 1) (news := numsC [base + k]) (Mo := Mo) (M := [_, _, _, _, _, _]) (HS.mtail (A := [_, _, _, _, _, _]) hs) ho T152.und T22 rfl (by omega) rfl rfl rfl (Sl.src hone hs) (Sl.src0 hone) (nums_one _) (by omega) (by omega) ?_)
        clear hs ho; intro v' w Mo' hs ho hge
        replace hs := HS.mtail (B := [_, _, _, _, _, _]) hs
        obtain ⟨bo2, co2, rfl⟩ := ho.form
        replace hs := hs.front (i := 3) rfl
        refine RO.stepN rfl (OR.storeAll hs T152 rfl rfl rfl rfl rfl ?_)
        clear hs; intro w hs
        refine RO.done (RX.block ?_)
        replace hs := hs.front (i := 1) rfl
        refine RX.on hs fun w hs => ?_
        replace hs := hs.front (i := 5) rfl
        replace hs := hs.front (i := 5) rfl
        replace hs := hs.front (i := 3) rfl
        replace hs := hs.front (i := 5) rfl
        replace hs := hs.front (i := 4) rfl
        replace hs := hs.front (i := 5) rfl
        refine .inl ⟨rfl, H, _, hs, hle0.trans (hle9.trans hle1), _, Mo', rfl, ?_⟩
        rw [winGone_succ, if_neg hin]
        have e : numsC (winGone base width nb k ++ [base + k]) = numsC (winGone base width nb k) ++ numsC [base + k] := by simp [numsC]
        rw [e, List.length_append]
        exact ho
    · rintro e w3 ⟨rfl, (⟨H3, M3, hs, hle3, v, Mo, rfl, ho⟩ | h)⟩
      · refine ⟨⟨_, rfl⟩, H3, _, .ready, none, by decide, hs.front (i := 1) rfl, fun w hs => ⟨fun _ => ?_, fun c h => by cases h⟩⟩
        refine WX.block (WX.seq (WC.seq (WC.region (WO.step rfl (OR.move rfl (WO.step rfl (OR.load T123 rfl rfl (hs.cellM (i := 4) rfl rfl) ?_)))))))
        refine WO.step rfl (OR.nilCheck rfl (WO.step rfl (OR.loadAll T192 rfl rfl (hs.blk (i := 5) rfl) rfl (WO.step rfl (OR.nilCheck rfl ?_)))))
        replace hs := hs.front (i := 1) rfl
        refine WO.stepN (OR.storeAll hs T192 rfl rfl rfl rfl rfl ?_)
        clear hs; intro w hs
        refine WO.done (WX.seq (WC.seq (WC.region (WO.step rfl (OR.load T152 rfl rfl (hs.cellM (i := 3) rfl rfl) (WO.step rfl (OR.assign rfl ?_)))))))
        refine WO.step rfl (OR.assign rfl (WO.done (WX.seq (WC.ret ?_))))
        replace hs := hs.front (i := 2) rfl
        refine WX.retM hs fun w hs a ha => ⟨_, results_tmp2 rfl a.tmps _ w, ?_⟩
        rw [ha 4 _ rfl, ha 5 _ rfl]
        obtain ⟨H4, hle4, hs, hsl, _⟩ := HS.pub (HS.mtail (A := [_, _, _, _, _, _]) hs) ho
        refine ⟨_, H4, _, rfl, ((((hs.drop 5).drop 4).drop 3).drop 2).drop 0, by simp, ?_⟩
        show ite _ _ _
        rw [if_pos hnb2]
        exact ⟨_, rfl, hsl, rfl⟩
      · exact h.elim
end Go.Bw
namespace Go.Bw
set_option linter.unusedVariables false
set_option linter.unusedSimpArgs false
open Go.Proofs
set_option maxRecDepth 20000 in
set_option maxHeartbeats 2000000 in
theorem may_ok (n : Int) (H0 : Hp) (w0 : World) (h0 : Sub H0 w0) : Calls Tryz.prog 205 #[.int .i64 n] w0 (Pure H0 w0 fun v _ => v = .bool (decide (1 ≤ n ∧ n ≤ 255))) := by
  have hs := HS.init h0
  refine Calls.enter (args := [.int .i64 n]) Tryz.func205 rfl Tryz.ntmps205 rfl ?_
  refine WC.seq (WC.region (WO.step rfl (OR.assign rfl (WO.done (WX.seq (WC.seq (WC.region ?_)))))))
  refine WO.step rfl (OR.move rfl (WO.step rfl (OR.geq rfl rfl (WO.step rfl (OR.move rfl ?_)))))
  refine WO.guardSplit (j := 2) rfl (fun q => ?_) (fun q => ?_)
  · refine WO.guardYes rfl (decide_eq_true q) rfl rfl (OR.move rfl (WO.guardYes rfl (decide_eq_true q) rfl rfl (OR.leq rfl rfl (WO.step rfl (OR.pickT rfl (decide_eq_true q) rfl (WO.step rfl (OR.assign rfl ?_)))))))
    refine WO.done (WX.seq (WC.ret ?_))
    refine WX.ret1 rfl rfl ?_
    refine .mk hs ?_
    congr 1
    rw [decide_eq_decide]
    exact ⟨fun h => ⟨q, h⟩, fun h => h.2⟩
  · refine WO.guardNo rfl (decide_eq_false q) rfl rfl (WO.guardNo rfl (decide_eq_false q) rfl rfl (WO.step rfl (OR.pickF rfl (decide_eq_false q) rfl (WO.step rfl (OR.assign rfl (WO.done (WX.seq ?_)))))))
    refine WC.ret ?_
    refine WX.ret1 rfl rfl ?_
    refine .mk hs ?_
    rw [decide_eq_false (fun h => q h.1)]
set_option maxRecDepth 20000 in
set_option maxHeartbeats 2000000 in
theorem syst_ok (a b : Int) (H0 : Hp) (w0 : World) (h0 : Sub H0 w0) : Calls Tryz.prog 213 #[.int .i64 a, .int .i64 b] w0 (Pure H0 w0 fun v _ => v = .bool (decide (0 ≤ a ∧ a < b))) := by
  have hs := HS.init h0
  refine Calls.enter (args := [.int .i64 a, .int .i64 b]) Tryz.func213 rfl Tryz.ntmps213 rfl ?_
  refine WC.seq (WC.region (WO.step rfl (OR.assign rfl (WO.done (WX.seq (WC.seq (WC.region ?_)))))))
  refine WO.step rfl (OR.move rfl (WO.step rfl (OR.geq rfl rfl (WO.step rfl (OR.move rfl ?_)))))
  refine WO.guardSplit (j := 2) rfl (fun q => ?_) (fun q => ?_)
  · refine WO.guardYes rfl (decide_eq_true q) rfl rfl (OR.move rfl (WO.guardYes rfl (decide_eq_true q) rfl rfl (OR.move rfl (WO.guardYes rfl (decide_eq_true q) rfl rfl (OR.lss rfl rfl (WO.step rfl (OR.pickT rfl (decide_eq_true q) rfl ?_)))))))
    refine WO.step rfl (OR.assign rfl (WO.done (WX.seq (WC.ret ?_))))
    refine WX.ret1 rfl rfl ?_
    refine .mk hs ?_
    congr 1
    rw [decide_eq_decide]
    exact ⟨fun h => ⟨q, h⟩, fun h => h.2⟩
  · refine WO.guardNo rfl (decide_eq_false q) rfl rfl (WO.guardNo rfl (decide_eq_false q) rfl rfl (WO.guardNo rfl (decide_eq_false q) rfl rfl (WO.step rfl (OR.pickF rfl (decide_eq_false q) rfl (WO.step rfl (OR.assign rfl (WO.done ?_)))))))
    refine WX.seq (WC.ret ?_)
    refine WX.ret1 rfl rfl ?_
    refine .mk hs ?_
    rw [decide_eq_false (fun h => q h.1)]
theorem i64_small (n : Nat) (h : n < 9223372036854775808) : IntKind.i64.wrap (n : Int) = (n : Int) := wrap_i64 (by omega) (by omega)
set_option maxRecDepth 20000 in
set_option maxHeartbeats 2000000 in
theorem turn_ok (sent n : Nat) (H0 : Hp) (w0 : World) (h0 : Sub H0 w0) (hn : 1 ≤ n ∧ n ≤ 255) (hsent : sent < 18446744073709551616) : Calls Tryz.prog 202 #[.int .u64 (sent : Int), .int .i64 (n : Int)] w0 (Pure H0 w0 fun v _ => v = .tuple #[.int .i64 ((sent % n : Nat) : Int), .int .i64 0]) := by
  have hs := HS.init h0
  have hle := Hp.le.refl H0
  refine Calls.enter (args := [.int .u64 (sent : Int), .int .i64 (n : Int)]) Tryz.func202 rfl Tryz.ntmps202 rfl ?_
  refine WC.seq (WC.region (WO.step rfl (OR.assign rfl (WO.step rfl (OR.assign rfl (WO.done (WX.seq ?_)))))))
  refine WC.seq (WC.seq (WC.region (WO.step rfl (OR.move rfl ?_))))
  refine WO.step rfl (OR.call hs body205 rfl rfl (may_ok (n : Int) _ _ hs.toSub) ?_)
  clear hs; rintro _ H w hs hle1 rfl; replace hle := hle.trans hle1; (try replace hlb := hlb.trans hle1)
  rw [decide_eq_true (show 1 ≤ (n : Int) ∧ (n : Int) ≤ 255 by omega)]
  refine WO.step rfl (OR.not rfl (WO.done (WX.seq ?_)))
  refine WC.no rfl rfl ?_
  refine WC.skip (WX.seq (WC.seq (WC.region (WO.step rfl (OR.move rfl (WO.step rfl (OR.move rfl ?_)))))))
  refine WO.step rfl (OR.convI T3.und T22.und rfl ?_)
  rw [IntWalk.u64_in (n : Int) (by omega)]
  refine WO.step rfl (OR.rem rfl rfl (by omega) ?_)
  have hmod : (sent : Int).tmod (n : Int) = ((sent % n : Nat) : Int) := rfl
  rw [hmod]
  refine WO.step rfl (OR.convI T22.und T3.und rfl ?_)
  have := Nat.mod_lt sent (show 0 < n by omega)
  rw [i64_small _ (by omega)]
  refine WO.step rfl (OR.assign rfl (WO.step rfl (OR.assign rfl (WO.done (WX.seq (WC.ret ?_))))))
  refine WX.ret2 rfl rfl rfl ?_
  exact .mk hs rfl

/-- A draw's coefficients. -/
def coefF (n turn : Nat) (l : List UInt8) : List UInt8 := if lead (padTo n l) < 0 then (padTo n l).set turn 1 else padTo n l
theorem coefF_len (n turn : Nat) (l : List UInt8) : (coefF n turn l).length = n := by
  unfold coefF; split
  · rw [List.length_set, padTo_length]
  · exact padTo_length _ _

set_option maxRecDepth 20000 in
set_option maxHeartbeats 2000000 in
theorem fill_ok (gm gout gt : Nat) (n turn : Nat) (l : List UInt8) (H0 : Hp) (w0 : World) (hl : l.length = n) (hn : n ≤ 255) (ht : turn < n)
    (hs : HS [gm] H0 w0 H0 [(gm, .cells (l.map B).toArray 5, true), (gout, .cells #[.slice (some ⟨gm, 0, none⟩) n n] 43, false), (gt, .cells #[.int .i64 (turn : Int)] 3, false)] w0) :
    Calls Tryz.prog 206 #[ptr gout, ptr gt] w0 (Ret [gm] H0 w0 fun v H' M' => v = .tuple #[] ∧ M' = [(gm, .cells ((if lead l < 0 then l.set turn 1 else l).map B).toArray 5, true)]) := by
  have hle := Hp.le.refl H0
  refine Calls.enter (args := [ptr gout, ptr gt]) Tryz.func206 rfl Tryz.ntmps206 rfl ?_
  refine WC.seq (WC.region (WO.step rfl (OR.load T43 rfl rfl (hs.cellM (i := 1) rfl rfl) ?_)))
  have hb : Bytes (H0.put gm (.cells (l.map B).toArray 5)) (.slice (some ⟨gm, 0, none⟩) l.length l.length) l := Bytes.block (Hp.put_same ..) (by rw [List.take_of_length_le (by simp)]) (Nat.le_refl _)
  rw [hl] at hb
  refine WO.step rfl (OR.callL hs body50 rfl rfl (isZero_ok _ l _ _ (hs.toSub.put (hs.blk (i := 0) rfl)) hb (by omega)) ?_)
  clear hs; rintro _ H w hs hle1 rfl; replace hle := hle.trans hle1
  refine WO.done (WX.seq ?_)
  refine WC.condD rfl (fun hz => ?_) (fun hz => ?_)
  · refine WC.region (WO.step rfl (OR.load T43 rfl rfl (hs.cellM (i := 1) rfl rfl) (WO.step rfl (OR.load T3 rfl rfl (hs.cellM (i := 2) rfl rfl) ?_))))
    refine WO.step rfl (OR.idx turn T43.und T5 rfl rfl rfl ht ?_)
    refine WO.stepN (OR.store hs T5 rfl rfl rfl (by simp [hl]; omega) rfl ?_)
    clear hs; intro w hs
    refine WO.done ?_
    refine WX.end0 rfl ?_
    refine ⟨_, H, _, rfl, (hs.drop 1).drop 1, by simp [dropAt], rfl, ?_⟩
    rw [if_pos hz]
    have e : (setL (l.map B).toArray.toList (0 + turn) (B 1).cells.toList) = (l.set turn 1).map B := by
      rw [Nat.zero_add, List.map_set]
      show setL (l.map B) turn [B 1] = _
      rw [setL_step, setL_nil]
    exact congrArg (fun c : List Value => [(gm, Obj.cells c.toArray 5, true)]) e
  · refine WC.skip ?_
    refine WX.end0 rfl ?_
    refine ⟨_, H, _, rfl, (hs.drop 1).drop 1, by simp [dropAt], rfl, ?_⟩
    rw [if_neg hz]
    rfl

set_option maxRecDepth 20000 in
set_option maxHeartbeats 2000000 in
theorem coefs_ok (vd : Value) (l : List UInt8) (n turn : Nat) (H0 : Hp) (w0 : World) (h0 : Sub H0 w0) (hl : Bytes H0 vd l) (hn : 1 ≤ n ∧ n ≤ 255) (ht : turn < n) :
    Calls Tryz.prog 203 #[vd, .int .i64 (n : Int), .int .i64 (turn : Int)] w0 (Pure H0 w0 fun v H' => ∃ r, v = .tuple #[r, .int .i64 0] ∧ Bytes H' r (coefF n turn l)) := by
  have hs := HS.init h0
  have hle := Hp.le.refl H0
  obtain ⟨b1, c1, rfl⟩ := hl.form
  refine Calls.enter (args := [.slice b1 l.length c1, .int .i64 (n : Int), .int .i64 (turn : Int)]) Tryz.func203 rfl Tryz.ntmps203 rfl ?_
  refine WC.seq (WC.region (WO.step rfl (OR.box hs rfl ?_)))
  clear hs; intro g1 w hg1 hs
  refine WO.step rfl (OR.assign rfl (WO.step rfl (OR.assign rfl (WO.done (WX.seq (WC.seq (WC.seq ?_)))))))
  refine WC.region (WO.step rfl (OR.move rfl ?_))
  refine WO.step rfl (OR.call hs body205 rfl rfl (may_ok (n : Int) _ _ hs.toSub) ?_)
  clear hs; rintro _ H w hs hle1 rfl; replace hle := hle.trans hle1; (try replace hlb := hlb.trans hle1)
  rw [decide_eq_true (show 1 ≤ (n : Int) ∧ (n : Int) ≤ 255 by omega)]
  refine WO.step rfl (OR.not rfl (WO.step rfl (OR.move rfl ?_)))
  refine WO.guardYes rfl rfl rfl rfl (OR.load T3 rfl rfl (hs.cellM (i := 0) rfl rfl) (WO.guardYes rfl rfl rfl rfl (OR.lss rfl rfl (WO.step rfl (OR.pickF rfl rfl rfl (WO.step rfl (OR.move rfl ?_)))))))
  refine WO.guardYes rfl (decide_eq_false (by omega : ¬ (turn : Int) < 0)) rfl rfl (OR.load T3 rfl rfl (hs.cellM (i := 0) rfl rfl) (WO.guardYes rfl (decide_eq_false (by omega : ¬ (turn : Int) < 0)) rfl rfl (OR.move rfl (WO.guardYes rfl (decide_eq_false (by omega : ¬ (turn : Int) < 0)) rfl rfl (OR.geq rfl rfl (WO.step rfl (OR.pickF rfl (decide_eq_false (by omega : ¬ (turn : Int) < 0)) rfl ?_)))))))
  refine WO.done (WX.seq ?_)
  refine WC.no rfl (decide_eq_false (by omega)) ?_
  refine WC.skip (WX.seq (WC.seq (WC.region (WO.step rfl (OR.move rfl ?_)))))
  refine WO.step rfl (OR.make1 (m := n) hs T43.und T5 rfl rfl rfl (by omega) (by omega) ?_)
  clear hs; intro gm w hgm hs
  refine WO.step rfl (OR.alloc hs T43 ?_)
  clear hs; intro g2 w hg2 hs
  refine WO.stepN (OR.storeAll hs T43 rfl rfl rfl rfl rfl ?_)
  clear hs; intro w hs
  refine WO.done (WX.seq (WC.seq (WC.region (WO.step rfl (OR.makeFunc rfl rfl (WO.step rfl (OR.assign rfl ?_)))))))
  refine WO.done (WX.seq (WC.seq (WC.region (WO.step rfl (OR.load T43 rfl rfl (hs.cellM (i := 0) rfl rfl) (WO.step rfl (OR.move rfl ?_)))))))
  replace hs := hs.front (i := 1) rfl
  refine WO.step rfl (OR.copyO hs ((l.take n).map B) T43.und T5 rfl rfl (by rw [List.length_map, List.length_take, natmin (c := min n l.length) (by omega)]; omega) (Sl.src0 (hl.mono hle)) (fun b hb j u hj => Sl.src (hl.mono hle) hs b hb j u (by rw [List.map_take] at hj; exact get_take hj)) (by simp; omega) (bytes_one _) ?_)
  clear hs; intro w hs
  replace hs : HS [] H0 w0 H ([(gm, .cells ((padTo n l).map B).toArray 5, true)] ++ [(g2, .cells #[.slice (some ⟨gm, 0, none⟩) n n] 43, true), (g1, .cells #[.int .i64 (turn : Int)] 3, true)]) w := by rw [← padTo_cells]; exact hs
  refine WO.done (WX.seq (WC.seq (WC.region (WO.step rfl (OR.move rfl ?_)))))
  refine WO.step rfl (OR.callX (Mx := [_]) hs body206 rfl rfl (fill_ok gm g2 g1 n turn (padTo n l) _ _ (padTo_length _ _) hn.2 ht (hs.begin [true, false, false])) rfl rfl ?_)
  clear hs; rintro v H2 M2 w hs hle1 hnew ⟨rfl, rfl⟩
  replace hle := hle.trans hle1
  refine WO.done (WX.seq (WC.seq (WC.region (WO.step rfl (OR.load T43 rfl rfl (hs.cellM (i := 1) rfl rfl) (WO.step rfl (OR.assign rfl ?_)))))))
  refine WO.step rfl (OR.assign rfl (WO.done (WX.seq (WC.ret ?_))))
  refine WX.ret2 rfl rfl rfl ?_
  have hs2 : HS [] H0 w0 H2 ((gm, .cells ((coefF n turn l).map B).toArray 5, true) :: []) w := (hs.drop 1).drop 1
  have hp := hs2.publish hgm
  refine .mk hp ⟨_, rfl, ?_⟩
  have := Bytes.block (c := ((coefF n turn l).map B).toArray) (l := coefF n turn l) (cap := n) (Hp.put_same H2 gm (.cells ((coefF n turn l).map B).toArray 5)) (by rw [coefF_len, List.take_of_length_le (by simp [coefF_len])]) (by rw [coefF_len]; exact Nat.le_refl _)
  rw [coefF_len] at this
  exact this

end Go.Bw
namespace Go.Bw
set_option linter.unusedVariables false
set_option linter.unusedSimpArgs false
open Go.Proofs
set_option maxRecDepth 20000 in
set_option maxHeartbeats 2000000 in
theorem rnone_ok (rb g s wb : Nat) (l : Slots) (H0 : Hp) (w0 : World) (h0 : Sub H0 w0) (hb : w0.heap[rb]? = some (relObj g s wb l)) (hn : H0 rb = none) : Calls Tryz.prog 77 #[ptr rb] w0 (Pure H0 w0 fun v _ => v = .bool false) := by
  have hs := HS.startR h0 hb hn
  refine Calls.enter (args := [ptr rb]) Tryz.func77 rfl Tryz.ntmps77 rfl ?_
  refine WC.seq (WC.region (WO.step rfl (OR.assign rfl (WO.done (WX.seq (WC.seq (WC.region ?_)))))))
  refine WO.step rfl (OR.move rfl (WO.step rfl (OR.eqlNilP T34.und rfl rfl (WO.step rfl (OR.move rfl (WO.guardYes rfl rfl rfl rfl (OR.move rfl ?_)))))))
  refine WO.guardYes rfl rfl rfl rfl (OR.nilCheck rfl (WO.guardYes rfl rfl rfl rfl (OR.fieldAddr FA131_2 rfl (WO.guardYes rfl rfl rfl rfl (OR.load T123 rfl rfl (hs.cellM (i := 0) rfl rfl) (WO.guardYes rfl rfl rfl rfl (OR.eqlNilP T123.und rfl rfl ?_)))))))
  refine WO.step rfl (OR.pickF rfl rfl rfl (WO.step rfl (OR.assign rfl (WO.done (WX.seq (WC.ret ?_))))))
  refine WX.ret1 rfl rfl ?_
  exact .mk (hs.drop 0) rfl

def MF.newB (N : Nat) (Hb : Hp) (g s : Nat) (f : Value → Value) : MF := MF.of (fun v H => ∃ b, N ≤ b ∧ Hb b = none ∧ v = f (.pointer (some ⟨b, 0, none⟩)) ∧ H b = some (basisObj g s (.slice none 0 0))) fun _ _ _ hle ⟨b, h1, h2, h3, h4⟩ => ⟨b, h1, h2, h3, hle _ _ h4⟩
set_option maxRecDepth 20000 in
set_option maxHeartbeats 2000000 in
theorem rat_ok (rb wb f gen : Nat) (first cap : List Value) (x : RelD) (l : Slots) (t : Bool) (xs : List Nat) (H0 H1 : Hp) (Mr : Mem) (w0 w1 : World) (C : Ending → World → Prop) (h00 : Sub H0 w0)
    (hs : HS xs H0 w0 H1 ((rb, relObj x.g x.s wb l, t) :: (wb, winObj x.base x.width, t) :: (slotMem x.g x.s t l ++ Mr)) w1) (hx : SlotsOk H1 x l) (hok : RelOk x) (hg : gen < 18446744073709551616) (hb : Body Tryz.prog f)
    (hC : ∀ e w, C e w → ∃ i : Int, e = .returned (.int .i64 i))
    (hout : ¬ inWin x.base x.width gen → ∀ H w, Hp.le H1 H → HS xs H0 w0 H ((rb, relObj x.g x.s wb l, t) :: (wb, winObj x.base x.width, t) :: (slotMem x.g x.s t l ++ Mr)) w → C (.returned (.int .i64 23)) w)
    (hdo : inWin x.base x.width gen → ∀ H w b rv t', Hp.le H1 H → (t = true → t' = true) → HS xs H0 w0 H ((b, basisObj x.g x.s rv, t') :: (rb, relObj x.g x.s wb l, t) :: (wb, winObj x.base x.width, t) :: (slotMem x.g x.s t (l.set (gen % x.width) none) ++ Mr)) w →
      (l[gen % x.width]? = some (some (b, rv)) ∨ l[gen % x.width]? = some none) → (l[gen % x.width]? = some (some (b, rv)) → t' = t) → Rws H rv (x.rows (gen % x.width)) → Calls Tryz.prog f (first ++ [.int .i64 ((gen % x.width : Nat) : Int), ptr b] ++ cap).toArray w C) :
    Calls Tryz.prog 70 #[ptr rb, .int .u64 (gen : Int), .func (.func f) first.toArray cap.toArray] w1 C := by
  have hle := Hp.le.refl H1
  have hw16 := hok.w2
  have hw1 := hok.w1
  have hsl := hok.slot gen
  obtain ⟨h16, hx⟩ := hx
  refine Calls.enter (args := [ptr rb, .int .u64 (gen : Int), .func (.func f) first.toArray cap.toArray]) Tryz.func70 rfl Tryz.ntmps70 rfl ?_
  refine WC.seq (WC.region (WO.step rfl (OR.assign rfl (WO.done (WX.seq (WC.seq (WC.seq ?_)))))))
  refine WC.region (WO.step rfl (OR.move rfl ?_))
  refine WO.step rfl (OR.call hs body77 rfl rfl (rnone_ok rb x.g x.s wb l _ _ hs.toSub (hs.blk (i := 0) rfl) (hs.nh (i := 0) rfl)) ?_)
  clear hs; rintro _ H w hs hle1 rfl; replace hle := hle.trans hle1; (try replace hlb := hlb.trans hle1)
  refine WO.done (WX.seq ?_)
  refine WC.no rfl rfl ?_
  refine WC.skip (WX.seq (WC.seq (WC.region (WO.step rfl (OR.move rfl (WO.step rfl (OR.nilCheck rfl ?_)))))))
  refine WO.step rfl (OR.fieldAddr FA131_2 rfl (WO.step rfl (OR.load T123 rfl rfl (hs.cellM (i := 0) rfl rfl) (WO.step rfl (OR.move rfl ?_)))))
  refine WO.step rfl (OR.call hs body118 rfl rfl (wslot_ok wb x.base x.width _ _ gen hs.toSub (hs.blk (i := 1) rfl) (hs.nh (i := 1) rfl) hok.b hw16 hw1 hg) ?_)
  clear hs; rintro _ H w hs hle1 rfl; replace hle := hle.trans hle1; (try replace hlb := hlb.trans hle1)
  refine WO.step rfl (OR.move rfl (WO.step rfl (OR.extract rfl rfl (WO.step rfl (OR.extract rfl rfl (WO.step rfl (OR.assign rfl ?_)))))))
  refine WO.step rfl (OR.assign rfl (WO.done (WX.seq (WC.seq (WC.seq (WC.region (WO.step rfl ?_)))))))
  refine OR.move rfl (WO.step rfl (OR.neq rfl rfl (WO.done (WX.seq ?_))))
  by_cases hin : inWin x.base x.width gen
  · rw [if_pos hin, if_pos hin]
    refine WC.no rfl (decide_eq_false (by decide)) ?_
    have hget : ∃ y, l[gen % x.width]? = some y := ⟨_, List.getElem?_eq_getElem (by omega)⟩
    obtain ⟨y, hy⟩ := hget
    have hnth := nth_slots (.int .i64 (x.g : Int)) (.int .i64 (x.s : Int)) (ptr wb) l _ y hy
    refine WC.skip (WX.seq (WC.seq (WC.region (WO.step rfl (OR.move rfl (WO.step rfl (OR.move rfl ?_)))))))
    refine WO.step rfl (OR.nilCheck rfl (WO.step rfl (OR.fieldAddr FA131_3 rfl ?_)))
    refine WO.step rfl (OR.idxArr (gen % x.width) T129.und T126 rfl rfl rfl (by omega) ?_)
    refine WO.step rfl (OR.load T126 rfl rfl (hs.cellM (i := 0) rfl (by rw [Nat.zero_add]; exact hnth)) ?_)
    have hslot := hx _ _ hy
    cases y with
    | none =>
      refine WO.step rfl (OR.assign rfl (WO.done (WX.seq (WC.seq (WC.seq (WC.region (WO.step rfl ?_)))))))
      refine OR.move rfl (WO.step rfl (OR.eqlNilP T126.und rfl rfl (WO.done (WX.seq ?_))))
      refine WC.yes rfl rfl ?_
      have hlb := Hp.le.refl H
      refine WC.drawL 12 11 mixed hs (by kernel_rfl) ?_
      refine ⟨MF.eq _, by intro Mx H w hle hs; refine forVals_nil (ORg.plain (OR.move rfl ?_)); exact ⟨_, [], Hp.le.refl _, hs, rfl, rfl⟩, ?_⟩
      refine ⟨MF.eq _, by intro Mx H w hle hs; refine forVals_eq rfl rfl rfl ?_; refine forVals_nil (ORg.plain (OR.nilCheck rfl ?_)); exact ⟨_, [], Hp.le.refl _, hs, rfl, rfl⟩, ?_⟩
      refine ⟨MF.eq _, by intro Mx H w hle hs; refine forVals_eq rfl rfl rfl ?_; refine forVals_nil (ORg.plain (OR.fieldAddr FA131_0 rfl ?_)); exact ⟨_, [], Hp.le.refl _, hs, rfl, rfl⟩, ?_⟩
      refine ⟨MF.eq _, by intro Mx H w hle hs; refine forVals_eq rfl rfl rfl ?_; refine forVals_nil (ORg.plain (OR.load T3 rfl rfl (hs.right.cellM (i := 0) rfl rfl) ?_)); exact ⟨_, [], Hp.le.refl _, hs, rfl, rfl⟩, ?_⟩
      refine ⟨MF.eq _, by intro Mx H w hle hs; refine forVals_nil (ORg.plain (OR.move rfl ?_)); exact ⟨_, [], Hp.le.refl _, hs, rfl, rfl⟩, ?_⟩
      refine ⟨MF.eq _, by intro Mx H w hle hs; refine forVals_eq rfl rfl rfl ?_; refine forVals_nil (ORg.plain (OR.nilCheck rfl ?_)); exact ⟨_, [], Hp.le.refl _, hs, rfl, rfl⟩, ?_⟩
      refine ⟨MF.eq _, by intro Mx H w hle hs; refine forVals_eq rfl rfl rfl ?_; refine forVals_nil (ORg.plain (OR.fieldAddr FA131_1 rfl ?_)); exact ⟨_, [], Hp.le.refl _, hs, rfl, rfl⟩, ?_⟩
      refine ⟨MF.eq _, by intro Mx H w hle hs; refine forVals_eq rfl rfl rfl ?_; refine forVals_nil (ORg.plain (OR.load T3 rfl rfl (hs.right.cellM (i := 0) rfl rfl) ?_)); exact ⟨_, [], Hp.le.refl _, hs, rfl, rfl⟩, ?_⟩
      refine ⟨MF.newB w0.heap.size H1 x.g x.s (fun v => .tuple #[v, .int .i64 0]), ?_, ?_⟩
      · intro Mx H w hle2 hs; (try replace hle := hle.trans hle2); (try replace hlb := hlb.trans hle2); refine forVals_eq rfl rfl rfl ?_; refine forVals_eq rfl rfl rfl ?_
        have hsz := hs.size
        have hdom : ∀ q, w.heap.size ≤ q → H1 q = none := fun q hq => by
          cases hh : H1 q with
          | none => rfl
          | some u => have := lt_of_heap (hs.sub q u (hle _ _ hh)); omega
        refine forVals_nil (ORg.plain (OR.callX (Mx := []) hs body65 rfl rfl (new_ok (x.g : Int) (x.s : Int) _ _ hs.toSub) rfl rfl ?_))
        clear hs; rintro v H3 M3 w hs hle3 hnew ⟨rfl, hc⟩
        rw [if_pos (by have h1 := hok.g1; have h2 := hok.g2; have h3 := hok.s1; have h4 := hok.s2; omega)] at hc
        obtain ⟨b, hb1, rfl, rfl⟩ := hc
        obtain ⟨H4, hle4, hp, hs⟩ := HS.pub1 hs (Nat.le_trans hsz hb1)
        exact ⟨_, [], hle4, hs, ⟨b, Nat.le_trans hsz hb1, hdom b hb1, rfl, hp⟩, rfl⟩
      refine ⟨MF.newB w0.heap.size H1 x.g x.s (fun v => .tuple #[v, .int .i64 0]), ?_, ?_⟩
      · intro Mx H w hle2 hs; (try replace hle := hle.trans hle2); (try replace hlb := hlb.trans hle2); refine forVals_of rfl rfl rfl ?_; intro v8 h8
        refine forVals_nil (ORg.plain (OR.move rfl ?_))
        exact ⟨_, [], Hp.le.refl _, hs, h8, rfl⟩
      refine ⟨MF.newB w0.heap.size H1 x.g x.s (fun v => v), ?_, ?_⟩
      · intro Mx H w hle2 hs; (try replace hle := hle.trans hle2); (try replace hlb := hlb.trans hle2); refine forVals_of rfl rfl rfl ?_; intro v9 h9
        obtain ⟨b, hb1, hb2, rfl, hb3⟩ := h9
        refine forVals_nil (ORg.plain (OR.extract rfl rfl ?_))
        exact ⟨_, [], Hp.le.refl _, hs, ⟨b, hb1, hb2, rfl, hb3⟩, rfl⟩
      refine ⟨MF.eq (.int .i64 0), ?_, ?_⟩
      · intro Mx H w hle2 hs; (try replace hle := hle.trans hle2); (try replace hlb := hlb.trans hle2); refine forVals_of rfl rfl rfl ?_; intro v9 h9
        obtain ⟨b, hb1, hb2, rfl, hb3⟩ := h9
        refine forVals_nil (ORg.plain (OR.extract rfl rfl ?_))
        exact ⟨_, [], Hp.le.refl _, hs, rfl, rfl⟩
      intro H w hle2; (try replace hle := hle.trans hle2); (try replace hlb := hlb.trans hle2)
      refine forAllVals_eq rfl ?_
      refine forAllVals_eq rfl ?_
      refine forAllVals_eq rfl ?_
      refine forAllVals_eq rfl ?_
      refine forAllVals_eq rfl ?_
      refine forAllVals_eq rfl ?_
      refine forAllVals_eq rfl ?_
      refine forAllVals_eq rfl ?_
      refine forAllVals_of rfl ?_; intro v8 h8
      refine forAllVals_of rfl ?_; intro v9 h9
      refine forAllVals_of rfl ?_; intro v10 h10
      refine forAllVals_eq rfl ?_
      refine forAllVals_nil ?_; (try clear hs); intro hs
      obtain ⟨b, hb1, hb2, rfl, hb3⟩ := h10
      have hs2 := HS.unpub h00 hs hb3 hb1
      rw [show slotMem x.g x.s t l = slotMem x.g x.s t (l.set (gen % x.width) none) from by
        congr 1
        have hi : gen % x.width < l.length := (List.getElem?_eq_some_iff.1 hy).1
        have hx2 : l[gen % x.width] = none := by rw [List.getElem?_eq_getElem hi] at hy; exact Option.some.inj hy
        conv => lhs; rw [← List.set_getElem_self hi, hx2]] at hs2
      have hrows : x.rows (gen % x.width) = [] := hslot
      refine WO.step rfl (OR.assign rfl (WO.done (WX.seq (WC.seq (WC.region (WO.step rfl (OR.move rfl ?_)))))))
      refine WO.step rfl (OR.move rfl (WO.step rfl (OR.move rfl ?_)))
      refine WO.step rfl (OR.callW hb rfl rfl (hdo hin _ _ b (.slice none 0 0) true (Hp.le_del hle hb2) (fun _ => rfl) hs2 (.inr hy) (fun h => by rw [hy] at h; cases h) (by rw [hrows]; exact ⟨[], Sl.nil _ _, rfl, fun i h => by simp at h⟩)) ?_)
      intro e w hCe
      obtain ⟨i, rfl⟩ := hC e w hCe
      refine ⟨_, rfl, ?_⟩
      refine WO.step rfl (OR.assign rfl (WO.done (WX.seq (WC.ret ?_))))
      refine WX.ret1 rfl rfl ?_
      exact hCe
    | some p =>
      obtain ⟨b, rv⟩ := p
      refine WO.step rfl (OR.assign rfl (WO.done (WX.seq (WC.seq (WC.seq (WC.region (WO.step rfl ?_)))))))
      refine OR.move rfl (WO.step rfl (OR.eqlNilP T126.und rfl rfl (WO.done (WX.seq ?_))))
      refine WC.no rfl rfl ?_
      have hs2 := HS.slotOut (A := [_, _]) hs hy
      refine WC.skip (WX.seq (WC.seq (WC.region (WO.step rfl (OR.move rfl (WO.step rfl (OR.move rfl ?_)))))))
      refine WO.step rfl (OR.move rfl ?_)
      refine WO.step rfl (OR.callW hb rfl rfl (hdo hin _ _ b rv t hle id hs2 (.inl hy) (fun _ => rfl) (Rws.mono hslot hle)) ?_)
      intro e w hCe
      obtain ⟨i, rfl⟩ := hC e w hCe
      refine ⟨_, rfl, ?_⟩
      refine WO.step rfl (OR.assign rfl (WO.done (WX.seq (WC.ret ?_))))
      refine WX.ret1 rfl rfl ?_
      exact hCe
  · rw [if_neg hin, if_neg hin]
    refine WC.yes rfl (decide_eq_true (by decide)) ?_
    refine WC.seq (WC.region (WO.step rfl (OR.assign rfl (WO.done (WX.seq (WC.ret (WX.seq_ret ?_)))))))
    refine WX.ret1 rfl rfl ?_
    exact hout hin _ _ hle hs
end Go.Bw
namespace Go.Bw
set_option linter.unusedVariables false
set_option linter.unusedSimpArgs false
open Go.Proofs
theorem HS.last1 {xs : List Nat} {H0 H : Hp} {w0 w : World} {A : Mem} {q : Nat × Obj × Bool} (hs : HS xs H0 w0 H (A ++ [q]) w) : HS xs H0 w0 H [q] w := hs.sublist (List.sublist_append_right _ _)
theorem HS.pick2 {xs : List Nat} {H0 H : Hp} {w0 w : World} {A : Mem} {p q : Nat × Obj × Bool} (hs : HS xs H0 w0 H (p :: (A ++ [q])) w) : HS xs H0 w0 H [q, p] w :=
  (hs.sublist ((List.sublist_append_right A [q]).cons_cons p)).front (i := 1) rfl
theorem Red.forB {g s : Nat} {A : List RowD} (h : Red g s A) (hg : g ≤ 255) : (∀ y ∈ A, RowGS g s y) ∧ (∀ y ∈ A, RowGS g s y ∧ 0 ≤ lead y.1) ∧ A.length ≤ 255 :=
  ⟨h.gs, fun y hy => ⟨h.gs y hy, h.ld y hy⟩, Nat.le_trans h.len hg⟩

def RelD.solE (x : RelD) (gen : Nat) : Int := if inWin x.base x.width gen then (if (x.rows (gen % x.width)).length < x.g then 24 else 0) else 23
def RelD.solF (x : RelD) (gen : Nat) : List (List UInt8) := if inWin x.base x.width gen then (if (x.rows (gen % x.width)).length < x.g then [] else (x.rows (gen % x.width)).map (·.2)) else []
set_option maxRecDepth 20000 in
set_option maxHeartbeats 2000000 in
theorem rsolve1_ok (gn b g s : Nat) (v0 u rv : Value) (rows : List RowD) (t : Bool) (xs : List Nat) (H0 H1 : Hp) (w0 w1 : World) (hs : HS xs H0 w0 H1 [(gn, .cells #[u] 40, true), (b, basisObj g s rv, t)] w1) (hg : 0 < g) (hg2 : g ≤ 255) (hs2 : s ≤ 65535) (hr : Rws H1 rv rows) (hred : Red g s rows) :
    Calls Tryz.prog 151 #[v0, ptr b, ptr gn] w1 (fun e w' => ∃ H' r, e = .returned (.int .i64 (if rows.length < g then 24 else 0)) ∧ HS xs H0 w0 H' [(gn, .cells #[r] 40, true)] w' ∧ BytesL H' r (if rows.length < g then [] else rows.map (·.2))) := by
  have hle := Hp.le.refl H1
  obtain ⟨q1, q2, q3⟩ := Red.forB hred hg2
  refine Calls.enter (args := [v0, ptr b, ptr gn]) Tryz.func151 rfl Tryz.ntmps151 rfl ?_
  refine WC.seq (WC.region (WO.step rfl (OR.assign rfl (WO.done (WX.seq (WC.seq (WC.region ?_)))))))
  refine WO.step rfl (OR.move rfl ?_)
  refine WO.step rfl (OR.call hs body152 rfl rfl (solve_ok rows rv b g s _ _ hs.toSub (hs.blk (i := 1) rfl) (hs.nh (i := 1) rfl) hr q1 hg hg2 hs2 q3) ?_)
  clear hs; rintro _ H w hs hle1 ⟨r, rfl, hr2⟩; replace hle := hle.trans hle1; (try replace hlb := hlb.trans hle1)
  obtain ⟨b1, c1, rfl⟩ := hr2.form
  refine WO.step rfl (OR.move rfl (WO.step rfl (OR.extract rfl rfl (WO.step rfl (OR.extract rfl rfl (WO.stepN (OR.storeAll hs T40 rfl rfl rfl rfl rfl ?_)))))))
  clear hs; intro w hs
  refine WO.step rfl (OR.assign rfl (WO.done (WX.seq (WC.seq (WC.region (WO.step rfl (OR.move rfl ?_)))))))
  refine WO.step rfl (OR.assign rfl (WO.done (WX.seq (WC.ret ?_))))
  refine WX.ret1 rfl rfl ?_
  exact ⟨H, _, rfl, hs.drop 1, hr2⟩
set_option maxRecDepth 20000 in
set_option maxHeartbeats 2000000 in
theorem rsolve_ok (rb wb gen : Nat) (x : RelD) (l : Slots) (H0 : Hp) (w0 : World) (hs : HS [] H0 w0 H0 (relMem false x rb wb l) w0) (hx : SlotsOk H0 x l) (hok : RelOk x) (hg : gen < 18446744073709551616) :
    Calls Tryz.prog 116 #[ptr rb, .int .u64 (gen : Int)] w0 (Pure H0 w0 fun v H' => ∃ r, v = .tuple #[r, .int .i64 (x.solE gen)] ∧ BytesL H' r (x.solF gen)) := by
  have hle := Hp.le.refl H0
  have h00 := hs.toSub
  refine Calls.enter (args := [ptr rb, .int .u64 (gen : Int)]) Tryz.func116 rfl Tryz.ntmps116 rfl ?_
  refine WC.seq (WC.region (WO.step rfl (OR.alloc hs T40 ?_)))
  clear hs; intro g1 w hg1 hs
  refine WO.step rfl (OR.assign rfl (WO.done (WX.seq (WC.seq (WC.region (WO.step rfl (OR.move rfl ?_)))))))
  refine WO.step rfl (OR.move rfl (WO.step rfl (OR.makeFunc rfl rfl ?_)))
  have hs9 := HS.mtail (A := [_]) hs
  refine WO.step rfl (OR.callW body70 rfl rfl (rat_ok rb wb 151 gen [] [ptr g1] x l false [] H0 H0 [_] w0 _ (fun e w' => ∃ H' r, e = .returned (.int .i64 (x.solE gen)) ∧ HS [] H0 w0 H' [(g1, .cells #[r] 40, true)] w' ∧ BytesL H' r (x.solF gen)) h00 hs9 hx hok hg body151 (fun e w ⟨_, _, h, _⟩ => ⟨_, h⟩) (fun hno H w hl hs => ⟨H, .slice none 0 0, by rw [RelD.solE, if_neg hno], HS.last1 (A := _ :: _ :: _) hs, by rw [RelD.solF, if_neg hno]; exact ⟨[], Sl.nil _ _, rfl, fun i h => by simp at h⟩⟩) (fun hin H w b rv t' hl _ hs _ _ hr => (rsolve1_ok g1 b x.g x.s _ _ rv _ t' [] H0 H w0 w (HS.pick2 (A := _ :: _ :: _) hs) hok.g1 hok.g2 hok.s2 hr (hok.red _)).mono fun e w' ⟨H', r, h1, h2, h3⟩ => ⟨H', r, by rw [RelD.solE, if_pos hin]; exact h1, h2, by rw [RelD.solF, if_pos hin]; exact h3⟩)) ?_)
  clear hs hs9
  rintro e w ⟨H, r, rfl, hs, hr⟩
  refine ⟨_, rfl, ?_⟩
  obtain ⟨b1, c1, rfl⟩ := hr.form
  refine WO.step rfl (OR.assign rfl (WO.done (WX.seq (WC.seq (WC.region (WO.step rfl (OR.load T40 rfl rfl (hs.cellM (i := 0) rfl rfl) ?_)))))))
  refine WO.step rfl (OR.move rfl (WO.stepN (OR.storeAll hs T40 rfl rfl rfl rfl rfl ?_)))
  clear hs; intro w hs
  refine WO.step rfl (OR.assign rfl (WO.done (WX.seq (WC.ret ?_))))
  refine WX.retCTS T40 rfl rfl rfl rfl (hs.cellM (i := 0) rfl rfl) ?_
  exact .mk (hs.drop 0) ⟨_, rfl, hr⟩
end Go.Bw
namespace Go.Bw
set_option linter.unusedVariables false
set_option linter.unusedSimpArgs false
open Go.Proofs
def RelD.take (x : RelD) (gen : Nat) (r : RowD) : RelD := if inWin x.base x.width gen then x.put gen (insR x.g x.s (x.rows (gen % x.width)) r).2 else x
def RelD.takeI (x : RelD) (gen : Nat) (r : RowD) : Bool := decide (inWin x.base x.width gen) && (insR x.g x.s (x.rows (gen % x.width)) r).1
def RelD.takeE (x : RelD) (gen : Nat) (r : RowD) : Int := if inWin x.base x.width gen then (if r.1.length = x.g ∧ r.2.length = x.s then 0 else 21) else 23
theorem RelOk.take {x : RelD} (h : RelOk x) (gen : Nat) (r : RowD) : RelOk (x.take gen r) := by
  unfold RelD.take
  split
  · exact h.put gen _ (insAny_red (h.red _) r)
  · exact h
theorem slots_put {H : Hp} {x : RelD} {l : Slots} {gen : Nat} {rows : List RowD} {y : Option (Nat × Value)} (h : SlotsOk H x l) (hy : slotOk H rows y) : SlotsOk H (x.put gen rows) (l.set (gen % x.width) y) := by
  refine ⟨by rw [List.length_set]; exact h.1, fun i z hz => ?_⟩
  show slotOk H (if i = gen % x.width then rows else x.rows i) z
  by_cases e : i = gen % x.width
  · rw [if_pos e]
    subst e
    rw [List.getElem?_set] at hz
    split at hz
    · split at hz
      · cases hz; exact hy
      · cases hz
    · rename_i h9; exact absurd rfl h9
  · rw [if_neg e]
    rw [List.getElem?_set_ne (Ne.symm e)] at hz
    exact h.2 i z hz
theorem slots_same {l : Slots} {i : Nat} {y z : Option (Nat × Value)} (h : l[i]? = some y) (e : slotV y = slotV z) : (l.set i z).map slotV = l.map slotV := by
  have hi : i < l.length := (List.getElem?_eq_some_iff.1 h).1
  have hx : l[i] = y := by rw [List.getElem?_eq_getElem hi] at h; exact Option.some.inj h
  rw [List.map_set, ← e, ← hx]
  have hi2 : i < (l.map slotV).length := by simpa using hi
  rw [show slotV l[i] = (l.map slotV)[i]'hi2 by simp, List.set_getElem_self]
/-- What Take leaves behind: the relay, and whether the row was taken. -/
def takeC (rb wb gI : Nat) (x : RelD) (gen : Nat) (r : RowD) (xs : List Nat) (H0 : Hp) (w0 : World) (e : Ending) (w' : World) : Prop :=
  ∃ H' l', e = .returned (.int .i64 (x.takeE gen r)) ∧ SlotsOk H' (x.take gen r) l' ∧ HS xs H0 w0 H' ((rb, relObj x.g x.s wb l', true) :: (wb, winObj x.base x.width, true) :: (slotMem x.g x.s true l' ++ [(gI, .cells #[.bool (x.takeI gen r)] 4, true)])) w'
set_option maxRecDepth 20000 in
set_option maxHeartbeats 2000000 in
theorem rtake1_ok (rb wb gI gR gW b gen : Nat) (rv rc rp : Value) (x : RelD) (l : Slots) (r : RowD) (xs : List Nat) (H0 H1 : Hp) (w0 w1 : World)
    (hs : HS xs H0 w0 H1 ((b, basisObj x.g x.s rv, true) :: (rb, relObj x.g x.s wb l, true) :: (wb, winObj x.base x.width, true) :: (slotMem x.g x.s true (l.set (gen % x.width) none) ++ [(gI, .cells #[.bool false] 4, true)])) w1)
    (hin : inWin x.base x.width gen) (hx : SlotsOk H1 x l) (hok : RelOk x) (hl : l[gen % x.width]? = some (some (b, rv)) ∨ l[gen % x.width]? = some none) (hrv : Rws H1 rv (x.rows (gen % x.width)))
    (hgW : hcell H1 ⟨gW, 0, none⟩ = some rc ∧ hcell H1 ⟨gW, 1, none⟩ = some rp) (hrc : Bytes H1 rc r.1) (hrp : Bytes H1 rp r.2) (hgR : hcell H1 ⟨gR, 0, none⟩ = some (ptr rb)) :
    Calls Tryz.prog 71 #[.int .i64 ((gen % x.width : Nat) : Int), ptr b, ptr gW, ptr gI, ptr gR] w1 (takeC rb wb gI x gen r xs H0 w0) := by
  have hle := Hp.le.refl H1
  have hsl := hok.slot gen
  obtain ⟨q1, q2, q3⟩ := Red.forB (hok.red (gen % x.width)) hok.g2
  have hl16 := hx.1
  have hslot : ∃ y, l[gen % x.width]? = some y := ⟨_, List.getElem?_eq_getElem (by omega)⟩
  have hs0 := HS.mtail (A := _ :: _ :: _ :: slotMem x.g x.s true (l.set (gen % x.width) none)) hs
  clear hs
  have hs := hs0
  clear hs0
  refine Calls.enter (args := [.int .i64 ((gen % x.width : Nat) : Int), ptr b, ptr gW, ptr gI, ptr gR]) Tryz.func71 rfl Tryz.ntmps71 rfl ?_
  refine WC.seq (WC.region (WO.step rfl (OR.assign rfl (WO.done (WX.seq (WC.seq (WC.seq ?_)))))))
  refine WC.region (WO.step rfl (OR.move rfl ?_))
  refine WO.step rfl (OR.loadN (cs := [rc, rp]) T45 rfl rfl rfl (fun j u hj => hs.cell (by rw [add_off, Nat.zero_add]; match j, hj with | 0, hj => (cases hj; exact hgW.1) | 1, hj => (cases hj; exact hgW.2))) ?_)
  replace hs := hs.front (i := 1) rfl
  refine WO.step rfl (OR.callX (Mx := [(b, _, true)]) hs body72 rfl rfl (insert_ok (x.rows (gen % x.width)) r rv rc rp b x.g x.s _ _ hs.toSub (hs.blk (i := 0) rfl) (hs.nh (i := 0) rfl) hrv hrc hrp q2 hok.g1 hok.g2 hok.s2 q3) rfl rfl ?_)
  clear hs; rintro _ H M' w hs hle1 hnew ⟨rv', rfl, hrv', rfl⟩; replace hle := hle.trans hle1; (try replace hlb := hlb.trans hle1)
  obtain ⟨y, hy⟩ := hslot
  have hxt : x.take gen r = x.put gen (insR x.g x.s (x.rows (gen % x.width)) r).2 := by rw [RelD.take, if_pos hin]
  have hE : x.takeE gen r = if r.1.length = x.g ∧ r.2.length = x.s then 0 else 21 := by rw [RelD.takeE, if_pos hin]
  have hI : x.takeI gen r = (insR x.g x.s (x.rows (gen % x.width)) r).1 := by rw [RelD.takeI, decide_eq_true hin, Bool.true_and]
  have hgR2 := hcell.mono hle hgR
  replace hx := hx.mono hle
  refine WO.step rfl (OR.move rfl (WO.step rfl (OR.extract rfl rfl (WO.step rfl (OR.extract rfl rfl ?_)))))
  replace hs := hs.front (i := 1) rfl
  refine WO.stepN (OR.storeAll hs T4 rfl rfl rfl rfl rfl ?_)
  clear hs; intro w hs
  refine WO.step rfl (OR.assign rfl (WO.done (WX.seq (WC.seq (WC.region (WO.step rfl (OR.load T4 rfl rfl (hs.cellM (i := 0) rfl rfl) ?_)))))))
  refine WO.done (WX.seq ?_)
  refine WC.cond rfl (fun hins => ?_) (fun hins => ?_)
  · refine WC.region ?_
    refine WO.step rfl (OR.load T34 rfl rfl (hs.cell hgR2) ?_)
    refine WO.step rfl (OR.move rfl (WO.step rfl (OR.move rfl (WO.step rfl (OR.nilCheck rfl (WO.step rfl (OR.fieldAddr FA131_3 rfl ?_)))))))
    refine WO.step rfl (OR.idxArr (gen % x.width) T129.und T126 rfl rfl rfl (by omega) ?_)
    replace hs := hs.front (i := 2) rfl
    refine WO.stepN (OR.store hs T126 rfl rfl rfl (by simp; omega) rfl ?_)
    clear hs; intro w hs
    refine WO.done (WX.seq (WC.seq (WC.region (WO.step rfl (OR.move rfl (WO.step rfl (OR.assign rfl ?_)))))))
    refine WO.done (WX.seq (WC.ret ?_))
    refine WX.ret1 rfl rfl ?_
    have hset := setL_slots (.int .i64 (x.g : Int)) (.int .i64 (x.s : Int)) (ptr wb) l (gen % x.width) (some (b, rv')) (by omega)
    have hobj : Obj.cells (setL (Value.int .i64 (x.g : Int) :: .int .i64 (x.s : Int) :: ptr wb :: l.map slotV).toArray.toList (0 + 3 + gen % x.width) (ptr b).cells.toList).toArray 131 = relObj x.g x.s wb (l.set (gen % x.width) (some (b, rv'))) := by
      rw [relObj, ← hset, Nat.zero_add]
      rfl
    rw [hobj] at hs
    refine ⟨H, l.set (gen % x.width) (some (b, rv')), by rw [hE], by rw [hxt]; exact slots_put hx hrv', ?_⟩
    rw [hI]
    have hs3 := HS.mtail (A := [_]) (hs.front (i := 1) rfl)
    have hs4 := hs3.front (i := 1) rfl
    exact HS.slotIn (A := [_, _]) hs4 hy
  · refine WC.skip (WX.seq (WC.seq (WC.region (WO.step rfl (OR.move rfl (WO.step rfl (OR.assign rfl ?_)))))))
    refine WO.done (WX.seq (WC.ret ?_))
    refine WX.ret1 rfl rfl ?_
    have hfalse := insAny_false hins
    have hs3 := HS.mtail (A := [_]) hs
    rcases hl with hl | hl
    · have hsame := slots_same (z := some (b, rv')) hl rfl
      refine ⟨H, l.set (gen % x.width) (some (b, rv')), by rw [hE], by rw [hxt]; exact slots_put hx hrv', ?_⟩
      rw [hI]
      have hobj : relObj x.g x.s wb (l.set (gen % x.width) (some (b, rv'))) = relObj x.g x.s wb l := by rw [relObj, hsame]; rfl
      rw [hobj]
      exact HS.slotIn (A := [_, _]) hs3 hl
    · have hrows : x.rows (gen % x.width) = [] := hx.2 _ _ hl
      have hset : l.set (gen % x.width) none = l := by
        have hi : gen % x.width < l.length := (List.getElem?_eq_some_iff.1 hl).1
        have hx2 : l[gen % x.width] = none := by rw [List.getElem?_eq_getElem hi] at hl; exact Option.some.inj hl
        conv => rhs; rw [← List.set_getElem_self hi, hx2]
      have hso := slots_put (gen := gen) (rows := (insR x.g x.s (x.rows (gen % x.width)) r).2) (y := none) hx (by show _ = _; rw [hfalse, hrows])
      rw [hset] at hso hs3
      refine ⟨H, l, by rw [hE], by rw [hxt]; exact hso, ?_⟩
      rw [hI]
      exact hs3.drop 0
set_option maxRecDepth 20000 in
set_option maxHeartbeats 2000000 in
theorem rtake_ok' (rb wb gen : Nat) (rc rp : Value) (x : RelD) (l : Slots) (r : RowD) (H0 : Hp) (w0 : World) (hs : HS (Mem.keys (relMem true x rb wb l)) H0 w0 H0 (relMem true x rb wb l) w0) (hx : SlotsOk H0 x l) (hok : RelOk x) (hg : gen < 18446744073709551616) (hrc : Bytes H0 rc r.1) (hrp : Bytes H0 rp r.2) :
    Calls Tryz.prog 15 #[ptr rb, .int .u64 (gen : Int), .agg #[rc, rp]] w0 (Ret (Mem.keys (relMem true x rb wb l)) H0 w0 fun v H' M' => v = .tuple #[.bool (x.takeI gen r), .int .i64 (x.takeE gen r)] ∧ ∃ l', M' = relMem true (x.take gen r) rb wb l' ∧ SlotsOk H' (x.take gen r) l') := by
  have hle := Hp.le.refl H0
  have h00 := hs.toSub
  obtain ⟨xs, hxs⟩ : ∃ xs, xs = Mem.keys (relMem true x rb wb l) := ⟨_, rfl⟩
  rw [← hxs] at hs ⊢
  clear hxs
  obtain ⟨b1, c1, rfl⟩ := hrc.form
  obtain ⟨b2, c2, rfl⟩ := hrp.form
  refine Calls.enter (args := [ptr rb, .int .u64 (gen : Int), .agg #[.slice b1 r.1.length c1, .slice b2 r.2.length c2]]) Tryz.func15 rfl Tryz.ntmps15 rfl ?_
  refine WC.seq (WC.region (WO.step rfl (OR.box hs rfl ?_)))
  clear hs; intro g1 w hg1 hs
  refine WO.step rfl (OR.box hs rfl ?_)
  clear hs; intro g2 w hg2 hs
  refine WO.step rfl (OR.alloc hs T4 ?_)
  clear hs; intro g3 w hg3 hs
  refine WO.step rfl (OR.assign rfl (WO.done (WX.seq (WC.seq (WC.region (WO.step rfl (OR.load T34 rfl rfl (hs.cellM (i := 2) rfl rfl) ?_)))))))
  refine WO.step rfl (OR.move rfl (WO.step rfl (OR.makeFunc rfl rfl ?_)))
  replace hs := hs.front (i := 2) rfl
  obtain ⟨H, hle1, hp_g1, hs9⟩ := hs.pub1 hg1; clear hs; have hs := hs9; clear hs9; replace hle := hle.trans hle1; (try replace hlb := hlb.trans hle1)
  have hM : hcell H ⟨g1, 0, none⟩ = some (ptr rb) := hcell_of hp_g1 rfl
  replace hs := hs.front (i := 1) rfl
  obtain ⟨H, hle1, hp_g2, hs9⟩ := hs.pub1 hg2; clear hs; have hs := hs9; clear hs9; replace hle := hle.trans hle1; (try replace hlb := hlb.trans hle1)
  replace hM := hcell.mono hle1 hM
  have hW1 : hcell H ⟨g2, 0, none⟩ = some (.slice b1 r.1.length c1) := hcell_of hp_g2 rfl
  have hW2 : hcell H ⟨g2, 1, none⟩ = some (.slice b2 r.2.length c2) := hcell_of hp_g2 rfl
  have hs9 : HS xs H0 w0 H ((rb, relObj x.g x.s wb l, true) :: (wb, winObj x.base x.width, true) :: (slotMem x.g x.s true l ++ [(g3, .cells #[.bool false] 4, true)])) w := HS.mtail (A := [_]) hs
  have hdo : inWin x.base x.width gen → ∀ H2 w b rv t', Hp.le H H2 → (true = true → t' = true) → HS xs H0 w0 H2 ((b, basisObj x.g x.s rv, t') :: (rb, relObj x.g x.s wb l, true) :: (wb, winObj x.base x.width, true) :: (slotMem x.g x.s true (l.set (gen % x.width) none) ++ [(g3, .cells #[.bool false] 4, true)])) w →
      (l[gen % x.width]? = some (some (b, rv)) ∨ l[gen % x.width]? = some none) → (l[gen % x.width]? = some (some (b, rv)) → t' = true) → Rws H2 rv (x.rows (gen % x.width)) → Calls Tryz.prog 71 ([] ++ [Value.int .i64 ((gen % x.width : Nat) : Int), ptr b] ++ [ptr g2, ptr g3, ptr g1]).toArray w (takeC rb wb g3 x gen r xs H0 w0) := by
    intro hin H2 w b rv t' hl2 ht hs hl _ hr
    rw [ht rfl] at hs
    exact rtake1_ok rb wb g3 g1 g2 b gen rv (.slice b1 r.1.length c1) (.slice b2 r.2.length c2) x l r xs H0 H2 w0 w hs hin (hx.mono (hle.trans hl2)) hok hl hr ⟨hcell.mono hl2 hW1, hcell.mono hl2 hW2⟩ (hrc.mono (hle.trans hl2)) (hrp.mono (hle.trans hl2)) (hcell.mono hl2 hM)
  have hout : ¬ inWin x.base x.width gen → ∀ H2 w, Hp.le H H2 → HS xs H0 w0 H2 ((rb, relObj x.g x.s wb l, true) :: (wb, winObj x.base x.width, true) :: (slotMem x.g x.s true l ++ [(g3, .cells #[.bool false] 4, true)])) w → takeC rb wb g3 x gen r xs H0 w0 (.returned (.int .i64 23)) w := by
    intro hno H2 w hl2 hs
    refine ⟨H2, l, by rw [RelD.takeE, if_neg hno], by rw [RelD.take, if_neg hno]; exact hx.mono (hle.trans hl2), ?_⟩
    rw [RelD.takeI, decide_eq_false hno, Bool.false_and]
    exact hs
  refine WO.step rfl (OR.callW body70 rfl rfl (rat_ok rb wb 71 gen [] [ptr g2, ptr g3, ptr g1] x l true _ H0 H [_] w0 _ (takeC rb wb g3 x gen r xs H0 w0) h00 hs9 (hx.mono hle) hok hg body71 (fun e w ⟨_, _, h, _⟩ => ⟨_, h⟩) hout hdo) ?_)
  clear hs hs9
  rintro e w ⟨H, l', rfl, hso, hs⟩
  refine ⟨_, rfl, ?_⟩
  replace hs := HS.mtail (A := _ :: _ :: slotMem x.g x.s true l') (B := [_]) hs
  refine WO.step rfl (OR.assign rfl (WO.done (WX.seq (WC.seq (WC.region (WO.step rfl (OR.load T4 rfl rfl (hs.cellM (i := 0) rfl rfl) ?_)))))))
  refine WO.step rfl (OR.move rfl (WO.stepN (OR.storeAll hs T4 rfl rfl rfl rfl rfl ?_)))
  clear hs; intro w hs
  refine WO.step rfl (OR.assign rfl (WO.done (WX.seq (WC.ret ?_))))
  refine WX.retCTS T4 rfl rfl rfl rfl (hs.cellM (i := 0) rfl rfl) ?_
  have hgs : (x.take gen r).g = x.g ∧ (x.take gen r).s = x.s ∧ (x.take gen r).base = x.base ∧ (x.take gen r).width = x.width := by
    unfold RelD.take
    split <;> exact ⟨rfl, rfl, rfl, rfl⟩
  obtain ⟨e1, e2, e3, e4⟩ := hgs
  refine ⟨_, H, relMem true (x.take gen r) rb wb l', rfl, ?_, List.all_eq_true.1 (relMem_flags _ _ _ _), rfl, l', rfl, hso⟩
  unfold relMem
  rw [e1, e2, e3, e4]
  exact hs.drop 0
end Go.Bw
namespace Go.Bw
set_option linter.unusedVariables false
set_option linter.unusedSimpArgs false
open Go.Proofs
def newR (g s width : Nat) : RelD := ⟨g, s, 0, width, fun _ => []⟩
theorem newR_ok {g s width : Nat} (h : 1 ≤ g ∧ g ≤ 255 ∧ 1 ≤ s ∧ s ≤ 65535) (hw : 1 ≤ width ∧ width ≤ 16) : RelOk (newR g s width) :=
  ⟨h.1, h.2.1, h.2.2.1, h.2.2.2, hw.1, hw.2, Nat.zero_le _, fun _ => Red.nil _ _⟩
set_option maxRecDepth 20000 in
set_option maxHeartbeats 2000000 in
theorem rnew_ok (g s width : Nat) (H0 : Hp) (w0 : World) (h0 : Sub H0 w0) (h : 1 ≤ g ∧ g ≤ 255 ∧ 1 ≤ s ∧ s ≤ 65535) (hw : 1 ≤ width ∧ width ≤ 16) :
    Calls Tryz.prog 12 #[.int .i64 (g : Int), .int .i64 (s : Int), .int .i64 (width : Int)] w0 (Ret [] H0 w0 fun v H' M' => H' = H0 ∧ ∃ rb wb, v = .tuple #[ptr rb, .int .i64 0] ∧ M' = relMem true (newR g s width) rb wb (List.replicate 16 none)) := by
  have hs := HS.init h0
  have hle := Hp.le.refl H0
  refine Calls.enter (args := [.int .i64 (g : Int), .int .i64 (s : Int), .int .i64 (width : Int)]) Tryz.func12 rfl Tryz.ntmps12 rfl ?_
  refine WC.seq (WC.region (WO.step rfl (OR.assign rfl (WO.step rfl (OR.assign rfl (WO.done (WX.seq ?_)))))))
  refine WC.seq (WC.region (WO.step rfl (OR.move rfl ?_)))
  refine WO.step rfl (OR.callX (Mx := []) hs body64 rfl rfl (wnewW_ok (width : Int) _ _ hs.toSub) rfl rfl ?_)
  clear hs; rintro _ H M' w hs hle1 hnew ⟨rfl, hres⟩; replace hle := hle.trans hle1; (try replace hlb := hlb.trans hle1)
  rw [if_pos (by omega)] at hres
  obtain ⟨wb, rfl, rfl⟩ := hres
  refine WO.step rfl (OR.move rfl (WO.step rfl (OR.extract rfl rfl (WO.step rfl (OR.extract rfl rfl (WO.step rfl (OR.assign rfl ?_)))))))
  refine WO.step rfl (OR.assign rfl (WO.done (WX.seq (WC.seq (WC.seq (WC.region (WO.step rfl ?_)))))))
  refine OR.move rfl (WO.step rfl (OR.move rfl ?_))
  refine WO.step rfl (OR.callX (Mx := []) hs body65 rfl rfl (new_ok (g : Int) (s : Int) _ _ hs.toSub) rfl rfl ?_)
  clear hs; rintro _ H M' w hs hle1 hnew ⟨rfl, hres⟩; replace hle := hle.trans hle1; (try replace hlb := hlb.trans hle1)
  rw [if_pos (by omega)] at hres
  obtain ⟨bb, hbb, rfl, rfl⟩ := hres
  refine WO.step rfl (OR.move rfl (WO.step rfl (OR.extract rfl rfl (WO.step rfl (OR.extract rfl rfl (WO.step rfl (OR.assign rfl ?_)))))))
  refine WO.step rfl (OR.assign rfl (WO.done (WX.seq (WC.seq (WC.region (WO.step rfl (OR.move rfl ?_)))))))
  refine WO.step rfl (OR.neq rfl rfl (WO.step rfl (OR.move rfl ?_)))
  replace hs := hs.drop (i := 0)
  refine WO.guardYes rfl rfl rfl rfl (OR.move rfl (WO.guardYes rfl rfl rfl rfl (OR.neq rfl rfl (WO.step rfl (OR.pickF rfl rfl rfl (WO.done (WX.seq ?_)))))))
  refine WC.no rfl rfl ?_
  refine WC.skip (WX.seq (WC.seq (WC.region (WO.step rfl (OR.move rfl (WO.step rfl (OR.move rfl ?_)))))))
  refine WO.step rfl (OR.move rfl ?_)
  refine WO.step rfl (OR.build (cs := (Value.int .i64 (g : Int) :: Value.int .i64 (s : Int) :: ptr wb :: List.replicate 16 (Value.pointer none)).toArray) rfl (by intro w; kernel_rfl) ?_)
  refine WO.step rfl (OR.box hs rfl ?_)
  clear hs; intro g1 w hg1 hs
  refine WO.step rfl (OR.assign rfl (WO.step rfl (OR.assign rfl (WO.done (WX.seq (WC.ret ?_))))))
  refine WX.ret2 rfl rfl rfl ?_
  refine ⟨_, _, [_, _], rfl, hs, by simp, rfl, g1, wb, rfl, ?_⟩
  rfl
end Go.Bw
namespace Go.Bw
set_option linter.unusedVariables false
set_option linter.unusedSimpArgs false
open Go.Proofs
end Go.Bw
namespace Go.Bw
set_option linter.unusedVariables false
set_option linter.unusedSimpArgs false
open Go.Proofs
set_option maxRecDepth 20000 in
set_option maxHeartbeats 2000000 in
theorem indexL_ok (v : Value) (ll : List (List UInt8)) (f : FuncId) (cap : List Value) (H0 : Hp) (w0 : World) (h0 : Sub H0 w0) (hv : BytesL H0 v ll) (hll : ll.length < 9223372036854775807) (hbf : Body Tryz.prog f)
    (hf : ∀ i (h : i < ll.length) vx H w, Hp.le H0 H → Sub H w → Bytes H vx ll[i] → Calls Tryz.prog f ([vx] ++ cap).toArray w (Pure H w fun v _ => v = .bool false)) :
    Calls Tryz.prog 176 #[v, .func (.func f) #[] cap.toArray] w0 (Pure H0 w0 fun v _ => v = .int .i64 (-1)) := by
  have hs := HS.init h0
  have hv0 := hv
  obtain ⟨base, cp, rfl⟩ := hv0.form
  refine Calls.enter (args := [.slice base ll.length cp, .func (.func f) #[] cap.toArray]) Tryz.func176 rfl Tryz.ntmps176 rfl ?_
  refine WC.seq (WC.region (WO.step rfl (OR.assign rfl (WO.done (WX.seq (WC.seq (WC.seq ?_)))))))
  refine WC.region (WO.step rfl (OR.move rfl (WO.step rfl (OR.lenSlice T40.und rfl (WO.step rfl (OR.move rfl (WO.done ?_)))))))
  refine WX.seq (WC.block ?_)
  refine WC.loop (ι := Nat) (fun k => [(0, .slice base ll.length cp), (1, .func (.func f) #[] cap.toArray), (7, .int .i64 (ll.length : Int)), (8, .int .i64 (k : Int))]) (fun k w => (k ≤ ll.length ∧ ∃ H, Hp.le H0 H ∧ HS [] H0 w0 H [] w)) (fun k => ll.length - k) 0 ⟨rfl, rfl, rfl, rfl,  trivial⟩ ?_ (fun k w hW => ?_)
  · exact ⟨by omega, H0, .refl H0, hs⟩
  obtain ⟨hk, H, hle, hs⟩ := hW
  refine WC.seq (WC.region (WO.step rfl (OR.lss rfl rfl (WO.done (WX.seq (WC.seq ?_))))))
  refine WC.condD rfl (fun hlt => ?_) (fun hlt => ?_)
  · have hlt' : k < ll.length := by omega
    obtain ⟨b, o, rfl, hc⟩ := hv.pos (by omega)
    obtain ⟨e, hce, hbe⟩ := hc k hlt'
    refine WC.skip (WX.seq (WC.seq (WC.block (WC.seq (WC.region (WO.step rfl (OR.move rfl ?_)))))))
    refine WO.step rfl (OR.assign rfl (WO.done (WX.seq (WC.seq (WC.region (WO.step rfl (OR.move rfl ?_)))))))
    refine WO.step rfl (OR.move rfl (WO.step rfl (OR.move rfl ?_)))
    refine WO.step rfl (OR.idx k T40.und T43 rfl rfl rfl hlt' ?_)
    refine WO.step rfl (OR.load T43 rfl rfl (hs.cell (hcell.mono hle hce)) ?_)
    refine WO.step rfl (OR.call hs (hbf) rfl rfl (hf k hlt' e _ _ hle hs.toSub (hbe.mono hle)) ?_)
    clear hs; rintro _ H w hs hle1 rfl; replace hle := hle.trans hle1; (try replace hlb := hlb.trans hle1)
    refine WO.done (WX.seq ?_)
    refine WC.no rfl rfl ?_
    refine WC.skip (WX.block (WX.seq (WC.region (WO.step rfl (OR.addI rfl rfl (by omega) (by omega) (WO.step rfl (OR.move rfl ?_)))))))
    refine WO.done ?_
    refine WX.again (k + 1) ⟨rfl, rfl, rfl, rfl,  trivial⟩ ?_ ?_
    · exact ⟨hlt', H, hle, hs⟩
    · omega
  · refine WC.exit (WX.seq_exit (WX.loop_exit (WX.block_hit (WX.seq (WC.seq (WC.region (WO.step rfl ?_)))))))
    refine OR.assign rfl (WO.done (WX.seq (WC.ret ?_)))
    refine WX.ret1 rfl rfl ?_
    exact .mk hs rfl

set_option maxRecDepth 20000 in
set_option maxHeartbeats 2000000 in
theorem containsL_ok (v : Value) (ll : List (List UInt8)) (f : FuncId) (cap : List Value) (H0 : Hp) (w0 : World) (h0 : Sub H0 w0) (hv : BytesL H0 v ll) (hll : ll.length < 9223372036854775807) (hbf : Body Tryz.prog f)
    (hf : ∀ i (h : i < ll.length) vx H w, Hp.le H0 H → Sub H w → Bytes H vx ll[i] → Calls Tryz.prog f ([vx] ++ cap).toArray w (Pure H w fun v _ => v = .bool false)) :
    Calls Tryz.prog 153 #[v, .func (.func f) #[] cap.toArray] w0 (Pure H0 w0 fun v _ => v = .bool false) := by
  have hs := HS.init h0
  have hle := Hp.le.refl H0
  refine Calls.enter (args := [v, .func (.func f) #[] cap.toArray]) Tryz.func153 rfl Tryz.ntmps153 rfl ?_
  refine WC.seq (WC.region (WO.step rfl (OR.assign rfl (WO.done (WX.seq (WC.seq (WC.region ?_)))))))
  refine WO.step rfl (OR.move rfl (WO.step rfl (OR.move rfl ?_)))
  refine WO.step rfl (OR.call hs body176 rfl rfl (indexL_ok v ll f cap _ _ hs.toSub hv hll hbf hf) ?_)
  clear hs; rintro _ H w hs hle1 rfl; replace hle := hle.trans hle1; (try replace hlb := hlb.trans hle1)
  refine WO.step rfl (OR.geq rfl rfl (WO.step rfl (OR.assign rfl (WO.done (WX.seq (WC.ret ?_))))))
  refine WX.ret1 rfl rfl ?_
  exact .mk hs rfl

end Go.Bw
namespace Go.Bw
set_option linter.unusedVariables false
set_option linter.unusedSimpArgs false
open Go.Proofs
def rdObj (v : Value) : Obj := .cells #[v, .bool true] 246
def beVal (l : List UInt8) : Nat := l.foldl (fun n b => n * 256 + b.toNat) 0
theorem beVal_snoc (l : List UInt8) (b : UInt8) : beVal (l ++ [b]) = beVal l * 256 + b.toNat := by simp [beVal]
theorem beVal_take (l : List UInt8) (k : Nat) (h : k < l.length) : beVal (l.take (k + 1)) = beVal (l.take k) * 256 + l[k].toNat := by
  rw [List.take_succ_eq_append_getElem h, beVal_snoc]
theorem beVal_lt : ∀ (k : Nat) (l : List UInt8), l.length = k → beVal l < 256 ^ k
  | 0, l, h => by
    have : l = [] := List.eq_nil_of_length_eq_zero h
    subst this
    simp [beVal]
  | k + 1, l, h => by
    have hd : l = l.take k ++ [l[k]] := by
      rw [← List.take_succ_eq_append_getElem (by omega)]
      exact (List.take_of_length_le (by omega)).symm
    have h1 := beVal_lt k (l.take k) (by simp; omega)
    have h2 := l[k].toNat_lt
    rw [hd, beVal_snoc, Nat.pow_succ]
    omega

set_option maxRecDepth 20000 in
set_option maxHeartbeats 2000000 in
theorem wnew_ok (v : Value) (l : List UInt8) (H0 : Hp) (w0 : World) (h0 : Sub H0 w0) (hv : Bytes H0 v l) (hl : l.length ≤ 140737488355328) :
    Calls Tryz.prog 155 #[v] w0 (Ret [] H0 w0 fun v H' M' => ∃ b vb, v = ptr b ∧ w0.heap.size ≤ b ∧ M' = [(b, rdObj vb, true)] ∧ Bytes H' vb l) := by
  have hs := HS.init h0
  have hle := Hp.le.refl H0
  obtain ⟨b1, c1, rfl⟩ := hv.form
  refine Calls.enter (args := [.slice b1 l.length c1]) Tryz.func155 rfl Tryz.ntmps155 rfl ?_
  refine WC.seq (WC.region (WO.step rfl (OR.assign rfl (WO.done (WX.seq (WC.seq (WC.region ?_)))))))
  refine WO.step rfl (OR.move rfl ?_)
  refine WO.step rfl (OR.call hs body87 rfl rfl (clone_pure _ _ _ _ hs.toSub hv hl) ?_)
  clear hs; rintro _ H w hs hle1 hr; replace hle := hle.trans hle1; (try replace hlb := hlb.trans hle1)
  obtain ⟨b2, c2, rfl⟩ := hr.form
  refine WO.step rfl (OR.buildAll T246 rfl rfl PL246 rfl rfl (WO.step rfl (OR.box hs rfl ?_)))
  clear hs; intro g1 w hg1 hs
  refine WO.step rfl (OR.assign rfl (WO.done (WX.seq (WC.ret ?_))))
  refine WX.ret1 rfl rfl ?_
  exact ⟨_, H, _, rfl, hs, by simp, g1, _, rfl, hg1, rfl, hr⟩

set_option maxRecDepth 20000 in
set_option maxHeartbeats 2000000 in
theorem rleft_ok (b : Nat) (vb : Value) (l : List UInt8) (H0 : Hp) (w0 : World) (h0 : Sub H0 w0) (hb : w0.heap[b]? = some (rdObj vb)) (hn : H0 b = none) (hv : Bytes H0 vb l) :
    Calls Tryz.prog 159 #[ptr b] w0 (Pure H0 w0 fun v _ => v = .int .i64 (l.length : Int)) := by
  have hs := HS.startR h0 hb hn
  have hle := Hp.le.refl H0
  obtain ⟨b1, c1, rfl⟩ := hv.form
  refine Calls.enter (args := [ptr b]) Tryz.func159 rfl Tryz.ntmps159 rfl ?_
  refine WC.seq (WC.region (WO.step rfl (OR.assign rfl (WO.done (WX.seq (WC.seq (WC.seq ?_)))))))
  refine WC.region (WO.step rfl (OR.move rfl (WO.step rfl (OR.eqlNilP T226.und rfl rfl (WO.done (WX.seq (WC.no rfl rfl ?_)))))))
  refine WC.skip (WX.seq (WC.seq (WC.region (WO.step rfl (OR.move rfl (WO.step rfl (OR.nilCheck rfl ?_)))))))
  refine WO.step rfl (OR.fieldAddr FA246_0 rfl (WO.step rfl (OR.load T43 rfl rfl (hs.cellM (i := 0) rfl rfl) (WO.step rfl (OR.lenSlice T43.und rfl (WO.step rfl (OR.assign rfl ?_)))))))
  refine WO.done (WX.seq (WC.ret ?_))
  refine WX.ret1 rfl rfl ?_
  exact .mk hs rfl

theorem Bytes.dropS {H : Hp} {b : Option Addr} {c : Nat} {l : List UInt8} (h : Bytes H (.slice b l.length c) l) (m : Nat) (hm : m ≤ l.length) : Bytes H (.slice (if c = m then b else b.map (·.add (m * 1))) (l.length - m) (c - m)) (l.drop m) := by
  have := Sl.dropS h m hm
  unfold Bytes
  rw [List.length_drop, List.map_drop]
  rw [Nat.mul_one] at this ⊢
  exact this

set_option maxRecDepth 20000 in
set_option maxHeartbeats 2000000 in
theorem rtake_ok (b : Nat) (vb : Value) (l : List UInt8) (n : Nat) (H0 : Hp) (w0 : World) (h0 : Sub H0 w0) (hb : w0.heap[b]? = some (rdObj vb)) (hn : H0 b = none) (hv : Bytes H0 vb l) (hnl : n ≤ l.length) (hl : l.length ≤ 140737488355328) :
    Calls Tryz.prog 158 #[ptr b, .int .i64 (n : Int)] w0 (Ret [b] H0 w0 fun v H' M' => ∃ r vb', v = .tuple #[r, .int .i64 0] ∧ Bytes H' r (l.take n) ∧ M' = [(b, rdObj vb', true)] ∧ Bytes H' vb' (l.drop n)) := by
  have hs := HS.start1 h0 hb hn
  have hle := Hp.le.refl H0
  obtain ⟨b1, c1, rfl⟩ := hv.form
  have hcap := hv.cap_le
  refine Calls.enter (args := [ptr b, .int .i64 (n : Int)]) Tryz.func158 rfl Tryz.ntmps158 rfl ?_
  refine WC.seq (WC.region (WO.step rfl (OR.assign rfl (WO.step rfl (OR.assign rfl (WO.done (WX.seq ?_)))))))
  refine WC.seq (WC.block (WC.seq (WC.region (WO.step rfl (OR.move rfl (WO.step rfl (OR.eqlNilP T226.und rfl rfl ?_)))))))
  refine WO.step rfl (OR.move rfl (WO.guardYes rfl rfl rfl rfl (OR.move rfl (WO.guardYes rfl rfl rfl rfl (OR.nilCheck rfl (WO.guardYes rfl rfl rfl rfl (OR.fieldAddr FA246_1 rfl ?_)))))))
  refine WO.guardYes rfl rfl rfl rfl (OR.load T4 rfl rfl (hs.cellM (i := 0) rfl rfl) (WO.guardYes rfl rfl rfl rfl (OR.not rfl (WO.step rfl (OR.pickF rfl rfl rfl (WO.step rfl (OR.assign rfl ?_)))))))
  refine WO.done (WX.seq ?_)
  refine WC.no rfl rfl ?_
  refine WC.seq (WC.region (WO.step rfl (OR.move rfl (WO.step rfl (OR.lss rfl rfl (WO.step rfl (OR.assign rfl ?_)))))))
  refine WO.done (WX.seq ?_)
  refine WC.no rfl (decide_eq_false (by omega)) ?_
  refine WC.seq (WC.region (WO.step rfl (OR.move rfl (WO.step rfl (OR.move rfl (WO.step rfl (OR.nilCheck rfl ?_)))))))
  refine WO.step rfl (OR.fieldAddr FA246_0 rfl (WO.step rfl (OR.load T43 rfl rfl (hs.cellM (i := 0) rfl rfl) (WO.step rfl (OR.lenSlice T43.und rfl (WO.step rfl (OR.gtr rfl rfl ?_)))))))
  refine WO.step rfl (OR.assign rfl (WO.done (WX.seq ?_)))
  refine WC.no rfl (decide_eq_false (by omega)) ?_
  refine WC.skip (WX.block (WX.seq (WC.seq (WC.region (WO.step rfl (OR.move rfl (WO.step rfl ?_)))))))
  refine OR.nilCheck rfl (WO.step rfl (OR.fieldAddr FA246_0 rfl (WO.step rfl (OR.load T43 rfl rfl (hs.cellM (i := 0) rfl rfl) (WO.step rfl (OR.move rfl ?_))))))
  refine WO.step rfl (OR.sliceHiG n T43.und T5 rfl rfl rfl (by omega) ?_)
  have htk : Bytes H0 (.slice b1 n c1) (l.take n) := by
    have := Sl.takeS hv n hnl
    unfold Bytes
    rw [Nat.mul_one] at this
    rw [List.length_take, Nat.min_eq_left hnl, List.map_take]
    exact this
  refine WO.step rfl (OR.call hs body87 rfl rfl (clone_pure _ _ _ _ hs.toSub htk (by simp; omega)) ?_)
  clear hs; rintro _ H w hs hle1 hr; replace hle := hle.trans hle1; (try replace hlb := hlb.trans hle1)
  refine WO.step rfl (OR.assign rfl (WO.done (WX.seq (WC.seq (WC.region (WO.step rfl (OR.move rfl ?_)))))))
  refine WO.step rfl (OR.move rfl (WO.step rfl (OR.nilCheck rfl (WO.step rfl (OR.fieldAddr FA246_0 rfl (WO.step rfl (OR.load T43 rfl rfl (hs.cellM (i := 0) rfl rfl) ?_)))))))
  refine WO.step rfl (OR.move rfl ?_)
  refine WO.step rfl (OR.sliceLoG n T43.und T5 rfl rfl rfl hnl ?_)
  obtain ⟨b2, c2, rfl⟩ := hr.form
  refine WO.step rfl (OR.nilCheck rfl (WO.step rfl (OR.fieldAddr FA246_0 rfl (WO.stepN (OR.store hs T43 rfl rfl rfl (Nat.le_of_ble_eq_true rfl) rfl ?_)))))
  clear hs; intro w hs
  refine WO.done (WX.seq (WC.seq (WC.region (WO.step rfl (OR.move rfl (WO.step rfl (OR.assign rfl ?_)))))))
  refine WO.step rfl (OR.assign rfl (WO.done (WX.seq (WC.ret ?_))))
  refine WX.ret2 rfl rfl rfl ?_
  exact ⟨_, H, _, rfl, hs, by simp, _, _, rfl, hr, rfl, (hv.dropS n hnl).mono hle⟩

set_option maxRecDepth 20000 in
set_option maxHeartbeats 2000000 in
theorem keep_ok (b : Value) (v : Value) (g : Nat) (H0 : Hp) (w0 : World) (h0 : Sub H0 w0) (hg : w0.heap[g]? = some (.cells #[.int .i64 0] 28)) (hn : H0 g = none) :
    CallsD Tryz.prog 178 #[b, v, ptr g] .returning w0 fun e u' w' => u' = .returning ∧ Pure H0 w0 (fun _ _ => True) e w' := by
  have hs := HS.startR h0 hg hn
  refine CallsD.enter (args := [b, v, ptr g]) Tryz.func178 rfl Tryz.ntmps178 rfl ?_
  refine WC.seq (WC.region (WO.step rfl (OR.move rfl (WO.step rfl (OR.nilCheck rfl (WO.step rfl (OR.load T28 rfl rfl (hs.cellM (i := 0) rfl rfl) ?_)))))))
  refine WO.step rfl (OR.neq rfl rfl (WO.done (WX.seq ?_)))
  refine WC.no rfl (decide_eq_false (by omega)) ?_
  refine WC.skip ?_
  refine WX.end0 rfl ?_
  exact .mk hs trivial

set_option maxRecDepth 20000 in
set_option maxHeartbeats 2000000 in
theorem rnum_ok (b : Nat) (vb : Value) (l : List UInt8) (k : Nat) (H0 : Hp) (w0 : World) (h0 : Sub H0 w0) (hb : w0.heap[b]? = some (rdObj vb)) (hn : H0 b = none) (hv : Bytes H0 vb l) (hk1 : 1 ≤ k) (hk8 : k ≤ 8) (hnl : k ≤ l.length) (hl : l.length ≤ 140737488355328) :
    Calls Tryz.prog 157 #[ptr b, .int .i64 (k : Int)] w0 (Ret [b] H0 w0 fun v H' M' => ∃ vb', v = .tuple #[.int .u64 (beVal (l.take k) : Int), .int .i64 0] ∧ M' = [(b, rdObj vb', true)] ∧ Bytes H' vb' (l.drop k)) := by
  have hs := HS.start1 h0 hb hn
  have hle := Hp.le.refl H0
  have hv0 := hv
  obtain ⟨b1, c1, rfl⟩ := hv0.form
  refine Calls.enterD (args := [ptr b, .int .i64 (k : Int)]) Tryz.func157 rfl Tryz.ntmps157 rfl ?_
  refine WC.seq (WC.region (WO.step rfl (OR.assign rfl (WO.step rfl (OR.alloc hs T28 ?_)))))
  clear hs; intro g1 w hg1 hs
  refine WO.done (WX.seq (WC.seq (WC.block (WC.seq (WC.region (WO.step rfl (OR.move rfl ?_)))))))
  refine WO.step rfl (OR.eqlNilP T226.und rfl rfl (WO.step rfl (OR.move rfl (WO.guardYes rfl rfl rfl rfl (OR.move rfl (WO.guardYes rfl rfl rfl rfl (OR.nilCheck rfl ?_)))))))
  refine WO.guardYes rfl rfl rfl rfl (OR.fieldAddr FA246_1 rfl (WO.guardYes rfl rfl rfl rfl (OR.load T4 rfl rfl (hs.cellM (i := 1) rfl rfl) (WO.guardYes rfl rfl rfl rfl (OR.not rfl (WO.step rfl (OR.pickF rfl rfl rfl ?_)))))))
  refine WO.step rfl (OR.assign rfl (WO.done (WX.seq ?_)))
  refine WC.no rfl rfl ?_
  refine WC.seq (WC.region (WO.step rfl (OR.move rfl (WO.step rfl (OR.lss rfl rfl (WO.step rfl (OR.move rfl ?_)))))))
  refine WO.guardYes rfl (decide_eq_false (by omega)) rfl rfl (OR.move rfl (WO.guardYes rfl (decide_eq_false (by omega)) rfl rfl (OR.gtr rfl rfl (WO.step rfl (OR.pickF rfl (decide_eq_false (by omega)) rfl (WO.step rfl (OR.assign rfl ?_)))))))
  refine WO.done (WX.seq ?_)
  refine WC.no rfl (decide_eq_false (by omega)) ?_
  refine WC.skip (WX.block (WX.seq (WC.seq (WC.region (WO.step rfl (OR.move rfl (WO.step rfl ?_)))))))
  refine OR.move rfl (WO.step rfl (OR.nilCheck rfl (WO.step rfl (OR.fieldAddr FA246_0 rfl (WO.step rfl (OR.load T43 rfl rfl (hs.cellM (i := 1) rfl rfl) ?_))))))
  refine WO.defer rfl rfl ?_
  refine WO.done (WX.seq (WC.seq (WC.seq (WC.region (WO.step rfl (OR.move rfl (WO.step rfl ?_)))))))
  refine OR.move rfl (WO.done (WX.seq (WC.block ?_)))
  refine WC.loop (ι := Nat) (fun j => [(0, ptr b), (4, .int .u64 (beVal (l.take j) : Int)), (5, ptr g1), (28, .int .i64 (k : Int)), (29, .int .i64 (j : Int))]) (fun j w => (j ≤ k ∧ ∃ H vb', Hp.le H0 H ∧ Bytes H vb' (l.drop j) ∧ HS [b] H0 w0 H [(g1, .cells #[.int .i64 0] 28, true), (b, rdObj vb', true)] w)) (fun j => k - j) 0 ⟨rfl, rfl, rfl, rfl, rfl,  trivial⟩ ?_ (fun j w hW => ?_)
  · exact ⟨by omega, H0, _, hle, by rw [List.drop_zero]; exact hv, hs⟩
  clear hs hle
  obtain ⟨hj, H, vb', hle, hv', hs⟩ := hW
  refine WC.seq (WC.region (WO.step rfl (OR.lss rfl rfl (WO.done (WX.seq (WC.seq ?_))))))
  refine WC.condD rfl (fun hlt => ?_) (fun hlt => ?_)
  · have hlt' : j < k := by omega
    have hj' : j < l.length := by omega
    have hdl : (l.drop j).length = l.length - j := List.length_drop
    obtain ⟨b2, c2, rfl⟩ := hv'.form
    have hcap := hv'.cap_le
    refine WC.skip (WX.seq (WC.seq (WC.block (WC.seq (WC.seq (WC.region (WO.step rfl ?_)))))))
    refine OR.move rfl (WO.step rfl (OR.nilCheck rfl (WO.step rfl (OR.fieldAddr FA246_0 rfl (WO.step rfl (OR.load T43 rfl rfl (hs.cellM (i := 1) rfl rfl) (WO.step rfl ?_)))))))
    refine OR.lenSlice T43.und rfl (WO.step rfl (OR.eql rfl rfl (WO.done (WX.seq ?_))))
    refine WC.no rfl (decide_eq_false (by omega)) ?_
    refine WC.skip (WX.seq (WC.seq (WC.region (WO.step rfl (OR.move rfl ?_)))))
    refine WO.step rfl (OR.shl rfl rfl (by omega) ?_)
    obtain ⟨b3, o3, rfl, hce⟩ := hv'.pos (by omega)
    have hc0 := hce 0 (by omega)
    have he0 : (l.drop j)[0]'(by omega) = l[j] := by rw [List.getElem_drop]; simp
    rw [he0] at hc0
    refine WO.step rfl (OR.move rfl (WO.step rfl (OR.nilCheck rfl (WO.step rfl (OR.fieldAddr FA246_0 rfl (WO.step rfl (OR.load T43 rfl rfl (hs.cellM (i := 1) rfl rfl) ?_)))))))
    refine WO.step rfl (OR.idx 0 T43.und T5 rfl rfl rfl (by omega) ?_)
    refine WO.step rfl (OR.load T5 rfl rfl (hs.cell hc0) ?_)
    refine WO.step rfl (OR.convI T5.und T22.und rfl ?_)
    have hb8 := l[j].toNat_lt
    have hbv := beVal_lt j (l.take j) (by simp; omega)
    have hbv2 : beVal (l.take j) * 256 < 18446744073709551616 := by
      have h1 : 256 ^ (j + 1) ≤ 256 ^ 8 := Nat.pow_le_pow_right (by omega) (by omega)
      have h2 : beVal (l.take j) * 256 < 256 ^ (j + 1) := by rw [Nat.pow_succ]; exact Nat.mul_lt_mul_of_pos_right hbv (by omega)
      exact Nat.lt_of_lt_of_le h2 (Nat.le_trans h1 (by decide))
    have hbv3 : beVal (l.take j) * 256 + l[j].toNat < 18446744073709551616 := by
      have h1 : 256 ^ (j + 1) ≤ 256 ^ 8 := Nat.pow_le_pow_right (by omega) (by omega)
      have h2 := beVal_lt (j + 1) (l.take (j + 1)) (by simp; omega)
      rw [beVal_take l j hj'] at h2
      exact Nat.lt_of_lt_of_le h2 (Nat.le_trans h1 (by decide))
    have e1 : IntKind.u64.wrap ((beVal (l.take j) : Int) * 2 ^ (min (Int.toNat 8) IntKind.u64.bits)) = ((beVal (l.take j) * 256 : Nat) : Int) := by
      have := u64_wrap (beVal (l.take j) * 256) hbv2
      rw [← this, Int.natCast_mul]
      rfl
    rw [e1, u64_wrap l[j].toNat (by omega)]
    refine WO.step rfl (OR.or rfl rfl ?_)
    rw [or_u64 _ _ hb8 hbv3, ← beVal_take l j hj']
    refine WO.step rfl (OR.assign rfl (WO.done (WX.seq (WC.region (WO.step rfl (OR.move rfl (WO.step rfl ?_)))))))
    refine OR.move rfl (WO.step rfl (OR.nilCheck rfl (WO.step rfl (OR.fieldAddr FA246_0 rfl (WO.step rfl (OR.load T43 rfl rfl (hs.cellM (i := 1) rfl rfl) ?_))))))
    refine WO.step rfl (OR.sliceLoG 1 T43.und T5 rfl rfl rfl (by omega) ?_)
    refine WO.step rfl (OR.nilCheck rfl (WO.step rfl (OR.fieldAddr FA246_0 rfl ?_)))
    replace hs := hs.front (i := 1) rfl
    refine WO.stepN (OR.store hs T43 rfl rfl rfl (Nat.le_of_ble_eq_true rfl) rfl ?_)
    clear hs; intro w hs
    refine WO.done (WX.block (WX.seq (WC.region (WO.step rfl (OR.addI rfl rfl (by omega) (by omega) (WO.step rfl (OR.move rfl ?_)))))))
    refine WO.done ?_
    replace hs := hs.front (i := 1) rfl
    refine WX.again (j + 1) ⟨rfl, rfl, rfl, rfl, rfl,  trivial⟩ ?_ ?_
    · refine ⟨hlt', H, _, hle, ?_, hs⟩
      have := hv'.dropS 1 (by omega)
      rw [List.drop_drop] at this
      exact this
    · omega
  · have e : j = k := by omega
    subst e
    refine WC.exit (WX.seq_exit (WX.loop_exit (WX.block_hit (WX.seq (WC.seq (WC.region (WO.step rfl ?_)))))))
    refine OR.move rfl (WO.step rfl (OR.assign rfl (WO.stepN (OR.storeAll hs T28 rfl rfl rfl rfl rfl ?_))))
    clear hs; intro w hs
    refine WO.done (WX.seq (WC.ret ?_))
    refine WX.retD (dargs := [ptr b, .slice b1 l.length c1, ptr g1]) (cap := []) body178 (keep_ok _ _ g1 _ _ hs.toSub (hs.blk (i := 0) rfl) (hs.mem g1 _ true (List.mem_cons_self ..)).2.1) ?_
    intro e w' hp
    obtain ⟨v, H', rfl, hs', hle', _⟩ := hp.step hs
    refine ⟨v, rfl, fun a ha => ⟨_, results_TC T28 rfl rfl (ha 4 _ rfl) (ha 5 _ rfl) (hs'.cellM (i := 0) rfl rfl), _, H', _, rfl, hs'.drop 0, by simp [dropAt], _, rfl, rfl, hv'.mono hle'⟩⟩

end Go.Bw
namespace Go.Bw
set_option linter.unusedVariables false
set_option linter.unusedSimpArgs false
open Go.Proofs
theorem take_flat_succ (ll : List (List UInt8)) (k : Nat) (h : k < ll.length) : (ll.take (k + 1)).flatten = (ll.take k).flatten ++ ll[k] := by
  rw [List.take_succ_eq_append_getElem h, List.flatten_append]
  simp
theorem flat_take_le (ll : List (List UInt8)) (k : Nat) : (ll.take k).flatten.length ≤ ll.flatten.length := by
  have : ll.flatten = (ll.take k).flatten ++ (ll.drop k).flatten := by rw [← List.flatten_append, List.take_append_drop]
  rw [this, List.length_append]
  omega
theorem setL_take (c : List Value) (o : Nat) (news : List Value) (h : o + news.length ≤ c.length) : (setL c o news).take (o + news.length) = c.take o ++ news := by
  rw [setL_at _ _ _ h, List.take_append_of_le_length (by simp; omega), List.take_of_length_le (by simp; omega)]

set_option maxRecDepth 20000 in
set_option maxHeartbeats 2000000 in
theorem join_ok (vl : Value) (ll : List (List UInt8)) (H0 : Hp) (w0 : World) (h0 : Sub H0 w0) (hv : BytesL H0 vl ll) (hl : ll.flatten.length ≤ 1000000000000) (hll : ll.length ≤ 1000000000000) :
    Calls Tryz.prog 156 #[vl, .slice none 0 0] w0 (Pure H0 w0 fun v H' => Bytes H' v ll.flatten) := by
  have hs := HS.init h0
  have hle := Hp.le.refl H0
  have hv0 := hv
  obtain ⟨b1, c1, rfl⟩ := hv0.form
  obtain ⟨cs, hsl, hcl, hcs⟩ := hv
  have hcap1 : ll.length ≤ c1 := by
    obtain ⟨_, b', c', q1, q2, _⟩ := hsl
    cases q1
    exact q2
  refine Calls.enter (args := [.slice b1 ll.length c1, .slice none 0 0]) Tryz.func156 rfl Tryz.ntmps156 rfl ?_
  refine WC.seq (WC.region (WO.step rfl (OR.assign rfl (WO.done (WX.seq (WC.seq (WC.seq ?_)))))))
  refine WC.region (WO.step rfl (OR.move rfl (WO.step rfl (OR.lenSlice T40.und rfl (WO.step rfl (OR.eql rfl rfl (WO.done ?_)))))))
  refine WX.seq ?_
  refine WC.condD rfl (fun hz => ?_) (fun hz => ?_)
  · refine WC.seq (WC.region ?_)
    refine WO.step rfl (OR.buildSlice (vs := []) hs T43.und T5 rfl rfl rfl rfl (by simp) ?_)
    clear hs; intro g1 w hg1 hs
    refine WO.step rfl (OR.assign rfl (WO.done (WX.seq (WC.ret (WX.seq_ret ?_)))))
    refine WX.ret1 rfl rfl ?_
    have : ll = [] := List.eq_nil_of_length_eq_zero (by omega)
    subst this
    exact .mk (hs.drop 0) (Sl.empty _ _ _)
  · obtain ⟨ob, oo, rfl, hco⟩ := hsl.pos (by omega)
    have hget : ∀ k (h : k < ll.length), hcell H0 ⟨ob, oo + k, none⟩ = some (cs[k]'(by omega)) ∧ Bytes H0 (cs[k]'(by omega)) ll[k] := fun k h => ⟨hco k _ (List.getElem?_eq_getElem (by omega)), hcs k h (by omega)⟩
    obtain ⟨hc0, hb0⟩ := hget 0 (by omega)
    obtain ⟨be0, ce0, he0⟩ := hb0.form
    rw [he0] at hb0
    refine WC.skip (WX.seq (WC.seq (WC.seq (WC.region (WO.step rfl (OR.move rfl (WO.step rfl ?_)))))))
    refine OR.lenSlice T40.und rfl (WO.step rfl (OR.eql rfl rfl (WO.done (WX.seq ?_))))
    refine WC.condD rfl (fun h1 => ?_) (fun h1 => ?_)
    · refine WC.seq (WC.region (WO.step rfl (OR.move rfl ?_)))
      refine WO.step rfl (OR.idx 0 T40.und T43 rfl rfl rfl (by omega) ?_)
      refine WO.step rfl (OR.load T43 rfl rfl (hs.cell hc0) ?_)
      rw [he0]
      have hl1 := flat_take_le ll 1
      have hl2 : (ll.take 1).flatten = (ll.take 0).flatten ++ ll[0]'(by omega) := take_flat_succ ll 0 (by omega)
      have hl3 : ll.take 1 = ll := List.take_of_length_le (by omega)
      have hl4 : ll.flatten = ll[0]'(by omega) := by
        have h9 : (ll.take 1).flatten = ll.flatten := by rw [hl3]
        rw [List.take_zero, List.flatten_nil, List.nil_append] at hl2
        exact h9.symm.trans hl2
      have hl5 : (ll[0]'(by omega)).length ≤ 1000000000000 := by rw [← hl4]; exact hl
      refine WO.step rfl (OR.append (n := 0) (m := (ll[0]'(by omega)).length) (cs := []) (news := (ll[0]'(by omega)).map B) (Mo := []) (M := []) hs (Own.nil _ _ _) T43.und T5 rfl (by omega) rfl rfl (by simp) (Sl.src hb0 hs) (Sl.src0 hb0) (bytes_one _) (by omega) (by omega) ?_)
      clear hs; intro v' w Mo hs ho hge
      obtain ⟨H3, hle3, hs, hsl3, _⟩ := HS.pub hs ho
      refine WO.step rfl (OR.assign rfl (WO.done (WX.seq (WC.ret (WX.seq_ret ?_)))))
      refine WX.ret1 rfl rfl ?_
      refine .mk hs ?_
      unfold Bytes
      rw [hl4]
      rw [Nat.zero_add, List.nil_append] at hsl3
      exact hsl3
    · refine WC.skip (WX.seq (WC.seq (WC.region (WO.step rfl (OR.assign rfl (WO.done (WX.seq ?_)))))))
      refine WC.seq (WC.seq (WC.region (WO.step rfl (OR.move rfl (WO.step rfl (OR.lenSlice T43.und rfl (WO.step rfl ?_)))))))
      refine OR.gtr rfl rfl (WO.done (WX.seq ?_))
      refine WC.no rfl (decide_eq_false (by omega)) ?_
      refine WC.skip (WX.seq (WC.seq (WC.seq (WC.region (WO.step rfl (OR.move rfl (WO.step rfl ?_)))))))
      refine OR.lenSlice T40.und rfl (WO.step rfl (OR.move rfl (WO.done (WX.seq (WC.block ?_)))))
      refine WC.loop (ι := Nat) (fun k => [(0, .slice (some ⟨ob, oo, none⟩) ll.length c1), (1, .slice none 0 0), (5, .int .i64 ((ll.take k).flatten.length : Int)), (42, .slice (some ⟨ob, oo, none⟩) ll.length c1), (43, .int .i64 (ll.length : Int)), (44, .int .i64 (k : Int))]) (fun k w => (k ≤ ll.length ∧ HS [] H0 w0 H0 [] w)) (fun k => ll.length - k) 0 ⟨rfl, rfl, rfl, rfl, rfl, rfl,  trivial⟩ ?_ (fun k w hW => ?_)
      · exact ⟨by omega, hs⟩
      clear hs
      obtain ⟨hk, hs⟩ := hW
      refine WC.seq (WC.region (WO.step rfl (OR.lss rfl rfl (WO.done (WX.seq (WC.seq ?_))))))
      refine WC.condD rfl (fun hlt => ?_) (fun hlt => ?_)
      · have hk' : k < ll.length := by omega
        obtain ⟨hck, hbk⟩ := hget k hk'
        obtain ⟨be, ce, he⟩ := hbk.form
        refine WC.skip (WX.seq (WC.seq (WC.block (WC.seq (WC.region ?_)))))
        refine WO.step rfl (OR.idx k T40.und T43 rfl rfl rfl hk' ?_)
        refine WO.step rfl (OR.load T43 rfl rfl (hs.cell hck) ?_)
        rw [he]
        have hf1 := take_flat_succ ll k hk'
        have hf2 := flat_take_le ll (k + 1)
        have hf3 : (ll.take (k + 1)).flatten.length = (ll.take k).flatten.length + ll[k].length := by rw [hf1, List.length_append]
        refine WO.step rfl (OR.assign rfl (WO.done (WX.seq (WC.seq (WC.seq (WC.region (WO.step rfl ?_)))))))
        refine OR.move rfl (WO.step rfl (OR.lenSlice T43.und rfl (WO.step rfl (OR.move rfl (WO.step rfl (OR.subI rfl rfl (by omega) (by omega) (WO.step rfl ?_)))))))
        refine OR.gtr rfl rfl (WO.done (WX.seq ?_))
        refine WC.no rfl (decide_eq_false (by omega)) ?_
        have hf4 : ((ll.take k).flatten.length : Int) + (ll[k].length : Int) = ((ll.take (k + 1)).flatten.length : Int) := by omega
        refine WC.skip (WX.seq (WC.region (WO.step rfl (OR.move rfl (WO.step rfl (OR.move rfl (WO.step rfl ?_)))))))
        refine OR.lenSlice T43.und rfl (WO.step rfl (OR.addI rfl rfl (by omega) (by omega) (WO.step rfl (OR.assign rfl (WO.done (WX.block (WX.seq ?_)))))))
        refine WC.region (WO.step rfl (OR.addI rfl rfl (by omega) (by omega) (WO.step rfl (OR.move rfl (WO.done ?_)))))
        rw [hf4]
        refine WX.again (k + 1) ⟨rfl, rfl, rfl, rfl, rfl, rfl,  trivial⟩ ?_ ?_
        · exact ⟨by omega, hs⟩
        · omega
      · have e : k = ll.length := by omega
        subst e
        rw [List.take_length]
        obtain ⟨T, hT⟩ : ∃ T, ll.flatten.length = T := ⟨_, rfl⟩
        rw [hT] at hl ⊢
        refine WC.exit (WX.seq_exit (WX.loop_exit (WX.block_hit (WX.seq (WC.seq (WC.region (WO.step rfl ?_)))))))
        refine OR.move rfl ?_
        refine WO.step rfl (OR.makeNoZero (ps := #[3]) (t := 43) hs Tryz.func177 (by kernel_rfl) (by kernel_rfl) (by kernel_rfl) (by kernel_rfl) T43.und rfl rfl (by omega) ?_)
        clear hs; intro g c w hg hTc hs
        refine WO.step rfl (OR.move rfl (WO.step rfl (OR.move rfl ?_)))
        refine WO.step rfl (OR.sliceMax T T43.und T5 rfl rfl rfl rfl hTc ?_)
        refine WO.step rfl (OR.assign rfl (WO.done (WX.seq (WC.seq (WC.region (WO.step rfl (OR.move rfl ?_)))))))
        refine WO.step rfl (OR.move rfl ?_)
        refine WO.step rfl (OR.idx 0 T40.und T43 rfl rfl rfl (by omega) ?_)
        refine WO.step rfl (OR.load T43 rfl rfl (hs.cell hc0) ?_)
        rw [he0]
        have hl2 : (ll.take 1).flatten = (ll.take 0).flatten ++ ll[0]'(by omega) := take_flat_succ ll 0 (by omega)
        have hl6 := flat_take_le ll 1
        rw [List.take_zero, List.flatten_nil, List.nil_append] at hl2
        have hl7 : (ll[0]'(by omega)).length ≤ T := by rw [← hl2]; omega
        refine WO.step rfl (OR.copyO hs ((ll[0]'(by omega)).map B) T43.und T5 rfl rfl (by rw [List.length_map, natmin (c := (ll[0]'(by omega)).length) (by omega)]; omega) (Sl.src0 hb0) (Sl.src hb0 hs) (by simp; omega) (bytes_one _) ?_)
        clear hs; intro w hs
        rw [natmin (c := (ll[0]'(by omega)).length) (by omega)]
        refine WO.step rfl (OR.assign rfl (WO.done (WX.seq (WC.seq (WC.seq (WC.region (WO.step rfl ?_)))))))
        refine OR.move rfl ?_
        refine WO.step rfl (OR.sliceLoG 1 T40.und T43 rfl rfl rfl (by omega) ?_)
        rw [if_neg (by omega), Option.map_some, add_off, Nat.mul_one]
        have hci : (setL c.toList 0 ((ll[0]'(by omega)).map B)).take (ll[0]'(by omega)).length = ((ll.take 1).flatten).map B := by
          have := setL_take c.toList 0 ((ll[0]'(by omega)).map B) (by simp; omega)
          rw [List.length_map, Nat.zero_add, List.take_zero, List.nil_append] at this
          rw [this, hl2]
        have hcz : T ≤ (setL c.toList 0 ((ll[0]'(by omega)).map B)).toArray.size := by rw [List.size_toArray, setL_length]; simpa using hTc
        generalize hcg : (setL c.toList 0 ((ll[0]'(by omega)).map B)).toArray = cc at *
        have hcg2 : setL c.toList 0 ((ll[0]'(by omega)).map B) = cc.toList := by rw [← hcg]
        rw [hcg2] at hci
        have hp1 : (ll[0]'(by omega)).length = (ll.take 1).flatten.length := by rw [hl2]
        rw [hp1] at hci ⊢
        refine WO.step rfl (OR.lenSlice T40.und rfl (WO.step rfl (OR.move rfl (WO.done (WX.seq (WC.block ?_))))))
        refine WC.loop (ι := Nat) (fun j => [(1, .slice none 0 0), (8, .slice (some ⟨g, 0, none⟩) T T), (9, .int .i64 ((ll.take (j + 1)).flatten.length : Int)), (70, .slice (some ⟨ob, oo + 1, none⟩) (ll.length - 1) (c1 - 1)), (71, .int .i64 ((ll.length - 1 : Nat) : Int)), (72, .int .i64 (j : Int))]) (fun j w => (j ≤ ll.length - 1 ∧ ∃ c, T ≤ c.size ∧ c.toList.take (ll.take (j + 1)).flatten.length = ((ll.take (j + 1)).flatten).map B ∧ HS [] H0 w0 H0 [(g, .cells c 5, true)] w)) (fun j => ll.length - 1 - j) 0 ⟨rfl, rfl, rfl, rfl, rfl, rfl,  trivial⟩ ?_ (fun j w hW => ?_)
        · exact ⟨by omega, cc, hcz, hci, hs⟩
        clear hs hci hcz hcg hcg2 hTc
        obtain ⟨hj, c, hcz, hci, hs⟩ := hW
        refine WC.seq (WC.region (WO.step rfl (OR.lss rfl rfl (WO.done (WX.seq (WC.seq ?_))))))
        refine WC.condD rfl (fun hlt2 => ?_) (fun hlt2 => ?_)
        · have hj' : 1 + j < ll.length := by omega
          obtain ⟨hck, hbk⟩ := hget (1 + j) hj'
          rw [← Nat.add_assoc] at hck
          obtain ⟨be, ce, he⟩ := hbk.form
          rw [he] at hbk hck
          refine WC.skip (WX.seq (WC.seq (WC.block (WC.seq (WC.region ?_)))))
          refine WO.step rfl (OR.idx j T40.und T43 rfl rfl rfl (by omega) ?_)
          refine WO.step rfl (OR.load T43 rfl rfl (hs.cell hck) ?_)
          have hf1 := take_flat_succ ll (j + 1) (by omega)
          have hf2 := flat_take_le ll (j + 1 + 1)
          have hf3 : (ll.take (j + 1 + 1)).flatten.length = (ll.take (j + 1)).flatten.length + ll[1 + j].length := by
            rw [hf1, List.length_append]
            simp only [Nat.add_comm 1 j]
          have hf5 : (ll.take (j + 1 + 1)).flatten = (ll.take (j + 1)).flatten ++ ll[1 + j] := by rw [hf1]; simp only [Nat.add_comm 1 j]
          generalize hacc : (ll.take (j + 1)).flatten = acc at *
          have hsl2 : (if T = acc.length then some (⟨g, 0, none⟩ : Addr) else (some (⟨g, 0, none⟩ : Addr)).map (·.add (acc.length * 1))) = some ⟨g, if T = acc.length then 0 else acc.length, none⟩ := by
            split
            · rfl
            · rw [Option.map_some, add_off, Nat.mul_one, Nat.zero_add]
          have ho : (if T = acc.length then 0 else acc.length) + ll[1 + j].length ≤ c.size := by split <;> omega
          refine WO.step rfl (OR.assign rfl (WO.done (WX.seq (WC.seq (WC.region (WO.step rfl (OR.move rfl ?_)))))))
          refine WO.step rfl (OR.move rfl (WO.step rfl (OR.move rfl ?_)))
          refine WO.step rfl (OR.sliceLoG acc.length T43.und T5 rfl rfl rfl (by omega) ?_)
          rw [hsl2]
          refine WO.step rfl (OR.move rfl ?_)
          refine WO.step rfl (OR.copyO hs [] T43.und T5 rfl rfl (by rw [natmin (c := 0) (by omega)]; rfl) (fun _ => rfl) (fun q hq => by cases hq) (by simp; omega) rfl ?_)
          clear hs; intro w hs
          rw [natmin (c := 0) (by omega)]
          rw [setL_nil] at hs
          replace hs : HS [] H0 w0 H0 [(g, .cells c 5, true)] w := hs
          refine WO.step rfl (OR.addI rfl rfl (by omega) (by omega) ?_)
          rw [show (acc.length : Int) + ((0 : Nat) : Int) = (acc.length : Int) from by omega]
          refine WO.step rfl (OR.assign rfl (WO.done (WX.seq (WC.region (WO.step rfl (OR.move rfl (WO.step rfl ?_)))))))
          refine OR.move rfl (WO.step rfl (OR.move rfl ?_))
          refine WO.step rfl (OR.sliceLoG acc.length T43.und T5 rfl rfl rfl (by omega) ?_)
          rw [hsl2]
          refine WO.step rfl (OR.move rfl ?_)
          refine WO.step rfl (OR.copyO hs (ll[1 + j].map B) T43.und T5 rfl rfl (by rw [List.length_map, natmin (c := ll[1 + j].length) (by omega)]; omega) (Sl.src0 hbk) (Sl.src hbk hs) (by rw [List.length_map]; exact ho) (bytes_one _) ?_)
          clear hs; intro w hs
          rw [natmin (c := ll[1 + j].length) (by omega)]
          refine WO.step rfl (OR.addI rfl rfl (by omega) (by omega) (WO.step rfl (OR.assign rfl (WO.done (WX.block (WX.seq (WC.region ?_)))))))
          refine WO.step rfl (OR.addI rfl rfl (by omega) (by omega) (WO.step rfl (OR.move rfl (WO.done ?_))))
          rw [show (acc.length : Int) + (ll[1 + j].length : Int) = ((ll.take (j + 1 + 1)).flatten.length : Int) from by omega]
          refine WX.again (j + 1) ⟨rfl, rfl, rfl, rfl, rfl, rfl,  trivial⟩ ?_ ?_
          · refine ⟨by omega, _, ?_, ?_, hs⟩
            · rw [List.size_toArray, setL_length]; simpa using hcz
            · rw [hf5, List.length_append, List.map_append]
              by_cases hTe : T = acc.length
              · have hz0 : ll[1 + j] = [] := List.eq_nil_of_length_eq_zero (by omega)
                rw [hz0, List.map_nil, setL_nil, List.append_nil]
                exact hci
              · rw [if_neg hTe] at ho ⊢
                have := setL_take c.toList acc.length (ll[1 + j].map B) (by rw [List.length_map]; simpa using ho)
                rw [List.length_map] at this
                show (setL c.toList acc.length (ll[1 + j].map B)).take (acc.length + ll[1 + j].length) = _
                rw [this, hci]
          · omega
        · have e : j = ll.length - 1 := by omega
          have e2 : ll.take (j + 1) = ll := List.take_of_length_le (by omega)
          rw [e2, hT] at hci
          refine WC.exit (WX.seq_exit (WX.loop_exit (WX.block_hit (WX.seq (WC.seq (WC.region (WO.step rfl ?_)))))))
          refine OR.move rfl (WO.step rfl (OR.assign rfl (WO.done (WX.seq (WC.ret ?_)))))
          refine WX.ret1 rfl rfl ?_
          have hp := hs.publish hg
          refine .mk hp ?_
          have := Bytes.block (l := ll.flatten) (cap := T) (Hp.put_same H0 g (.cells c 5)) (by rw [hT]; exact hci) (by omega)
          rw [hT] at this
          exact this
end Go.Bw
namespace Go.Bw
set_option linter.unusedVariables false
set_option linter.unusedSimpArgs false
open Go.Proofs
set_option maxRecDepth 20000 in
set_option maxHeartbeats 2000000 in
theorem ptake1_ok (gs : Nat) (s : Nat) (vx : Value) (l : List UInt8) (H0 : Hp) (w0 : World) (h0 : Sub H0 w0) (hc : hcell H0 ⟨gs, 0, none⟩ = some (.int .i64 (s : Int))) (hx : Bytes H0 vx l) :
    Calls Tryz.prog 154 #[vx, ptr gs] w0 (Pure H0 w0 fun v _ => v = .bool (decide (l.length ≠ s))) := by
  have hs := HS.init h0
  obtain ⟨b1, c1, rfl⟩ := hx.form
  refine Calls.enter (args := [.slice b1 l.length c1, ptr gs]) Tryz.func154 rfl Tryz.ntmps154 rfl ?_
  refine WC.seq (WC.region (WO.step rfl (OR.assign rfl (WO.done (WX.seq (WC.seq (WC.region ?_)))))))
  refine WO.step rfl (OR.move rfl (WO.step rfl (OR.lenSlice T43.und rfl ?_)))
  refine WO.step rfl (OR.load T3 rfl rfl (hs.cell hc) ?_)
  refine WO.step rfl (OR.neq rfl rfl (WO.step rfl (OR.assign rfl (WO.done (WX.seq (WC.ret ?_))))))
  refine WX.ret1 rfl rfl ?_
  refine .mk hs ?_
  congr 1
  rw [decide_eq_decide]
  omega
set_option maxRecDepth 20000 in
set_option maxHeartbeats 2000000 in
theorem ptake2_ok (x : UInt8) (H0 : Hp) (w0 : World) (h0 : Sub H0 w0) : Calls Tryz.prog 161 #[B x] w0 (Pure H0 w0 fun v _ => v = .bool (decide (x ≠ 0))) := by
  have hs := HS.init h0
  refine Calls.enter (args := [B x]) Tryz.func161 rfl Tryz.ntmps161 rfl ?_
  refine WC.seq (WC.region (WO.step rfl (OR.assign rfl (WO.done (WX.seq (WC.seq (WC.region ?_)))))))
  refine WO.step rfl (OR.move rfl (WO.step rfl (OR.neq rfl rfl (WO.step rfl (OR.assign rfl (WO.done (WX.seq ?_)))))))
  refine WC.ret ?_
  refine WX.ret1 rfl rfl ?_
  refine .mk hs ?_
  congr 1
  rw [decide_eq_decide]
  constructor
  · intro h e; apply h; rw [e]; rfl
  · intro h e; apply h; exact UInt8.toNat.inj (by simpa using e)

set_option maxRecDepth 20000 in
set_option maxHeartbeats 2000000 in
theorem containsB_ok (v : Value) (l : List UInt8) (p : UInt8 → Bool) (f : FuncId) (cap : List Value) (H0 : Hp) (w0 : World) (h0 : Sub H0 w0) (hv : Bytes H0 v l) (hl : l.length < 9223372036854775807) (hbf : Body Tryz.prog f)
    (hf : ∀ (x : UInt8) H w, Hp.le H0 H → Sub H w → Calls Tryz.prog f ([B x] ++ cap).toArray w (Pure H w fun v _ => v = .bool (p x))) :
    Calls Tryz.prog 160 #[v, .func (.func f) #[] cap.toArray] w0 (Pure H0 w0 fun v _ => v = .bool (decide (idxFrom p l 0 ≥ 0))) := by
  have hs := HS.init h0
  have hle := Hp.le.refl H0
  refine Calls.enter (args := [v, .func (.func f) #[] cap.toArray]) Tryz.func160 rfl Tryz.ntmps160 rfl ?_
  refine WC.seq (WC.region (WO.step rfl (OR.assign rfl (WO.done (WX.seq (WC.seq (WC.region ?_)))))))
  refine WO.step rfl (OR.move rfl (WO.step rfl (OR.move rfl ?_)))
  refine WO.step rfl (OR.call hs body147 rfl rfl (indexFunc_ok v l p f cap _ _ hs.toSub hv hl hbf hf) ?_)
  clear hs; rintro _ H w hs hle1 rfl; replace hle := hle.trans hle1; (try replace hlb := hlb.trans hle1)
  refine WO.step rfl (OR.geq rfl rfl (WO.step rfl (OR.assign rfl (WO.done (WX.seq (WC.ret ?_))))))
  refine WX.ret1 rfl rfl ?_
  exact .mk hs rfl
end Go.Bw
