/- Slices of rows: Clone, Insert, EqualFunc. -/
import Derived.Test.YtdibepkfgemddaaGreatBasis2
import Derived.Test.YtdibepkfgemddaaGreatOps3
namespace Go.Bw
set_option linter.unusedVariables false
set_option linter.unusedSimpArgs false
open Go.Proofs

set_option maxRecDepth 20000 in
set_option maxHeartbeats 2000000 in
theorem cloneRows_ok (v : Value) (n : Nat) (cs : List Value) (H0 : Hp) (w0 : World) (h0 : Sub H0 w0) (hv : Sl H0 2 v n cs) (h1 : cs.all (·.oneCell') = true) (hl : n ≤ 100000) :
    Calls Tryz.prog 124 #[v] w0 (Ret [] H0 w0 fun v H' M' => H' = H0 ∧ Own w0.heap.size 45 2 v n cs M') := by
  have hs := HS.init h0
  obtain ⟨base, cp, rfl⟩ := hv.form
  refine Calls.enter (args := [.slice base n cp]) Tryz.func124 rfl Tryz.ntmps124 rfl ?_
  refine WC.seq (WC.region (WO.step rfl (OR.assign rfl (WO.done (WX.seq (WC.seq (WC.seq ?_)))))))
  refine WC.region (WO.step rfl (OR.move rfl (WO.step rfl (OR.eqlNil T97.und rfl rfl (WO.done (WX.seq ?_))))))
  refine WC.cond rfl (fun hb => ?_) (fun hb => ?_)
  · refine WC.seq (WC.region (WO.step rfl (OR.assign rfl (WO.done (WX.seq (WC.ret (WX.seq_ret ?_)))))))
    refine WX.ret1 rfl rfl ?_
    have hb' : base = none := by cases base with | none => rfl | some a => cases hb
    subst hb'
    have h2 := Sl.src0 hv rfl
    subst h2
    refine ⟨_, H0, [], rfl, hs, by simp, rfl, ?_⟩
    have : cs = [] := List.eq_nil_of_length_eq_zero (by simpa using hv.1)
    subst this
    exact Own.nil _ _ _
  · refine WC.skip (WX.seq (WC.seq (WC.region ?_)))
    refine WO.step rfl (OR.buildSlice (vs := []) hs T97.und T45 rfl rfl rfl rfl (by simp) ?_)
    clear hs; intro g1 w hg1 hs
    refine WO.step rfl (OR.move rfl ?_)
    refine WO.step rfl (OR.append (n := 0) (cs := []) (news := cs) (Mo := [_]) (M := []) hs (Own.block (cap := 0) (by omega) rfl rfl hg1) T97.und T45 rfl (by omega) rfl rfl hv.1 (Sl.src hv hs) (Sl.src0 hv) h1 (by omega) (by omega) ?_)
    clear hs; intro v' w Mo hs ho hge
    refine WO.step rfl (OR.assign rfl (WO.done (WX.seq (WC.ret ?_))))
    refine WX.ret1 rfl rfl ?_
    rw [Nat.zero_add, List.nil_append] at ho
    refine ⟨_, H0, Mo, rfl, by simpa using hs, ?_, rfl, ho⟩
    rcases ho.2 with ⟨rfl, _⟩ | ⟨g, c, cap, rfl, _⟩ <;> simp

theorem take_ins (cs Z : List Value) (a b : Value) (n i : Nat) (hl : cs.length = n * 2) (hi : i < n) (hz : 2 ≤ Z.length + i * 2) (h9 : i * 2 + Z.length ≥ (n + 1) * 2) :
    (setL (setL (cs.take (i * 2) ++ Z) (i * 2) [a, b]) ((i + 1) * 2) (cs.drop (i * 2))).take ((n + 1) * 2) = cs.take (i * 2) ++ [a, b] ++ cs.drop (i * 2) := by
  have e1 : (cs.take (i * 2)).length = i * 2 := by rw [List.length_take]; omega
  have e2 : (cs.drop (i * 2)).length = (n - i) * 2 := by rw [List.length_drop, hl, ← Nat.sub_mul]
  rw [setL_at [a, b] _ _ (by simp [e1]; omega)]
  rw [show (cs.take (i * 2) ++ Z).take (i * 2) = cs.take (i * 2) by rw [List.take_left' e1]]
  rw [setL_at _ _ _ (by simp [e1, e2]; omega)]
  have e3 : (cs.take (i * 2) ++ [a, b]).length = (i + 1) * 2 := by simp [e1]; omega
  rw [List.take_left' e3]
  rw [List.take_left' (by simp only [List.length_append, e1, e2, List.length_cons, List.length_nil]; omega)]

theorem take_ins2 (cc : List Value) (a b : Value) (n i : Nat) (hl : (n + 1) * 2 ≤ cc.length) (hi : i < n) :
    (setL (setL cc ((i + 1) * 2) ((cc.take (n * 2)).drop (i * 2))) (i * 2) [a, b]).take ((n + 1) * 2) = (cc.take (n * 2)).take (i * 2) ++ [a, b] ++ (cc.take (n * 2)).drop (i * 2) := by
  have e2 : ((cc.take (n * 2)).drop (i * 2)).length = (n - i) * 2 := by rw [List.length_drop, List.length_take, Nat.min_eq_left (by omega), ← Nat.sub_mul]
  have e1 : (cc.take (i * 2)).length = i * 2 := by rw [List.length_take]; omega
  have e3 : (cc.take ((i + 1) * 2)).length = (i + 1) * 2 := by rw [List.length_take]; omega
  have A : (cc.take ((i + 1) * 2) ++ (cc.take (n * 2)).drop (i * 2) ++ cc.drop ((i + 1) * 2 + ((cc.take (n * 2)).drop (i * 2)).length)).take (i * 2) = (cc.take (n * 2)).take (i * 2) := by
    rw [List.append_assoc, List.take_append_of_le_length (by omega), List.take_take, List.take_take]
    congr 1; omega
  have B : (cc.take ((i + 1) * 2) ++ (cc.take (n * 2)).drop (i * 2) ++ cc.drop ((i + 1) * 2 + ((cc.take (n * 2)).drop (i * 2)).length)).drop (i * 2 + [a, b].length) = (cc.take (n * 2)).drop (i * 2) ++ cc.drop ((i + 1) * 2 + ((cc.take (n * 2)).drop (i * 2)).length) := by
    rw [List.append_assoc, List.drop_left' (by rw [e3]; simp; omega)]
  rw [setL_at _ cc _ (by rw [e2]; omega), setL_at [a, b] _ _ (by simp [e2, e3]; omega), A, B, ← List.append_assoc]
  have e1' : ((cc.take (n * 2)).take (i * 2)).length = i * 2 := by rw [List.length_take, List.length_take]; omega
  rw [List.take_left' (by simp only [List.length_append, e1', e2, List.length_cons, List.length_nil]; omega)]

set_option maxRecDepth 20000 in
set_option maxHeartbeats 2000000 in
theorem insRows_ok (N n i : Nat) (rv a b : Value) (cs : List Value) (Mo : Mem) (gv : Nat) (H0 : Hp) (w0 : World) (h0 : Sub H0 w0) (hi : i ≤ n) (ho : Own N 45 2 rv n cs Mo) (hN : N ≤ w0.heap.size)
    (hM : ∀ q ∈ Mo, w0.heap[q.1]? = some q.2.1 ∧ H0 q.1 = none) (hgv : w0.heap[gv]? = some (.cells #[a, b] 45)) (hgn : H0 gv = none) (hne : ∀ q ∈ Mo, gv ≠ q.1)
    (h1 : a.oneCell' = true) (h2 : b.oneCell' = true) (hcs : cs.all (·.oneCell') = true) (hn : n ≤ 255) :
    Calls Tryz.prog 126 #[rv, .int .i64 (i : Int), .slice (some ⟨gv, 0, none⟩) 1 1] w0
      (Ret (Mem.keys Mo) H0 w0 fun v H' M' => Own N 45 2 v (n + 1) (cs.take (i * 2) ++ [a, b] ++ cs.drop (i * 2)) M') := by
  have hnews : ∀ w : World, w.heap[gv]? = some (.cells #[a, b] 45) → ∀ ad, some (⟨gv, 0, none⟩ : Addr) = some ad → ∀ j u, [a, b][j]? = some u → w.cell? (ad.add j) = some u := fun w h => cells_of h
  have hab : [a, b].all (·.oneCell') = true := by simp [h1, h2]
  rcases Nat.lt_or_ge i n with hlt | hge
  · obtain ⟨hcl, ⟨rfl, ⟨b9, rfl⟩, rfl⟩ | ⟨g, c, cap, rfl, rfl, hnc, hc, hx, hg⟩⟩ := ho
    · omega
    have hgb := (hM _ (List.mem_singleton_self _)).1
    have hgn' := (hM _ (List.mem_singleton_self _)).2
    have hgg := hne _ (List.mem_singleton_self _)
    simp only at hgb hgn' hgg
    have hs : HS [g] H0 w0 H0 [(g, .cells c 45, true), (gv, .cells #[a, b] 45, false)] w0 :=
      HS.start2 h0 hgb hgn' hgv hgn hgg rfl
    refine Calls.enter (args := [.slice (some ⟨g, 0, none⟩) n cap, .int .i64 (i : Int), .slice (some ⟨gv, 0, none⟩) 1 1]) Tryz.func126 rfl Tryz.ntmps126 rfl ?_
    refine WC.seq (WC.region (WO.step rfl (OR.assign rfl (WO.done (WX.seq (WC.seq (WC.region ?_)))))))
    refine WO.step rfl (OR.move rfl (WO.step rfl (OR.move rfl ?_)))
    refine WO.step rfl (OR.sliceLoG i T97.und T45 rfl rfl rfl hi ?_)
    refine WO.done (WX.seq (WC.seq (WC.region (WO.step rfl (OR.move rfl (WO.step rfl (OR.lenSlice T97.und rfl ?_)))))))
    refine WO.step rfl (OR.assign rfl (WO.done (WX.seq (WC.seq (WC.seq (WC.region (WO.step rfl ?_)))))))
    refine OR.move rfl (WO.step rfl (OR.eql rfl rfl (WO.done (WX.seq ?_))))
    refine WC.no rfl (decide_eq_false (by omega)) ?_
    refine WC.skip (WX.seq (WC.seq (WC.region (WO.step rfl (OR.move rfl (WO.step rfl (OR.lenSlice T97.und rfl ?_)))))))
    refine WO.step rfl (OR.assign rfl (WO.done (WX.seq (WC.seq (WC.seq (WC.region (WO.step rfl ?_)))))))
    refine OR.move rfl (WO.step rfl (OR.move rfl (WO.step rfl (OR.eql rfl rfl (WO.done (WX.seq ?_))))))
    refine WC.no rfl (decide_eq_false (by omega)) ?_
    refine WC.skip (WX.seq (WC.seq (WC.seq (WC.region (WO.step rfl (OR.move rfl (WO.step rfl ?_)))))))
    refine OR.move rfl (WO.step rfl (OR.addI rfl rfl (by omega) (by omega) (WO.step rfl (OR.move rfl (WO.step rfl (OR.capSlice T97.und rfl (WO.step rfl ?_)))))))
    refine OR.gtr rfl rfl (WO.done (WX.seq ?_))
    refine WC.condD rfl (fun hroom => ?_) (fun hroom => ?_)
    · refine WC.seq (WC.region (WO.step rfl (OR.move rfl (WO.step rfl (OR.move rfl ?_)))))
      refine WO.step rfl (OR.sliceHi i T97.und T45 rfl rfl rfl (by omega) ?_)
      refine WO.step rfl (OR.move rfl (WO.step rfl (OR.move rfl (WO.step rfl (OR.addI rfl rfl (by omega) (by omega) (WO.step rfl (OR.move rfl ?_)))))))
      refine WO.step rfl (OR.subI rfl rfl (by omega) (by omega) ?_)
      refine WO.step rfl (OR.appendZeros (l := i) (m := n + 1 - i) (cs := cs.take (i * 2)) hN hs T97.und T45 rfl (by omega) T3.und rfl rfl (by omega) (by rw [List.length_take]; omega) (fun ad hb j u hj => by subst hx; exact cells_of hgb ad hb j u (get_take (get_take hj))) (by simp) (by omega) (by omega) (by omega) (by omega) ?_)
      clear hs; intro g2 w c2 Z hg2 hc2 hZ hs
      have hZ' : Z.length + i * 2 = c2 * 2 := by rw [hZ, ← Nat.add_mul]; congr 1; omega
      have e1 : (cs.take (i * 2)).length = i * 2 := by rw [List.length_take]; omega
      have hgw := hs.blk (i := 2) rfl
      refine WO.step rfl (OR.assign rfl (WO.done (WX.seq (WC.seq (WC.region (WO.step rfl (OR.move rfl ?_)))))))
      refine WO.step rfl (OR.move rfl ?_)
      refine WO.step rfl (OR.sliceLo i T97.und T45 rfl rfl rfl (by omega) (by omega) ?_)
      refine WO.step rfl (OR.move rfl ?_)
      refine WO.step rfl (OR.copy hs [a, b] T97.und T45 rfl rfl (by rw [natmin (c := 1) (by omega)]; rfl) (hnews _ hgw _ rfl) (by simp only [List.size_toArray, List.length_append, e1, List.length_cons, List.length_nil]; omega) hab ?_)
      clear hs; intro w hs
      have hgw := hs.blk (i := 1) rfl
      refine WO.done (WX.seq (WC.seq ?_))
      refine WC.draw 8 mixed hs (by kernel_rfl) ?_
      refine ⟨MF.eq _, by intro Mx H w hle hs; refine forVals_nil (ORg.plain (OR.move rfl ?_)); exact ⟨_, [], Hp.le.refl _, hs, rfl, rfl⟩, ?_⟩
      refine ⟨MF.eq _, by intro Mx H w hle hs; refine forVals_nil (ORg.plain (OR.move rfl ?_)); exact ⟨_, [], Hp.le.refl _, hs, rfl, rfl⟩, ?_⟩
      refine ⟨MF.eq _, by intro Mx H w hle hs; refine forVals_nil (ORg.plain (OR.move rfl ?_)); exact ⟨_, [], Hp.le.refl _, hs, rfl, rfl⟩, ?_⟩
      refine ⟨MF.eq _, by intro Mx H w hle hs; refine forVals_eq rfl rfl rfl ?_; refine forVals_eq rfl rfl rfl ?_; refine forVals_nil (ORg.plain (OR.addI rfl rfl (by omega) (by omega) ?_)); exact ⟨_, [], Hp.le.refl _, hs, rfl, rfl⟩, ?_⟩
      refine ⟨MF.eq (.slice (some ⟨g2, 0 + (i + 1) * 2, none⟩) (i + (n + 1 - i) - (i + 1)) (c2 - (i + 1))), ?_, ?_⟩
      · intro Mx H w hle2 hs; (try replace hle := hle.trans hle2); (try replace hlb := hlb.trans hle2); refine forVals_eq rfl rfl rfl ?_; refine forVals_eq rfl rfl rfl ?_
        refine forVals_nil (ORg.plain (OR.sliceLo (i + 1) T97.und T45 rfl rfl (by omega) (by omega) (by omega) ?_))
        exact ⟨_, [], Hp.le.refl _, hs, rfl, rfl⟩
      refine ⟨MF.eq _, by intro Mx H w hle hs; refine forVals_nil (ORg.plain (OR.move rfl ?_)); exact ⟨_, [], Hp.le.refl _, hs, rfl, rfl⟩, ?_⟩
      refine ⟨MF.eq _, by intro Mx H w hle hs; refine forVals_nil (ORg.plain (OR.move rfl ?_)); exact ⟨_, [], Hp.le.refl _, hs, rfl, rfl⟩, ?_⟩
      refine ⟨MF.eq (.slice (some ⟨g, 0 + i * 2, none⟩) (n - i) (cap - i)), ?_, ?_⟩
      · intro Mx H w hle2 hs; (try replace hle := hle.trans hle2); (try replace hlb := hlb.trans hle2); refine forVals_eq rfl rfl rfl ?_; refine forVals_eq rfl rfl rfl ?_
        refine forVals_nil (ORg.plain (OR.sliceLo i T97.und T45 rfl rfl rfl (by omega) (by omega) ?_))
        exact ⟨_, [], Hp.le.refl _, hs, rfl, rfl⟩
      intro H w hle2; (try replace hle := hle.trans hle2); (try replace hlb := hlb.trans hle2)
      refine forAllVals_eq rfl ?_
      refine forAllVals_eq rfl ?_
      refine forAllVals_eq rfl ?_
      refine forAllVals_eq rfl ?_
      refine forAllVals_eq rfl ?_
      refine forAllVals_eq rfl ?_
      refine forAllVals_eq rfl ?_
      refine forAllVals_eq rfl ?_
      refine forAllVals_nil ?_; (try clear hs); intro hs
      have hgw := hs.blk (i := 1) rfl
      refine WO.step rfl (OR.copy hs (cs.drop (i * 2)) T97.und T45 rfl rfl (by rw [List.length_drop, natmin (a := n - i) (b := i + (n + 1 - i) - (i + 1)) (c := n - i) (by omega), Nat.sub_mul]; omega) (fun j u hj => by subst hx; rw [Nat.zero_add]; exact cells_at hgw (get_take (get_drop hj))) (by simp only [List.size_toArray, setL_length, List.length_append, e1, List.length_drop]; omega) (List.all_eq_true.2 fun v hv => List.all_eq_true.1 hcs v (List.mem_of_mem_drop hv)) ?_)
      clear hs; intro w hs
      refine WO.done (WX.seq (WC.seq (WC.region (WO.step rfl (OR.move rfl (WO.step rfl (OR.assign rfl ?_)))))))
      refine WO.done (WX.seq (WC.ret (WX.seq_ret ?_)))
      refine WX.ret1 rfl rfl ?_
      have e9 : i + (n + 1 - i) = n + 1 := by omega
      rw [e9]
      refine ⟨_, H, [_], rfl, (hs.drop 2).drop 1, by simp, Own.block (by omega) (by simp [setL_length, e1]; omega) ?_ hg2⟩
      simp only [Nat.zero_add]
      exact take_ins cs Z a b n i hcl hlt (by omega) (by omega)
    · refine WC.skip (WX.seq (WC.seq (WC.region (WO.step rfl (OR.move rfl (WO.step rfl (OR.move rfl ?_)))))))
      refine WO.step rfl (OR.move rfl (WO.step rfl (OR.addI rfl rfl (by omega) (by omega) ?_)))
      refine WO.step rfl (OR.sliceHi (n + 1) T97.und T45 rfl rfl rfl (by omega) ?_)
      refine WO.step rfl (OR.assign rfl (WO.done (WX.seq (WC.seq (WC.seq (WC.region (WO.step rfl ?_)))))))
      refine OR.move rfl (WO.step rfl (OR.move rfl (WO.step rfl (OR.move rfl (WO.step rfl (OR.move rfl (WO.step rfl ?_)))))))
      refine OR.addI rfl rfl (by omega) (by omega) ?_
      refine WO.step rfl (OR.sliceLo (i + 1) T97.und T45 rfl rfl rfl (by omega) (by omega) ?_)
      refine WO.step rfl (OR.callAt rfl rfl (apart_run (P := Tryz.prog) Tryz.func167 rfl rfl rfl rfl T97.und T45 hgv hgb hgg (by omega)) ?_)
      refine WO.step rfl (OR.not rfl (WO.done (WX.seq ?_)))
      refine WC.yes rfl rfl ?_
      have hdl : ((c.toList.take (n * 2)).drop (i * 2)).length = (n - i) * 2 := by rw [List.length_drop, List.length_take, Array.length_toList, Nat.min_eq_left (by omega), ← Nat.sub_mul]
      refine WC.seq ?_
      refine WC.draw 8 mixed hs (by kernel_rfl) ?_
      refine ⟨MF.eq _, by intro Mx H w hle hs; refine forVals_nil (ORg.plain (OR.move rfl ?_)); exact ⟨_, [], Hp.le.refl _, hs, rfl, rfl⟩, ?_⟩
      refine ⟨MF.eq _, by intro Mx H w hle hs; refine forVals_nil (ORg.plain (OR.move rfl ?_)); exact ⟨_, [], Hp.le.refl _, hs, rfl, rfl⟩, ?_⟩
      refine ⟨MF.eq _, by intro Mx H w hle hs; refine forVals_nil (ORg.plain (OR.move rfl ?_)); exact ⟨_, [], Hp.le.refl _, hs, rfl, rfl⟩, ?_⟩
      refine ⟨MF.eq _, by intro Mx H w hle hs; refine forVals_eq rfl rfl rfl ?_; refine forVals_eq rfl rfl rfl ?_; refine forVals_nil (ORg.plain (OR.addI rfl rfl (by omega) (by omega) ?_)); exact ⟨_, [], Hp.le.refl _, hs, rfl, rfl⟩, ?_⟩
      refine ⟨MF.eq (.slice (some ⟨g, 0 + (i + 1) * 2, none⟩) (n + 1 - (i + 1)) (cap - (i + 1))), ?_, ?_⟩
      · intro Mx H w hle2 hs; (try replace hle := hle.trans hle2); (try replace hlb := hlb.trans hle2); refine forVals_eq rfl rfl rfl ?_; refine forVals_eq rfl rfl rfl ?_
        refine forVals_nil (ORg.plain (OR.sliceLo (i + 1) T97.und T45 rfl rfl (by omega) (by omega) (by omega) ?_))
        exact ⟨_, [], Hp.le.refl _, hs, rfl, rfl⟩
      refine ⟨MF.eq _, by intro Mx H w hle hs; refine forVals_nil (ORg.plain (OR.move rfl ?_)); exact ⟨_, [], Hp.le.refl _, hs, rfl, rfl⟩, ?_⟩
      refine ⟨MF.eq _, by intro Mx H w hle hs; refine forVals_nil (ORg.plain (OR.move rfl ?_)); exact ⟨_, [], Hp.le.refl _, hs, rfl, rfl⟩, ?_⟩
      refine ⟨MF.eq (.slice (some ⟨g, 0 + i * 2, none⟩) (n + 1 - i) (cap - i)), ?_, ?_⟩
      · intro Mx H w hle2 hs; (try replace hle := hle.trans hle2); (try replace hlb := hlb.trans hle2); refine forVals_eq rfl rfl rfl ?_; refine forVals_eq rfl rfl rfl ?_
        refine forVals_nil (ORg.plain (OR.sliceLo i T97.und T45 rfl rfl rfl (by omega) (by omega) ?_))
        exact ⟨_, [], Hp.le.refl _, hs, rfl, rfl⟩
      intro H w hle2; (try replace hle := hle.trans hle2); (try replace hlb := hlb.trans hle2)
      refine forAllVals_eq rfl ?_
      refine forAllVals_eq rfl ?_
      refine forAllVals_eq rfl ?_
      refine forAllVals_eq rfl ?_
      refine forAllVals_eq rfl ?_
      refine forAllVals_eq rfl ?_
      refine forAllVals_eq rfl ?_
      refine forAllVals_eq rfl ?_
      refine forAllVals_nil ?_; (try clear hs); intro hs
      have hgw := hs.blk (i := 0) rfl
      refine WO.step rfl (OR.copy hs ((c.toList.take (n * 2)).drop (i * 2)) T97.und T45 rfl rfl (by rw [hdl, natmin (a := n + 1 - i) (b := n + 1 - (i + 1)) (c := n - i) (by omega)]) (fun j u hj => by rw [Nat.zero_add]; exact cells_at hgw (get_take (get_drop hj))) (by rw [hdl]; omega) (by rw [hx]; exact List.all_eq_true.2 fun v hv => List.all_eq_true.1 hcs v (List.mem_of_mem_drop hv)) ?_)
      clear hs; intro w hs
      have hgw := hs.blk (i := 1) rfl
      refine WO.done (WX.seq (WC.seq (WC.region (WO.step rfl (OR.move rfl (WO.step rfl (OR.move rfl ?_)))))))
      refine WO.step rfl (OR.sliceLo i T97.und T45 rfl rfl rfl (by omega) (by omega) ?_)
      refine WO.step rfl (OR.move rfl ?_)
      refine WO.step rfl (OR.copy hs [a, b] T97.und T45 rfl rfl (by rw [natmin (c := 1) (by omega)]; rfl) (hnews _ hgw _ rfl) (by simp only [List.size_toArray, setL_length, Array.length_toList, List.length_cons, List.length_nil]; omega) hab ?_)
      clear hs; intro w hs
      refine WO.done (WX.seq (WC.seq (WC.region (WO.step rfl (OR.move rfl (WO.step rfl (OR.assign rfl ?_)))))))
      refine WO.done (WX.seq (WC.ret (WX.seq_ret ?_)))
      refine WX.ret1 rfl rfl ?_
      refine ⟨_, H, [_], rfl, hs.drop 1, by simp, Own.block (by omega) (by simp [setL_length, hc]) ?_ hg⟩
      simp only [Nat.zero_add]
      subst hx
      exact take_ins2 c.toList a b n i (by rw [Array.length_toList]; omega) hlt
  · have : i = n := by omega
    subst this
    have hM' : ∀ q ∈ Mo, q.2.2 = true := ho.tt
    have hs : HS (Mem.keys Mo) H0 w0 H0 (Mo ++ [(gv, .cells #[a, b] 45, false)]) w0 := by
      refine HS.start _ h0 (fun q o t hm => ?_) ?_
      · rcases List.mem_append.1 hm with hm | hm
        · exact ⟨(hM _ hm).1, (hM _ hm).2, fun _ => List.mem_map.2 ⟨_, hm, rfl⟩⟩
        · have := List.mem_singleton.1 hm; cases this; exact ⟨hgv, hgn, fun h => by cases h⟩
      · rcases ho.2 with ⟨rfl, _⟩ | ⟨g, c, cap, rfl, _⟩
        · simp [Mem.keys]
        · have := hne _ (List.mem_singleton_self _); simp [Mem.keys]; exact Ne.symm this
    obtain ⟨br, cr, rfl⟩ := ho.form
    refine Calls.enter (args := [.slice br i cr, .int .i64 (i : Int), .slice (some ⟨gv, 0, none⟩) 1 1]) Tryz.func126 rfl Tryz.ntmps126 rfl ?_
    refine WC.seq (WC.region (WO.step rfl (OR.assign rfl (WO.done (WX.seq (WC.seq (WC.region ?_)))))))
    refine WO.step rfl (OR.move rfl (WO.step rfl (OR.move rfl ?_)))
    refine WO.step rfl (OR.sliceLoG i T97.und T45 rfl rfl rfl (Nat.le_refl _) ?_)
    refine WO.done (WX.seq (WC.seq (WC.region (WO.step rfl (OR.move rfl (WO.step rfl (OR.lenSlice T97.und rfl ?_)))))))
    refine WO.step rfl (OR.assign rfl (WO.done (WX.seq (WC.seq (WC.seq (WC.region (WO.step rfl ?_)))))))
    refine OR.move rfl (WO.step rfl (OR.eql rfl rfl (WO.done (WX.seq ?_))))
    refine WC.no rfl (decide_eq_false (by omega)) ?_
    refine WC.skip (WX.seq (WC.seq (WC.region (WO.step rfl (OR.move rfl (WO.step rfl (OR.lenSlice T97.und rfl ?_)))))))
    refine WO.step rfl (OR.assign rfl (WO.done (WX.seq (WC.seq (WC.seq (WC.region (WO.step rfl ?_)))))))
    refine OR.move rfl (WO.step rfl (OR.move rfl (WO.step rfl (OR.eql rfl rfl (WO.done (WX.seq ?_))))))
    refine WC.yes rfl (decide_eq_true rfl) ?_
    refine WC.seq (WC.region (WO.step rfl (OR.move rfl (WO.step rfl (OR.move rfl ?_)))))
    refine WO.step rfl (OR.appendN (m := 1) (news := [a, b]) hN hs ho T97.und T45 rfl (by omega) rfl rfl rfl (hnews _ hgv) (fun h => by cases h) hab (by omega) (by omega) ?_)
    have ho0 := ho
    clear hs ho; intro vo' w Mo' hs ho hge
    replace hs := hs.dropMid
    refine WO.step rfl (OR.assign rfl (WO.done (WX.seq (WC.ret (WX.seq_ret ?_)))))
    refine WX.ret1 rfl rfl ?_
    refine ⟨_, H0, Mo', rfl, by simpa using hs, ho.tt, ?_⟩
    have e1 : i * 2 = cs.length := ho0.1.symm
    rw [e1, List.take_length, List.drop_length, List.append_nil]
    exact ho

end Go.Bw
