/- Matrices: Size, Reduce, Rank walked. -/
import Derived.Test.YtbgdgmilcojlbaaMatrix
import Derived.Test.YtbgdgmilcojlbaaDrawL
namespace Go.Bw
set_option linter.unusedVariables false
set_option linter.unusedSimpArgs false
open Go.Proofs

/-- Cells that hold rows of bytes. -/
def MatF (H : Hp) (c : Array Value) (n : Nat) (f : Nat → List UInt8) : Prop := ∀ i, i < n → ∃ v, c.toList[i]? = some v ∧ Bytes H v (f i)
theorem MatF.mono {H H' : Hp} {c : Array Value} {n : Nat} {f : Nat → List UInt8} (h : MatF H c n f) (hle : Hp.le H H') : MatF H' c n f := by
  intro i hi
  obtain ⟨v, h1, h2⟩ := h i hi
  exact ⟨v, h1, h2.mono hle⟩
theorem MatF.congr {H : Hp} {c : Array Value} {n : Nat} {f f' : Nat → List UInt8} (h : MatF H c n f) (he : ∀ i, i < n → f i = f' i) : MatF H c n f' := by
  intro i hi
  obtain ⟨v, h1, h2⟩ := h i hi
  exact ⟨v, h1, by rw [← he i hi]; exact h2⟩
theorem setL_one (l : List Value) (k : Nat) (v : Value) : setL l k [v] = l.set k v := by rw [setL_step, setL_nil]
theorem MatF.set {H : Hp} {c : Array Value} {n : Nat} {f : Nat → List UInt8} (h : MatF H c n f) (k : Nat) (hk : k < c.size) {v : Value} {l : List UInt8} (hv : Bytes H v l) :
    MatF H (setL c.toList k [v]).toArray n (fun j => if j = k then l else f j) := by
  intro i hi
  rw [List.toList_toArray, setL_one]
  by_cases e : i = k
  · subst e
    refine ⟨v, by rw [List.getElem?_set_self (by simpa using hk)], ?_⟩
    simp only [if_pos]
    exact hv
  · obtain ⟨u, h1, h2⟩ := h i hi
    refine ⟨u, by rw [List.getElem?_set_ne (Ne.symm e)]; exact h1, ?_⟩
    simp only [if_neg e]
    exact h2
theorem HS.startW {H : Hp} {w : World} {g g' : Nat} {o o' : Obj} (h : Sub H w) (hg : w.heap[g]? = some o) (hn : H g = none) (hg' : w.heap[g']? = some o') (hn' : H g' = none) (hne : g ≠ g') : HS [g, g'] H w H [(g, o, true), (g', o', true)] w := by
  refine HS.start [g, g'] h (fun q o2 t hm => ?_) (by simp [Mem.keys]; exact hne)
  rcases List.mem_cons.1 hm with e | hm
  · cases e; exact ⟨hg, hn, fun _ => by simp⟩
  · have := List.mem_singleton.1 hm; cases this; exact ⟨hg', hn', fun _ => by simp⟩

/-- A published block, owned again. -/
theorem HS.unpub {xs : List Nat} {H0 H : Hp} {w0 w : World} {M : Mem} {g : Nat} {o : Obj} (h0 : Sub H0 w0) (hs : HS xs H0 w0 H M w) (hg : H g = some o) (hnew : w0.heap.size ≤ g) : HS xs H0 w0 (H.del g) ((g, o, true) :: M) w := by
  refine ⟨fun b u hb => ?_, fun b u hb => ?_, fun b u hb => ?_, hs.keep, hs.size, hs.os, hs.tape, hs.out, fun q u t hm => ?_, ?_⟩
  · have hne : b ≠ g := fun e => by
      have := lt_of_heap (h0 b u hb)
      omega
    unfold Hp.del
    rw [if_neg hne]
    exact hs.le b u hb
  · unfold Hp.del at hb
    split at hb
    · cases hb
    · exact hs.sub b u hb
  · unfold Hp.del at hb
    split at hb
    · cases hb
    · exact hs.new b u hb
  · rcases List.mem_cons.1 hm with e | hm
    · cases e
      exact ⟨hs.sub _ _ hg, by simp [Hp.del], fun _ => .inr hnew⟩
    · have h1 := hs.mem q u t hm
      refine ⟨h1.1, ?_, h1.2.2⟩
      unfold Hp.del
      split
      · rfl
      · exact h1.2.1
  · refine List.nodup_cons.2 ⟨?_, hs.nd⟩
    intro hm
    obtain ⟨⟨q, u, t⟩, h1, h2⟩ := List.mem_map.1 hm
    have h3 := (hs.mem q u t h1).2.1
    simp at h2
    subst h2
    rw [hg] at h3
    cases h3
theorem Hp.le_del {H H' : Hp} {g : Nat} (h : Hp.le H H') (hg : H g = none) : Hp.le H (H'.del g) := by
  intro b u hb
  have hne : b ≠ g := fun e => by rw [e, hg] at hb; cases hb
  unfold Hp.del
  rw [if_neg hne]
  exact h b u hb
theorem cells_ne {c c' : Array Value} {e e' : TypeId} {x y : Nat × Nat} (h : some (Obj.cells c e x) = some (Obj.cells c' e' y)) (hne : e ≠ e') : False := by
  cases h
  exact hne rfl

set_option maxRecDepth 20000 in
set_option maxHeartbeats 2000000 in
theorem msize_ok (v : Value) (R : List (List UInt8)) (n : Nat) (H0 : Hp) (w0 : World) (h0 : Sub H0 w0) (hv : BytesL H0 v R) (h1 : 0 < R.length) (h2 : R.length ≤ 1000000) (hR : ∀ r ∈ R, r.length = n) :
    Calls Try.prog 137 #[v] w0 (Pure H0 w0 fun v _ => v = .tuple #[.int .i64 (R.length : Int), .int .i64 (n : Int), .int .i64 0]) := by
  have hs := HS.init h0
  have hle := Hp.le.refl H0
  have hv0 := hv
  obtain ⟨b1, c1, rfl⟩ := hv0.form
  refine Calls.enter (args := [.slice b1 R.length c1]) Try.func137 rfl Try.ntmps137 rfl ?_
  refine WC.seq (WC.region (WO.step rfl (OR.assign rfl (WO.step rfl (OR.assign rfl (WO.step rfl (OR.assign rfl ?_)))))))
  refine WO.done (WX.seq (WC.seq (WC.seq (WC.region (WO.step rfl (OR.move rfl (WO.step rfl ?_)))))))
  refine OR.lenSlice T22.und rfl (WO.step rfl (OR.eql rfl rfl (WO.done (WX.seq ?_))))
  refine WC.no rfl (decide_eq_false (by omega)) ?_
  obtain ⟨b, o, rfl, hc⟩ := hv.pos h1
  obtain ⟨e, hce, hbe⟩ := hc 0 h1
  have hl0 : (R[0]).length = n := hR _ (List.getElem_mem _)
  obtain ⟨be, ce, rfl⟩ := hbe.form
  refine WC.skip (WX.seq (WC.seq (WC.region (WO.step rfl (OR.move rfl ?_)))))
  refine WO.step rfl (OR.idx 0 T22.und T23 rfl rfl rfl h1 ?_)
  refine WO.step rfl (OR.load T23 rfl rfl (hs.cell hce) ?_)
  refine WO.step rfl (OR.lenSlice T23.und rfl (WO.step rfl (OR.alloc hs T3 ?_)))
  clear hs; intro g1 w hg1 hs
  refine WO.stepN (OR.storeAll hs T3 rfl rfl rfl rfl rfl ?_)
  clear hs; intro w hs
  refine WO.done (WX.seq (WC.seq (WC.seq (WC.region (WO.step rfl (OR.move rfl (WO.step rfl ?_)))))))
  refine OR.makeFunc rfl rfl ?_
  obtain ⟨H, hle1, hp_g1, hs9⟩ := hs.pub1 hg1; clear hs; have hs := hs9; clear hs9; replace hle := hle.trans hle1; (try replace hlb := hlb.trans hle1)
  have hcs := hcell_of hp_g1 (i := 0) (v := .int .i64 (R[0].length : Int)) rfl
  rw [hl0] at hcs
  refine WO.step rfl (OR.call hs body142 rfl rfl (containsL_ok _ R 174 [ptr g1] _ _ hs.toSub (hv.mono hle) (by omega) body174 (fun i h vx H' w' hl' hH hb => (size1_ok g1 n vx _ H' w' hH (hcell.mono hl' hcs) hb).mono fun e w2 hp => by rw [decide_eq_false (by rw [hR _ (List.getElem_mem h)]; exact fun q => q rfl)] at hp; exact hp)) ?_)
  clear hs; rintro _ H w hs hle1 rfl; replace hle := hle.trans hle1; (try replace hlb := hlb.trans hle1)
  refine WO.done (WX.seq ?_)
  refine WC.no rfl rfl ?_
  replace hcs := hcell.mono hle1 hcs
  refine WC.skip (WX.seq (WC.seq ?_))
  refine WC.sub [(0, .slice (some ⟨b, o, none⟩) R.length c1), (5, ptr g1)] ⟨rfl, rfl,  trivial⟩ ?_
  refine WC.draw 6 mixed hs (by kernel_rfl) ?_
  refine ⟨MF.eq _, by intro Mx H w hle hs; refine forVals_nil (ORg.plain (OR.move rfl ?_)); exact ⟨_, [], Hp.le.refl _, hs, rfl, rfl⟩, ?_⟩
  refine ⟨MF.eq _, by intro Mx H w hle hs; refine forVals_eq rfl rfl rfl ?_; refine forVals_nil (ORg.plain (OR.lenSlice T22.und rfl ?_)); exact ⟨_, [], Hp.le.refl _, hs, rfl, rfl⟩, ?_⟩
  refine ⟨MF.eq (.int .i64 (n : Int)), ?_, ?_⟩
  · intro Mx H w hle2 hs; (try replace hle := hle.trans hle2); (try replace hlb := hlb.trans hle2)
    refine forVals_nil (ORg.plain (OR.load T3 rfl rfl (hs.cell (hcell.mono hle2 hcs)) ?_))
    exact ⟨_, [], Hp.le.refl _, hs, rfl, rfl⟩
  refine ⟨MF.eq _, by intro Mx H w hle hs; refine forVals_eq rfl rfl rfl ?_; refine forVals_nil (ORg.plain (OR.assign rfl ?_)); exact ⟨_, [], Hp.le.refl _, hs, rfl, rfl⟩, ?_⟩
  refine ⟨MF.eq _, by intro Mx H w hle hs; refine forVals_eq rfl rfl rfl ?_; refine forVals_nil (ORg.plain (OR.assign rfl ?_)); exact ⟨_, [], Hp.le.refl _, hs, rfl, rfl⟩, ?_⟩
  refine ⟨MF.eq _, by intro Mx H w hle hs; refine forVals_nil (ORg.plain (OR.assign rfl ?_)); exact ⟨_, [], Hp.le.refl _, hs, rfl, rfl⟩, ?_⟩
  intro H w hle2; (try replace hle := hle.trans hle2); (try replace hlb := hlb.trans hle2)
  refine forAllVals_eq rfl ?_
  refine forAllVals_eq rfl ?_
  refine forAllVals_eq rfl ?_
  refine forAllVals_eq rfl ?_
  refine forAllVals_eq rfl ?_
  refine forAllVals_eq rfl ?_
  refine forAllVals_nil ?_; (try clear hs); intro hs
  refine WO.done (WX.seq (WC.ret ?_))
  refine WX.ret3 rfl rfl rfl rfl ?_
  exact .mk hs rfl

/-- A matrix that is being reduced. -/
def wObj (g n cap d : Nat) : Obj := .cells #[.slice (some ⟨g, 0, none⟩) n cap, .int .i64 (d : Int)] 202
/-- The first k rows freed. -/
def clrF (R : List (List UInt8)) (lead d k : Nat) (i : Nat) : List UInt8 := if i < k ∧ i ≠ d then addS (E R i lead) (R.getD i []) (R.getD d []) else R.getD i []

set_option maxRecDepth 20000 in
set_option maxHeartbeats 2000000 in
theorem clear_ok (R : List (List UInt8)) (lead d b g n cap cols : Nat) (c : Array Value) (H0 : Hp) (w0 : World) (h0 : Sub H0 w0) (hb : w0.heap[b]? = some (wObj g n cap d)) (hnb : H0 b = none)
    (hg : w0.heap[g]? = some (.cells c 23)) (hng : H0 g = none) (hne : b ≠ g) (hc : MatF H0 c n (R.getD · [])) (hn : n = R.length) (hcap : n ≤ c.size) (hd : d < n)
    (hl : ∀ a, a < n → (R.getD a []).length = cols) (hlead : lead < cols) (hcols : cols ≤ 255) (hn6 : n ≤ 1000000) :
    Calls Try.prog 175 #[ptr b, .int .i64 (lead : Int)] w0 (Ret [b, g] H0 w0 fun v H' M' => ∃ c', v = .tuple #[] ∧
      M' = [(b, wObj g n cap (d + 1), true), (g, .cells c' 23, true)] ∧ c'.size = c.size ∧ MatF H' c' n ((gClear lead d R).getD · [])) := by
  have hs := HS.startW h0 hb hnb hg hng hne
  have hle := Hp.le.refl H0
  obtain ⟨vd, hcd, hvd⟩ := hc d hd
  have hld := hl d hd
  obtain ⟨bd, cd, rfl⟩ := hvd.form
  refine Calls.enter (args := [ptr b, .int .i64 (lead : Int)]) Try.func175 rfl Try.ntmps175 rfl ?_
  refine WC.seq ?_
  refine WC.draw 11 mixed hs (by kernel_rfl) ?_
  refine ⟨MF.eq _, by intro Mx H w hle hs; refine forVals_nil (ORg.plain (OR.move rfl ?_)); exact ⟨_, [], Hp.le.refl _, hs, rfl, rfl⟩, ?_⟩
  refine ⟨MF.eq _, by intro Mx H w hle hs; refine forVals_eq rfl rfl rfl ?_; refine forVals_nil (ORg.plain (OR.nilCheck rfl ?_)); exact ⟨_, [], Hp.le.refl _, hs, rfl, rfl⟩, ?_⟩
  refine ⟨MF.eq _, by intro Mx H w hle hs; refine forVals_eq rfl rfl rfl ?_; refine forVals_nil (ORg.plain (OR.fieldAddr FA202_0 rfl ?_)); exact ⟨_, [], Hp.le.refl _, hs, rfl, rfl⟩, ?_⟩
  refine ⟨MF.eq _, by intro Mx H w hle hs; refine forVals_eq rfl rfl rfl ?_; refine forVals_nil (ORg.plain (OR.load T22 rfl rfl (hs.right.cellM (i := 0) rfl rfl) ?_)); exact ⟨_, [], Hp.le.refl _, hs, rfl, rfl⟩, ?_⟩
  refine ⟨MF.eq _, by intro Mx H w hle hs; refine forVals_nil (ORg.plain (OR.move rfl ?_)); exact ⟨_, [], Hp.le.refl _, hs, rfl, rfl⟩, ?_⟩
  refine ⟨MF.eq _, by intro Mx H w hle hs; refine forVals_eq rfl rfl rfl ?_; refine forVals_nil (ORg.plain (OR.nilCheck rfl ?_)); exact ⟨_, [], Hp.le.refl _, hs, rfl, rfl⟩, ?_⟩
  refine ⟨MF.eq _, by intro Mx H w hle hs; refine forVals_eq rfl rfl rfl ?_; refine forVals_nil (ORg.plain (OR.fieldAddr FA202_1 rfl ?_)); exact ⟨_, [], Hp.le.refl _, hs, rfl, rfl⟩, ?_⟩
  refine ⟨MF.eq _, by intro Mx H w hle hs; refine forVals_eq rfl rfl rfl ?_; refine forVals_nil (ORg.plain (OR.load T3 rfl rfl (hs.right.cellM (i := 0) rfl rfl) ?_)); exact ⟨_, [], Hp.le.refl _, hs, rfl, rfl⟩, ?_⟩
  refine ⟨MF.eq (.pointer (some ⟨g, 0 + d, none⟩)), ?_, ?_⟩
  · intro Mx H w hle2 hs; (try replace hle := hle.trans hle2); (try replace hlb := hlb.trans hle2); refine forVals_eq rfl rfl rfl ?_; refine forVals_eq rfl rfl rfl ?_
    refine forVals_nil (ORg.plain (OR.idx d T22.und T23 rfl rfl rfl hd ?_))
    exact ⟨_, [], Hp.le.refl _, hs, rfl, rfl⟩
  refine ⟨MF.eq (.slice bd (R.getD d []).length cd), ?_, ?_⟩
  · intro Mx H w hle2 hs; (try replace hle := hle.trans hle2); (try replace hlb := hlb.trans hle2); refine forVals_eq rfl rfl rfl ?_
    refine forVals_nil (ORg.plain (OR.load T23 rfl rfl (cells_at (j := 0) (hs.right.blk (i := 1) rfl) (by rw [Nat.zero_add]; exact hcd)) ?_))
    exact ⟨_, [], Hp.le.refl _, hs, rfl, rfl⟩
  refine ⟨MF.eq _, by intro Mx H w hle hs; refine forVals_eq rfl rfl rfl ?_; refine forVals_nil (ORg.plain (OR.assign rfl ?_)); exact ⟨_, [], Hp.le.refl _, hs, rfl, rfl⟩, ?_⟩
  intro H w hle2; (try replace hle := hle.trans hle2); (try replace hlb := hlb.trans hle2)
  refine forAllVals_eq rfl ?_
  refine forAllVals_eq rfl ?_
  refine forAllVals_eq rfl ?_
  refine forAllVals_eq rfl ?_
  refine forAllVals_eq rfl ?_
  refine forAllVals_eq rfl ?_
  refine forAllVals_eq rfl ?_
  refine forAllVals_eq rfl ?_
  refine forAllVals_eq rfl ?_
  refine forAllVals_eq rfl ?_
  refine forAllVals_eq rfl ?_
  refine forAllVals_nil ?_; (try clear hs); intro hs
  refine WO.done (WX.seq (WC.seq (WC.seq (WC.region (WO.step rfl (OR.move rfl (WO.step rfl ?_)))))))
  refine OR.nilCheck rfl (WO.step rfl (OR.fieldAddr FA202_0 rfl (WO.step rfl (OR.load T22 rfl rfl (hs.cellM (i := 0) rfl rfl) (WO.step rfl (OR.lenSlice T22.und rfl (WO.step rfl ?_)))))))
  refine OR.move rfl (WO.done (WX.seq (WC.block ?_)))
  refine WC.loop (ι := Nat) (fun k => [(0, ptr b), (1, .int .i64 (lead : Int)), (4, .slice bd (R.getD d []).length cd), (20, .slice (some ⟨g, 0, none⟩) n cap), (21, .int .i64 (n : Int)), (22, .int .i64 (k : Int))]) (fun k w => (k ≤ n ∧ ∃ H c2, Hp.le H0 H ∧ c2.size = c.size ∧ MatF H c2 n (clrF R lead d k) ∧ HS [b, g] H0 w0 H [(b, wObj g n cap d, true), (g, .cells c2 23, true)] w)) (fun k => n - k) 0 ⟨rfl, rfl, rfl, rfl, rfl, rfl,  trivial⟩ ?_ (fun k w hW => ?_)
  · refine ⟨by omega, H, c, hle, rfl, (hc.mono hle).congr (fun i _ => ?_), hs⟩
    unfold clrF
    rw [if_neg (by omega)]
  obtain ⟨hk, H, c2, hle, hsz, hm, hs⟩ := hW
  refine WC.seq (WC.region (WO.step rfl (OR.lss rfl rfl (WO.done (WX.seq (WC.seq ?_))))))
  refine WC.condD rfl (fun hlt => ?_) (fun hlt => ?_)
  · have hk' : k < n := by omega
    obtain ⟨vk, hck, hvk⟩ := hm k hk'
    have ek : clrF R lead d k k = R.getD k [] := by unfold clrF; rw [if_neg (by omega)]
    rw [ek] at hvk
    have hlk := hl k hk'
    obtain ⟨bk, ck, rfl⟩ := hvk.form
    refine WC.skip (WX.seq (WC.seq (WC.block (WC.seq (WC.region (WO.step rfl (OR.move rfl ?_)))))))
    refine WO.step rfl (OR.idx k T22.und T23 rfl rfl rfl hk' ?_)
    refine WO.step rfl (OR.load T23 rfl rfl (cells_at (j := 0) (hs.blk (i := 1) rfl) (by rw [Nat.zero_add]; exact hck)) ?_)
    refine WO.step rfl (OR.assign rfl (WO.step rfl (OR.assign rfl (WO.done (WX.seq (WC.seq (WC.region ?_)))))))
    refine WO.step rfl (OR.move rfl (WO.step rfl (OR.move rfl (WO.step rfl (OR.nilCheck rfl (WO.step rfl (OR.fieldAddr FA202_1 rfl ?_)))))))
    refine WO.step rfl (OR.load T3 rfl rfl (hs.cellM (i := 0) rfl rfl) (WO.step rfl (OR.neq rfl rfl (WO.done (WX.seq ?_)))))
    refine WC.condD rfl (fun hkd => ?_) (fun hkd => ?_)
    · obtain ⟨xb, xo, rfl, hx⟩ := hvk.pos (by omega)
      have hx2 := hx lead (by omega)
      have hEk : E R k lead = (R.getD k [])[lead]'(by omega) := by unfold E; rw [List.getD_eq_getElem?_getD (l := R.getD k []), List.getElem?_eq_getElem (by omega)]; rfl
      have hlb := Hp.le.refl H
      refine WC.drawL 15 14 mixed hs (by kernel_rfl) ?_
      refine ⟨MF.eq _, by intro Mx H w hle hs; refine forVals_nil (ORg.plain (OR.move rfl ?_)); exact ⟨_, [], Hp.le.refl _, hs, rfl, rfl⟩, ?_⟩
      refine ⟨MF.eq _, by intro Mx H w hle hs; refine forVals_eq rfl rfl rfl ?_; refine forVals_nil (ORg.plain (OR.nilCheck rfl ?_)); exact ⟨_, [], Hp.le.refl _, hs, rfl, rfl⟩, ?_⟩
      refine ⟨MF.eq _, by intro Mx H w hle hs; refine forVals_eq rfl rfl rfl ?_; refine forVals_nil (ORg.plain (OR.fieldAddr FA202_0 rfl ?_)); exact ⟨_, [], Hp.le.refl _, hs, rfl, rfl⟩, ?_⟩
      refine ⟨MF.eq _, by intro Mx H w hle hs; refine forVals_eq rfl rfl rfl ?_; refine forVals_nil (ORg.plain (OR.load T22 rfl rfl (hs.right.cellM (i := 0) rfl rfl) ?_)); exact ⟨_, [], Hp.le.refl _, hs, rfl, rfl⟩, ?_⟩
      refine ⟨MF.eq _, by intro Mx H w hle hs; refine forVals_nil (ORg.plain (OR.move rfl ?_)); exact ⟨_, [], Hp.le.refl _, hs, rfl, rfl⟩, ?_⟩
      refine ⟨MF.eq _, by intro Mx H w hle hs; refine forVals_nil (ORg.plain (OR.move rfl ?_)); exact ⟨_, [], Hp.le.refl _, hs, rfl, rfl⟩, ?_⟩
      refine ⟨MF.eq _, by intro Mx H w hle hs; refine forVals_nil (ORg.plain (OR.move rfl ?_)); exact ⟨_, [], Hp.le.refl _, hs, rfl, rfl⟩, ?_⟩
      refine ⟨MF.eq _, by intro Mx H w hle hs; refine forVals_nil (ORg.plain (OR.move rfl ?_)); exact ⟨_, [], Hp.le.refl _, hs, rfl, rfl⟩, ?_⟩
      refine ⟨MF.eq _, by intro Mx H w hle hs; refine forVals_nil (ORg.plain (OR.move rfl ?_)); exact ⟨_, [], Hp.le.refl _, hs, rfl, rfl⟩, ?_⟩
      refine ⟨MF.eq (.pointer (some ⟨xb, xo + lead, none⟩)), ?_, ?_⟩
      · intro Mx H w hle2 hs; (try replace hle := hle.trans hle2); (try replace hlb := hlb.trans hle2); refine forVals_eq rfl rfl rfl ?_; refine forVals_eq rfl rfl rfl ?_
        refine forVals_nil (ORg.plain (OR.idx lead T23.und T5 rfl rfl rfl (by omega) ?_))
        exact ⟨_, [], Hp.le.refl _, hs, rfl, rfl⟩
      refine ⟨MF.eq (B (E R k lead)), ?_, ?_⟩
      · intro Mx H w hle2 hs; (try replace hle := hle.trans hle2); (try replace hlb := hlb.trans hle2); refine forVals_eq rfl rfl rfl ?_
        refine forVals_nil (ORg.plain (OR.load T5 rfl rfl (hs.cell (hcell.mono hlb hx2)) ?_))
        exact ⟨_, [], Hp.le.refl _, hs, (by rw [hEk]), rfl⟩
      refine ⟨(MF.of (fun v H => ∃ r, v = .tuple #[r, .int .i64 (eachE (R.getD k []) (R.getD d []))] ∧ Bytes H r (addS (E R k lead) (R.getD k []) (R.getD d []))) (fun v _ _ hle ⟨r, h1, h2⟩ => ⟨r, h1, h2.mono hle⟩)), ?_, ?_⟩
      · intro Mx H w hle2 hs; (try replace hle := hle.trans hle2); (try replace hlb := hlb.trans hle2); refine forVals_eq rfl rfl rfl ?_; refine forVals_eq rfl rfl rfl ?_; refine forVals_eq rfl rfl rfl ?_
        refine forVals_nil (ORg.plain (OR.call hs body33 rfl rfl (addScaled_ok _ _ (R.getD k []) (R.getD d []) (E R k lead) _ _ hs.toSub (hvk.mono hlb) (hvd.mono hle) (by omega)) ?_))
        clear hs; rintro _ H w hs hle1 hr
        exact ⟨_, [], hle1, hs, hr, rfl⟩
      refine ⟨(MF.of (fun v H => ∃ r, v = .tuple #[r, .int .i64 (eachE (R.getD k []) (R.getD d []))] ∧ Bytes H r (addS (E R k lead) (R.getD k []) (R.getD d []))) (fun v _ _ hle ⟨r, h1, h2⟩ => ⟨r, h1, h2.mono hle⟩)), ?_, ?_⟩
      · intro Mx H w hle2 hs; (try replace hle := hle.trans hle2); (try replace hlb := hlb.trans hle2); refine forVals_of rfl rfl rfl ?_; intro v11 h11
        refine forVals_nil (ORg.plain (OR.move rfl ?_))
        exact ⟨_, [], Hp.le.refl _, hs, h11, rfl⟩
      refine ⟨MF.bytes (addS (E R k lead) (R.getD k []) (R.getD d [])), ?_, ?_⟩
      · intro Mx H w hle2 hs; (try replace hle := hle.trans hle2); (try replace hlb := hlb.trans hle2); refine forVals_of rfl rfl rfl ?_; intro v12 h12
        obtain ⟨r, rfl, hr⟩ := h12
        refine forVals_nil (ORg.plain (OR.extract rfl rfl ?_))
        exact ⟨_, [], Hp.le.refl _, hs, hr, rfl⟩
      refine ⟨MF.eq (.int .i64 (eachE (R.getD k []) (R.getD d []))), ?_, ?_⟩
      · intro Mx H w hle2 hs; (try replace hle := hle.trans hle2); (try replace hlb := hlb.trans hle2); refine forVals_of rfl rfl rfl ?_; intro v12 h12
        obtain ⟨r, rfl, hr⟩ := h12
        refine forVals_nil (ORg.plain (OR.extract rfl rfl ?_))
        exact ⟨_, [], Hp.le.refl _, hs, rfl, rfl⟩
      intro H w hle2; (try replace hle := hle.trans hle2); (try replace hlb := hlb.trans hle2)
      refine forAllVals_eq rfl ?_
      refine forAllVals_eq rfl ?_
      refine forAllVals_eq rfl ?_
      refine forAllVals_eq rfl ?_
      refine forAllVals_eq rfl ?_
      refine forAllVals_eq rfl ?_
      refine forAllVals_eq rfl ?_
      refine forAllVals_eq rfl ?_
      refine forAllVals_eq rfl ?_
      refine forAllVals_eq rfl ?_
      refine forAllVals_eq rfl ?_
      refine forAllVals_of rfl ?_; intro v11 h11
      refine forAllVals_of rfl ?_; intro v12 h12
      refine forAllVals_of rfl ?_; intro v13 h13
      refine forAllVals_eq rfl ?_
      refine forAllVals_nil ?_; (try clear hs); intro hs
      obtain ⟨br, cr, rfl⟩ := h13.form
      have hr := h13
      refine WO.step rfl (OR.idx k T22.und T23 rfl rfl rfl hk' ?_)
      replace hs := hs.front (i := 1) rfl
      refine WO.stepN (OR.store hs T23 rfl rfl rfl (by show 0 + k + 1 ≤ c2.size; omega) rfl ?_)
      clear hs; intro w hs
      refine WO.done (WX.block (WX.seq (WC.region (WO.step rfl (OR.addI rfl rfl (by omega) (by omega) (WO.step rfl (OR.move rfl ?_)))))))
      refine WO.done ?_
      replace hs := hs.front (i := 1) rfl
      refine WX.again (k + 1) ⟨rfl, rfl, rfl, rfl, rfl, rfl,  trivial⟩ ?_ ?_
      · refine ⟨hk', H, _, hle, ?_, ?_, hs⟩
        · simp [setL_length, hsz]
        · rw [Nat.zero_add]
          refine ((hm.mono hlb).set k (by omega) hr).congr fun i hi => ?_
          by_cases e : i = k
          · subst e
            rw [if_pos rfl]
            unfold clrF
            rw [if_pos ⟨by omega, fun q => hkd (by rw [q])⟩]
          · rw [if_neg e]
            unfold clrF
            by_cases e2 : i < k ∧ i ≠ d
            · rw [if_pos e2, if_pos ⟨by omega, e2.2⟩]
            · rw [if_neg e2, if_neg (by omega)]
      · omega
    · refine WC.skip (WX.block (WX.seq (WC.region (WO.step rfl (OR.addI rfl rfl (by omega) (by omega) (WO.step rfl (OR.move rfl ?_)))))))
      refine WO.done ?_
      refine WX.again (k + 1) ⟨rfl, rfl, rfl, rfl, rfl, rfl,  trivial⟩ ?_ ?_
      · refine ⟨hk', H, c2, hle, hsz, hm.congr fun i hi => ?_, hs⟩
        unfold clrF
        by_cases e : i < k ∧ i ≠ d
        · rw [if_pos e, if_pos ⟨by omega, e.2⟩]
        · rw [if_neg e, if_neg (by omega)]
      · omega
  · have e : k = n := by omega
    subst e
    refine WC.exit (WX.seq_exit (WX.loop_exit (WX.block_hit (WX.seq (WC.region (WO.step rfl (OR.move rfl ?_)))))))
    refine WO.step rfl (OR.nilCheck rfl (WO.step rfl (OR.fieldAddr FA202_1 rfl (WO.step rfl (OR.load T3 rfl rfl (hs.cellM (i := 0) rfl rfl) (WO.step rfl (OR.addI rfl rfl (by omega) (by omega) ?_)))))))
    refine WO.step rfl (OR.nilCheck rfl (WO.step rfl (OR.fieldAddr FA202_1 rfl (WO.stepN (OR.store hs T3 rfl rfl rfl (Nat.le_of_ble_eq_true rfl) rfl ?_)))))
    clear hs; intro w hs
    refine WO.done ?_
    refine WX.end0 rfl ?_
    refine ⟨_, H, _, rfl, hs, by simp, c2, rfl, rfl, hsz, hm.congr fun i hi => ?_⟩
    rw [gClear_get _ _ _ _ (by omega)]
    unfold clrF
    by_cases e : i = d
    · rw [if_neg (by omega), if_pos e, e]
    · rw [if_pos ⟨by omega, e⟩, if_neg e]
end Go.Bw
