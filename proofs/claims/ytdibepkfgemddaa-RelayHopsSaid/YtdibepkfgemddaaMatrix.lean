/- Matrices: Size, copies. -/
import Derived.Test.YtdibepkfgemddaaGauss
import Derived.Test.YtdibepkfgemddaaGone
import Derived.Test.YtdibepkfgemddaaOps5
import Derived.Test.YtdibepkfgemddaaConts
import Derived.Test.YtdibepkfgemddaaDrawL
import Derived.Test.YtdibepkfgemddaaSmall
namespace Go.Bw
set_option linter.unusedVariables false
set_option linter.unusedSimpArgs false
open Go.Proofs

set_option maxRecDepth 20000 in
set_option maxHeartbeats 2000000 in
theorem size1_ok (gs : Nat) (n : Nat) (vx : Value) (l : List UInt8) (H0 : Hp) (w0 : World) (h0 : Sub H0 w0) (hc : hcell H0 ⟨gs, 0, none⟩ = some (.int .i64 (n : Int))) (hx : Bytes H0 vx l) :
    Calls Try.prog 109 #[vx, ptr gs] w0 (Pure H0 w0 fun v _ => v = .bool (decide (l.length ≠ n))) := by
  have hs := HS.init h0
  obtain ⟨b1, c1, rfl⟩ := hx.form
  refine Calls.enter (args := [.slice b1 l.length c1, ptr gs]) Try.func109 rfl Try.ntmps109 rfl ?_
  refine WC.seq (WC.region (WO.step rfl (OR.assign rfl (WO.done (WX.seq (WC.seq (WC.region ?_)))))))
  refine WO.step rfl (OR.move rfl (WO.step rfl (OR.lenSlice T37.und rfl ?_)))
  refine WO.step rfl (OR.load T3 rfl rfl (hs.cell hc) ?_)
  refine WO.step rfl (OR.neq rfl rfl (WO.step rfl (OR.assign rfl (WO.done (WX.seq (WC.ret ?_))))))
  refine WX.ret1 rfl rfl ?_
  refine .mk hs ?_
  congr 1
  rw [decide_eq_decide]
  omega

set_option maxRecDepth 20000 in
set_option maxHeartbeats 2000000 in
theorem cloneL_ok (v : Value) (n : Nat) (cs : List Value) (H0 : Hp) (w0 : World) (h0 : Sub H0 w0) (hv : Sl H0 1 v n cs) (h1 : cs.all (·.oneCell') = true) (hl : n ≤ 1000000000) :
    Calls Try.prog 82 #[v] w0 (Ret [] H0 w0 fun v H' M' => H' = H0 ∧ Own w0.heap.size 37 1 v n cs M') := by
  have hs := HS.init h0
  obtain ⟨base, cp, rfl⟩ := hv.form
  have hcl : cs.length = n := by have := hv.1; omega
  refine Calls.enter (args := [.slice base n cp]) Try.func82 rfl Try.ntmps82 rfl ?_
  refine WC.seq (WC.region (WO.step rfl (OR.assign rfl (WO.done (WX.seq (WC.seq (WC.seq ?_)))))))
  refine WC.region (WO.step rfl (OR.move rfl (WO.step rfl (OR.eqlNil T31.und rfl rfl (WO.done (WX.seq ?_))))))
  refine WC.cond rfl (fun hb => ?_) (fun hb => ?_)
  · refine WC.seq (WC.region (WO.step rfl (OR.assign rfl (WO.done (WX.seq (WC.ret (WX.seq_ret ?_)))))))
    refine WX.ret1 rfl rfl ?_
    have hb' : base = none := by cases base with | none => rfl | some a => cases hb
    subst hb'
    have h2 := Sl.src0 hv rfl
    subst h2
    have : cs = [] := List.eq_nil_of_length_eq_zero hcl
    subst this
    exact ⟨_, H0, [], rfl, hs, by simp, rfl, Own.nil _ _ _⟩
  · refine WC.skip (WX.seq (WC.seq (WC.region ?_)))
    refine WO.step rfl (OR.buildSlice (vs := []) hs T31.und T37 rfl rfl rfl rfl (by simp) ?_)
    clear hs; intro g1 w hg1 hs
    refine WO.step rfl (OR.move rfl ?_)
    refine WO.step rfl (OR.append (n := 0) (m := n) (cs := []) (news := cs) (Mo := [_]) (M := []) hs (Own.block (cap := 0) (by omega) rfl rfl hg1) T31.und T37 rfl (by omega) rfl rfl (by omega) (Sl.src hv hs) (Sl.src0 hv) h1 (by omega) (by omega) ?_)
    clear hs; intro v' w Mo hs ho hge
    refine WO.step rfl (OR.assign rfl (WO.done (WX.seq (WC.ret ?_))))
    refine WX.ret1 rfl rfl ?_
    rw [Nat.zero_add, List.nil_append] at ho
    refine ⟨_, H0, Mo, rfl, by simpa using hs, ?_, rfl, ho⟩
    rcases ho.2 with ⟨rfl, _⟩ | ⟨g, c, cap, rfl, _⟩ <;> simp
end Go.Bw
namespace Go.Bw
set_option linter.unusedVariables false
set_option linter.unusedSimpArgs false
open Go.Proofs

/-- Cells that hold rows of bytes. -/
def MatF (H : Hp) (c : Array Value) (n : Nat) (f : Nat → List UInt8) : Prop := ∀ i, i < n → ∃ v, c.toList[i]? = some v ∧ Bytes H v (f i)
theorem MatF.mono {H H' : Hp} {c : Array Value} {n : Nat} {f : Nat → List UInt8} (h : MatF H c n f) (hle : Hp.le H H') : MatF H' c n f := by
  intro i hi
  obtain ⟨v, h1, h2⟩ := h i hi
  exact ⟨v, h1, h2.mono hle⟩
theorem MatF.congr {H : Hp} {c : Array Value} {n : Nat} {f f' : Nat → List UInt8} (h : MatF H c n f) (he : ∀ i, i < n → f i = f' i) : MatF H c n f' := by
  intro i hi
  obtain ⟨v, h1, h2⟩ := h i hi
  exact ⟨v, h1, by rw [← he i hi]; exact h2⟩
theorem setL_one (l : List Value) (k : Nat) (v : Value) : setL l k [v] = l.set k v := by rw [setL_step, setL_nil]
theorem MatF.set {H : Hp} {c : Array Value} {n : Nat} {f : Nat → List UInt8} (h : MatF H c n f) (k : Nat) (hk : k < c.size) {v : Value} {l : List UInt8} (hv : Bytes H v l) :
    MatF H (setL c.toList k [v]).toArray n (fun j => if j = k then l else f j) := by
  intro i hi
  rw [List.toList_toArray, setL_one]
  by_cases e : i = k
  · subst e
    refine ⟨v, by rw [List.getElem?_set_self (by simpa using hk)], ?_⟩
    simp only [if_pos]
    exact hv
  · obtain ⟨u, h1, h2⟩ := h i hi
    refine ⟨u, by rw [List.getElem?_set_ne (Ne.symm e)]; exact h1, ?_⟩
    simp only [if_neg e]
    exact h2
theorem HS.startW {H : Hp} {w : World} {g g' : Nat} {o o' : Obj} (h : Sub H w) (hg : w.heap[g]? = some o) (hn : H g = none) (hg' : w.heap[g']? = some o') (hn' : H g' = none) (hne : g ≠ g') : HS [g, g'] H w H [(g, o, true), (g', o', true)] w := by
  refine HS.start [g, g'] h (fun q o2 t hm => ?_) (by simp [Mem.keys]; exact hne)
  rcases List.mem_cons.1 hm with e | hm
  · cases e; exact ⟨hg, hn, fun _ => by simp⟩
  · have := List.mem_singleton.1 hm; cases this; exact ⟨hg', hn', fun _ => by simp⟩

theorem cells_ne {c c' : Array Value} {e e' : TypeId} {x y : Nat × Nat} (h : some (Obj.cells c e x) = some (Obj.cells c' e' y)) (hne : e ≠ e') : False := by
  cases h
  exact hne rfl

set_option maxRecDepth 20000 in
set_option maxHeartbeats 2000000 in
theorem msize_ok (v : Value) (R : List (List UInt8)) (n : Nat) (H0 : Hp) (w0 : World) (h0 : Sub H0 w0) (hv : BytesL H0 v R) (h1 : 0 < R.length) (h2 : R.length ≤ 1000000) (hR : ∀ r ∈ R, r.length = n) :
    Calls Try.prog 81 #[v] w0 (Pure H0 w0 fun v _ => v = .tuple #[.int .i64 (R.length : Int), .int .i64 (n : Int), .int .i64 0]) := by
  have hs := HS.init h0
  have hle := Hp.le.refl H0
  have hv0 := hv
  obtain ⟨b1, c1, rfl⟩ := hv0.form
  refine Calls.enter (args := [.slice b1 R.length c1]) Try.func81 rfl Try.ntmps81 rfl ?_
  refine WC.seq (WC.region (WO.step rfl (OR.assign rfl (WO.step rfl (OR.assign rfl (WO.step rfl (OR.assign rfl ?_)))))))
  refine WO.done (WX.seq (WC.seq (WC.seq (WC.region (WO.step rfl (OR.move rfl (WO.step rfl ?_)))))))
  refine OR.lenSlice T31.und rfl (WO.step rfl (OR.eql rfl rfl (WO.done (WX.seq ?_))))
  refine WC.no rfl (decide_eq_false (by omega)) ?_
  obtain ⟨b, o, rfl, hc⟩ := hv.pos h1
  obtain ⟨e, hce, hbe⟩ := hc 0 h1
  have hl0 : (R[0]).length = n := hR _ (List.getElem_mem _)
  obtain ⟨be, ce, rfl⟩ := hbe.form
  refine WC.skip (WX.seq (WC.seq (WC.region (WO.step rfl (OR.move rfl ?_)))))
  refine WO.step rfl (OR.idx 0 T31.und T37 rfl rfl rfl h1 ?_)
  refine WO.step rfl (OR.load T37 rfl rfl (hs.cell hce) ?_)
  refine WO.step rfl (OR.lenSlice T37.und rfl (WO.step rfl (OR.alloc hs T3 ?_)))
  clear hs; intro g1 w hg1 hs
  refine WO.stepN (OR.storeAll hs T3 rfl rfl rfl rfl rfl ?_)
  clear hs; intro w hs
  refine WO.done (WX.seq (WC.seq (WC.seq (WC.region (WO.step rfl (OR.move rfl (WO.step rfl ?_)))))))
  refine OR.makeFunc rfl rfl ?_
  obtain ⟨H, hle1, hp_g1, hs9⟩ := hs.pub1 hg1; clear hs; have hs := hs9; clear hs9; replace hle := hle.trans hle1; (try replace hlb := hlb.trans hle1)
  have hcs := hcell_of hp_g1 (i := 0) (v := .int .i64 (R[0].length : Int)) rfl
  rw [hl0] at hcs
  refine WO.step rfl (OR.call hs body91 rfl rfl (containsL_ok _ R 109 [ptr g1] _ _ hs.toSub (hv.mono hle) (by omega) body109 (fun i h vx H' w' hl' hH hb => (size1_ok g1 n vx _ H' w' hH (hcell.mono hl' hcs) hb).mono fun e w2 hp => by rw [decide_eq_false (by rw [hR _ (List.getElem_mem h)]; exact fun q => q rfl)] at hp; exact hp)) ?_)
  clear hs; rintro _ H w hs hle1 rfl; replace hle := hle.trans hle1; (try replace hlb := hlb.trans hle1)
  refine WO.done (WX.seq ?_)
  refine WC.no rfl rfl ?_
  replace hcs := hcell.mono hle1 hcs
  refine WC.skip (WX.seq (WC.seq ?_))
  refine WC.sub [(0, .slice (some ⟨b, o, none⟩) R.length c1), (5, ptr g1)] ⟨rfl, rfl,  trivial⟩ ?_
  refine WC.draw 6 mixed hs (by kernel_rfl) ?_
  refine ⟨MF.eq _, by intro Mx H w hle hs; refine forVals_nil (ORg.plain (OR.move rfl ?_)); exact ⟨_, [], Hp.le.refl _, hs, rfl, rfl⟩, ?_⟩
  refine ⟨MF.eq _, by intro Mx H w hle hs; refine forVals_eq rfl rfl rfl ?_; refine forVals_nil (ORg.plain (OR.lenSlice T31.und rfl ?_)); exact ⟨_, [], Hp.le.refl _, hs, rfl, rfl⟩, ?_⟩
  refine ⟨MF.eq (.int .i64 (n : Int)), ?_, ?_⟩
  · intro Mx H w hle2 hs; (try replace hle := hle.trans hle2); (try replace hlb := hlb.trans hle2)
    refine forVals_nil (ORg.plain (OR.load T3 rfl rfl (hs.cell (hcell.mono hle2 hcs)) ?_))
    exact ⟨_, [], Hp.le.refl _, hs, rfl, rfl⟩
  refine ⟨MF.eq _, by intro Mx H w hle hs; refine forVals_eq rfl rfl rfl ?_; refine forVals_nil (ORg.plain (OR.assign rfl ?_)); exact ⟨_, [], Hp.le.refl _, hs, rfl, rfl⟩, ?_⟩
  refine ⟨MF.eq _, by intro Mx H w hle hs; refine forVals_eq rfl rfl rfl ?_; refine forVals_nil (ORg.plain (OR.assign rfl ?_)); exact ⟨_, [], Hp.le.refl _, hs, rfl, rfl⟩, ?_⟩
  refine ⟨MF.eq _, by intro Mx H w hle hs; refine forVals_nil (ORg.plain (OR.assign rfl ?_)); exact ⟨_, [], Hp.le.refl _, hs, rfl, rfl⟩, ?_⟩
  intro H w hle2; (try replace hle := hle.trans hle2); (try replace hlb := hlb.trans hle2)
  refine forAllVals_eq rfl ?_
  refine forAllVals_eq rfl ?_
  refine forAllVals_eq rfl ?_
  refine forAllVals_eq rfl ?_
  refine forAllVals_eq rfl ?_
  refine forAllVals_eq rfl ?_
  refine forAllVals_nil ?_; (try clear hs); intro hs
  refine WO.done (WX.seq (WC.ret ?_))
  refine WX.ret3 rfl rfl rfl rfl ?_
  exact .mk hs rfl

/-- A matrix that is being reduced. -/
def wObj (g n cap d : Nat) : Obj := .cells #[.slice (some ⟨g, 0, none⟩) n cap, .int .i64 (d : Int)] 129
/-- The first k rows freed. -/
def clrF (R : List (List UInt8)) (lead d k : Nat) (i : Nat) : List UInt8 := if i < k ∧ i ≠ d then addS (E R i lead) (R.getD i []) (R.getD d []) else R.getD i []

set_option maxRecDepth 20000 in
set_option maxHeartbeats 2000000 in
theorem clear_ok (R : List (List UInt8)) (lead d b g n cap cols : Nat) (c : Array Value) (H0 : Hp) (w0 : World) (h0 : Sub H0 w0) (hb : w0.heap[b]? = some (wObj g n cap d)) (hnb : H0 b = none)
    (hg : w0.heap[g]? = some (.cells c 37)) (hng : H0 g = none) (hne : b ≠ g) (hc : MatF H0 c n (R.getD · [])) (hn : n = R.length) (hcap : n ≤ c.size) (hd : d < n)
    (hl : ∀ a, a < n → (R.getD a []).length = cols) (hlead : lead < cols) (hcols : cols ≤ 255) (hn6 : n ≤ 1000000) :
    Calls Try.prog 110 #[ptr b, .int .i64 (lead : Int)] w0 (Ret [b, g] H0 w0 fun v H' M' => ∃ c', v = .tuple #[] ∧
      M' = [(b, wObj g n cap (d + 1), true), (g, .cells c' 37, true)] ∧ c'.size = c.size ∧ MatF H' c' n ((gClear lead d R).getD · [])) := by
  have hs := HS.startW h0 hb hnb hg hng hne
  have hle := Hp.le.refl H0
  obtain ⟨vd, hcd, hvd⟩ := hc d hd
  have hld := hl d hd
  obtain ⟨bd, cd, rfl⟩ := hvd.form
  refine Calls.enter (args := [ptr b, .int .i64 (lead : Int)]) Try.func110 rfl Try.ntmps110 rfl ?_
  refine WC.seq ?_
  refine WC.draw 11 mixed hs (by kernel_rfl) ?_
  refine ⟨MF.eq _, by intro Mx H w hle hs; refine forVals_nil (ORg.plain (OR.move rfl ?_)); exact ⟨_, [], Hp.le.refl _, hs, rfl, rfl⟩, ?_⟩
  refine ⟨MF.eq _, by intro Mx H w hle hs; refine forVals_eq rfl rfl rfl ?_; refine forVals_nil (ORg.plain (OR.nilCheck rfl ?_)); exact ⟨_, [], Hp.le.refl _, hs, rfl, rfl⟩, ?_⟩
  refine ⟨MF.eq _, by intro Mx H w hle hs; refine forVals_eq rfl rfl rfl ?_; refine forVals_nil (ORg.plain (OR.fieldAddr FA129_0 rfl ?_)); exact ⟨_, [], Hp.le.refl _, hs, rfl, rfl⟩, ?_⟩
  refine ⟨MF.eq _, by intro Mx H w hle hs; refine forVals_eq rfl rfl rfl ?_; refine forVals_nil (ORg.plain (OR.load T31 rfl rfl (hs.right.cellM (i := 0) rfl rfl) ?_)); exact ⟨_, [], Hp.le.refl _, hs, rfl, rfl⟩, ?_⟩
  refine ⟨MF.eq _, by intro Mx H w hle hs; refine forVals_nil (ORg.plain (OR.move rfl ?_)); exact ⟨_, [], Hp.le.refl _, hs, rfl, rfl⟩, ?_⟩
  refine ⟨MF.eq _, by intro Mx H w hle hs; refine forVals_eq rfl rfl rfl ?_; refine forVals_nil (ORg.plain (OR.nilCheck rfl ?_)); exact ⟨_, [], Hp.le.refl _, hs, rfl, rfl⟩, ?_⟩
  refine ⟨MF.eq _, by intro Mx H w hle hs; refine forVals_eq rfl rfl rfl ?_; refine forVals_nil (ORg.plain (OR.fieldAddr FA129_1 rfl ?_)); exact ⟨_, [], Hp.le.refl _, hs, rfl, rfl⟩, ?_⟩
  refine ⟨MF.eq _, by intro Mx H w hle hs; refine forVals_eq rfl rfl rfl ?_; refine forVals_nil (ORg.plain (OR.load T3 rfl rfl (hs.right.cellM (i := 0) rfl rfl) ?_)); exact ⟨_, [], Hp.le.refl _, hs, rfl, rfl⟩, ?_⟩
  refine ⟨MF.eq (.pointer (some ⟨g, 0 + d, none⟩)), ?_, ?_⟩
  · intro Mx H w hle2 hs; (try replace hle := hle.trans hle2); (try replace hlb := hlb.trans hle2); refine forVals_eq rfl rfl rfl ?_; refine forVals_eq rfl rfl rfl ?_
    refine forVals_nil (ORg.plain (OR.idx d T31.und T37 rfl rfl rfl hd ?_))
    exact ⟨_, [], Hp.le.refl _, hs, rfl, rfl⟩
  refine ⟨MF.eq (.slice bd (R.getD d []).length cd), ?_, ?_⟩
  · intro Mx H w hle2 hs; (try replace hle := hle.trans hle2); (try replace hlb := hlb.trans hle2); refine forVals_eq rfl rfl rfl ?_
    refine forVals_nil (ORg.plain (OR.load T37 rfl rfl (cells_at (j := 0) (hs.right.blk (i := 1) rfl) (by rw [Nat.zero_add]; exact hcd)) ?_))
    exact ⟨_, [], Hp.le.refl _, hs, rfl, rfl⟩
  refine ⟨MF.eq _, by intro Mx H w hle hs; refine forVals_eq rfl rfl rfl ?_; refine forVals_nil (ORg.plain (OR.assign rfl ?_)); exact ⟨_, [], Hp.le.refl _, hs, rfl, rfl⟩, ?_⟩
  intro H w hle2; (try replace hle := hle.trans hle2); (try replace hlb := hlb.trans hle2)
  refine forAllVals_eq rfl ?_
  refine forAllVals_eq rfl ?_
  refine forAllVals_eq rfl ?_
  refine forAllVals_eq rfl ?_
  refine forAllVals_eq rfl ?_
  refine forAllVals_eq rfl ?_
  refine forAllVals_eq rfl ?_
  refine forAllVals_eq rfl ?_
  refine forAllVals_eq rfl ?_
  refine forAllVals_eq rfl ?_
  refine forAllVals_eq rfl ?_
  refine forAllVals_nil ?_; (try clear hs); intro hs
  refine WO.done (WX.seq (WC.seq (WC.seq (WC.region (WO.step rfl (OR.move rfl (WO.step rfl ?_)))))))
  refine OR.nilCheck rfl (WO.step rfl (OR.fieldAddr FA129_0 rfl (WO.step rfl (OR.load T31 rfl rfl (hs.cellM (i := 0) rfl rfl) (WO.step rfl (OR.lenSlice T31.und rfl (WO.step rfl ?_)))))))
  refine OR.move rfl (WO.done (WX.seq (WC.block ?_)))
  refine WC.loop (ι := Nat) (fun k => [(0, ptr b), (1, .int .i64 (lead : Int)), (4, .slice bd (R.getD d []).length cd), (20, .slice (some ⟨g, 0, none⟩) n cap), (21, .int .i64 (n : Int)), (22, .int .i64 (k : Int))]) (fun k w => (k ≤ n ∧ ∃ H c2, Hp.le H0 H ∧ c2.size = c.size ∧ MatF H c2 n (clrF R lead d k) ∧ HS [b, g] H0 w0 H [(b, wObj g n cap d, true), (g, .cells c2 37, true)] w)) (fun k => n - k) 0 ⟨rfl, rfl, rfl, rfl, rfl, rfl,  trivial⟩ ?_ (fun k w hW => ?_)
  · refine ⟨by omega, H, c, hle, rfl, (hc.mono hle).congr (fun i _ => ?_), hs⟩
    unfold clrF
    rw [if_neg (by omega)]
  obtain ⟨hk, H, c2, hle, hsz, hm, hs⟩ := hW
  refine WC.seq (WC.region (WO.step rfl (OR.lss rfl rfl (WO.done (WX.seq (WC.seq ?_))))))
  refine WC.condD rfl (fun hlt => ?_) (fun hlt => ?_)
  · have hk' : k < n := by omega
    obtain ⟨vk, hck, hvk⟩ := hm k hk'
    have ek : clrF R lead d k k = R.getD k [] := by unfold clrF; rw [if_neg (by omega)]
    rw [ek] at hvk
    have hlk := hl k hk'
    obtain ⟨bk, ck, rfl⟩ := hvk.form
    refine WC.skip (WX.seq (WC.seq (WC.block (WC.seq (WC.region (WO.step rfl (OR.move rfl ?_)))))))
    refine WO.step rfl (OR.idx k T31.und T37 rfl rfl rfl hk' ?_)
    refine WO.step rfl (OR.load T37 rfl rfl (cells_at (j := 0) (hs.blk (i := 1) rfl) (by rw [Nat.zero_add]; exact hck)) ?_)
    refine WO.step rfl (OR.assign rfl (WO.step rfl (OR.assign rfl (WO.done (WX.seq (WC.seq (WC.region ?_)))))))
    refine WO.step rfl (OR.move rfl (WO.step rfl (OR.move rfl (WO.step rfl (OR.nilCheck rfl (WO.step rfl (OR.fieldAddr FA129_1 rfl ?_)))))))
    refine WO.step rfl (OR.load T3 rfl rfl (hs.cellM (i := 0) rfl rfl) (WO.step rfl (OR.neq rfl rfl (WO.done (WX.seq ?_)))))
    refine WC.condD rfl (fun hkd => ?_) (fun hkd => ?_)
    · obtain ⟨xb, xo, rfl, hx⟩ := hvk.pos (by omega)
      have hx2 := hx lead (by omega)
      have hEk : E R k lead = (R.getD k [])[lead]'(by omega) := by unfold E; rw [List.getD_eq_getElem?_getD (l := R.getD k []), List.getElem?_eq_getElem (by omega)]; rfl
      have hlb := Hp.le.refl H
      refine WC.drawL 15 14 mixed hs (by kernel_rfl) ?_
      refine ⟨MF.eq _, by intro Mx H w hle hs; refine forVals_nil (ORg.plain (OR.move rfl ?_)); exact ⟨_, [], Hp.le.refl _, hs, rfl, rfl⟩, ?_⟩
      refine ⟨MF.eq _, by intro Mx H w hle hs; refine forVals_eq rfl rfl rfl ?_; refine forVals_nil (ORg.plain (OR.nilCheck rfl ?_)); exact ⟨_, [], Hp.le.refl _, hs, rfl, rfl⟩, ?_⟩
      refine ⟨MF.eq _, by intro Mx H w hle hs; refine forVals_eq rfl rfl rfl ?_; refine forVals_nil (ORg.plain (OR.fieldAddr FA129_0 rfl ?_)); exact ⟨_, [], Hp.le.refl _, hs, rfl, rfl⟩, ?_⟩
      refine ⟨MF.eq _, by intro Mx H w hle hs; refine forVals_eq rfl rfl rfl ?_; refine forVals_nil (ORg.plain (OR.load T31 rfl rfl (hs.right.cellM (i := 0) rfl rfl) ?_)); exact ⟨_, [], Hp.le.refl _, hs, rfl, rfl⟩, ?_⟩
      refine ⟨MF.eq _, by intro Mx H w hle hs; refine forVals_nil (ORg.plain (OR.move rfl ?_)); exact ⟨_, [], Hp.le.refl _, hs, rfl, rfl⟩, ?_⟩
      refine ⟨MF.eq _, by intro Mx H w hle hs; refine forVals_nil (ORg.plain (OR.move rfl ?_)); exact ⟨_, [], Hp.le.refl _, hs, rfl, rfl⟩, ?_⟩
      refine ⟨MF.eq _, by intro Mx H w hle hs; refine forVals_nil (ORg.plain (OR.move rfl ?_)); exact ⟨_, [], Hp.le.refl _, hs, rfl, rfl⟩, ?_⟩
      refine ⟨MF.eq _, by intro Mx H w hle hs; refine forVals_nil (ORg.plain (OR.move rfl ?_)); exact ⟨_, [], Hp.le.refl _, hs, rfl, rfl⟩, ?_⟩
      refine ⟨MF.eq _, by intro Mx H w hle hs; refine forVals_nil (ORg.plain (OR.move rfl ?_)); exact ⟨_, [], Hp.le.refl _, hs, rfl, rfl⟩, ?_⟩
      refine ⟨MF.eq (.pointer (some ⟨xb, xo + lead, none⟩)), ?_, ?_⟩
      · intro Mx H w hle2 hs; (try replace hle := hle.trans hle2); (try replace hlb := hlb.trans hle2); refine forVals_eq rfl rfl rfl ?_; refine forVals_eq rfl rfl rfl ?_
        refine forVals_nil (ORg.plain (OR.idx lead T37.und T5 rfl rfl rfl (by omega) ?_))
        exact ⟨_, [], Hp.le.refl _, hs, rfl, rfl⟩
      refine ⟨MF.eq (B (E R k lead)), ?_, ?_⟩
      · intro Mx H w hle2 hs; (try replace hle := hle.trans hle2); (try replace hlb := hlb.trans hle2); refine forVals_eq rfl rfl rfl ?_
        refine forVals_nil (ORg.plain (OR.load T5 rfl rfl (hs.cell (hcell.mono hlb hx2)) ?_))
        exact ⟨_, [], Hp.le.refl _, hs, (by rw [hEk]), rfl⟩
      refine ⟨(MF.of (fun v H => ∃ r, v = .tuple #[r, .int .i64 (eachE (R.getD k []) (R.getD d []))] ∧ Bytes H r (addS (E R k lead) (R.getD k []) (R.getD d []))) (fun v _ _ hle ⟨r, h1, h2⟩ => ⟨r, h1, h2.mono hle⟩)), ?_, ?_⟩
      · intro Mx H w hle2 hs; (try replace hle := hle.trans hle2); (try replace hlb := hlb.trans hle2); refine forVals_eq rfl rfl rfl ?_; refine forVals_eq rfl rfl rfl ?_; refine forVals_eq rfl rfl rfl ?_
        refine forVals_nil (ORg.plain (OR.call hs body57 rfl rfl (addScaled_ok _ _ (R.getD k []) (R.getD d []) (E R k lead) _ _ hs.toSub (hvk.mono hlb) (hvd.mono hle) (by omega)) ?_))
        clear hs; rintro _ H w hs hle1 hr
        exact ⟨_, [], hle1, hs, hr, rfl⟩
      refine ⟨(MF.of (fun v H => ∃ r, v = .tuple #[r, .int .i64 (eachE (R.getD k []) (R.getD d []))] ∧ Bytes H r (addS (E R k lead) (R.getD k []) (R.getD d []))) (fun v _ _ hle ⟨r, h1, h2⟩ => ⟨r, h1, h2.mono hle⟩)), ?_, ?_⟩
      · intro Mx H w hle2 hs; (try replace hle := hle.trans hle2); (try replace hlb := hlb.trans hle2); refine forVals_of rfl rfl rfl ?_; intro v11 h11
        refine forVals_nil (ORg.plain (OR.move rfl ?_))
        exact ⟨_, [], Hp.le.refl _, hs, h11, rfl⟩
      refine ⟨MF.bytes (addS (E R k lead) (R.getD k []) (R.getD d [])), ?_, ?_⟩
      · intro Mx H w hle2 hs; (try replace hle := hle.trans hle2); (try replace hlb := hlb.trans hle2); refine forVals_of rfl rfl rfl ?_; intro v12 h12
        obtain ⟨r, rfl, hr⟩ := h12
        refine forVals_nil (ORg.plain (OR.extract rfl rfl ?_))
        exact ⟨_, [], Hp.le.refl _, hs, hr, rfl⟩
      refine ⟨MF.eq (.int .i64 (eachE (R.getD k []) (R.getD d []))), ?_, ?_⟩
      · intro Mx H w hle2 hs; (try replace hle := hle.trans hle2); (try replace hlb := hlb.trans hle2); refine forVals_of rfl rfl rfl ?_; intro v12 h12
        obtain ⟨r, rfl, hr⟩ := h12
        refine forVals_nil (ORg.plain (OR.extract rfl rfl ?_))
        exact ⟨_, [], Hp.le.refl _, hs, rfl, rfl⟩
      intro H w hle2; (try replace hle := hle.trans hle2); (try replace hlb := hlb.trans hle2)
      refine forAllVals_eq rfl ?_
      refine forAllVals_eq rfl ?_
      refine forAllVals_eq rfl ?_
      refine forAllVals_eq rfl ?_
      refine forAllVals_eq rfl ?_
      refine forAllVals_eq rfl ?_
      refine forAllVals_eq rfl ?_
      refine forAllVals_eq rfl ?_
      refine forAllVals_eq rfl ?_
      refine forAllVals_eq rfl ?_
      refine forAllVals_eq rfl ?_
      refine forAllVals_of rfl ?_; intro v11 h11
      refine forAllVals_of rfl ?_; intro v12 h12
      refine forAllVals_of rfl ?_; intro v13 h13
      refine forAllVals_eq rfl ?_
      refine forAllVals_nil ?_; (try clear hs); intro hs
      obtain ⟨br, cr, rfl⟩ := h13.form
      have hr := h13
      refine WO.step rfl (OR.idx k T31.und T37 rfl rfl rfl hk' ?_)
      replace hs := hs.front (i := 1) rfl
      refine WO.stepN (OR.store hs T37 rfl rfl rfl (by show 0 + k + 1 ≤ c2.size; omega) rfl ?_)
      clear hs; intro w hs
      refine WO.done (WX.block (WX.seq (WC.region (WO.step rfl (OR.addI rfl rfl (by omega) (by omega) (WO.step rfl (OR.move rfl ?_)))))))
      refine WO.done ?_
      replace hs := hs.front (i := 1) rfl
      refine WX.again (k + 1) ⟨rfl, rfl, rfl, rfl, rfl, rfl,  trivial⟩ ?_ ?_
      · refine ⟨hk', H, _, hle, ?_, ?_, hs⟩
        · simp [setL_length, hsz]
        · rw [Nat.zero_add]
          refine ((hm.mono hlb).set k (by omega) hr).congr fun i hi => ?_
          by_cases e : i = k
          · subst e
            rw [if_pos rfl]
            unfold clrF
            rw [if_pos ⟨by omega, fun q => hkd (by rw [q])⟩]
          · rw [if_neg e]
            unfold clrF
            by_cases e2 : i < k ∧ i ≠ d
            · rw [if_pos e2, if_pos ⟨by omega, e2.2⟩]
            · rw [if_neg e2, if_neg (by omega)]
      · omega
    · refine WC.skip (WX.block (WX.seq (WC.region (WO.step rfl (OR.addI rfl rfl (by omega) (by omega) (WO.step rfl (OR.move rfl ?_)))))))
      refine WO.done ?_
      refine WX.again (k + 1) ⟨rfl, rfl, rfl, rfl, rfl, rfl,  trivial⟩ ?_ ?_
      · refine ⟨hk', H, c2, hle, hsz, hm.congr fun i hi => ?_, hs⟩
        unfold clrF
        by_cases e : i < k ∧ i ≠ d
        · rw [if_pos e, if_pos ⟨by omega, e.2⟩]
        · rw [if_neg e, if_neg (by omega)]
      · omega
  · have e : k = n := by omega
    subst e
    refine WC.exit (WX.seq_exit (WX.loop_exit (WX.block_hit (WX.seq (WC.region (WO.step rfl (OR.move rfl ?_)))))))
    refine WO.step rfl (OR.nilCheck rfl (WO.step rfl (OR.fieldAddr FA129_1 rfl (WO.step rfl (OR.load T3 rfl rfl (hs.cellM (i := 0) rfl rfl) (WO.step rfl (OR.addI rfl rfl (by omega) (by omega) ?_)))))))
    refine WO.step rfl (OR.nilCheck rfl (WO.step rfl (OR.fieldAddr FA129_1 rfl (WO.stepN (OR.store hs T3 rfl rfl rfl (Nat.le_of_ble_eq_true rfl) rfl ?_)))))
    clear hs; intro w hs
    refine WO.done ?_
    refine WX.end0 rfl ?_
    refine ⟨_, H, _, rfl, hs, by simp, c2, rfl, rfl, hsz, hm.congr fun i hi => ?_⟩
    rw [gClear_get _ _ _ _ (by omega)]
    unfold clrF
    by_cases e : i = d
    · rw [if_neg (by omega), if_pos e, e]
    · rw [if_pos ⟨by omega, e⟩, if_neg e]
end Go.Bw
namespace Go.Bw
set_option linter.unusedVariables false
set_option linter.unusedSimpArgs false
open Go.Proofs

theorem gFind_at {k d i : Nat} {R : List (List UInt8)} (h1 : d ≤ i) (h2 : i < R.length) (h3 : ∀ j, d ≤ j → j < i → E R j k = 0) (h4 : E R i k ≠ 0) : gFind k d R = some i := by
  unfold gFind
  have hE : ∀ j (hj : d ≤ j) (hl : j < R.length), E R j k = (R[j]).getD k 0 := fun j hj hl => by unfold E; rw [List.getD_eq_getElem?_getD (l := R), List.getElem?_eq_getElem hl]; rfl
  rw [Option.map_eq_some_iff]
  refine ⟨i - d, ?_, by omega⟩
  rw [List.findIdx?_eq_some_iff_getElem]
  refine ⟨by rw [List.length_drop]; omega, ?_, fun j hj => ?_⟩
  · rw [List.getElem_drop]
    have e : d + (i - d) = i := by omega
    simp only [e]
    rw [← hE i h1 h2]
    simpa using h4
  · rw [List.getElem_drop, ← hE (d + j) (by omega) (by omega), h3 (d + j) (by omega) (by omega)]
    simp
theorem gFind_no {k d : Nat} {R : List (List UInt8)} (h3 : ∀ j, d ≤ j → j < R.length → E R j k = 0) : gFind k d R = none := by
  cases h : gFind k d R with
  | none => rfl
  | some i =>
    obtain ⟨h1, h2, h4⟩ := gFind_some h
    exact absurd (h3 i h1 h2) h4
theorem gAll_succ (R : List (List UInt8)) (n : Nat) : gAll (n + 1) R = gStep (gAll n R) n := by unfold gAll; rw [List.range_succ, List.foldl_append]; rfl

set_option maxRecDepth 20000 in
set_option maxHeartbeats 2000000 in
theorem reducedM_ok (R : List (List UInt8)) (b g n cap cols : Nat) (c : Array Value) (H0 : Hp) (w0 : World) (h0 : Sub H0 w0) (hb : w0.heap[b]? = some (wObj g n cap 0)) (hnb : H0 b = none)
    (hg : w0.heap[g]? = some (.cells c 37)) (hng : H0 g = none) (hne : b ≠ g) (hc : MatF H0 c n (R.getD · [])) (hn : n = R.length) (hcap : n ≤ c.size)
    (hl : ∀ a, a < R.length → (R.getD a []).length = cols) (hcols : cols ≤ 255) (hn6 : n ≤ 1000000) :
    Calls Try.prog 83 #[ptr b, .int .i64 (cols : Int)] w0 (Ret [b, g] H0 w0 fun v H' M' => ∃ c', v = .int .i64 ((gAll cols R).2 : Int) ∧
      M' = [(b, wObj g n cap (gAll cols R).2, true), (g, .cells c' 37, true)] ∧ c'.size = c.size ∧ MatF H' c' n ((gAll cols R).1.getD · [])) := by
  have hs := HS.startW h0 hb hnb hg hng hne
  have hle := Hp.le.refl H0
  refine Calls.enter (args := [ptr b, .int .i64 (cols : Int)]) Try.func83 rfl Try.ntmps83 rfl ?_
  refine WC.seq (WC.region (WO.step rfl (OR.assign rfl (WO.done (WX.seq (WC.scope (WC.seq ?_)))))))
  refine WC.region (WO.step rfl (OR.move rfl (WO.step rfl (OR.makeFunc rfl rfl (WO.step rfl (OR.assign rfl (WO.done ?_)))))))
  refine WX.seq (WC.seq (WC.label (WX.seq (WC.seq (WC.seq (WC.region (WO.step rfl ?_)))))))
  refine OR.move rfl (WO.step rfl (OR.move rfl (WO.done (WX.seq (WC.block ?_)))))
  refine WC.loop (ι := Nat) (fun k => [(0, ptr b), (1, .int .i64 (cols : Int)), (5, .func (.func 110) #[ptr b] #[]), (13, .int .i64 (cols : Int)), (14, .int .i64 (k : Int))]) (fun k w => (k ≤ cols ∧ ∃ H c2, Hp.le H0 H ∧ c2.size = c.size ∧ MatF H c2 n ((gAll k R).1.getD · []) ∧ HS [b, g] H0 w0 H [(b, wObj g n cap (gAll k R).2, true), (g, .cells c2 37, true)] w)) (fun k => cols - k) 0 ⟨rfl, rfl, rfl, rfl, rfl,  trivial⟩ ?_ (fun k w hW => ?_)
  · exact ⟨by omega, H0, c, hle, rfl, hc, hs⟩
  obtain ⟨hk, H, c2, hle, hsz, hm, hs⟩ := hW
  refine WC.seq (WC.region (WO.step rfl (OR.lss rfl rfl (WO.done (WX.seq (WC.seq ?_))))))
  refine WC.condD rfl (fun hlt => ?_) (fun hlt => ?_)
  · have hk' : k < cols := by omega
    obtain ⟨L, hL, hRl⟩ := gAll_ok hl k hk
    have hRs := gAll_succ R k
    generalize hp : gAll k R = p at hm hs hL hRl hRs
    obtain ⟨R2, d⟩ := p
    simp only at hm hs hL hRl
    have hdn := hL.dle
    refine WC.skip (WX.seq (WC.seq (WC.block (WC.seq (WC.region (WO.step rfl (OR.move rfl ?_)))))))
    refine WO.step rfl (OR.assign rfl (WO.done (WX.seq (WC.seq (WC.region (WO.step rfl (OR.move rfl ?_)))))))
    refine WO.step rfl (OR.nilCheck rfl (WO.step rfl (OR.fieldAddr FA129_1 rfl (WO.step rfl (OR.load T3 rfl rfl (hs.cellM (i := 0) rfl rfl) (WO.step rfl (OR.assign rfl ?_)))))))
    refine WO.done (WX.seq (WC.block ?_))
    refine WC.loop (ι := Nat) (fun i => [(0, ptr b), (1, .int .i64 (cols : Int)), (5, .func (.func 110) #[ptr b] #[]), (6, .int .i64 (k : Int)), (7, .int .i64 (i : Int)), (13, .int .i64 (cols : Int)), (14, .int .i64 (k : Int))]) (fun i w => (d ≤ i ∧ i ≤ n ∧ (∀ j, d ≤ j → j < i → E R2 j k = 0) ∧ HS [b, g] H0 w0 H [(b, wObj g n cap d, true), (g, .cells c2 37, true)] w)) (fun i => n - i) d ⟨rfl, rfl, rfl, rfl, rfl, rfl, rfl,  trivial⟩ ?_ (fun i w hW => ?_)
    · exact ⟨Nat.le_refl _, by omega, fun j h1 h2 => by omega, hs⟩
    clear hs
    obtain ⟨hdi, hi, hz, hs⟩ := hW
    refine WC.seq (WC.seq (WC.region (WO.step rfl (OR.move rfl (WO.step rfl (OR.move rfl (WO.step rfl ?_)))))))
    refine OR.nilCheck rfl (WO.step rfl (OR.fieldAddr FA129_0 rfl (WO.step rfl (OR.load T31 rfl rfl (hs.cellM (i := 0) rfl rfl) (WO.step rfl (OR.lenSlice T31.und rfl (WO.step rfl ?_)))))))
    refine OR.lss rfl rfl (WO.done (WX.seq ?_))
    refine WC.condD rfl (fun hlt2 => ?_) (fun hlt2 => ?_)
    · have hi' : i < n := by omega
      obtain ⟨vi, hci, hvi⟩ := hm i hi'
      have hli := hL.len i (by omega)
      obtain ⟨bi, ci, rfl⟩ := hvi.form
      obtain ⟨xb, xo, rfl, hx⟩ := hvi.pos (by show 0 < (R2.getD i []).length; omega)
      have hx2 := hx k (by show k < (R2.getD i []).length; omega)
      have hEk : E R2 i k = (R2.getD i [])[k]'(by omega) := by unfold E; rw [List.getD_eq_getElem?_getD (l := R2.getD i []), List.getElem?_eq_getElem (by omega)]; rfl
      simp only at hx2
      rw [← hEk] at hx2
      refine WC.skip (WX.seq (WC.seq (WC.block (WC.seq (WC.region (WO.step rfl (OR.move rfl ?_)))))))
      refine WO.step rfl (OR.nilCheck rfl (WO.step rfl (OR.fieldAddr FA129_0 rfl (WO.step rfl (OR.load T31 rfl rfl (hs.cellM (i := 0) rfl rfl) (WO.step rfl (OR.move rfl ?_)))))))
      refine WO.step rfl (OR.idx i T31.und T37 rfl rfl rfl hi' ?_)
      refine WO.step rfl (OR.load T37 rfl rfl (cells_at (j := 0) (hs.blk (i := 1) rfl) (by rw [Nat.zero_add]; exact hci)) ?_)
      refine WO.step rfl (OR.move rfl ?_)
      refine WO.step rfl (OR.idx k T37.und T5 rfl rfl rfl (by show k < (R2.getD i []).length; omega) ?_)
      refine WO.step rfl (OR.load T5 rfl rfl (hs.cell hx2) ?_)
      refine WO.step rfl (OR.assign rfl (WO.done (WX.seq (WC.seq (WC.seq (WC.region (WO.step rfl ?_)))))))
      refine OR.move rfl (WO.step rfl (OR.eql rfl rfl (WO.done (WX.seq ?_))))
      refine WC.condD rfl (fun hzero => ?_) (fun hzero => ?_)
      · refine WC.exit (WX.seq_exit (WX.block_hit (WX.seq (WC.region (WO.step rfl (OR.move rfl (WO.step rfl ?_)))))))
        refine OR.addI rfl rfl (by omega) (by omega) (WO.step rfl (OR.assign rfl (WO.done ?_)))
        refine WX.again (i + 1) ⟨rfl, rfl, rfl, rfl, rfl, rfl, rfl,  trivial⟩ ?_ ?_
        · refine ⟨by omega, by omega, fun j h1 h2 => ?_, hs⟩
          by_cases e : j = i
          · subst e
            exact UInt8.toNat.inj (by simpa using hzero)
          · exact hz j h1 (by omega)
        · omega
      · have hx0 : E R2 i k ≠ 0 := fun e => hzero (by rw [e]; rfl)
        have hf : gFind k d R2 = some i := gFind_at hdi (by omega) hz hx0
        have hd' : d < n := by omega
        obtain ⟨vd, hcd, hvd⟩ := hm d hd'
        have hl1 := gSwap_len d i R2
        refine WC.skip (WX.seq (WC.seq ?_))
        refine WC.draw 30 mixed hs (by kernel_rfl) ?_
        refine ⟨MF.eq _, by intro Mx H w hle hs; refine forVals_nil (ORg.plain (OR.move rfl ?_)); exact ⟨_, [], Hp.le.refl _, hs, rfl, rfl⟩, ?_⟩
        refine ⟨MF.eq _, by intro Mx H w hle hs; refine forVals_eq rfl rfl rfl ?_; refine forVals_nil (ORg.plain (OR.nilCheck rfl ?_)); exact ⟨_, [], Hp.le.refl _, hs, rfl, rfl⟩, ?_⟩
        refine ⟨MF.eq _, by intro Mx H w hle hs; refine forVals_eq rfl rfl rfl ?_; refine forVals_nil (ORg.plain (OR.fieldAddr FA129_0 rfl ?_)); exact ⟨_, [], Hp.le.refl _, hs, rfl, rfl⟩, ?_⟩
        refine ⟨MF.eq _, by intro Mx H w hle hs; refine forVals_eq rfl rfl rfl ?_; refine forVals_nil (ORg.plain (OR.load T31 rfl rfl (hs.right.cellM (i := 0) rfl rfl) ?_)); exact ⟨_, [], Hp.le.refl _, hs, rfl, rfl⟩, ?_⟩
        refine ⟨MF.eq _, by intro Mx H w hle hs; refine forVals_nil (ORg.plain (OR.move rfl ?_)); exact ⟨_, [], Hp.le.refl _, hs, rfl, rfl⟩, ?_⟩
        refine ⟨MF.eq _, by intro Mx H w hle hs; refine forVals_nil (ORg.plain (OR.move rfl ?_)); exact ⟨_, [], Hp.le.refl _, hs, rfl, rfl⟩, ?_⟩
        refine ⟨MF.eq _, by intro Mx H w hle hs; refine forVals_eq rfl rfl rfl ?_; refine forVals_nil (ORg.plain (OR.nilCheck rfl ?_)); exact ⟨_, [], Hp.le.refl _, hs, rfl, rfl⟩, ?_⟩
        refine ⟨MF.eq _, by intro Mx H w hle hs; refine forVals_eq rfl rfl rfl ?_; refine forVals_nil (ORg.plain (OR.fieldAddr FA129_0 rfl ?_)); exact ⟨_, [], Hp.le.refl _, hs, rfl, rfl⟩, ?_⟩
        refine ⟨MF.eq _, by intro Mx H w hle hs; refine forVals_eq rfl rfl rfl ?_; refine forVals_nil (ORg.plain (OR.load T31 rfl rfl (hs.right.cellM (i := 0) rfl rfl) ?_)); exact ⟨_, [], Hp.le.refl _, hs, rfl, rfl⟩, ?_⟩
        refine ⟨MF.eq _, by intro Mx H w hle hs; refine forVals_nil (ORg.plain (OR.move rfl ?_)); exact ⟨_, [], Hp.le.refl _, hs, rfl, rfl⟩, ?_⟩
        refine ⟨MF.eq _, by intro Mx H w hle hs; refine forVals_eq rfl rfl rfl ?_; refine forVals_nil (ORg.plain (OR.nilCheck rfl ?_)); exact ⟨_, [], Hp.le.refl _, hs, rfl, rfl⟩, ?_⟩
        refine ⟨MF.eq _, by intro Mx H w hle hs; refine forVals_eq rfl rfl rfl ?_; refine forVals_nil (ORg.plain (OR.fieldAddr FA129_1 rfl ?_)); exact ⟨_, [], Hp.le.refl _, hs, rfl, rfl⟩, ?_⟩
        refine ⟨MF.eq _, by intro Mx H w hle hs; refine forVals_eq rfl rfl rfl ?_; refine forVals_nil (ORg.plain (OR.load T3 rfl rfl (hs.right.cellM (i := 0) rfl rfl) ?_)); exact ⟨_, [], Hp.le.refl _, hs, rfl, rfl⟩, ?_⟩
        refine ⟨MF.eq _, by intro Mx H w hle hs; refine forVals_nil (ORg.plain (OR.move rfl ?_)); exact ⟨_, [], Hp.le.refl _, hs, rfl, rfl⟩, ?_⟩
        refine ⟨MF.eq _, by intro Mx H w hle hs; refine forVals_eq rfl rfl rfl ?_; refine forVals_nil (ORg.plain (OR.nilCheck rfl ?_)); exact ⟨_, [], Hp.le.refl _, hs, rfl, rfl⟩, ?_⟩
        refine ⟨MF.eq _, by intro Mx H w hle hs; refine forVals_eq rfl rfl rfl ?_; refine forVals_nil (ORg.plain (OR.fieldAddr FA129_0 rfl ?_)); exact ⟨_, [], Hp.le.refl _, hs, rfl, rfl⟩, ?_⟩
        refine ⟨MF.eq _, by intro Mx H w hle hs; refine forVals_eq rfl rfl rfl ?_; refine forVals_nil (ORg.plain (OR.load T31 rfl rfl (hs.right.cellM (i := 0) rfl rfl) ?_)); exact ⟨_, [], Hp.le.refl _, hs, rfl, rfl⟩, ?_⟩
        refine ⟨MF.eq _, by intro Mx H w hle hs; refine forVals_nil (ORg.plain (OR.move rfl ?_)); exact ⟨_, [], Hp.le.refl _, hs, rfl, rfl⟩, ?_⟩
        refine ⟨MF.eq _, by intro Mx H w hle hs; refine forVals_eq rfl rfl rfl ?_; refine forVals_nil (ORg.plain (OR.nilCheck rfl ?_)); exact ⟨_, [], Hp.le.refl _, hs, rfl, rfl⟩, ?_⟩
        refine ⟨MF.eq _, by intro Mx H w hle hs; refine forVals_eq rfl rfl rfl ?_; refine forVals_nil (ORg.plain (OR.fieldAddr FA129_1 rfl ?_)); exact ⟨_, [], Hp.le.refl _, hs, rfl, rfl⟩, ?_⟩
        refine ⟨MF.eq _, by intro Mx H w hle hs; refine forVals_eq rfl rfl rfl ?_; refine forVals_nil (ORg.plain (OR.load T3 rfl rfl (hs.right.cellM (i := 0) rfl rfl) ?_)); exact ⟨_, [], Hp.le.refl _, hs, rfl, rfl⟩, ?_⟩
        refine ⟨MF.eq (.pointer (some ⟨g, 0 + d, none⟩)), ?_, ?_⟩
        · intro Mx H w hle2 hs; (try replace hle := hle.trans hle2); (try replace hlb := hlb.trans hle2); refine forVals_eq rfl rfl rfl ?_; refine forVals_eq rfl rfl rfl ?_
          refine forVals_nil (ORg.plain (OR.idx d T31.und T37 rfl rfl rfl hd' ?_))
          exact ⟨_, [], Hp.le.refl _, hs, rfl, rfl⟩
        refine ⟨MF.eq vd, ?_, ?_⟩
        · intro Mx H w hle2 hs; (try replace hle := hle.trans hle2); (try replace hlb := hlb.trans hle2); refine forVals_eq rfl rfl rfl ?_
          refine forVals_nil (ORg.plain (OR.load T37 rfl rfl (cells_at (j := 0) (hs.right.blk (i := 1) rfl) (by rw [Nat.zero_add]; exact hcd)) ?_))
          exact ⟨_, [], Hp.le.refl _, hs, rfl, rfl⟩
        refine ⟨MF.eq _, by intro Mx H w hle hs; refine forVals_nil (ORg.plain (OR.move rfl ?_)); exact ⟨_, [], Hp.le.refl _, hs, rfl, rfl⟩, ?_⟩
        refine ⟨MF.eq _, by intro Mx H w hle hs; refine forVals_eq rfl rfl rfl ?_; refine forVals_nil (ORg.plain (OR.nilCheck rfl ?_)); exact ⟨_, [], Hp.le.refl _, hs, rfl, rfl⟩, ?_⟩
        refine ⟨MF.eq _, by intro Mx H w hle hs; refine forVals_eq rfl rfl rfl ?_; refine forVals_nil (ORg.plain (OR.fieldAddr FA129_0 rfl ?_)); exact ⟨_, [], Hp.le.refl _, hs, rfl, rfl⟩, ?_⟩
        refine ⟨MF.eq _, by intro Mx H w hle hs; refine forVals_eq rfl rfl rfl ?_; refine forVals_nil (ORg.plain (OR.load T31 rfl rfl (hs.right.cellM (i := 0) rfl rfl) ?_)); exact ⟨_, [], Hp.le.refl _, hs, rfl, rfl⟩, ?_⟩
        refine ⟨MF.eq _, by intro Mx H w hle hs; refine forVals_nil (ORg.plain (OR.move rfl ?_)); exact ⟨_, [], Hp.le.refl _, hs, rfl, rfl⟩, ?_⟩
        refine ⟨MF.eq (.pointer (some ⟨g, 0 + i, none⟩)), ?_, ?_⟩
        · intro Mx H w hle2 hs; (try replace hle := hle.trans hle2); (try replace hlb := hlb.trans hle2); refine forVals_eq rfl rfl rfl ?_; refine forVals_eq rfl rfl rfl ?_
          refine forVals_nil (ORg.plain (OR.idx i T31.und T37 rfl rfl rfl hi' ?_))
          exact ⟨_, [], Hp.le.refl _, hs, rfl, rfl⟩
        refine ⟨MF.eq (.slice (some ⟨xb, xo, none⟩) (R2.getD i []).length ci), ?_, ?_⟩
        · intro Mx H w hle2 hs; (try replace hle := hle.trans hle2); (try replace hlb := hlb.trans hle2); refine forVals_eq rfl rfl rfl ?_
          refine forVals_nil (ORg.plain (OR.load T37 rfl rfl (cells_at (j := 0) (hs.right.blk (i := 1) rfl) (by rw [Nat.zero_add]; exact hci)) ?_))
          exact ⟨_, [], Hp.le.refl _, hs, rfl, rfl⟩
        intro H w hle2; (try replace hle := hle.trans hle2); (try replace hlb := hlb.trans hle2)
        refine forAllVals_eq rfl ?_
        refine forAllVals_eq rfl ?_
        refine forAllVals_eq rfl ?_
        refine forAllVals_eq rfl ?_
        refine forAllVals_eq rfl ?_
        refine forAllVals_eq rfl ?_
        refine forAllVals_eq rfl ?_
        refine forAllVals_eq rfl ?_
        refine forAllVals_eq rfl ?_
        refine forAllVals_eq rfl ?_
        refine forAllVals_eq rfl ?_
        refine forAllVals_eq rfl ?_
        refine forAllVals_eq rfl ?_
        refine forAllVals_eq rfl ?_
        refine forAllVals_eq rfl ?_
        refine forAllVals_eq rfl ?_
        refine forAllVals_eq rfl ?_
        refine forAllVals_eq rfl ?_
        refine forAllVals_eq rfl ?_
        refine forAllVals_eq rfl ?_
        refine forAllVals_eq rfl ?_
        refine forAllVals_eq rfl ?_
        refine forAllVals_eq rfl ?_
        refine forAllVals_eq rfl ?_
        refine forAllVals_eq rfl ?_
        refine forAllVals_eq rfl ?_
        refine forAllVals_eq rfl ?_
        refine forAllVals_eq rfl ?_
        refine forAllVals_eq rfl ?_
        refine forAllVals_eq rfl ?_
        refine forAllVals_nil ?_; (try clear hs); intro hs
        refine WO.step rfl (OR.idx i T31.und T37 rfl rfl rfl hi' ?_)
        replace hs := hs.front (i := 1) rfl
        obtain ⟨bd, cd, rfl⟩ := hvd.form
        refine WO.stepN (OR.store hs T37 rfl rfl rfl (by show 0 + i + 1 ≤ c2.size; omega) rfl ?_)
        clear hs; intro w hs
        refine WO.step rfl (OR.idx d T31.und T37 rfl rfl rfl hd' ?_)
        refine WO.stepN (OR.store hs T37 rfl rfl rfl (by rw [List.size_toArray, setL_length]; show 0 + d + 1 ≤ c2.size; omega) rfl ?_)
        clear hs; intro w hs
        refine WO.done (WX.seq (WC.seq (WC.region (WO.step rfl (OR.move rfl ?_)))))
        replace hs := hs.front (i := 1) rfl
        have hm1 := ((hm.mono hle2).set i (by omega) (hvd.mono hle2)).set d (by rw [List.size_toArray, setL_length]; show d < c2.size; omega) (hvi.mono hle2)
        rw [Nat.zero_add, Nat.zero_add] at hs
        have hm1' := hm1.congr (f' := ((gSwap d i R2).getD · [])) (fun j hj => by
          simp only
          rw [gSwap_get d i j R2 (by omega) (by omega)])
        clear hm1
        have hsz1 : ((setL (setL c2.toList i [.slice bd (R2.getD d []).length cd]).toArray.toList d [.slice (some ⟨xb, xo, none⟩) (R2.getD i []).length ci]).toArray).size = c.size := by
          simp [setL_length, hsz]
        obtain ⟨c3, hc3⟩ : ∃ c3, c3 = (setL (setL c2.toList i [.slice bd (R2.getD d []).length cd]).toArray.toList d [.slice (some ⟨xb, xo, none⟩) (R2.getD i []).length ci]).toArray := ⟨_, rfl⟩
        rw [← hc3] at hm1' hsz1
        replace hs : HS [b, g] H0 w0 H [(b, wObj g n cap d, true), (g, .cells c3 37, true)] w := by rw [hc3]; exact hs
        clear hc3
        have hE1 : E (gSwap d i R2) d k = E R2 i k := by rw [E_swap (by omega) (by omega), if_pos rfl]
        have hg1d : (gSwap d i R2).getD d [] = R2.getD i [] := by rw [gSwap_get d i d R2 (by omega) (by omega), if_pos rfl]
        obtain ⟨vd3, hcd3, hvd3⟩ := hm1' d hd'
        simp only [hg1d] at hvd3
        refine WO.step rfl (OR.call hs body66 rfl rfl (inv_ok (E R2 i k) _ _ hs.toSub) ?_)
        clear hs; rintro _ H w hs hle1 rfl; replace hle := hle.trans hle1; (try replace hlb := hlb.trans hle1)
        rw [if_neg hx0]
        refine WO.step rfl (OR.move rfl (WO.step rfl (OR.extract rfl rfl (WO.step rfl (OR.extract rfl rfl (WO.step rfl (OR.assign rfl ?_)))))))
        refine WO.step rfl (OR.assign rfl (WO.done (WX.seq (WC.seq ?_))))
        replace hvd3 := hvd3.mono hle1
        replace hm1' := hm1'.mono hle1
        have hlb := Hp.le.refl H
        refine WC.draw 20 mixed hs (by kernel_rfl) ?_
        refine ⟨MF.eq _, by intro Mx H w hle hs; refine forVals_nil (ORg.plain (OR.move rfl ?_)); exact ⟨_, [], Hp.le.refl _, hs, rfl, rfl⟩, ?_⟩
        refine ⟨MF.eq _, by intro Mx H w hle hs; refine forVals_eq rfl rfl rfl ?_; refine forVals_nil (ORg.plain (OR.nilCheck rfl ?_)); exact ⟨_, [], Hp.le.refl _, hs, rfl, rfl⟩, ?_⟩
        refine ⟨MF.eq _, by intro Mx H w hle hs; refine forVals_eq rfl rfl rfl ?_; refine forVals_nil (ORg.plain (OR.fieldAddr FA129_0 rfl ?_)); exact ⟨_, [], Hp.le.refl _, hs, rfl, rfl⟩, ?_⟩
        refine ⟨MF.eq _, by intro Mx H w hle hs; refine forVals_eq rfl rfl rfl ?_; refine forVals_nil (ORg.plain (OR.load T31 rfl rfl (hs.right.cellM (i := 0) rfl rfl) ?_)); exact ⟨_, [], Hp.le.refl _, hs, rfl, rfl⟩, ?_⟩
        refine ⟨MF.eq _, by intro Mx H w hle hs; refine forVals_nil (ORg.plain (OR.move rfl ?_)); exact ⟨_, [], Hp.le.refl _, hs, rfl, rfl⟩, ?_⟩
        refine ⟨MF.eq _, by intro Mx H w hle hs; refine forVals_eq rfl rfl rfl ?_; refine forVals_nil (ORg.plain (OR.nilCheck rfl ?_)); exact ⟨_, [], Hp.le.refl _, hs, rfl, rfl⟩, ?_⟩
        refine ⟨MF.eq _, by intro Mx H w hle hs; refine forVals_eq rfl rfl rfl ?_; refine forVals_nil (ORg.plain (OR.fieldAddr FA129_1 rfl ?_)); exact ⟨_, [], Hp.le.refl _, hs, rfl, rfl⟩, ?_⟩
        refine ⟨MF.eq _, by intro Mx H w hle hs; refine forVals_eq rfl rfl rfl ?_; refine forVals_nil (ORg.plain (OR.load T3 rfl rfl (hs.right.cellM (i := 0) rfl rfl) ?_)); exact ⟨_, [], Hp.le.refl _, hs, rfl, rfl⟩, ?_⟩
        refine ⟨MF.eq _, by intro Mx H w hle hs; refine forVals_nil (ORg.plain (OR.move rfl ?_)); exact ⟨_, [], Hp.le.refl _, hs, rfl, rfl⟩, ?_⟩
        refine ⟨MF.eq _, by intro Mx H w hle hs; refine forVals_eq rfl rfl rfl ?_; refine forVals_nil (ORg.plain (OR.nilCheck rfl ?_)); exact ⟨_, [], Hp.le.refl _, hs, rfl, rfl⟩, ?_⟩
        refine ⟨MF.eq _, by intro Mx H w hle hs; refine forVals_eq rfl rfl rfl ?_; refine forVals_nil (ORg.plain (OR.fieldAddr FA129_0 rfl ?_)); exact ⟨_, [], Hp.le.refl _, hs, rfl, rfl⟩, ?_⟩
        refine ⟨MF.eq _, by intro Mx H w hle hs; refine forVals_eq rfl rfl rfl ?_; refine forVals_nil (ORg.plain (OR.load T31 rfl rfl (hs.right.cellM (i := 0) rfl rfl) ?_)); exact ⟨_, [], Hp.le.refl _, hs, rfl, rfl⟩, ?_⟩
        refine ⟨MF.eq _, by intro Mx H w hle hs; refine forVals_nil (ORg.plain (OR.move rfl ?_)); exact ⟨_, [], Hp.le.refl _, hs, rfl, rfl⟩, ?_⟩
        refine ⟨MF.eq _, by intro Mx H w hle hs; refine forVals_eq rfl rfl rfl ?_; refine forVals_nil (ORg.plain (OR.nilCheck rfl ?_)); exact ⟨_, [], Hp.le.refl _, hs, rfl, rfl⟩, ?_⟩
        refine ⟨MF.eq _, by intro Mx H w hle hs; refine forVals_eq rfl rfl rfl ?_; refine forVals_nil (ORg.plain (OR.fieldAddr FA129_1 rfl ?_)); exact ⟨_, [], Hp.le.refl _, hs, rfl, rfl⟩, ?_⟩
        refine ⟨MF.eq _, by intro Mx H w hle hs; refine forVals_eq rfl rfl rfl ?_; refine forVals_nil (ORg.plain (OR.load T3 rfl rfl (hs.right.cellM (i := 0) rfl rfl) ?_)); exact ⟨_, [], Hp.le.refl _, hs, rfl, rfl⟩, ?_⟩
        refine ⟨MF.eq (.pointer (some ⟨g, 0 + d, none⟩)), ?_, ?_⟩
        · intro Mx H w hle2 hs; (try replace hle := hle.trans hle2); (try replace hlb := hlb.trans hle2); refine forVals_eq rfl rfl rfl ?_; refine forVals_eq rfl rfl rfl ?_
          refine forVals_nil (ORg.plain (OR.idx d T31.und T37 rfl rfl rfl hd' ?_))
          exact ⟨_, [], Hp.le.refl _, hs, rfl, rfl⟩
        refine ⟨MF.eq vd3, ?_, ?_⟩
        · intro Mx H w hle2 hs; (try replace hle := hle.trans hle2); (try replace hlb := hlb.trans hle2); refine forVals_eq rfl rfl rfl ?_
          refine forVals_nil (ORg.plain (OR.load T37 rfl rfl (cells_at (j := 0) (hs.right.blk (i := 1) rfl) (by rw [Nat.zero_add]; exact hcd3)) ?_))
          exact ⟨_, [], Hp.le.refl _, hs, rfl, rfl⟩
        refine ⟨MF.eq _, by intro Mx H w hle hs; refine forVals_nil (ORg.plain (OR.move rfl ?_)); exact ⟨_, [], Hp.le.refl _, hs, rfl, rfl⟩, ?_⟩
        refine ⟨MF.bytes ((R2.getD i []).map fun x => mul x (inv (E R2 i k))), ?_, ?_⟩
        · intro Mx H w hle2 hs; (try replace hle := hle.trans hle2); (try replace hlb := hlb.trans hle2); refine forVals_eq rfl rfl rfl ?_; refine forVals_eq rfl rfl rfl ?_
          refine forVals_nil (ORg.plain (OR.call hs body67 rfl rfl (scale_ok _ (R2.getD i []) _ _ _ hs.toSub (hvd3.mono hlb) (by omega)) ?_))
          clear hs; rintro _ H w hs hle1 hr
          exact ⟨_, [], hle1, hs, hr, rfl⟩
        intro H w hle2; (try replace hle := hle.trans hle2); (try replace hlb := hlb.trans hle2)
        refine forAllVals_eq rfl ?_
        refine forAllVals_eq rfl ?_
        refine forAllVals_eq rfl ?_
        refine forAllVals_eq rfl ?_
        refine forAllVals_eq rfl ?_
        refine forAllVals_eq rfl ?_
        refine forAllVals_eq rfl ?_
        refine forAllVals_eq rfl ?_
        refine forAllVals_eq rfl ?_
        refine forAllVals_eq rfl ?_
        refine forAllVals_eq rfl ?_
        refine forAllVals_eq rfl ?_
        refine forAllVals_eq rfl ?_
        refine forAllVals_eq rfl ?_
        refine forAllVals_eq rfl ?_
        refine forAllVals_eq rfl ?_
        refine forAllVals_eq rfl ?_
        refine forAllVals_eq rfl ?_
        refine forAllVals_eq rfl ?_
        refine forAllVals_of rfl ?_; intro v19 h19
        refine forAllVals_nil ?_; (try clear hs); intro hs
        obtain ⟨b19, c19, rfl⟩ := h19.form
        refine WO.step rfl (OR.idx d T31.und T37 rfl rfl rfl hd' ?_)
        replace hs := hs.front (i := 1) rfl
        refine WO.stepN (OR.store hs T37 rfl rfl rfl (by show 0 + d + 1 ≤ c3.size; omega) rfl ?_)
        clear hs; intro w hs
        refine WO.done (WX.seq (WC.seq (WC.region (WO.step rfl (OR.move rfl (WO.step rfl (OR.move rfl ?_)))))))
        replace hs := hs.front (i := 1) rfl
        rw [Nat.zero_add] at hs
        have hm2 := ((hm1'.mono hlb).set d (by omega) h19).congr (f' := ((gScale k d (gSwap d i R2)).getD · [])) (fun j hj => by
          (try simp only)
          rw [gScale_get k d j _ (by omega), hg1d, hE1])
        have hsz2 : ((setL c3.toList d [.slice b19 ((R2.getD i []).map fun x => mul x (inv (E R2 i k))).length c19]).toArray).size = c.size := by
          simp [setL_length, hsz1]
        obtain ⟨c4, hc4⟩ : ∃ c4, c4 = (setL c3.toList d [.slice b19 ((R2.getD i []).map fun x => mul x (inv (E R2 i k))).length c19]).toArray := ⟨_, rfl⟩
        rw [← hc4] at hm2 hsz2
        replace hs : HS [b, g] H0 w0 H [(b, wObj g n cap d, true), (g, .cells c4 37, true)] w := by rw [hc4]; exact hs
        clear hc4
        clear hm1' hsz1
        refine WO.step rfl (OR.callX (Mx := [(b, _, true), (g, _, true)]) hs body110 rfl rfl (clear_ok (gScale k d (gSwap d i R2)) k d b g n cap cols c4 _ _ hs.toSub (hs.blk (i := 0) rfl) (hs.mem b _ true (List.mem_cons_self ..)).2.1 (hs.blk (i := 1) rfl) (hs.mem g _ true (List.mem_cons_of_mem _ (List.mem_cons_self ..))).2.1 hne hm2 (by rw [gScale_len]; omega) (by omega) hd' (fun a ha => scale_len (by omega) (fun a ha => swap_len (by omega) (by omega) hL.len a (by omega)) a (by omega)) hk' hcols hn6) rfl rfl ?_)
        clear hs; rintro _ H M' w hs hle1 hnew ⟨c5, rfl, rfl, hsz5, hm5⟩; replace hle := hle.trans hle1; (try replace hlb := hlb.trans hle1)
        refine WO.done (WX.seq (WC.exit (WX.block_miss rfl (WX.seq_exit (WX.loop_exit (WX.block_miss rfl (WX.block_hit ?_)))))))
        refine WX.seq (WC.region (WO.step rfl (OR.addI rfl rfl (by omega) (by omega) (WO.step rfl (OR.move rfl (WO.done ?_))))))
        refine WX.again (k + 1) ⟨rfl, rfl, rfl, rfl, rfl,  trivial⟩ ?_ ?_
        · have e : gAll (k + 1) R = (gClear k d (gScale k d (gSwap d i R2)), d + 1) := by rw [hRs, gStep_some hf]
          rw [e]
          exact ⟨hk', H, c5, hle, by omega, hm5, hs⟩
        · omega
    · have e : i = n := by omega
      subst e
      have e : gAll (k + 1) R = (R2, d) := by rw [hRs, gStep_none (gFind_no fun j h1 h2 => hz j h1 (by have h3 : j < R2.length := h2; omega))]
      refine WC.exit (WX.seq_exit (WX.loop_exit (WX.block_hit (WX.block (WX.seq (WC.region (WO.step rfl ?_)))))))
      refine OR.addI rfl rfl (by omega) (by omega) (WO.step rfl (OR.move rfl (WO.done ?_)))
      refine WX.again (k + 1) ⟨rfl, rfl, rfl, rfl, rfl,  trivial⟩ ?_ ?_
      · rw [e]
        exact ⟨hk', H, c2, hle, hsz, hm, hs⟩
      · omega
  · have e : k = cols := by omega
    subst e
    refine WC.exit (WX.seq_exit (WX.loop_exit (WX.block_hit (WX.seq (WC.seq (WC.region (WO.step rfl ?_)))))))
    refine OR.move rfl (WO.step rfl (OR.nilCheck rfl (WO.step rfl (OR.fieldAddr FA129_1 rfl (WO.step rfl (OR.load T3 rfl rfl (hs.cellM (i := 0) rfl rfl) (WO.step rfl ?_)))))))
    refine OR.assign rfl (WO.done (WX.seq (WC.ret (WX.scope_ret ?_))))
    refine WX.ret1 rfl rfl ?_
    exact ⟨_, H, _, rfl, hs, by simp, c2, rfl, rfl, hsz, hm⟩

theorem BytesL.all_one {H : Hp} {cs : List Value} {R : List (List UInt8)} (h : cs.length = R.length) (hb : ∀ i (h : i < R.length) (h' : i < cs.length), Bytes H cs[i] R[i]) : cs.all (·.oneCell') = true := by
  rw [List.all_eq_true]
  intro v hv
  obtain ⟨i, hi, rfl⟩ := List.mem_iff_getElem.1 hv
  obtain ⟨_, _, e⟩ := (hb i (by omega) hi).form
  rw [e]; rfl
theorem build_work (a : Option Addr) (n c : Nat) (w : World) : (Instr.build 129 #[(0, .slice a n c)]).run Try.prog w = .ok (.agg #[.slice a n c, .int .i64 0]) w := by
  have h := PL129 w
  simp only [Instr.build, Sem.run_bind, T129.run_zero, run_underlying T129.und, Result.andThen_ok, h]
  rfl

set_option maxRecDepth 20000 in
set_option maxHeartbeats 2000000 in
theorem copiedM_ok (v : Value) (R : List (List UInt8)) (H0 : Hp) (w0 : World) (h0 : Sub H0 w0) (hv : BytesL H0 v R) (hn : R.length ≤ 1000000) (hl : ∀ r ∈ R, r.length ≤ 1000000) :
    Calls Try.prog 84 #[v] w0 (Pure H0 w0 fun v H' => BytesL H' v R) := by
  have hs := HS.init h0
  have hle := Hp.le.refl H0
  have hv0 := hv
  obtain ⟨b1, c1, rfl⟩ := hv0.form
  refine Calls.enter (args := [.slice b1 R.length c1]) Try.func84 rfl Try.ntmps84 rfl ?_
  refine WC.seq (WC.region (WO.step rfl (OR.assign rfl (WO.done (WX.seq (WC.seq (WC.region ?_)))))))
  refine WO.step rfl (OR.move rfl (WO.step rfl (OR.lenSlice T31.und rfl ?_)))
  refine WO.step rfl (OR.make1 (m := R.length) hs T31.und T37 rfl rfl rfl (by omega) (by omega) ?_)
  clear hs; intro g1 w hg1 hs
  refine WO.step rfl (OR.assign rfl (WO.done (WX.seq (WC.seq (WC.seq (WC.region (WO.step rfl ?_)))))))
  refine OR.move rfl (WO.step rfl (OR.lenSlice T31.und rfl (WO.step rfl (OR.move rfl (WO.done (WX.seq (WC.block ?_)))))))
  refine WC.loop (ι := Nat) (fun k => [(0, .slice b1 R.length c1), (3, .slice (some ⟨g1, 0, none⟩) R.length R.length), (9, .int .i64 (R.length : Int)), (10, .int .i64 (k : Int))]) (fun k w => (k ≤ R.length ∧ ∃ H c2, Hp.le H0 H ∧ c2.size = R.length ∧ MatF H c2 k (R.getD · []) ∧ HS [] H0 w0 H [(g1, .cells c2 37, true)] w)) (fun k => R.length - k) 0 ⟨rfl, rfl, rfl, rfl,  trivial⟩ ?_ (fun k w hW => ?_)
  · exact ⟨by omega, H0, _, hle, by simp, fun i hi => by omega, hs⟩
  obtain ⟨hk, H, c2, hle, hsz, hm, hs⟩ := hW
  refine WC.seq (WC.region (WO.step rfl (OR.lss rfl rfl (WO.done (WX.seq (WC.seq ?_))))))
  refine WC.condD rfl (fun hlt => ?_) (fun hlt => ?_)
  · have hk' : k < R.length := by omega
    obtain ⟨b, o, rfl, hc⟩ := hv.pos (by omega)
    obtain ⟨e, hce, hbe⟩ := hc k hk'
    refine WC.skip (WX.seq (WC.seq (WC.block (WC.seq (WC.region (WO.step rfl (OR.move rfl ?_)))))))
    refine WO.step rfl (OR.assign rfl (WO.done (WX.seq (WC.region (WO.step rfl (OR.move rfl (WO.step rfl ?_)))))))
    refine OR.move rfl (WO.step rfl (OR.move rfl (WO.step rfl (OR.move rfl ?_))))
    refine WO.step rfl (OR.idx k T31.und T37 rfl rfl rfl hk' ?_)
    refine WO.step rfl (OR.load T37 rfl rfl (hs.cell (hcell.mono hle hce)) ?_)
    refine WO.step rfl (OR.call hs body76 rfl rfl (clone_pure _ R[k] _ _ hs.toSub (hbe.mono hle) (by have := hl _ (List.getElem_mem hk'); omega)) ?_)
    clear hs; rintro _ H w hs hle1 hr; replace hle := hle.trans hle1; (try replace hlb := hlb.trans hle1)
    obtain ⟨br, cr, rfl⟩ := hr.form
    refine WO.step rfl (OR.idx k T31.und T37 rfl rfl rfl hk' ?_)
    refine WO.stepN (OR.store hs T37 rfl rfl rfl (by show 0 + k + 1 ≤ c2.size; omega) rfl ?_)
    clear hs; intro w hs
    refine WO.done (WX.block (WX.seq (WC.region (WO.step rfl (OR.addI rfl rfl (by omega) (by omega) (WO.step rfl (OR.move rfl ?_)))))))
    refine WO.done ?_
    refine WX.again (k + 1) ⟨rfl, rfl, rfl, rfl,  trivial⟩ ?_ ?_
    · refine ⟨hk', H, _, hle, ?_, ?_, hs⟩
      · simp [setL_length, hsz]
      · rw [Nat.zero_add]
        have hm' : MatF H c2 k (R.getD · []) := hm.mono hle1
        intro i hi
        have e0 : (Value.slice br R[k].length cr).cells.toList = [.slice br R[k].length cr] := rfl
        rw [List.toList_toArray, e0, setL_one]
        by_cases e : i = k
        · subst e
          refine ⟨_, by rw [List.getElem?_set_self (by simpa [hsz] using hk')], ?_⟩
          simp only [List.getD_eq_getElem?_getD, List.getElem?_eq_getElem hk', Option.getD_some]
          exact hr
        · obtain ⟨u, h1, h2⟩ := hm' i (by omega)
          exact ⟨u, by rw [List.getElem?_set_ne (Ne.symm e)]; exact h1, h2⟩
    · omega
  · have e : k = R.length := by omega
    subst e
    refine WC.exit (WX.seq_exit (WX.loop_exit (WX.block_hit (WX.seq (WC.seq (WC.region (WO.step rfl ?_)))))))
    refine OR.move rfl (WO.step rfl (OR.assign rfl (WO.done (WX.seq (WC.ret ?_)))))
    obtain ⟨H, hle1, hp_g1, hs9⟩ := hs.pub1 hg1; clear hs; have hs := hs9; clear hs9; replace hle := hle.trans hle1; (try replace hlb := hlb.trans hle1)
    refine WX.ret1 rfl rfl ?_
    refine .mk hs ⟨c2.toList, ?_, by simpa using hsz, fun i h h' => ?_⟩
    · refine ⟨by simpa using hsz, _, _, rfl, Nat.le_refl _, (fun h => by cases h), fun a ha => ?_⟩
      cases ha
      exact ⟨fun _ => rfl, fun i u hi => hcell_of hp_g1 (by rw [nth_eq, Nat.zero_add]; exact hi)⟩
    · obtain ⟨u, h1, h2⟩ := hm i h
      rw [List.getElem?_eq_getElem h'] at h1
      rw [Option.some.inj h1]
      simp only [List.getD_eq_getElem?_getD, List.getElem?_eq_getElem h, Option.getD_some] at h2
      exact h2.mono hle1

set_option maxRecDepth 20000 in
set_option maxHeartbeats 2000000 in
theorem reduceM_ok (v : Value) (R : List (List UInt8)) (cols : Nat) (H0 : Hp) (w0 : World) (h0 : Sub H0 w0) (hv : BytesL H0 v R) (h1 : 0 < R.length) (h2 : R.length ≤ 1000000) (hR : ∀ r ∈ R, r.length = cols) (hcols : cols ≤ 255) :
    Calls Try.prog 56 #[v] w0 (Pure H0 w0 fun v H' => ∃ r, v = .tuple #[r, .int .i64 0] ∧ BytesL H' r (gauss cols R)) := by
  have hs := HS.init h0
  have hle := Hp.le.refl H0
  have hl : ∀ a, a < R.length → (R.getD a []).length = cols := fun a ha => by
    rw [List.getD_eq_getElem?_getD, List.getElem?_eq_getElem ha]; exact hR _ (List.getElem_mem ha)
  have hv0 := hv
  obtain ⟨cs, hsl, hcl, hcs⟩ := hv
  have hone := BytesL.all_one hcl hcs
  obtain ⟨L, hL, hgl⟩ := gAll_ok hl cols (Nat.le_refl _)
  obtain ⟨b1, c1, rfl⟩ := hv0.form
  refine Calls.enter (args := [.slice b1 R.length c1]) Try.func56 rfl Try.ntmps56 rfl ?_
  refine WC.seq (WC.region (WO.step rfl (OR.assign rfl (WO.step rfl (OR.assign rfl (WO.done (WX.seq ?_)))))))
  refine WC.seq (WC.region (WO.step rfl (OR.move rfl ?_)))
  refine WO.step rfl (OR.call hs body81 rfl rfl (msize_ok _ R cols _ _ hs.toSub hv0 h1 h2 hR) ?_)
  clear hs; rintro _ H w hs hle1 rfl; replace hle := hle.trans hle1; (try replace hlb := hlb.trans hle1)
  refine WO.step rfl (OR.move rfl (WO.step rfl (OR.extract rfl rfl (WO.step rfl (OR.extract rfl rfl (WO.step rfl (OR.extract rfl rfl ?_)))))))
  refine WO.step rfl (OR.assign rfl (WO.step rfl (OR.assign rfl (WO.step rfl (OR.assign rfl (WO.done (WX.seq ?_)))))))
  refine WC.seq (WC.seq (WC.region (WO.step rfl (OR.move rfl (WO.step rfl (OR.neq rfl rfl (WO.done ?_)))))))
  refine WX.seq ?_
  refine WC.no rfl rfl ?_
  refine WC.skip (WX.seq (WC.seq (WC.region (WO.step rfl (OR.move rfl ?_)))))
  refine WO.step rfl (OR.callX (Mx := []) hs body82 rfl rfl (cloneL_ok _ R.length cs _ _ hs.toSub (hsl.mono hle) hone (by omega)) rfl rfl ?_)
  clear hs; rintro _ H M' w hs hle1 hnew ⟨rfl, ho⟩; replace hle := hle.trans hle1; (try replace hlb := hlb.trans hle1)
  obtain ⟨hcl2, ⟨rfl, hq9, h09⟩ | ⟨g, c, cap, rfl, rfl, hnc, hcc, hxx, hg⟩⟩ := ho
  · omega
  refine WO.step rfl (OR.build (cs := #[.slice (some ⟨g, 0, none⟩) R.length cap, .int .i64 0]) rfl (by intro w; exact build_work _ _ _ w) ?_)
  refine WO.step rfl (OR.box hs rfl ?_)
  clear hs; intro g1 w hg1 hs
  refine WO.step rfl (OR.assign rfl (WO.done (WX.seq (WC.seq (WC.region (WO.step rfl (OR.move rfl ?_)))))))
  refine WO.step rfl (OR.move rfl ?_)
  have hmat : MatF H c R.length (R.getD · []) := by
    intro i hi
    refine ⟨cs[i], ?_, ?_⟩
    · have : (c.toList.take (R.length * 1))[i]? = cs[i]? := by rw [hxx]
      rw [List.getElem?_take, if_pos (by omega)] at this
      rw [this, List.getElem?_eq_getElem (by omega)]
    · simp only [List.getD_eq_getElem?_getD, List.getElem?_eq_getElem hi, Option.getD_some]
      exact (hcs i hi (by omega)).mono hle
  have hgm := (hs.mem g _ true (List.mem_cons_of_mem _ (List.mem_cons_self ..)))
  have hbm := (hs.mem g1 _ true (List.mem_cons_self ..))
  have hne : g1 ≠ g := by
    intro e
    have := hs.nd
    simp [Mem.keys, e] at this
  refine WO.step rfl (OR.callX (Mx := [(g1, _, true), (g, _, true)]) hs body83 rfl rfl (reducedM_ok R g1 g R.length cap cols c _ _ hs.toSub hbm.1 hbm.2.1 hgm.1 hgm.2.1 hne hmat rfl (by omega) hl hcols h2) rfl rfl ?_)
  clear hs; rintro _ H M' w hs hle1 hnew ⟨c2, rfl, rfl, hsz2, hm2⟩; replace hle := hle.trans hle1; (try replace hlb := hlb.trans hle1)
  refine WO.step rfl (OR.assign rfl (WO.done (WX.seq (WC.seq (WC.region (WO.step rfl (OR.move rfl ?_)))))))
  refine WO.step rfl (OR.nilCheck rfl (WO.step rfl (OR.fieldAddr FA129_0 rfl (WO.step rfl (OR.load T31 rfl rfl (hs.cellM (i := 0) rfl rfl) (WO.step rfl (OR.move rfl ?_)))))))
  replace hs := hs.front (i := 1) rfl
  clear hg
  have hg : w0.heap.size ≤ g := by simpa using hgm.2.2 rfl
  obtain ⟨H, hle1, hp_g, hs9⟩ := hs.pub1 hg; clear hs; have hs := hs9; clear hs9; replace hle := hle.trans hle1; (try replace hlb := hlb.trans hle1)
  have hdl := hL.dle
  have hgA : (gauss cols R).length = (gAll cols R).2 := by unfold gauss; rw [List.length_take]; omega
  have hga : ∀ i, i < (gAll cols R).2 → ∃ h : i < (gauss cols R).length, (gauss cols R)[i] = (gAll cols R).1.getD i [] := by
    intro i hi
    refine ⟨by omega, ?_⟩
    unfold gauss
    rw [List.getElem_take, List.getD_eq_getElem?_getD, List.getElem?_eq_getElem (by omega)]
    rfl
  have hbl : BytesL H (.slice (some ⟨g, 0, none⟩) (gAll cols R).2 cap) (gauss cols R) := by
    refine ⟨c2.toList.take (gAll cols R).2, ?_, by simp; omega, fun i h h' => ?_⟩
    · rw [hgA]
      refine ⟨by simp; omega, _, _, rfl, by omega, (fun h => by cases h), fun a ha => ?_⟩
      cases ha
      refine ⟨fun _ => rfl, fun i u hi => hcell_of hp_g (by rw [nth_eq, Nat.zero_add]; exact get_take hi)⟩
    · obtain ⟨h3, h4⟩ := hga i (by omega)
      obtain ⟨u, h5, h6⟩ := hm2 i (by omega)
      rw [h4]
      simp only [List.getElem_take]
      rw [List.getElem?_eq_getElem (by simp; omega)] at h5
      rw [Option.some.inj h5]
      exact h6.mono hle1
  have hlen : ∀ r ∈ gauss cols R, r.length ≤ 1000000 := by
    intro r hr
    obtain ⟨i, hi, rfl⟩ := List.mem_iff_getElem.1 hr
    obtain ⟨h3, h4⟩ := hga i (by omega)
    have := hL.len i (by omega)
    rw [h4]
    omega
  refine WO.step rfl (OR.sliceHi (gAll cols R).2 T31.und T37 rfl rfl rfl (by omega) ?_)
  refine WO.step rfl (OR.call hs body84 rfl rfl (copiedM_ok _ (gauss cols R) _ _ hs.toSub hbl (by omega) hlen) ?_)
  clear hs; rintro _ H w hs hle1 hr; replace hle := hle.trans hle1; (try replace hlb := hlb.trans hle1)
  refine WO.step rfl (OR.assign rfl (WO.step rfl (OR.assign rfl (WO.done (WX.seq (WC.ret ?_))))))
  replace hs := hs.drop (i := 0)
  refine WX.ret2 rfl rfl rfl ?_
  exact .mk hs ⟨_, rfl, hr⟩

-- left out, for this seat has no braidwork/matrix.Rank: theorem rankM_ok (v
end Go.Bw
