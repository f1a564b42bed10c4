/- A relay: Move. -/
import Derived.Test.YtdibepkfgemddaaGreatRel1
import Derived.Test.YtdibepkfgemddaaGreatOpsE
namespace Go.Bw
set_option linter.unusedVariables false
set_option linter.unusedSimpArgs false
open Go.Proofs

theorem slotMem_sub (g s : Nat) (t : Bool) (l : Slots) (i : Nat) : List.Sublist (slotMem g s t (l.set i none)) (slotMem g s t l) := by
  by_cases hi : i < l.length
  · obtain ⟨h1, h2⟩ := slots_split (l := l) (i := i) (List.getElem?_eq_getElem hi) none
    have e1 : slotMem g s t l = slotMem g s t (l.take i) ++ (slotM g s t l[i] ++ slotMem g s t (l.drop (i + 1))) := by
      conv => lhs; rw [h1]
      simp only [slotMem, List.flatMap_append, List.flatMap_cons]
    have e2 : slotMem g s t (l.set i none) = slotMem g s t (l.take i) ++ slotMem g s t (l.drop (i + 1)) := by
      rw [h2]
      simp only [slotMem, List.flatMap_append, List.flatMap_cons, slotM, List.nil_append]
    rw [e1, e2]
    exact List.Sublist.append (List.Sublist.refl _) (List.sublist_append_right _ _)
  · rw [List.set_eq_of_length_le (by omega)]
    exact List.Sublist.refl _
/-- The generations of a list forgotten. -/
def RelD.drops (x : RelD) (l : List Nat) : RelD := l.foldl (fun x gen => x.put gen []) x
def slotsDrop (width : Nat) (l : Slots) (gs : List Nat) : Slots := gs.foldl (fun l gen => l.set (gen % width) none) l
theorem slotsDrop_sub (g s : Nat) (t : Bool) (width : Nat) : ∀ (gs : List Nat) (l : Slots), List.Sublist (slotMem g s t (slotsDrop width l gs)) (slotMem g s t l)
  | [], l => List.Sublist.refl _
  | gen :: gs, l => (slotsDrop_sub g s t width gs _).trans (slotMem_sub g s t l _)
theorem slotsDrop_len (width : Nat) : ∀ (gs : List Nat) (l : Slots), (slotsDrop width l gs).length = l.length
  | [], l => rfl
  | gen :: gs, l => (slotsDrop_len width gs _).trans (List.length_set ..)
theorem drops_same : ∀ (gs : List Nat) (x : RelD), (x.drops gs).g = x.g ∧ (x.drops gs).s = x.s ∧ (x.drops gs).base = x.base ∧ (x.drops gs).width = x.width
  | [], x => ⟨rfl, rfl, rfl, rfl⟩
  | gen :: gs, x => drops_same gs (x.put gen [])
theorem RelOk.drops : ∀ (gs : List Nat) (x : RelD), RelOk x → RelOk (x.drops gs)
  | [], x, h => h
  | gen :: gs, x, h => RelOk.drops gs _ (h.put gen [] (Red.nil _ _))
theorem slots_drops {H : Hp} : ∀ (gs : List Nat) (x : RelD) (l : Slots), SlotsOk H x l → SlotsOk H (x.drops gs) (slotsDrop x.width l gs)
  | [], x, l, h => h
  | gen :: gs, x, l, h => slots_drops gs (x.put gen []) (l.set (gen % x.width) none) (slots_put h rfl)
def RelD.moveTo (x : RelD) (nb : Nat) : RelD := if nb ≤ 1099511627776 then { x.drops (winGone x.base x.width nb (winEnd x.base x.width - x.base)) with base := nb } else x
theorem RelOk.moveTo {x : RelD} (h : RelOk x) (nb : Nat) : RelOk (x.moveTo nb) := by
  unfold RelD.moveTo
  split
  · rename_i hn
    have h1 := h.drops (winGone x.base x.width nb (winEnd x.base x.width - x.base))
    exact ⟨h1.g1, h1.g2, h1.s1, h1.s2, h1.w1, h1.w2, hn, h1.red⟩
  · exact h
theorem slotsDrop_succ (width : Nat) (l : Slots) (gs : List Nat) (k : Nat) (h : k < gs.length) : slotsDrop width l (gs.take (k + 1)) = (slotsDrop width l (gs.take k)).set (gs[k] % width) none := by
  unfold slotsDrop
  rw [List.take_succ_eq_append_getElem h, List.foldl_append]
  rfl
theorem wmove2_ok (wb nb : Nat) (x : RelD) (H0 : Hp) (w0 : World) (h0 : Sub H0 w0) (hb : w0.heap[wb]? = some (winObj x.base x.width)) (hn : H0 wb = none) (hok : RelOk x) (hnb : nb < 18446744073709551616) :
    Calls Tryz.prog 78 #[ptr wb, .int .u64 (nb : Int)] w0 (Ret [wb] H0 w0 fun v H' M' => ∃ r gone nb', v = .tuple #[r, .int .i64 (if nb ≤ 1099511627776 then 0 else 1)] ∧ Nums H' r gone ∧ gone.length ≤ 16 ∧ M' = [(wb, winObj nb' x.width, true)] ∧ x.moveTo nb = { x.drops gone with base := nb' }) := by
  refine (wmove_ok wb x.base x.width nb H0 w0 h0 hb hn hok.b hok.w2 hok.w1 hnb).mono ?_
  rintro e w' ⟨v, H', M', h1, h2, h3, h4⟩
  refine ⟨v, H', M', h1, h2, h3, ?_⟩
  replace h4 : if nb ≤ 1099511627776 then ∃ r, v = .tuple #[r, .int .i64 0] ∧ Nums H' r (winGone x.base x.width nb (winEnd x.base x.width - x.base)) ∧ M' = [(wb, winObj nb x.width, true)] else v = .tuple #[.slice none 0 0, .int .i64 1] ∧ M' = [(wb, winObj x.base x.width, true)] := h4
  by_cases hb : nb ≤ 1099511627776
  · rw [if_pos hb] at h4
    obtain ⟨r, rfl, hr, rfl⟩ := h4
    refine ⟨r, _, nb, by rw [if_pos hb], hr, ?_, rfl, by rw [RelD.moveTo, if_pos hb]⟩
    have h5 := winGone_len x.base x.width nb (winEnd x.base x.width - x.base)
    have h6 : winEnd x.base x.width ≤ x.base + x.width := Nat.min_le_left _ _
    have := hok.w2
    omega
  · rw [if_neg hb] at h4
    obtain ⟨rfl, rfl⟩ := h4
    exact ⟨_, [], x.base, by rw [if_neg hb], Sl.nil _ _, by simp, rfl, by rw [RelD.moveTo, if_neg hb]; rfl⟩
set_option maxRecDepth 20000 in
set_option maxHeartbeats 2000000 in
theorem rmove_ok (rb wb nb : Nat) (x : RelD) (l : Slots) (H0 : Hp) (w0 : World) (hs : HS (Mem.keys (relMem true x rb wb l)) H0 w0 H0 (relMem true x rb wb l) w0) (hx : SlotsOk H0 x l) (hok : RelOk x) (hnb : nb < 18446744073709551616) :
    Calls Tryz.prog 21 #[ptr rb, .int .u64 (nb : Int)] w0 (Ret (Mem.keys (relMem true x rb wb l)) H0 w0 fun v H' M' => v = .int .i64 (if nb ≤ 1099511627776 then 0 else 1) ∧ ∃ l', M' = relMem true (x.moveTo nb) rb wb l' ∧ SlotsOk H' (x.moveTo nb) l') := by
  have hle := Hp.le.refl H0
  have h00 := hs.toSub
  have hw16 := hok.w2
  have hw1 := hok.w1
  obtain ⟨xs, hxs⟩ : ∃ xs, xs = Mem.keys (relMem true x rb wb l) := ⟨_, rfl⟩
  rw [← hxs] at hs ⊢
  clear hxs
  refine Calls.enter (args := [ptr rb, .int .u64 (nb : Int)]) Tryz.func21 rfl Tryz.ntmps21 rfl ?_
  refine WC.seq (WC.region (WO.step rfl (OR.assign rfl (WO.done (WX.seq (WC.seq (WC.seq ?_)))))))
  refine WC.region (WO.step rfl (OR.move rfl ?_))
  refine WO.step rfl (OR.call hs body77 rfl rfl (rnone_ok rb x.g x.s wb l _ _ hs.toSub (hs.blk (i := 0) rfl) (hs.nh (i := 0) rfl)) ?_)
  clear hs; rintro _ H w hs hle1 rfl; replace hle := hle.trans hle1; (try replace hlb := hlb.trans hle1)
  refine WO.done (WX.seq ?_)
  refine WC.no rfl rfl ?_
  refine WC.skip (WX.seq (WC.seq (WC.region (WO.step rfl (OR.move rfl (WO.step rfl (OR.nilCheck rfl ?_)))))))
  refine WO.step rfl (OR.fieldAddr FA131_2 rfl (WO.step rfl (OR.load T123 rfl rfl (hs.cellM (i := 0) rfl rfl) (WO.step rfl (OR.move rfl ?_)))))
  replace hs := hs.front (i := 1) rfl
  refine WO.step rfl (OR.callX (Mx := [(wb, _, true)]) hs body78 rfl rfl (wmove2_ok wb nb x _ _ hs.toSub (hs.blk (i := 0) rfl) (hs.nh (i := 0) rfl) hok hnb) rfl rfl ?_)
  clear hs; rintro _ H M' w hs hle1 hnew ⟨r, gone, nb', rfl, hr, hgl, rfl, hmv⟩; replace hle := hle.trans hle1; (try replace hlb := hlb.trans hle1)
  obtain ⟨b1, c1, rfl⟩ := Sl.form hr
  refine WO.step rfl (OR.move rfl (WO.step rfl (OR.extract rfl rfl (WO.step rfl (OR.extract rfl rfl (WO.step rfl (OR.assign rfl ?_)))))))
  refine WO.step rfl (OR.assign rfl (WO.done (WX.seq (WC.seq (WC.seq (WC.region (WO.step rfl ?_)))))))
  refine OR.move rfl (WO.step rfl (OR.lenSlice T152.und rfl (WO.step rfl (OR.move rfl (WO.done (WX.seq (WC.block ?_)))))))
  replace hs := hs.front (i := 1) rfl
  obtain ⟨H9, hH9⟩ : ∃ X, X = H := ⟨_, rfl⟩
  subst hH9
  refine WC.loop (ι := Nat) (fun k => [(0, ptr rb), (6, .int .i64 (if nb ≤ 1099511627776 then 0 else 1)), (20, .slice b1 gone.length c1), (21, .int .i64 (gone.length : Int)), (22, .int .i64 (k : Int))]) (fun k w => (k ≤ gone.length ∧ ∃ H2, Hp.le H0 H2 ∧ Hp.le H9 H2 ∧ HS xs H0 w0 H2 ((rb, relObj x.g x.s wb (slotsDrop x.width l (gone.take k)), true) :: (wb, winObj nb' x.width, true) :: slotMem x.g x.s true l) w)) (fun k => gone.length - k) 0 ⟨rfl, rfl, rfl, rfl, rfl,  trivial⟩ ?_ (fun k w hW => ?_)
  · exact ⟨by omega, H9, hle, Hp.le.refl _, hs⟩
  clear hs hle
  obtain ⟨hk, H, hle, hlb, hs⟩ := hW
  refine WC.seq (WC.region (WO.step rfl (OR.lss rfl rfl (WO.done (WX.seq (WC.seq ?_))))))
  refine WC.condD rfl (fun hlt => ?_) (fun hlt => ?_)
  · have hk' : k < gone.length := by omega
    have hsl := hok.slot gone[k]
    have hdl : (slotsDrop x.width l (gone.take k)).length = 16 := by rw [slotsDrop_len]; exact hx.1
    obtain ⟨yb, yo, rfl, hcy⟩ := Sl.pos hr (by omega)
    have hcy2 := hcy k _ (by rw [List.getElem?_map, List.getElem?_eq_getElem hk']; rfl)
    refine WC.skip (WX.seq (WC.seq (WC.block (WC.seq (WC.region ?_)))))
    refine WO.step rfl (OR.idx k T152.und T22 rfl rfl rfl hk' ?_)
    refine WO.step rfl (OR.load T22 rfl rfl (hs.cell (hcell.mono hlb hcy2)) ?_)
    refine WO.step rfl (OR.assign rfl (WO.done (WX.seq ?_)))
    refine WC.draw 11 mixed hs (by kernel_rfl) ?_
    refine ⟨MF.eq _, by intro Mx H w hle hs; refine forVals_nil (ORg.plain (OR.move rfl ?_)); exact ⟨_, [], Hp.le.refl _, hs, rfl, rfl⟩, ?_⟩
    refine ⟨MF.eq _, by intro Mx H w hle hs; refine forVals_nil (ORg.plain (OR.move rfl ?_)); exact ⟨_, [], Hp.le.refl _, hs, rfl, rfl⟩, ?_⟩
    refine ⟨MF.eq _, by intro Mx H w hle hs; refine forVals_nil (ORg.plain (OR.move rfl ?_)); exact ⟨_, [], Hp.le.refl _, hs, rfl, rfl⟩, ?_⟩
    refine ⟨MF.eq _, by intro Mx H w hle hs; refine forVals_eq rfl rfl rfl ?_; refine forVals_nil (ORg.plain (OR.nilCheck rfl ?_)); exact ⟨_, [], Hp.le.refl _, hs, rfl, rfl⟩, ?_⟩
    refine ⟨MF.eq _, by intro Mx H w hle hs; refine forVals_eq rfl rfl rfl ?_; refine forVals_nil (ORg.plain (OR.fieldAddr FA131_2 rfl ?_)); exact ⟨_, [], Hp.le.refl _, hs, rfl, rfl⟩, ?_⟩
    refine ⟨MF.eq _, by intro Mx H w hle hs; refine forVals_eq rfl rfl rfl ?_; refine forVals_nil (ORg.plain (OR.load T123 rfl rfl (hs.right.cellM (i := 0) rfl rfl) ?_)); exact ⟨_, [], Hp.le.refl _, hs, rfl, rfl⟩, ?_⟩
    refine ⟨MF.eq (.int .i64 (x.width : Int)), ?_, ?_⟩
    · intro Mx H w hle2 hs; (try replace hle := hle.trans hle2); (try replace hlb := hlb.trans hle2); refine forVals_eq rfl rfl rfl ?_
      refine forVals_nil (ORg.plain (OR.call hs body79 rfl rfl (wwidth_ok wb nb' x.width _ _ hs.toSub (hs.right.blk (i := 1) rfl) (hs.right.nh (i := 1) rfl)) ?_))
      clear hs; rintro _ H w hs hle1 rfl
      exact ⟨_, [], hle1, hs, rfl, rfl⟩
    refine ⟨MF.eq (.int .u64 (x.width : Int)), ?_, ?_⟩
    · intro Mx H w hle2 hs; (try replace hle := hle.trans hle2); (try replace hlb := hlb.trans hle2); refine forVals_eq rfl rfl rfl ?_
      refine forVals_nil (ORg.plain (OR.convI T3.und T22.und rfl ?_))
      exact ⟨_, [], Hp.le.refl _, hs, (by rw [u64_wrap _ (by omega)]), rfl⟩
    refine ⟨MF.eq (.int .u64 ((gone[k] % x.width : Nat) : Int)), ?_, ?_⟩
    · intro Mx H w hle2 hs; (try replace hle := hle.trans hle2); (try replace hlb := hlb.trans hle2); refine forVals_eq rfl rfl rfl ?_; refine forVals_eq rfl rfl rfl ?_
      refine forVals_nil (ORg.plain (OR.rem rfl rfl (by omega) ?_))
      exact ⟨_, [], Hp.le.refl _, hs, (by rw [← Int.ofNat_tmod]), rfl⟩
    refine ⟨MF.eq _, by intro Mx H w hle hs; refine forVals_eq rfl rfl rfl ?_; refine forVals_nil (ORg.plain (OR.nilCheck rfl ?_)); exact ⟨_, [], Hp.le.refl _, hs, rfl, rfl⟩, ?_⟩
    refine ⟨MF.eq _, by intro Mx H w hle hs; refine forVals_eq rfl rfl rfl ?_; refine forVals_nil (ORg.plain (OR.fieldAddr FA131_3 rfl ?_)); exact ⟨_, [], Hp.le.refl _, hs, rfl, rfl⟩, ?_⟩
    intro H w hle2; (try replace hle := hle.trans hle2); (try replace hlb := hlb.trans hle2)
    refine forAllVals_eq rfl ?_
    refine forAllVals_eq rfl ?_
    refine forAllVals_eq rfl ?_
    refine forAllVals_eq rfl ?_
    refine forAllVals_eq rfl ?_
    refine forAllVals_eq rfl ?_
    refine forAllVals_eq rfl ?_
    refine forAllVals_eq rfl ?_
    refine forAllVals_eq rfl ?_
    refine forAllVals_eq rfl ?_
    refine forAllVals_eq rfl ?_
    refine forAllVals_nil ?_; (try clear hs); intro hs
    refine WO.step rfl (OR.idxArr (gone[k] % x.width) T129.und T126 rfl rfl rfl (by omega) ?_)
    refine WO.stepN (OR.store hs T126 rfl rfl rfl (by simp; omega) rfl ?_)
    clear hs; intro w hs
    have hset := setL_slots (.int .i64 (x.g : Int)) (.int .i64 (x.s : Int)) (ptr wb) (slotsDrop x.width l (gone.take k)) (gone[k] % x.width) none (by omega)
    have hobj : Obj.cells (setL (Value.int .i64 (x.g : Int) :: .int .i64 (x.s : Int) :: ptr wb :: (slotsDrop x.width l (gone.take k)).map slotV).toArray.toList (0 + 3 + gone[k] % x.width) (Value.pointer none).cells.toList).toArray 131 = relObj x.g x.s wb (slotsDrop x.width l (gone.take (k + 1))) := by
      rw [slotsDrop_succ _ _ _ _ hk', relObj, ← hset, Nat.zero_add]
      rfl
    rw [hobj] at hs
    refine WO.done (WX.block (WX.seq (WC.region (WO.step rfl (OR.addI rfl rfl (by omega) (by omega) (WO.step rfl (OR.move rfl ?_)))))))
    refine WO.done ?_
    refine WX.again (k + 1) ⟨rfl, rfl, rfl, rfl, rfl,  trivial⟩ ?_ ?_
    · exact ⟨hk', H, hle, hlb, hs⟩
    · omega
  · have e : k = gone.length := by omega
    subst e
    refine WC.exit (WX.seq_exit (WX.loop_exit (WX.block_hit (WX.seq (WC.seq (WC.region (WO.step rfl ?_)))))))
    refine OR.move rfl (WO.step rfl (OR.assign rfl (WO.done (WX.seq (WC.ret ?_)))))
    refine WX.ret1 rfl rfl ?_
    rw [List.take_length] at hs
    obtain ⟨d1, d2, d3, d4⟩ := drops_same gone x
    refine ⟨_, H, relMem true (x.moveTo nb) rb wb (slotsDrop x.width l gone), rfl, ?_, List.all_eq_true.1 (relMem_flags _ _ _ _), rfl, _, rfl, ?_⟩
    · rw [hmv]
      unfold relMem
      simp only [d1, d2, d4]
      exact hs.sublist (((slotsDrop_sub x.g x.s true x.width gone l).cons_cons _).cons_cons _)
    · rw [hmv]
      have h9 := (slots_drops gone x l hx).mono hle
      exact ⟨h9.1, h9.2⟩
end Go.Bw
namespace Go.Bw
set_option linter.unusedVariables false
set_option linter.unusedSimpArgs false
open Go.Proofs

def rkC (l : List (Nat × Nat)) : List (Value × Value) := l.map fun p => (.int .u64 (p.1 : Int), .int .i64 (p.2 : Int))
/-- Generations and ranks in a slice. -/
def RkL (H : Hp) (v : Value) (l : List (Nat × Nat)) : Prop := Sl H 2 v l.length (rowCells (rkC l))
theorem RkL.mono {H H' : Hp} {v : Value} {l : List (Nat × Nat)} (h : RkL H v l) (hle : Hp.le H H') : RkL H' v l := Sl.mono h hle
def RelD.rk1 (x : RelD) (gen : Nat) : List (Nat × Nat) := if (x.rk gen).length > 0 then [(gen, (x.rk gen).length)] else []
def RelD.rks (x : RelD) : List (Nat × Nat) := (winNums x.base (winEnd x.base x.width - x.base)).flatMap x.rk1
theorem flat_succ (x : RelD) (l : List Nat) (k : Nat) (h : k < l.length) : (l.take (k + 1)).flatMap x.rk1 = (l.take k).flatMap x.rk1 ++ x.rk1 l[k] := by
  rw [List.take_succ_eq_append_getElem h, List.flatMap_append]
  simp
theorem flat_le (x : RelD) : ∀ (l : List Nat), (l.flatMap x.rk1).length ≤ l.length
  | [] => by simp
  | a :: l => by
    rw [List.flatMap_cons, List.length_append, List.length_cons]
    have h1 := flat_le x l
    have h2 : (x.rk1 a).length ≤ 1 := by unfold RelD.rk1; split <;> simp
    omega
theorem RkL.pos {H : Hp} {l : List (Nat × Nat)} {base : Option Addr} {cap : Nat} (h : RkL H (.slice base l.length cap) l) (hn : 0 < l.length) :
    ∃ b o, base = some ⟨b, o, none⟩ ∧ ∀ i (hi : i < l.length), ∀ j u, [Value.int .u64 (l[i].1 : Int), Value.int .i64 (l[i].2 : Int)][j]? = some u → hcell H ((⟨b, o + i * 2, none⟩ : Addr).add j) = some u := by
  obtain ⟨b, o, h4, h5⟩ := Sl.pos h hn
  refine ⟨b, o, h4, fun i hi j u hj => ?_⟩
  have hlen : i < (rkC l).length := by simpa [rkC] using hi
  have hg := rowCells_get (rkC l) i hlen
  have he : (rkC l)[i] = (.int .u64 (l[i].1 : Int), .int .i64 (l[i].2 : Int)) := by simp [rkC]
  rw [he] at hg
  rw [add_off]
  match j, hj with
  | 0, hj => cases hj; exact h5 _ _ hg.1
  | 1, hj =>
    cases hj
    have := h5 _ _ hg.2
    rw [← Nat.add_assoc] at this
    exact this
theorem rank_eq (a b : Int) (w : World) : (Op.equalIn 10000 174 (.agg #[.int .u64 a, .int .i64 b]) (.agg #[.int .u64 a, .int .i64 b])).run Tryz.prog w = .ok true w := by
  have hu := T174.und
  rw [run_equalIn_agg w 9999 174 _ _ (by rw [Program.fieldsOf, hu]) Tryz.stoodInHeld174]
  have hi1 := T22.und
  have hi2 := T3.und
  have e1 : ∀ a b : Int, (part 22 #[Value.int .u64 a, Value.int .i64 b] 0).run Tryz.prog w = .ok (.int .u64 a) w := fun a b => by simp [part, T22.run_agg, T22.run_size, isAggD]
  have e2 : ∀ a b : Int, (part 3 #[Value.int .u64 a, Value.int .i64 b] 1).run Tryz.prog w = .ok (.int .i64 b) w := fun a b => by simp [part, T3.run_agg, T3.run_size, isAggD]
  rw [Program.fieldsOf, hu]
  simp [Op.eqFields, e1, e2, run_equalIn_int w _ _ _ _ _ _ hi1, run_equalIn_int w _ _ _ _ _ _ hi2]
-- left out, for this seat has no braidwork/braidworkref14.SameRanks: theorem sameRanks_ok (va vb
theorem HS.relRO3 {xs : List Nat} {H0 H : Hp} {w0 w : World} {x : RelD} {rb wb : Nat} {l : Slots} {Mr : Mem} (hs : HS xs H0 w0 H (relMem false x rb wb l ++ Mr) w) : HS [] H w H (relMem false x rb wb l) w := by
  refine HS.start [] hs.sub (fun b o t h => ?_) ?_
  · have h1 := hs.mem b o t (List.mem_append_left _ h)
    have hf : t = false := by
      rcases List.mem_cons.1 h with e | h
      · cases e; rfl
      · rcases List.mem_cons.1 h with e | h
        · cases e; rfl
        · exact (slotMem_ro h).1
    exact ⟨h1.1, h1.2.1, fun ht => by rw [hf] at ht; cases ht⟩
  · have h1 := hs.nd
    simp only [Mem.keys, List.map_append, List.nodup_append] at h1
    exact h1.1
set_option maxRecDepth 20000 in
set_option maxHeartbeats 2000000 in
/-- A relay's generations with rows, and how many. -/
theorem rranks_ok (rb wb : Nat) (x : RelD) (l : Slots) (H0 : Hp) (w0 : World) (hs : HS [] H0 w0 H0 (relMem false x rb wb l) w0) (hx : SlotsOk H0 x l) (hok : RelOk x) :
    Calls Tryz.prog 100 #[ptr rb] w0 (Pure H0 w0 fun v H' => RkL H' v x.rks) := by
  have hle := Hp.le.refl H0
  have h00 := hs.toSub
  have hw16 := hok.w2
  have hbb := hok.b
  refine Calls.enter (args := [ptr rb]) Tryz.func100 rfl Tryz.ntmps100 rfl ?_
  refine WC.seq (WC.region (WO.step rfl (OR.assign rfl (WO.done (WX.seq (WC.seq (WC.seq ?_)))))))
  refine WC.region (WO.step rfl (OR.move rfl ?_))
  refine WO.step rfl (OR.call hs body77 rfl rfl (rnone_ok rb x.g x.s wb l _ _ hs.toSub (hs.blk (i := 0) rfl) (hs.nh (i := 0) rfl)) ?_)
  clear hs; rintro _ H w hs hle1 rfl; replace hle := hle.trans hle1; (try replace hlb := hlb.trans hle1)
  refine WO.done (WX.seq ?_)
  refine WC.no rfl rfl ?_
  refine WC.skip (WX.seq (WC.seq (WC.region (WO.step rfl (OR.assign rfl (WO.done (WX.seq ?_)))))))
  refine WC.seq (WC.seq (WC.region (WO.step rfl (OR.move rfl (WO.step rfl (OR.nilCheck rfl (WO.step rfl ?_)))))))
  refine OR.fieldAddr FA131_2 rfl (WO.step rfl (OR.load T123 rfl rfl (hs.cellM (i := 0) rfl rfl) ?_))
  refine WO.step rfl (OR.call hs body141 rfl rfl (wall_ok wb x.base x.width _ _ hs.toSub (hs.blk (i := 1) rfl) (hs.nh (i := 1) rfl) hok.b hw16) ?_)
  clear hs; rintro _ H w hs hle1 hr; replace hle := hle.trans hle1; (try replace hlb := hlb.trans hle1)
  have hnl : (winNums x.base (winEnd x.base x.width - x.base)).length ≤ 16 := by
    have h6 : winEnd x.base x.width ≤ x.base + x.width := Nat.min_le_left _ _
    simp [winNums]
    omega
  have hnb : ∀ n ∈ winNums x.base (winEnd x.base x.width - x.base), n < 18446744073709551616 := by
    intro n hn
    have h6 : winEnd x.base x.width ≤ 1099511627776 := Nat.min_le_right _ _
    obtain ⟨k, hk, rfl⟩ := List.mem_map.1 hn
    have := List.mem_range.1 hk
    omega
  have hE : x.rks = (winNums x.base (winEnd x.base x.width - x.base)).flatMap x.rk1 := rfl
  rw [hE]
  clear hE
  generalize winNums x.base (winEnd x.base x.width - x.base) = L at *
  obtain ⟨b1, c1, rfl⟩ := Sl.form hr
  replace hs : HS [] H0 w0 H (relMem false x rb wb l) w := hs
  obtain ⟨H9, hH9⟩ : ∃ X, X = H := ⟨_, rfl⟩
  subst hH9
  refine WO.step rfl (OR.lenSlice T152.und rfl (WO.step rfl (OR.move rfl (WO.done (WX.seq (WC.block ?_))))))
  refine WC.loop (ι := Nat × Value) (fun ix => [(0, ptr rb), (3, ix.2), (13, .slice b1 L.length c1), (14, .int .i64 (L.length : Int)), (15, .int .i64 (ix.1 : Int))]) (fun ix w => (ix.1 ≤ L.length ∧ ∃ H Mo, Hp.le H0 H ∧ Hp.le H9 H ∧ Own w0.heap.size 174 2 ix.2 ((L.take ix.1).flatMap x.rk1).length (rowCells (rkC ((L.take ix.1).flatMap x.rk1))) Mo ∧ HS [] H0 w0 H (relMem false x rb wb l ++ Mo) w)) (fun ix => L.length - ix.1) (0, .slice none 0 0) ⟨rfl, rfl, rfl, rfl, rfl,  trivial⟩ ?_ (fun ix w hW => ?_)
  · exact ⟨by omega, H9, [], hle, Hp.le.refl _, Own.nil _ _ _, by rw [List.append_nil]; exact hs⟩
  clear hs hle
  obtain ⟨k, vo⟩ := ix
  obtain ⟨hk, H, Mo, hle, hlb, ho, hs⟩ := hW
  simp only at hk ho
  refine WC.seq (WC.region (WO.step rfl (OR.lss rfl rfl (WO.done (WX.seq (WC.seq ?_))))))
  refine WC.condD rfl (fun hlt => ?_) (fun hlt => ?_)
  · have hk' : k < L.length := by omega
    have hgb := hnb _ (List.getElem_mem hk')
    obtain ⟨yb, yo, rfl, hcy⟩ := Sl.pos hr (by omega)
    have hcy2 := hcy k _ (by rw [List.getElem?_map, List.getElem?_eq_getElem hk']; rfl)
    refine WC.skip (WX.seq (WC.seq (WC.block (WC.seq (WC.region ?_)))))
    refine WO.step rfl (OR.idx k T152.und T22 rfl rfl rfl hk' ?_)
    refine WO.step rfl (OR.load T22 rfl rfl (hs.cell (hcell.mono hlb hcy2)) ?_)
    refine WO.step rfl (OR.assign rfl (WO.done (WX.seq (WC.seq (WC.region (WO.step rfl (OR.move rfl ?_)))))))
    refine WO.step rfl (OR.move rfl ?_)
    refine WO.step rfl (OR.call hs body34 rfl rfl (rrank_ok rb wb L[k] x l _ _ (HS.relRO3 hs) (hx.mono hle) hok hgb) ?_)
    clear hs; rintro _ H w hs hle1 rfl; replace hle := hle.trans hle1; (try replace hlb := hlb.trans hle1)
    have hfl := flat_le x (L.take k)
    have hfl2 : (L.take k).length ≤ 16 := by rw [List.length_take]; omega
    refine WO.step rfl (OR.assign rfl (WO.done (WX.seq (WC.seq (WC.region (WO.step rfl (OR.move rfl ?_)))))))
    refine WO.step rfl (OR.gtr rfl rfl (WO.done (WX.seq ?_)))
    refine WC.condD rfl (fun hpos => ?_) (fun hpos => ?_)
    · have e1 : x.rk1 L[k] = [(L[k], (x.rk L[k]).length)] := by rw [RelD.rk1, if_pos (by omega)]
      refine WC.region (WO.step rfl (OR.move rfl (WO.step rfl (OR.move rfl (WO.step rfl (OR.move rfl (WO.step rfl ?_)))))))
      refine OR.buildAll T174 rfl rfl PL174 rfl rfl ?_
      refine WO.step rfl (OR.buildSlice (vs := [_]) hs T115.und T174 rfl rfl rfl rfl (by simp) ?_)
      clear hs; intro q1 w hq1 hs
      obtain ⟨H, hle1, hp_q1, hs9⟩ := hs.pub1 hq1; clear hs; have hs := hs9; clear hs9; replace hle := hle.trans hle1; (try replace hlb := hlb.trans hle1)
      have hone : RkL H (.slice (some ⟨q1, 0, none⟩) 1 1) [(L[k], (x.rk L[k]).length)] := Sl.block hp_q1 rfl rfl (by simp)
      obtain ⟨bo, co, rfl⟩ := ho.form
      refine WO.step rfl (OR.append (m := 1) (news := rowCells (rkC [(L[k], (x.rk L[k]).length)])) (Mo := Mo) (M := relMem false x rb wb l) (HS.mtail (A := relMem false x rb wb l) hs) ho T115.und T174 rfl (by omega) rfl rfl rfl (Sl.src hone hs) (Sl.src0 hone) rfl (by omega) (by omega) ?_)
      clear hs ho; intro v' w Mo' hs ho hge
      replace hs := HS.mtail (B := relMem false x rb wb l) hs
      refine WO.step rfl (OR.assign rfl (WO.done (WX.block (WX.seq (WC.region (WO.step rfl (OR.addI rfl rfl (by omega) (by omega) ?_)))))))
      refine WO.step rfl (OR.move rfl (WO.done ?_))
      refine WX.again ((k + 1, v')) ⟨rfl, rfl, rfl, rfl, rfl,  trivial⟩ ?_ ?_
      · refine ⟨hk', H, Mo', hle, hlb, ?_, hs⟩
        simp only
        rw [flat_succ x L k hk', e1, List.length_append]
        rw [show rkC ((L.take k).flatMap x.rk1 ++ [(L[k], (x.rk L[k]).length)]) = rkC ((L.take k).flatMap x.rk1) ++ rkC [(L[k], (x.rk L[k]).length)] by simp [rkC], rowCells_append]
        exact ho
      · simp only; omega
    · have e1 : x.rk1 L[k] = [] := by rw [RelD.rk1, if_neg (by omega)]
      refine WC.skip (WX.block (WX.seq (WC.region (WO.step rfl (OR.addI rfl rfl (by omega) (by omega) (WO.step rfl (OR.move rfl ?_)))))))
      refine WO.done ?_
      refine WX.again ((k + 1, vo)) ⟨rfl, rfl, rfl, rfl, rfl,  trivial⟩ ?_ ?_
      · refine ⟨hk', H, Mo, hle, hlb, ?_, hs⟩
        simp only
        rw [flat_succ x L k hk', e1, List.append_nil]
        exact ho
      · simp only; omega
  · have e : k = L.length := by omega
    subst e
    refine WC.exit (WX.seq_exit (WX.loop_exit (WX.block_hit (WX.seq (WC.seq (WC.region (WO.step rfl ?_)))))))
    refine OR.move rfl (WO.step rfl (OR.assign rfl (WO.done (WX.seq (WC.ret ?_)))))
    refine WX.ret1 rfl rfl ?_
    rw [List.take_length] at ho
    obtain ⟨H4, hle4, hs4, hsl, _⟩ := HS.pub (HS.mtail (A := relMem false x rb wb l) hs) ho
    exact .mk (hs4.sublist (List.nil_sublist _)) hsl
end Go.Bw
