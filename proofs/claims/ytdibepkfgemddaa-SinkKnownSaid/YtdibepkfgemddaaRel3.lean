/- A relay: Take. -/
import Derived.Test.YtdibepkfgemddaaRel2
namespace Go.Bw
set_option linter.unusedVariables false
set_option linter.unusedSimpArgs false
open Go.Proofs

def RelD.take (x : RelD) (gen : Nat) (r : RowD) : RelD := if inWin x.base x.width gen then x.put gen (insR x.g x.s (x.rows (gen % x.width)) r).2 else x
def RelD.takeI (x : RelD) (gen : Nat) (r : RowD) : Bool := decide (inWin x.base x.width gen) && (insR x.g x.s (x.rows (gen % x.width)) r).1
def RelD.takeE (x : RelD) (gen : Nat) (r : RowD) : Int := if inWin x.base x.width gen then (if r.1.length = x.g ∧ r.2.length = x.s then 0 else 21) else 23
theorem RelOk.take {x : RelD} (h : RelOk x) (gen : Nat) (r : RowD) : RelOk (x.take gen r) := by
  unfold RelD.take
  split
  · exact h.put gen _ (insAny_red (h.red _) r)
  · exact h
theorem slots_put {H : Hp} {x : RelD} {l : Slots} {gen : Nat} {rows : List RowD} {y : Option (Nat × Value)} (h : SlotsOk H x l) (hy : slotOk H rows y) : SlotsOk H (x.put gen rows) (l.set (gen % x.width) y) := by
  refine ⟨by rw [List.length_set]; exact h.1, fun i z hz => ?_⟩
  show slotOk H (if i = gen % x.width then rows else x.rows i) z
  by_cases e : i = gen % x.width
  · rw [if_pos e]
    subst e
    rw [List.getElem?_set] at hz
    split at hz
    · split at hz
      · cases hz; exact hy
      · cases hz
    · rename_i h9; exact absurd rfl h9
  · rw [if_neg e]
    rw [List.getElem?_set_ne (Ne.symm e)] at hz
    exact h.2 i z hz
theorem slots_same {l : Slots} {i : Nat} {y z : Option (Nat × Value)} (h : l[i]? = some y) (e : slotV y = slotV z) : (l.set i z).map slotV = l.map slotV := by
  have hi : i < l.length := (List.getElem?_eq_some_iff.1 h).1
  have hx : l[i] = y := by rw [List.getElem?_eq_getElem hi] at h; exact Option.some.inj h
  rw [List.map_set, ← e, ← hx]
  have hi2 : i < (l.map slotV).length := by simpa using hi
  rw [show slotV l[i] = (l.map slotV)[i]'hi2 by simp, List.set_getElem_self]
/-- What Take leaves behind: the relay, and whether the row was taken. -/
def takeC (rb wb gI : Nat) (x : RelD) (gen : Nat) (r : RowD) (xs : List Nat) (H0 : Hp) (w0 : World) (e : Ending) (w' : World) : Prop :=
  ∃ H' l', e = .returned (.int .i64 (x.takeE gen r)) ∧ SlotsOk H' (x.take gen r) l' ∧ HS xs H0 w0 H' ((rb, relObj x.g x.s wb l', true) :: (wb, winObj x.base x.width, true) :: (slotMem x.g x.s true l' ++ [(gI, .cells #[.bool (x.takeI gen r)] 4, true)])) w'
set_option maxRecDepth 20000 in
set_option maxHeartbeats 2000000 in
theorem rtake1_ok (rb wb gI gR gW b gen : Nat) (rv rc rp : Value) (x : RelD) (l : Slots) (r : RowD) (xs : List Nat) (H0 H1 : Hp) (w0 w1 : World)
    (hs : HS xs H0 w0 H1 ((b, basisObj x.g x.s rv, true) :: (rb, relObj x.g x.s wb l, true) :: (wb, winObj x.base x.width, true) :: (slotMem x.g x.s true (l.set (gen % x.width) none) ++ [(gI, .cells #[.bool false] 4, true)])) w1)
    (hin : inWin x.base x.width gen) (hx : SlotsOk H1 x l) (hok : RelOk x) (hl : l[gen % x.width]? = some (some (b, rv)) ∨ l[gen % x.width]? = some none) (hrv : Rws H1 rv (x.rows (gen % x.width)))
    (hgW : hcell H1 ⟨gW, 0, none⟩ = some rc ∧ hcell H1 ⟨gW, 1, none⟩ = some rp) (hrc : Bytes H1 rc r.1) (hrp : Bytes H1 rp r.2) (hgR : hcell H1 ⟨gR, 0, none⟩ = some (ptr rb)) :
    Calls Try.prog 36 #[.int .i64 ((gen % x.width : Nat) : Int), ptr b, ptr gW, ptr gI, ptr gR] w1 (takeC rb wb gI x gen r xs H0 w0) := by
  have hle := Hp.le.refl H1
  have hsl := hok.slot gen
  obtain ⟨q1, q2, q3⟩ := Red.forB (hok.red (gen % x.width)) hok.g2
  have hl16 := hx.1
  have hslot : ∃ y, l[gen % x.width]? = some y := ⟨_, List.getElem?_eq_getElem (by omega)⟩
  have hs0 := HS.mtail (A := _ :: _ :: _ :: slotMem x.g x.s true (l.set (gen % x.width) none)) hs
  clear hs
  have hs := hs0
  clear hs0
  refine Calls.enter (args := [.int .i64 ((gen % x.width : Nat) : Int), ptr b, ptr gW, ptr gI, ptr gR]) Try.func36 rfl Try.ntmps36 rfl ?_
  refine WC.seq (WC.region (WO.step rfl (OR.assign rfl (WO.done (WX.seq (WC.seq (WC.seq ?_)))))))
  refine WC.region (WO.step rfl (OR.move rfl ?_))
  refine WO.step rfl (OR.loadN (cs := [rc, rp]) T39 rfl rfl rfl (fun j u hj => hs.cell (by rw [add_off, Nat.zero_add]; match j, hj with | 0, hj => (cases hj; exact hgW.1) | 1, hj => (cases hj; exact hgW.2))) ?_)
  replace hs := hs.front (i := 1) rfl
  refine WO.step rfl (OR.callX (Mx := [(b, _, true)]) hs body37 rfl rfl (insert_ok (x.rows (gen % x.width)) r rv rc rp b x.g x.s _ _ hs.toSub (hs.blk (i := 0) rfl) (hs.nh (i := 0) rfl) hrv hrc hrp q2 hok.g1 hok.g2 hok.s2 q3) rfl rfl ?_)
  clear hs; rintro _ H M' w hs hle1 hnew ⟨rv', rfl, hrv', rfl⟩; replace hle := hle.trans hle1; (try replace hlb := hlb.trans hle1)
  obtain ⟨y, hy⟩ := hslot
  have hxt : x.take gen r = x.put gen (insR x.g x.s (x.rows (gen % x.width)) r).2 := by rw [RelD.take, if_pos hin]
  have hE : x.takeE gen r = if r.1.length = x.g ∧ r.2.length = x.s then 0 else 21 := by rw [RelD.takeE, if_pos hin]
  have hI : x.takeI gen r = (insR x.g x.s (x.rows (gen % x.width)) r).1 := by rw [RelD.takeI, decide_eq_true hin, Bool.true_and]
  have hgR2 := hcell.mono hle hgR
  replace hx := hx.mono hle
  refine WO.step rfl (OR.move rfl (WO.step rfl (OR.extract rfl rfl (WO.step rfl (OR.extract rfl rfl ?_)))))
  replace hs := hs.front (i := 1) rfl
  refine WO.stepN (OR.storeAll hs T4 rfl rfl rfl rfl rfl ?_)
  clear hs; intro w hs
  refine WO.step rfl (OR.assign rfl (WO.done (WX.seq (WC.seq (WC.region (WO.step rfl (OR.load T4 rfl rfl (hs.cellM (i := 0) rfl rfl) ?_)))))))
  refine WO.done (WX.seq ?_)
  refine WC.cond rfl (fun hins => ?_) (fun hins => ?_)
  · refine WC.region ?_
    refine WO.step rfl (OR.load T28 rfl rfl (hs.cell hgR2) ?_)
    refine WO.step rfl (OR.move rfl (WO.step rfl (OR.move rfl (WO.step rfl (OR.nilCheck rfl (WO.step rfl (OR.fieldAddr FA73_3 rfl ?_)))))))
    refine WO.step rfl (OR.idxArr (gen % x.width) T71.und T68 rfl rfl rfl (by omega) ?_)
    replace hs := hs.front (i := 2) rfl
    refine WO.stepN (OR.store hs T68 rfl rfl rfl (by simp; omega) rfl ?_)
    clear hs; intro w hs
    refine WO.done (WX.seq (WC.seq (WC.region (WO.step rfl (OR.move rfl (WO.step rfl (OR.assign rfl ?_)))))))
    refine WO.done (WX.seq (WC.ret ?_))
    refine WX.ret1 rfl rfl ?_
    have hset := setL_slots (.int .i64 (x.g : Int)) (.int .i64 (x.s : Int)) (ptr wb) l (gen % x.width) (some (b, rv')) (by omega)
    have hobj : Obj.cells (setL (Value.int .i64 (x.g : Int) :: .int .i64 (x.s : Int) :: ptr wb :: l.map slotV).toArray.toList (0 + 3 + gen % x.width) (ptr b).cells.toList).toArray 73 = relObj x.g x.s wb (l.set (gen % x.width) (some (b, rv'))) := by
      rw [relObj, ← hset, Nat.zero_add]
      rfl
    rw [hobj] at hs
    refine ⟨H, l.set (gen % x.width) (some (b, rv')), by rw [hE], by rw [hxt]; exact slots_put hx hrv', ?_⟩
    rw [hI]
    have hs3 := HS.mtail (A := [_]) (hs.front (i := 1) rfl)
    have hs4 := hs3.front (i := 1) rfl
    exact HS.slotIn (A := [_, _]) hs4 hy
  · refine WC.skip (WX.seq (WC.seq (WC.region (WO.step rfl (OR.move rfl (WO.step rfl (OR.assign rfl ?_)))))))
    refine WO.done (WX.seq (WC.ret ?_))
    refine WX.ret1 rfl rfl ?_
    have hfalse := insAny_false hins
    have hs3 := HS.mtail (A := [_]) hs
    rcases hl with hl | hl
    · have hsame := slots_same (z := some (b, rv')) hl rfl
      refine ⟨H, l.set (gen % x.width) (some (b, rv')), by rw [hE], by rw [hxt]; exact slots_put hx hrv', ?_⟩
      rw [hI]
      have hobj : relObj x.g x.s wb (l.set (gen % x.width) (some (b, rv'))) = relObj x.g x.s wb l := by rw [relObj, hsame]; rfl
      rw [hobj]
      exact HS.slotIn (A := [_, _]) hs3 hl
    · have hrows : x.rows (gen % x.width) = [] := hx.2 _ _ hl
      have hset : l.set (gen % x.width) none = l := by
        have hi : gen % x.width < l.length := (List.getElem?_eq_some_iff.1 hl).1
        have hx2 : l[gen % x.width] = none := by rw [List.getElem?_eq_getElem hi] at hl; exact Option.some.inj hl
        conv => rhs; rw [← List.set_getElem_self hi, hx2]
      have hso := slots_put (gen := gen) (rows := (insR x.g x.s (x.rows (gen % x.width)) r).2) (y := none) hx (by show _ = _; rw [hfalse, hrows])
      rw [hset] at hso hs3
      refine ⟨H, l, by rw [hE], by rw [hxt]; exact hso, ?_⟩
      rw [hI]
      exact hs3.drop 0
set_option maxRecDepth 20000 in
set_option maxHeartbeats 2000000 in
theorem rtake_ok' (rb wb gen : Nat) (rc rp : Value) (x : RelD) (l : Slots) (r : RowD) (H0 : Hp) (w0 : World) (hs : HS (Mem.keys (relMem true x rb wb l)) H0 w0 H0 (relMem true x rb wb l) w0) (hx : SlotsOk H0 x l) (hok : RelOk x) (hg : gen < 18446744073709551616) (hrc : Bytes H0 rc r.1) (hrp : Bytes H0 rp r.2) :
    Calls Try.prog 12 #[ptr rb, .int .u64 (gen : Int), .agg #[rc, rp]] w0 (Ret (Mem.keys (relMem true x rb wb l)) H0 w0 fun v H' M' => v = .tuple #[.bool (x.takeI gen r), .int .i64 (x.takeE gen r)] ∧ ∃ l', M' = relMem true (x.take gen r) rb wb l' ∧ SlotsOk H' (x.take gen r) l') := by
  have hle := Hp.le.refl H0
  have h00 := hs.toSub
  obtain ⟨xs, hxs⟩ : ∃ xs, xs = Mem.keys (relMem true x rb wb l) := ⟨_, rfl⟩
  rw [← hxs] at hs ⊢
  clear hxs
  obtain ⟨b1, c1, rfl⟩ := hrc.form
  obtain ⟨b2, c2, rfl⟩ := hrp.form
  refine Calls.enter (args := [ptr rb, .int .u64 (gen : Int), .agg #[.slice b1 r.1.length c1, .slice b2 r.2.length c2]]) Try.func12 rfl Try.ntmps12 rfl ?_
  refine WC.seq (WC.region (WO.step rfl (OR.box hs rfl ?_)))
  clear hs; intro g1 w hg1 hs
  refine WO.step rfl (OR.box hs rfl ?_)
  clear hs; intro g2 w hg2 hs
  refine WO.step rfl (OR.alloc hs T4 ?_)
  clear hs; intro g3 w hg3 hs
  refine WO.step rfl (OR.assign rfl (WO.done (WX.seq (WC.seq (WC.region (WO.step rfl (OR.load T28 rfl rfl (hs.cellM (i := 2) rfl rfl) ?_)))))))
  refine WO.step rfl (OR.move rfl (WO.step rfl (OR.makeFunc rfl rfl ?_)))
  replace hs := hs.front (i := 2) rfl
  obtain ⟨H, hle1, hp_g1, hs9⟩ := hs.pub1 hg1; clear hs; have hs := hs9; clear hs9; replace hle := hle.trans hle1; (try replace hlb := hlb.trans hle1)
  have hM : hcell H ⟨g1, 0, none⟩ = some (ptr rb) := hcell_of hp_g1 rfl
  replace hs := hs.front (i := 1) rfl
  obtain ⟨H, hle1, hp_g2, hs9⟩ := hs.pub1 hg2; clear hs; have hs := hs9; clear hs9; replace hle := hle.trans hle1; (try replace hlb := hlb.trans hle1)
  replace hM := hcell.mono hle1 hM
  have hW1 : hcell H ⟨g2, 0, none⟩ = some (.slice b1 r.1.length c1) := hcell_of hp_g2 rfl
  have hW2 : hcell H ⟨g2, 1, none⟩ = some (.slice b2 r.2.length c2) := hcell_of hp_g2 rfl
  have hs9 : HS xs H0 w0 H ((rb, relObj x.g x.s wb l, true) :: (wb, winObj x.base x.width, true) :: (slotMem x.g x.s true l ++ [(g3, .cells #[.bool false] 4, true)])) w := HS.mtail (A := [_]) hs
  have hdo : inWin x.base x.width gen → ∀ H2 w b rv t', Hp.le H H2 → (true = true → t' = true) → HS xs H0 w0 H2 ((b, basisObj x.g x.s rv, t') :: (rb, relObj x.g x.s wb l, true) :: (wb, winObj x.base x.width, true) :: (slotMem x.g x.s true (l.set (gen % x.width) none) ++ [(g3, .cells #[.bool false] 4, true)])) w →
      (l[gen % x.width]? = some (some (b, rv)) ∨ l[gen % x.width]? = some none) → (l[gen % x.width]? = some (some (b, rv)) → t' = true) → Rws H2 rv (x.rows (gen % x.width)) → Calls Try.prog 36 ([] ++ [Value.int .i64 ((gen % x.width : Nat) : Int), ptr b] ++ [ptr g2, ptr g3, ptr g1]).toArray w (takeC rb wb g3 x gen r xs H0 w0) := by
    intro hin H2 w b rv t' hl2 ht hs hl _ hr
    rw [ht rfl] at hs
    exact rtake1_ok rb wb g3 g1 g2 b gen rv (.slice b1 r.1.length c1) (.slice b2 r.2.length c2) x l r xs H0 H2 w0 w hs hin (hx.mono (hle.trans hl2)) hok hl hr ⟨hcell.mono hl2 hW1, hcell.mono hl2 hW2⟩ (hrc.mono (hle.trans hl2)) (hrp.mono (hle.trans hl2)) (hcell.mono hl2 hM)
  have hout : ¬ inWin x.base x.width gen → ∀ H2 w, Hp.le H H2 → HS xs H0 w0 H2 ((rb, relObj x.g x.s wb l, true) :: (wb, winObj x.base x.width, true) :: (slotMem x.g x.s true l ++ [(g3, .cells #[.bool false] 4, true)])) w → takeC rb wb g3 x gen r xs H0 w0 (.returned (.int .i64 23)) w := by
    intro hno H2 w hl2 hs
    refine ⟨H2, l, by rw [RelD.takeE, if_neg hno], by rw [RelD.take, if_neg hno]; exact hx.mono (hle.trans hl2), ?_⟩
    rw [RelD.takeI, decide_eq_false hno, Bool.false_and]
    exact hs
  refine WO.step rfl (OR.callW body35 rfl rfl (rat_ok rb wb 36 gen [] [ptr g2, ptr g3, ptr g1] x l true _ H0 H [_] w0 _ (takeC rb wb g3 x gen r xs H0 w0) h00 hs9 (hx.mono hle) hok hg body36 (fun e w ⟨_, _, h, _⟩ => ⟨_, h⟩) hout hdo) ?_)
  clear hs hs9
  rintro e w ⟨H, l', rfl, hso, hs⟩
  refine ⟨_, rfl, ?_⟩
  replace hs := HS.mtail (A := _ :: _ :: slotMem x.g x.s true l') (B := [_]) hs
  refine WO.step rfl (OR.assign rfl (WO.done (WX.seq (WC.seq (WC.region (WO.step rfl (OR.load T4 rfl rfl (hs.cellM (i := 0) rfl rfl) ?_)))))))
  refine WO.step rfl (OR.move rfl (WO.stepN (OR.storeAll hs T4 rfl rfl rfl rfl rfl ?_)))
  clear hs; intro w hs
  refine WO.step rfl (OR.assign rfl (WO.done (WX.seq (WC.ret ?_))))
  refine WX.retCTS T4 rfl rfl rfl rfl (hs.cellM (i := 0) rfl rfl) ?_
  have hgs : (x.take gen r).g = x.g ∧ (x.take gen r).s = x.s ∧ (x.take gen r).base = x.base ∧ (x.take gen r).width = x.width := by
    unfold RelD.take
    split <;> exact ⟨rfl, rfl, rfl, rfl⟩
  obtain ⟨e1, e2, e3, e4⟩ := hgs
  refine ⟨_, H, relMem true (x.take gen r) rb wb l', rfl, ?_, List.all_eq_true.1 (relMem_flags _ _ _ _), rfl, l', rfl, hso⟩
  unfold relMem
  rw [e1, e2, e3, e4]
  exact hs.drop 0
end Go.Bw
