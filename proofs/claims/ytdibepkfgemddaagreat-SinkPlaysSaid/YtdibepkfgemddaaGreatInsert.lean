/- A basis: Insert. -/
import Derived.Test.YtdibepkfgemddaaGreatSlices
namespace Go.Bw
set_option linter.unusedVariables false
set_option linter.unusedSimpArgs false
open Go.Proofs

/-- A row made 1 at its lead. -/
def normR (q : RowD) : RowD :=
  (q.1.map (fun x => mul x (pw ((255 - lg (q.1.getD (lead q.1).toNat 0)) % 255))), q.2.map (fun x => mul x (pw ((255 - lg (q.1.getD (lead q.1).toNat 0)) % 255))))
/-- One put into a list. -/
def insAt {α : Type} (l : List α) (i : Nat) (x : α) : List α := l.take i ++ [x] ++ l.drop i
/-- A row of the basis, freed of the new one's lead. -/
def freeR (q : RowD) (x : RowD) : RowD := plusR x (normR q) (x.1.getD (lead q.1).toNat 0)
/-- What Insert does. -/
def insR (g s : Nat) (rows : List RowD) (r : RowD) : Bool × List RowD :=
  if r.1.length = g ∧ r.2.length = s then
    if lead (redR rows r).1 < 0 then (false, rows)
    else (true, insAt (rows.map (freeR (redR rows r))) (placeOf rows (lead (redR rows r).1)) (normR (redR rows r)))
  else (false, rows)

set_option maxRecDepth 20000 in
set_option maxHeartbeats 2000000 in
theorem insert_nil (r : Value) (cs : Array Value) (H0 : Hp) (w0 : World) (h0 : Sub H0 w0) :
    Calls Tryz.prog 72 #[.pointer none, .agg cs] w0 (Pure H0 w0 fun v _ => v = .tuple #[.bool false, .int .i64 2]) := by
  have hs := HS.init h0
  have hle := Hp.le.refl H0
  refine Calls.enter (args := [.pointer none, .agg cs]) Tryz.func72 rfl Tryz.ntmps72 rfl ?_
  refine WC.seq (WC.region (WO.step rfl (OR.box hs rfl ?_)))
  clear hs; intro g1 w hg1 hs
  refine WO.step rfl (OR.assign rfl (WO.step rfl (OR.assign rfl (WO.done (WX.seq (WC.seq (WC.block ?_)))))))
  refine WC.seq (WC.region (WO.step rfl (OR.move rfl ?_)))
  refine WO.step rfl (OR.call hs body119 rfl rfl (made_nil _ _ hs.toSub) ?_)
  clear hs; rintro _ H w hs hle1 rfl; replace hle := hle.trans hle1; (try replace hlb := hlb.trans hle1)
  refine WO.step rfl (OR.not rfl (WO.step rfl (OR.assign rfl (WO.done (WX.seq ?_)))))
  refine WC.yes rfl rfl ?_
  refine WC.seq (WC.region (WO.step rfl (OR.assign rfl (WO.step rfl (OR.assign rfl (WO.done (WX.seq ?_)))))))
  refine WC.ret (WX.block_ret (WX.seq_ret ?_))
  replace hs := hs.drop (i := 0)
  refine WX.ret2 rfl rfl rfl ?_
  exact .mk hs rfl

theorem rowCells_take : ∀ (cs : List (Value × Value)) (i : Nat), (rowCells cs).take (i * 2) = rowCells (cs.take i)
  | [], i => by simp [rowCells]
  | (c, p) :: l, 0 => by simp [rowCells]
  | (c, p) :: l, i + 1 => by rw [show (i + 1) * 2 = i * 2 + 1 + 1 by omega]; simp [rowCells, rowCells_take l i]
theorem rowCells_drop : ∀ (cs : List (Value × Value)) (i : Nat), (rowCells cs).drop (i * 2) = rowCells (cs.drop i)
  | [], i => by simp [rowCells]
  | (c, p) :: l, 0 => by simp [rowCells]
  | (c, p) :: l, i + 1 => by rw [show (i + 1) * 2 = i * 2 + 1 + 1 by omega]; simp [rowCells, rowCells_drop l i]
theorem rowCells_set : ∀ (cs : List (Value × Value)) (i : Nat) (a b : Value), setL (rowCells cs) (i * 2) [a, b] = rowCells (cs.set i (a, b))
  | [], i, a, b => by cases i <;> simp [rowCells, setL]
  | (c, p) :: l, 0, a, b => by simp [rowCells, setL, setL_nil]
  | (c, p) :: l, i + 1, a, b => by
    rw [show (i + 1) * 2 = i * 2 + 1 + 1 by omega, List.set_cons_succ]
    show c :: p :: setL (rowCells l) (i * 2) [a, b] = c :: p :: rowCells (l.set i (a, b))
    rw [rowCells_set l i a b]
theorem take_setL (c : List Value) (k m : Nat) (vs : List Value) (h : k + vs.length ≤ m) (hm : m ≤ c.length) : (setL c k vs).take m = setL (c.take m) k vs := by
  rw [setL_at _ _ _ (by omega), setL_at _ _ _ (by rw [List.length_take]; omega)]
  rw [List.take_take, Nat.min_eq_left (by omega)]
  have e1 : (c.take k ++ vs).length = k + vs.length := by rw [List.length_append, List.length_take]; omega
  rw [List.take_append, List.take_of_length_le (by omega : (c.take k ++ vs).length ≤ m), e1, List.drop_take]
theorem RowsOk.set {H : Hp} {cs : List (Value × Value)} {rs : List RowD} (h : RowsOk H cs rs) (k : Nat) {c p : Value} {r : RowD} (hc : Bytes H c r.1) (hp : Bytes H p r.2) : RowsOk H (cs.set k (c, p)) (rs.set k r) := by
  refine ⟨by simp [h.1], fun i a b => ?_⟩
  simp only [List.getElem_set]
  split
  · exact ⟨hc, hp⟩
  · exact h.2 i (by simpa using a) (by simpa using b)
theorem RowsOk.ins {H : Hp} {cs : List (Value × Value)} {rs : List RowD} (h : RowsOk H cs rs) (k : Nat) (hk : k ≤ rs.length) {c p : Value} {r : RowD} (hc : Bytes H c r.1) (hp : Bytes H p r.2) : RowsOk H (insAt cs k (c, p)) (insAt rs k r) := by
  have hl := h.1
  have e1 : (cs.take k ++ [(c, p)]).length = k + 1 := by simp; omega
  have e2 : (rs.take k ++ [r]).length = k + 1 := by simp; omega
  refine ⟨by simp [insAt]; omega, fun i a b => ?_⟩
  unfold insAt at a b ⊢
  simp only [List.getElem_append, e1, e2, List.length_take, Nat.min_eq_left hk, Nat.min_eq_left (hl ▸ hk : k ≤ cs.length), List.getElem_take, List.getElem_drop]
  by_cases h1 : i < k + 1
  · simp only [h1, dif_pos]
    by_cases h2 : i < k
    · simp only [h2, dif_pos]
      exact h.2 i _ _
    · simp only [h2, dif_neg, not_false_iff]
      have : i - k = 0 := by omega
      simp only [this, List.getElem_cons_zero]
      exact ⟨hc, hp⟩
  · simp only [h1, dif_neg, not_false_iff]
    exact h.2 _ _ _
theorem rows_one {H : Hp} {cs : List (Value × Value)} {rs : List RowD} (h : RowsOk H cs rs) : (rowCells cs).all (·.oneCell') = true := by
  rw [List.all_eq_true]
  intro v hv
  obtain ⟨i, hi, e⟩ := List.mem_iff_getElem.1 hv
  rw [rowCells_length] at hi
  have h1 := rowCells_get cs (i / 2) (by omega)
  have hok := h.2 (i / 2) (by have := h.1; omega) (by omega)
  obtain ⟨_, _, e1⟩ := hok.1.form
  obtain ⟨_, _, e2⟩ := hok.2.form
  have h4 : (rowCells cs)[i]? = some v := by rw [List.getElem?_eq_getElem (by rw [rowCells_length]; omega), e]
  rcases Nat.mod_two_eq_zero_or_one i with h2 | h2
  · have h3 := h1.1
    rw [show i / 2 * 2 = i by omega, h4] at h3
    rw [Option.some.inj h3, e1]; rfl
  · have h3 := h1.2
    rw [show i / 2 * 2 + 1 = i by omega, h4] at h3
    rw [Option.some.inj h3, e2]; rfl
theorem two_cells {w : World} {g o : Nat} {c : Array Value} {e : TypeId} {fr : Nat × Nat} {x y : Value} (hb : w.heap[g]? = some (.cells c e fr)) (h0 : c.toList[o]? = some x) (h1 : c.toList[o + 1]? = some y) :
    ∀ j u, [x, y][j]? = some u → w.cell? ((⟨g, o, none⟩ : Addr).add j) = some u := by
  intro j u hj
  match j, hj with
  | 0, hj => simp at hj; subst hj; exact cells_at hb h0
  | 1, hj => simp at hj; subst hj; exact cells_at hb h1
/-- The first k freed. -/
def updR (f : RowD → RowD) (rows : List RowD) (k : Nat) : List RowD := (rows.take k).map f ++ rows.drop k
theorem updR_len (f : RowD → RowD) (rows : List RowD) (k : Nat) : (updR f rows k).length = rows.length := by simp [updR]; omega
theorem updR_step (f : RowD → RowD) (rows : List RowD) (k : Nat) (h : k < rows.length) : (updR f rows k).set k (f rows[k]) = updR f rows (k + 1) := by
  unfold updR
  rw [List.take_succ_eq_append_getElem h, List.map_append, List.set_append_right _ _ (by simp; omega)]
  have : k - ((rows.take k).map f).length = 0 := by simp; omega
  rw [this, List.drop_eq_getElem_cons h, List.set_cons_zero, List.append_assoc]
  rfl
theorem updR_at (f : RowD → RowD) (rows : List RowD) (k : Nat) (h : k < rows.length) (h' : k < (updR f rows k).length) : (updR f rows k)[k] = rows[k] := by
  have : (updR f rows k)[k]? = some rows[k] := by
    unfold updR
    rw [List.getElem?_append_right (by simp; omega)]
    have e : k - ((rows.take k).map f).length = 0 := by simp; omega
    rw [e, List.drop_eq_getElem_cons h]
    rfl
  rw [List.getElem?_eq_getElem h'] at this
  exact Option.some.inj this

theorem lead_some {l : List UInt8} {i : Nat} (h : lead l = (i : Int)) : ∃ h : i < l.length, l[i] ≠ 0 ∧ ∀ j (hj : j < i), l[j]'(by omega) = 0 := by
  unfold lead idxFrom at h
  rw [List.drop_zero] at h
  cases hf : l.findIdx? (fun x => decide (x ≠ 0)) with
  | none => rw [hf] at h; simp only at h; omega
  | some k =>
    rw [hf] at h
    simp only at h
    have : k = i := by omega
    subst this
    obtain ⟨h1, h2, h3⟩ := List.findIdx?_eq_some_iff_getElem.1 hf
    exact ⟨h1, by simpa using h2, fun j hj => by simpa using h3 j hj⟩

set_option maxRecDepth 20000 in
set_option maxHeartbeats 2000000 in
theorem insert_ok (rows : List RowD) (r : RowD) (rv rc rp : Value) (b g s : Nat) (H0 : Hp) (w0 : World) (h0 : Sub H0 w0) (hb : w0.heap[b]? = some (basisObj g s rv)) (hn : H0 b = none) (hv : Rws H0 rv rows)
    (hrc : Bytes H0 rc r.1) (hrp : Bytes H0 rp r.2) (hrs : ∀ x ∈ rows, RowGS g s x ∧ 0 ≤ lead x.1) (hg0 : 0 < g) (hg : g ≤ 255) (hsm : s ≤ 65535) (hlen : rows.length ≤ 255) :
    Calls Tryz.prog 72 #[ptr b, .agg #[rc, rp]] w0 (Ret [b] H0 w0 fun v H' M' => ∃ rv', M' = [(b, basisObj g s rv', true)] ∧ Rws H' rv' (insR g s rows r).2 ∧
      v = .tuple #[.bool (insR g s rows r).1, .int .i64 (if r.1.length = g ∧ r.2.length = s then 0 else 21)]) := by
  have hs := HS.start1 h0 hb hn
  have hle := Hp.le.refl H0
  have hv0 := hv
  obtain ⟨br, cr, rfl⟩ := hv.form
  obtain ⟨b1, c1, rfl⟩ := hrc.form
  obtain ⟨b2, c2, rfl⟩ := hrp.form
  refine Calls.enter (args := [ptr b, .agg #[.slice b1 r.1.length c1, .slice b2 r.2.length c2]]) Tryz.func72 rfl Tryz.ntmps72 rfl ?_
  refine WC.seq (WC.region (WO.step rfl (OR.box hs rfl ?_)))
  clear hs; intro g1 w hg1 hs
  refine WO.step rfl (OR.assign rfl (WO.step rfl (OR.assign rfl (WO.done (WX.seq (WC.seq (WC.block ?_)))))))
  refine WC.seq (WC.region (WO.step rfl (OR.move rfl ?_)))
  have hbw := hs.blk (i := 1) rfl
  refine WO.step rfl (OR.call hs body119 rfl rfl (made_yes b g s _ _ _ hs.toSub hbw hn hg0) ?_)
  clear hs; rintro _ H w hs hle1 rfl; replace hle := hle.trans hle1; (try replace hlb := hlb.trans hle1)
  refine WO.step rfl (OR.not rfl (WO.step rfl (OR.assign rfl (WO.done (WX.seq ?_)))))
  refine WC.no rfl rfl ?_
  by_cases hdim : r.1.length = g ∧ r.2.length = s
  · have hone : insR g s rows r = if lead (redR rows r).1 < 0 then (false, rows) else (true, insAt (rows.map (freeR (redR rows r))) (placeOf rows (lead (redR rows r).1)) (normR (redR rows r))) := by rw [insR, if_pos hdim]
    rw [hone]
    simp only [if_pos hdim]
    refine WC.seq ?_
    refine WC.draw 19 mixed hs (by kernel_rfl) ?_
    refine ⟨MF.eq _, by intro Mx H w hle hs; refine forVals_nil (ORg.plain (OR.fieldAddr FA45_0 rfl ?_)); exact ⟨_, [], Hp.le.refl _, hs, rfl, rfl⟩, ?_⟩
    refine ⟨MF.eq _, by intro Mx H w hle hs; refine forVals_eq rfl rfl rfl ?_; refine forVals_nil (ORg.plain (OR.load T43 rfl rfl (hs.right.cellM (i := 0) rfl rfl) ?_)); exact ⟨_, [], Hp.le.refl _, hs, rfl, rfl⟩, ?_⟩
    refine ⟨MF.eq _, by intro Mx H w hle hs; refine forVals_eq rfl rfl rfl ?_; refine forVals_nil (ORg.plain (OR.lenSlice T43.und rfl ?_)); exact ⟨_, [], Hp.le.refl _, hs, rfl, rfl⟩, ?_⟩
    refine ⟨MF.eq _, by intro Mx H w hle hs; refine forVals_nil (ORg.plain (OR.move rfl ?_)); exact ⟨_, [], Hp.le.refl _, hs, rfl, rfl⟩, ?_⟩
    refine ⟨MF.eq _, by intro Mx H w hle hs; refine forVals_eq rfl rfl rfl ?_; refine forVals_nil (ORg.plain (OR.nilCheck rfl ?_)); exact ⟨_, [], Hp.le.refl _, hs, rfl, rfl⟩, ?_⟩
    refine ⟨MF.eq _, by intro Mx H w hle hs; refine forVals_eq rfl rfl rfl ?_; refine forVals_nil (ORg.plain (OR.fieldAddr FA194_0 rfl ?_)); exact ⟨_, [], Hp.le.refl _, hs, rfl, rfl⟩, ?_⟩
    refine ⟨MF.eq _, by intro Mx H w hle hs; refine forVals_eq rfl rfl rfl ?_; refine forVals_nil (ORg.plain (OR.load T3 rfl rfl (hs.right.cellM (i := 1) rfl rfl) ?_)); exact ⟨_, [], Hp.le.refl _, hs, rfl, rfl⟩, ?_⟩
    refine ⟨MF.eq _, by intro Mx H w hle hs; refine forVals_eq rfl rfl rfl ?_; refine forVals_eq rfl rfl rfl ?_; refine forVals_nil (ORg.plain (OR.neq rfl rfl ?_)); exact ⟨_, [], Hp.le.refl _, hs, rfl, rfl⟩, ?_⟩
    refine ⟨MF.eq _, by intro Mx H w hle hs; refine forVals_eq rfl rfl rfl ?_; refine forVals_nil (ORg.plain (OR.move rfl ?_)); exact ⟨_, [], Hp.le.refl _, hs, rfl, rfl⟩, ?_⟩
    refine ⟨MF.eq _, by intro Mx H w hle hs; refine forVals_eq rfl rfl rfl ?_; refine forVals_nil (ORg.yes rfl (decide_eq_false (by omega : ¬ ((r.1.length : Int) ≠ (g : Int)))) rfl (OR.fieldAddr FA45_1 rfl ?_)); exact ⟨_, [], Hp.le.refl _, hs, rfl, rfl⟩, ?_⟩
    refine ⟨MF.eq _, by intro Mx H w hle hs; refine forVals_eq rfl rfl rfl ?_; refine forVals_eq rfl rfl rfl ?_; refine forVals_nil (ORg.yes rfl (decide_eq_false (by omega : ¬ ((r.1.length : Int) ≠ (g : Int)))) rfl (OR.load T43 rfl rfl (hs.right.cellM (i := 0) rfl rfl) ?_)); exact ⟨_, [], Hp.le.refl _, hs, rfl, rfl⟩, ?_⟩
    refine ⟨MF.eq _, by intro Mx H w hle hs; refine forVals_eq rfl rfl rfl ?_; refine forVals_eq rfl rfl rfl ?_; refine forVals_nil (ORg.yes rfl (decide_eq_false (by omega : ¬ ((r.1.length : Int) ≠ (g : Int)))) rfl (OR.lenSlice T43.und rfl ?_)); exact ⟨_, [], Hp.le.refl _, hs, rfl, rfl⟩, ?_⟩
    refine ⟨MF.eq _, by intro Mx H w hle hs; refine forVals_eq rfl rfl rfl ?_; refine forVals_nil (ORg.yes rfl (decide_eq_false (by omega : ¬ ((r.1.length : Int) ≠ (g : Int)))) rfl (OR.move rfl ?_)); exact ⟨_, [], Hp.le.refl _, hs, rfl, rfl⟩, ?_⟩
    refine ⟨MF.eq _, by intro Mx H w hle hs; refine forVals_eq rfl rfl rfl ?_; refine forVals_eq rfl rfl rfl ?_; refine forVals_nil (ORg.yes rfl (decide_eq_false (by omega : ¬ ((r.1.length : Int) ≠ (g : Int)))) rfl (OR.nilCheck rfl ?_)); exact ⟨_, [], Hp.le.refl _, hs, rfl, rfl⟩, ?_⟩
    refine ⟨MF.eq _, by intro Mx H w hle hs; refine forVals_eq rfl rfl rfl ?_; refine forVals_eq rfl rfl rfl ?_; refine forVals_nil (ORg.yes rfl (decide_eq_false (by omega : ¬ ((r.1.length : Int) ≠ (g : Int)))) rfl (OR.fieldAddr FA194_1 rfl ?_)); exact ⟨_, [], Hp.le.refl _, hs, rfl, rfl⟩, ?_⟩
    refine ⟨MF.eq _, by intro Mx H w hle hs; refine forVals_eq rfl rfl rfl ?_; refine forVals_eq rfl rfl rfl ?_; refine forVals_nil (ORg.yes rfl (decide_eq_false (by omega : ¬ ((r.1.length : Int) ≠ (g : Int)))) rfl (OR.load T3 rfl rfl (hs.right.cellM (i := 1) rfl rfl) ?_)); exact ⟨_, [], Hp.le.refl _, hs, rfl, rfl⟩, ?_⟩
    refine ⟨MF.eq _, by intro Mx H w hle hs; refine forVals_eq rfl rfl rfl ?_; refine forVals_eq rfl rfl rfl ?_; refine forVals_eq rfl rfl rfl ?_; refine forVals_nil (ORg.yes rfl (decide_eq_false (by omega : ¬ ((r.1.length : Int) ≠ (g : Int)))) rfl (OR.neq rfl rfl ?_)); exact ⟨_, [], Hp.le.refl _, hs, rfl, rfl⟩, ?_⟩
    refine ⟨MF.eq _, by intro Mx H w hle hs; refine forVals_eq rfl rfl rfl ?_; refine forVals_eq rfl rfl rfl ?_; refine forVals_nil (ORg.plain (OR.pickF rfl (decide_eq_false (by omega : ¬ ((r.1.length : Int) ≠ (g : Int)))) rfl ?_)); exact ⟨_, [], Hp.le.refl _, hs, rfl, rfl⟩, ?_⟩
    refine ⟨MF.eq _, by intro Mx H w hle hs; refine forVals_eq rfl rfl rfl ?_; refine forVals_nil (ORg.plain (OR.assign rfl ?_)); exact ⟨_, [], Hp.le.refl _, hs, rfl, rfl⟩, ?_⟩
    intro H w hle2; (try replace hle := hle.trans hle2); (try replace hlb := hlb.trans hle2)
    refine forAllVals_eq rfl ?_
    refine forAllVals_eq rfl ?_
    refine forAllVals_eq rfl ?_
    refine forAllVals_eq rfl ?_
    refine forAllVals_eq rfl ?_
    refine forAllVals_eq rfl ?_
    refine forAllVals_eq rfl ?_
    refine forAllVals_eq rfl ?_
    refine forAllVals_eq rfl ?_
    refine forAllVals_eq rfl ?_
    refine forAllVals_eq rfl ?_
    refine forAllVals_eq rfl ?_
    refine forAllVals_eq rfl ?_
    refine forAllVals_eq rfl ?_
    refine forAllVals_eq rfl ?_
    refine forAllVals_eq rfl ?_
    refine forAllVals_eq rfl ?_
    refine forAllVals_eq rfl ?_
    refine forAllVals_eq rfl ?_
    refine forAllVals_nil ?_; (try clear hs); intro hs
    refine WO.done (WX.seq ?_)
    refine WC.no rfl (decide_eq_false (by omega)) ?_
    refine WC.skip (WX.block (WX.seq (WC.seq (WC.region (WO.step rfl (OR.move rfl (WO.step rfl ?_)))))))
    refine OR.loadAll T45 rfl rfl (hs.blk (i := 0) rfl) rfl ?_
    refine WO.step rfl (OR.call hs body121 rfl rfl (own_ok r _ _ _ _ hs.toSub (hrc.mono hle) (hrp.mono hle) (by omega) (by omega)) ?_)
    clear hs; rintro _ H w hs hle1 ⟨q1, q2, rfl, hq1, hq2⟩; replace hle := hle.trans hle1; (try replace hlb := hlb.trans hle1)
    have hbw := hs.blk (i := 1) rfl
    refine WO.step rfl (OR.call hs body120 rfl rfl (reduced_ok r rows _ _ _ b g s _ _ hs.toSub hbw (hs.mem b _ true (List.mem_cons_of_mem _ (List.mem_cons_self ..))).2.1 (hv.mono hle) hq1 hq2 hdim hrs hg hsm hlen) ?_)
    clear hs; rintro _ H w hs hle1 ⟨q3, q4, rfl, hq3, hq4⟩; replace hle := hle.trans hle1; (try replace hlb := hlb.trans hle1)
    have hq := redR_gs rows r hdim (fun x hx => (hrs x hx).1)
    generalize hqd : redR rows r = q at hq hq3 hq4 ⊢
    obtain ⟨b3, c3, rfl⟩ := hq3.form
    obtain ⟨b4, c4, rfl⟩ := hq4.form
    have hlb := Hp.le.refl H
    refine WO.stepN (OR.storeAll hs T45 rfl rfl rfl rfl rfl ?_)
    clear hs; intro w hs
    refine WO.done (WX.seq (WC.seq (WC.seq (WC.region (WO.step rfl (OR.fieldAddr FA45_0 rfl (WO.step rfl ?_)))))))
    refine OR.load T43 rfl rfl (hs.cellM (i := 0) rfl rfl) ?_
    refine WO.step rfl (OR.call hs body50 rfl rfl (isZero_ok _ _ _ _ hs.toSub hq3 (by rw [hq.1]; omega)) ?_)
    clear hs; rintro _ H w hs hle1 rfl; replace hle := hle.trans hle1; (try replace hlb := hlb.trans hle1)
    refine WO.done (WX.seq ?_)
    refine WC.condD rfl (fun hz => ?_) (fun hz => ?_)
    · refine WC.seq (WC.region (WO.step rfl (OR.assign rfl (WO.step rfl (OR.assign rfl (WO.done (WX.seq ?_)))))))
      refine WC.ret (WX.seq_ret ?_)
      replace hs := hs.drop (i := 0)
      refine WX.ret2 rfl rfl rfl ?_
      simp only [if_pos hz]
      exact ⟨_, H, _, rfl, hs, by simp, _, rfl, hv.mono hle, rfl⟩
    · simp only [if_neg hz]
      have hld : 0 ≤ lead q.1 := by omega
      obtain ⟨L, hL⟩ := Int.eq_ofNat_of_zero_le hld
      obtain ⟨hLt, hne, _⟩ := lead_some hL
      have hcoef : q.1.getD (lead q.1).toNat 0 = q.1[L] := by rw [hL]; simp [hLt]
      obtain ⟨xb, xo, rfl, hcr⟩ := hq3.pos (by omega)
      refine WC.skip (WX.seq (WC.seq (WC.region (WO.step rfl (OR.fieldAddr FA45_0 rfl (WO.step rfl (OR.load T43 rfl rfl (hs.cellM (i := 0) rfl rfl) ?_)))))))
      refine WO.step rfl (OR.call hs body110 rfl rfl (lead_ok _ _ _ _ hs.toSub (hq3.mono hlb) (by rw [hq.1]; omega)) ?_)
      clear hs; rintro _ H w hs hle1 rfl; replace hle := hle.trans hle1; (try replace hlb := hlb.trans hle1)
      refine WO.step rfl (OR.assign rfl (WO.done (WX.seq (WC.seq (WC.region (WO.step rfl (OR.fieldAddr FA45_0 rfl ?_)))))))
      refine WO.step rfl (OR.load T43 rfl rfl (hs.cellM (i := 0) rfl rfl) (WO.step rfl (OR.move rfl ?_)))
      refine WO.step rfl (OR.idx L T43.und T5 rfl rfl hL hLt ?_)
      refine WO.step rfl (OR.load T5 rfl rfl (hs.cell (hcell.mono hlb (hcr L hLt))) ?_)
      refine WO.step rfl (OR.call hs body122 rfl rfl (inv_ok q.1[L] _ _ hs.toSub) ?_)
      clear hs; rintro _ H w hs hle1 rfl; replace hle := hle.trans hle1; (try replace hlb := hlb.trans hle1)
      rw [if_neg hne]
      refine WO.step rfl (OR.move rfl (WO.step rfl (OR.extract rfl rfl (WO.step rfl (OR.extract rfl rfl (WO.step rfl (OR.assign rfl ?_)))))))
      refine WO.step rfl (OR.assign rfl (WO.done (WX.seq (WC.seq ?_))))
      have hnorm : normR q = (q.1.map (fun x => mul x (pw ((255 - lg q.1[L]) % 255))), q.2.map (fun x => mul x (pw ((255 - lg q.1[L]) % 255)))) := by rw [normR, hcoef]
      refine WC.draw 9 mixed hs (by kernel_rfl) ?_
      refine ⟨MF.eq _, by intro Mx H w hle hs; refine forVals_nil (ORg.plain (OR.fieldAddr FA45_0 rfl ?_)); exact ⟨_, [], Hp.le.refl _, hs, rfl, rfl⟩, ?_⟩
      refine ⟨MF.eq _, by intro Mx H w hle hs; refine forVals_eq rfl rfl rfl ?_; refine forVals_nil (ORg.plain (OR.load T43 rfl rfl (hs.right.cellM (i := 0) rfl rfl) ?_)); exact ⟨_, [], Hp.le.refl _, hs, rfl, rfl⟩, ?_⟩
      refine ⟨MF.eq _, by intro Mx H w hle hs; refine forVals_nil (ORg.plain (OR.move rfl ?_)); exact ⟨_, [], Hp.le.refl _, hs, rfl, rfl⟩, ?_⟩
      refine ⟨MF.bytes (normR q).1, ?_, ?_⟩
      · intro Mx H w hle2 hs; (try replace hle := hle.trans hle2); (try replace hlb := hlb.trans hle2); refine forVals_eq rfl rfl rfl ?_; refine forVals_eq rfl rfl rfl ?_
        refine forVals_nil (ORg.plain (OR.call hs body123 rfl rfl (scale_ok _ q.1 (pw ((255 - lg q.1[L]) % 255)) _ _ hs.toSub (hq3.mono hlb) (by rw [hq.1]; omega)) ?_))
        clear hs; rintro _ H w hs hle1 hr
        exact ⟨_, [], hle1, hs, (by rw [hnorm]; exact hr), rfl⟩
      refine ⟨MF.eq _, by intro Mx H w hle hs; refine forVals_nil (ORg.plain (OR.fieldAddr FA45_1 rfl ?_)); exact ⟨_, [], Hp.le.refl _, hs, rfl, rfl⟩, ?_⟩
      refine ⟨MF.eq _, by intro Mx H w hle hs; refine forVals_eq rfl rfl rfl ?_; refine forVals_nil (ORg.plain (OR.load T43 rfl rfl (hs.right.cellM (i := 0) rfl rfl) ?_)); exact ⟨_, [], Hp.le.refl _, hs, rfl, rfl⟩, ?_⟩
      refine ⟨MF.eq _, by intro Mx H w hle hs; refine forVals_nil (ORg.plain (OR.move rfl ?_)); exact ⟨_, [], Hp.le.refl _, hs, rfl, rfl⟩, ?_⟩
      refine ⟨MF.bytes (normR q).2, ?_, ?_⟩
      · intro Mx H w hle2 hs; (try replace hle := hle.trans hle2); (try replace hlb := hlb.trans hle2); refine forVals_eq rfl rfl rfl ?_; refine forVals_eq rfl rfl rfl ?_
        refine forVals_nil (ORg.plain (OR.call hs body123 rfl rfl (scale_ok _ q.2 (pw ((255 - lg q.1[L]) % 255)) _ _ hs.toSub (hq4.mono hlb) (by rw [hq.2]; omega)) ?_))
        clear hs; rintro _ H w hs hle1 hr
        exact ⟨_, [], hle1, hs, (by rw [hnorm]; exact hr), rfl⟩
      refine ⟨MF.row (normR q), ?_, ?_⟩
      · intro Mx H w hle2 hs; (try replace hle := hle.trans hle2); (try replace hlb := hlb.trans hle2); refine forVals_of rfl rfl rfl ?_; intro v3 h3; refine forVals_of rfl rfl rfl ?_; intro v7 h7
        obtain ⟨_, _, rfl⟩ := h3.form
        obtain ⟨_, _, rfl⟩ := h7.form
        refine forVals_nil (ORg.plain (OR.buildAll T45 rfl rfl PL45 rfl rfl ?_))
        exact ⟨_, [], Hp.le.refl _, hs, ⟨_, _, rfl, h3, h7⟩, rfl⟩
      intro H w hle2; (try replace hle := hle.trans hle2); (try replace hlb := hlb.trans hle2)
      refine forAllVals_eq rfl ?_
      refine forAllVals_eq rfl ?_
      refine forAllVals_eq rfl ?_
      refine forAllVals_of rfl ?_; intro v3 h3
      refine forAllVals_eq rfl ?_
      refine forAllVals_eq rfl ?_
      refine forAllVals_eq rfl ?_
      refine forAllVals_of rfl ?_; intro v7 h7
      refine forAllVals_of rfl ?_; intro v8 h8
      refine forAllVals_nil ?_; (try clear hs); intro hs
      obtain ⟨nc, np, rfl, hnc, hnp⟩ := h8
      obtain ⟨b5, c5, rfl⟩ := hnc.form
      obtain ⟨b6, c6, rfl⟩ := hnp.form
      have hngs : RowGS g s (normR q) := by rw [hnorm]; exact ⟨by simpa using hq.1, by simpa using hq.2⟩
      clear hlb; have hlb := Hp.le.refl H
      obtain ⟨cs, hsl, hok⟩ := hv0
      refine WO.stepN (OR.storeAll hs T45 rfl rfl rfl rfl rfl ?_)
      clear hs; intro w hs
      refine WO.done (WX.seq (WC.seq (WC.region (WO.step rfl (OR.move rfl (WO.step rfl (OR.nilCheck rfl ?_)))))))
      refine WO.step rfl (OR.fieldAddr FA194_2 rfl (WO.step rfl (OR.load T97 rfl rfl (hs.cellM (i := 1) rfl rfl) ?_)))
      have hsz := hs.size
      refine WO.step rfl (OR.callX (Mx := []) hs body124 rfl rfl (cloneRows_ok _ rows.length (rowCells cs) _ _ hs.toSub (hsl.mono hle) (rows_one hok) (by omega)) rfl rfl ?_)
      clear hs; rintro _ H M' w hs hle1 hnew ⟨rfl, ho⟩; replace hle := hle.trans hle1; (try replace hlb := hlb.trans hle1)
      replace hs := hs.perm (List.perm_append_comm (l₁ := [_, _]) (l₂ := _))
      replace ho := ho
      obtain ⟨bo, co, rfl⟩ := ho.form
      refine WO.step rfl (OR.assign rfl (WO.done (WX.seq (WC.seq (WC.seq (WC.region (WO.step rfl ?_)))))))
      refine OR.move rfl (WO.step rfl (OR.lenSlice T97.und rfl (WO.step rfl (OR.move rfl (WO.done (WX.seq (WC.block ?_)))))))
      refine WC.loop (ι := Nat) (fun k => [(0, ptr b), (3, ptr g1), (6, .int .i64 (lead q.1)), (9, .slice bo rows.length co), (68, .slice bo rows.length co), (69, .int .i64 (rows.length : Int)), (70, .int .i64 (k : Int))]) (fun k w => (k ≤ rows.length ∧ ∃ H2 cs Mo, Hp.le H0 H2 ∧ Hp.le H H2 ∧ RowsOk H2 cs (updR (freeR q) rows k) ∧ Own w0.heap.size 45 2 (.slice bo rows.length co) rows.length (rowCells cs) Mo ∧ HS [b] H0 w0 H2 ((g1, .cells #[.slice b5 (normR q).1.length c5, .slice b6 (normR q).2.length c6] 45, true) :: (b, basisObj g s (.slice br rows.length cr), true) :: Mo) w)) (fun k => rows.length - k) 0 ⟨rfl, rfl, rfl, rfl, rfl, rfl, rfl,  trivial⟩ ?_ (fun k w hW => ?_)
      · refine ⟨by omega, H, cs, _, hle, Hp.le.refl H, ?_, ho.mono hsz, hs⟩
        have : updR (freeR q) rows 0 = rows := by simp [updR]
        rw [this]; exact hok.mono hle
      obtain ⟨hk, H2, cs2, Mo, hle', hlb2, hok2, ho2, hs⟩ := hW
      clear hle; have hle := hle'
      refine WC.seq (WC.region (WO.step rfl (OR.lss rfl rfl (WO.done (WX.seq (WC.seq ?_))))))
      refine WC.condD rfl (fun hlt => ?_) (fun hlt => ?_)
      · have hk' : k < rows.length := by omega
        obtain ⟨hcl, ⟨rfl, hq9, h09⟩ | ⟨g3, cc, cap, rfl, hveq, hnc9, hcc, hxx, hg3⟩⟩ := ho2
        · omega
        cases hveq
        obtain ⟨ec, ep, hec0, hep0, hec, hep⟩ := hok2.get k (by rw [updR_len]; exact hk')
        rw [updR_at _ _ _ hk'] at hec hep
        have hgs := (hrs rows[k] (List.getElem_mem _)).1
        obtain ⟨be, ce, rfl⟩ := hec.form
        obtain ⟨bp, cp, rfl⟩ := hep.form
        obtain ⟨yb, yo, rfl, hcy⟩ := hec.pos (by rw [hgs.1]; omega)
        have hb3 := hs.blk (i := 2) rfl
        rw [← hxx] at hec0 hep0
        have hlb := Hp.le.refl H2
        refine WC.skip (WX.seq (WC.seq (WC.block (WC.seq (WC.region (WO.step rfl (OR.move rfl ?_)))))))
        refine WO.step rfl (OR.idxN k T97.und T45 rfl rfl rfl hk' ?_)
        refine WO.step rfl (OR.loadN (cs := [.slice (some ⟨yb, yo, none⟩) rows[k].1.length ce, .slice bp rows[k].2.length cp]) T45 rfl rfl rfl (two_cells hb3 (by rw [Nat.zero_add]; exact get_take hec0) (by rw [Nat.zero_add]; exact get_take hep0)) ?_)
        refine WO.step rfl (OR.alloc hs T45 ?_)
        clear hs; intro g2 w hg2 hs
        refine WO.step rfl (OR.assign rfl (WO.stepN (OR.storeAll hs T45 rfl rfl rfl rfl rfl ?_)))
        clear hs; intro w hs
        refine WO.done (WX.seq ?_)
        refine WC.draw 10 mixed hs (by kernel_rfl) ?_
        refine ⟨MF.eq _, by intro Mx H w hle hs; refine forVals_nil (ORg.plain (OR.move rfl ?_)); exact ⟨_, [], Hp.le.refl _, hs, rfl, rfl⟩, ?_⟩
        refine ⟨MF.eq _, by intro Mx H w hle hs; refine forVals_nil (ORg.plain (OR.move rfl ?_)); exact ⟨_, [], Hp.le.refl _, hs, rfl, rfl⟩, ?_⟩
        refine ⟨MF.eq _, by intro Mx H w hle hs; refine forVals_nil (ORg.plain (OR.loadAll T45 rfl rfl (hs.right.blk (i := 0) rfl) rfl ?_)); exact ⟨_, [], Hp.le.refl _, hs, rfl, rfl⟩, ?_⟩
        refine ⟨MF.eq _, by intro Mx H w hle hs; refine forVals_nil (ORg.plain (OR.loadAll T45 rfl rfl (hs.right.blk (i := 1) rfl) rfl ?_)); exact ⟨_, [], Hp.le.refl _, hs, rfl, rfl⟩, ?_⟩
        refine ⟨MF.eq _, by intro Mx H w hle hs; refine forVals_nil (ORg.plain (OR.fieldAddr FA45_0 rfl ?_)); exact ⟨_, [], Hp.le.refl _, hs, rfl, rfl⟩, ?_⟩
        refine ⟨MF.eq _, by intro Mx H w hle hs; refine forVals_eq rfl rfl rfl ?_; refine forVals_nil (ORg.plain (OR.load T43 rfl rfl (hs.right.cellM (i := 0) rfl rfl) ?_)); exact ⟨_, [], Hp.le.refl _, hs, rfl, rfl⟩, ?_⟩
        refine ⟨MF.eq _, by intro Mx H w hle hs; refine forVals_nil (ORg.plain (OR.move rfl ?_)); exact ⟨_, [], Hp.le.refl _, hs, rfl, rfl⟩, ?_⟩
        refine ⟨MF.eq (.pointer (some ⟨yb, yo + L, none⟩)), ?_, ?_⟩
        · intro Mx H w hle2 hs; (try replace hle := hle.trans hle2); (try replace hlb := hlb.trans hle2); refine forVals_eq rfl rfl rfl ?_; refine forVals_eq rfl rfl rfl ?_
          refine forVals_nil (ORg.plain (OR.idx L T43.und T5 rfl rfl hL (by rw [hgs.1, ← hq.1]; exact hLt) ?_))
          exact ⟨_, [], Hp.le.refl _, hs, rfl, rfl⟩
        refine ⟨MF.eq (B (rows[k].1[L]'(by rw [hgs.1, ← hq.1]; exact hLt))), ?_, ?_⟩
        · intro Mx H w hle2 hs; (try replace hle := hle.trans hle2); (try replace hlb := hlb.trans hle2); refine forVals_eq rfl rfl rfl ?_
          refine forVals_nil (ORg.plain (OR.load T5 rfl rfl (hs.cell (hcell.mono hlb (hcy L (by rw [hgs.1, ← hq.1]; exact hLt)))) ?_))
          exact ⟨_, [], Hp.le.refl _, hs, rfl, rfl⟩
        refine ⟨MF.row (freeR q rows[k]), ?_, ?_⟩
        · intro Mx H w hle2 hs; (try replace hle := hle.trans hle2); (try replace hlb := hlb.trans hle2); refine forVals_eq rfl rfl rfl ?_; refine forVals_eq rfl rfl rfl ?_; refine forVals_eq rfl rfl rfl ?_
          refine forVals_nil (ORg.plain (OR.call hs body125 rfl rfl (plus_ok rows[k] (normR q) _ _ _ _ _ _ _ hs.toSub (hec.mono hlb) (hep.mono hlb) (hnc.mono (hlb2.trans hlb)) (hnp.mono (hlb2.trans hlb)) (by rw [hgs.1]; omega) (by rw [hgs.2]; omega)) ?_))
          clear hs; rintro _ H w hs hle1 hr
          exact ⟨_, [], hle1, hs, (by rw [freeR, hL]; simpa [hgs.1, ← hq.1, hLt] using hr), rfl⟩
        intro H w hle2; (try replace hle := hle.trans hle2); (try replace hlb := hlb.trans hle2)
        refine forAllVals_eq rfl ?_
        refine forAllVals_eq rfl ?_
        refine forAllVals_eq rfl ?_
        refine forAllVals_eq rfl ?_
        refine forAllVals_eq rfl ?_
        refine forAllVals_eq rfl ?_
        refine forAllVals_eq rfl ?_
        refine forAllVals_eq rfl ?_
        refine forAllVals_eq rfl ?_
        refine forAllVals_of rfl ?_; intro v9 h9
        refine forAllVals_nil ?_; (try clear hs); intro hs
        obtain ⟨wc, wp, rfl, hwc, hwp⟩ := h9
        obtain ⟨b7, c7, rfl⟩ := hwc.form
        obtain ⟨b8, c8, rfl⟩ := hwp.form
        refine WO.step rfl (OR.idxN k T97.und T45 rfl rfl rfl hk' ?_)
        replace hs := hs.front (i := 3) rfl
        refine WO.stepN (OR.store hs T45 rfl rfl rfl (by rw [hcc]; omega) rfl ?_)
        clear hs; intro w hs
        refine WO.done (WX.block (WX.seq (WC.region (WO.step rfl (OR.addI rfl rfl (by omega) (by omega) (WO.step rfl (OR.move rfl ?_)))))))
        refine WO.done ?_
        replace hs := hs.drop (i := 1)
        replace hs := hs.front (i := 2) rfl
        replace hs := hs.front (i := 2) rfl
        refine WX.again (k + 1) ⟨rfl, rfl, rfl, rfl, rfl, rfl, rfl,  trivial⟩ ?_ ?_
        · refine ⟨hk', _, cs2.set k (.slice b7 (freeR q rows[k]).1.length c7, .slice b8 (freeR q rows[k]).2.length c8), _, hle, hlb2.trans hlb, ?_, Own.block hnc9 ?_ ?_ hg3, hs⟩
          · rw [← updR_step _ _ _ hk']
            exact (hok2.mono hlb).set k hwc hwp
          · simp [setL_length, hcc]
          · rw [Nat.zero_add, ← rowCells_set, ← hxx]
            exact take_setL _ _ _ _ (by show k * 2 + 2 ≤ rows.length * 2; omega) (Nat.le_trans (Nat.mul_le_mul_right 2 hnc9) (Nat.le_of_eq hcc.symm))
        · omega
      · have e : k = rows.length := by omega
        subst e
        have hup : updR (freeR q) rows rows.length = rows.map (freeR q) := by simp [updR]
        rw [hup] at hok2
        have hbw := hs.blk (i := 1) rfl
        have hnw := (hs.mem b _ true (List.mem_cons_of_mem _ (List.mem_cons_self ..))).2.1
        have hlb := Hp.le.refl H2
        refine WC.exit (WX.seq_exit (WX.loop_exit (WX.block_hit (WX.seq (WC.seq ?_)))))
        refine WC.drawF 7 [0] mixed hs (by kernel_rfl) ?_
        refine ⟨MF.eq _, by intro Mx H w hle hs; refine forVals_nil (ORg.plain (OR.move rfl ?_)); exact ⟨_, [], Hp.le.refl _, hs, rfl, rfl⟩, ?_⟩
        refine ⟨MF.eq _, by intro Mx H w hle hs; refine forVals_nil (ORg.plain (OR.move rfl ?_)); exact ⟨_, [], Hp.le.refl _, hs, rfl, rfl⟩, ?_⟩
        refine ⟨MF.eq _, by intro Mx H w hle hs; refine forVals_nil (ORg.plain (OR.move rfl ?_)); exact ⟨_, [], Hp.le.refl _, hs, rfl, rfl⟩, ?_⟩
        refine ⟨MF.eq _, by intro Mx H w hle hs; refine forVals_nil (ORg.plain (OR.move rfl ?_)); exact ⟨_, [], Hp.le.refl _, hs, rfl, rfl⟩, ?_⟩
        refine ⟨MF.eq (.int .i64 (placeOf rows (lead q.1) : Int)), ?_, ?_⟩
        · intro Mx H w hle2 hs; (try replace hle := hle.trans hle2); (try replace hlb := hlb.trans hle2); refine forVals_eq rfl rfl rfl ?_; refine forVals_eq rfl rfl rfl ?_
          have hbw := hs.right.blk (i := 1) rfl
          have hnw := (hs.right.mem b _ true (List.mem_cons_of_mem _ (List.mem_cons_self ..))).2.1
          refine forVals_nil (ORg.plain (OR.call hs body127 rfl rfl (place_ok rows _ (lead q.1) b g s _ _ hs.toSub hbw hnw (hv.mono hle) (fun x hx => (hrs x hx).1) hg hlen) ?_))
          clear hs; rintro _ H w hs hle1 rfl
          exact ⟨_, [], hle1, hs, rfl, rfl⟩
        refine ⟨MF.eq _, by intro Mx H w hle hs; refine forVals_nil (ORg.plain (OR.loadAll T45 rfl rfl (hs.right.blk (i := 0) rfl) rfl ?_)); exact ⟨_, [], Hp.le.refl _, hs, rfl, rfl⟩, ?_⟩
        refine ⟨MF.sl w0.heap.size 1 (.cells #[.slice b5 (normR q).1.length c5, .slice b6 (normR q).2.length c6] 45), ?_, ?_⟩
        · intro Mx H w hle2 hs; (try replace hle := hle.trans hle2); (try replace hlb := hlb.trans hle2); refine forVals_eq rfl rfl rfl ?_
          refine forVals_nil (ORg.plain (OR.buildSlice (vs := [_]) hs T97.und T45 rfl rfl rfl rfl (by simp) ?_))
          intro g w hg hs; exact ⟨_, [_], Hp.le.refl _, hs, g, hg, rfl, rfl⟩
        intro H w hle2; (try replace hle := hle.trans hle2); (try replace hlb := hlb.trans hle2)
        refine forAllVals_eq rfl ?_
        refine forAllVals_eq rfl ?_
        refine forAllVals_eq rfl ?_
        refine forAllVals_eq rfl ?_
        refine forAllVals_eq rfl ?_
        refine forAllVals_eq rfl ?_
        refine forAllVals_sl rfl ?_; intro g9 hg9
        refine forAllVals_nil ?_; (try clear hs); intro hs
        replace hs := hs.perm (List.perm_append_comm (l₁ := Mo) (l₂ := [_, _, _]))
        refine WO.step rfl (OR.callX (Mx := Mo) hs body126 rfl rfl (insRows_ok w0.heap.size rows.length (placeOf rows (lead q.1)) _ _ _ _ Mo g9 _ _ hs.toSub (placeOf_le _ _) ho2 hs.size hs.known (hs.mem g9 _ true (List.mem_append_right _ (List.mem_cons_self ..))).1 (hs.mem g9 _ true (List.mem_append_right _ (List.mem_cons_self ..))).2.1 hs.apart rfl rfl (rows_one hok2) hlen) rfl (List.all_eq_true.2 ho2.tt) ?_)
        clear hs; rintro v H3 M3 w hs hle1 hnew ho3; replace hle := hle.trans hle1; replace hlb := hlb.trans hle1
        obtain ⟨H4, hle4, hs, hsl4, _⟩ := HS.pub hs ho3
        obtain ⟨bf, cf, rfl⟩ := ho3.form
        refine WO.step rfl (OR.nilCheck rfl (WO.step rfl (OR.fieldAddr FA194_2 rfl ?_)))
        replace hs := hs.front (i := 2) rfl
        refine WO.stepN (OR.store hs T97 rfl rfl rfl (Nat.le_of_ble_eq_true rfl) rfl ?_)
        clear hs; intro w hs
        refine WO.done (WX.seq (WC.seq (WC.region (WO.step rfl (OR.assign rfl (WO.step rfl (OR.assign rfl ?_)))))))
        refine WO.done (WX.seq (WC.ret ?_))
        refine WX.ret2 rfl rfl rfl ?_
        refine ⟨_, H4, _, rfl, (hs.drop 1).drop 1, by simp [dropAt], _, rfl, ?_, rfl⟩
        have hpl := placeOf_le rows (lead q.1)
        refine ⟨insAt cs2 (placeOf rows (lead q.1)) (.slice b5 (normR q).1.length c5, .slice b6 (normR q).2.length c6), ?_, ?_⟩
        · have e1 : (insAt (rows.map (freeR q)) (placeOf rows (lead q.1)) (normR q)).length = rows.length + 1 := by simp [insAt]; omega
          rw [e1]
          have e2 : rowCells (insAt cs2 (placeOf rows (lead q.1)) (.slice b5 (normR q).1.length c5, .slice b6 (normR q).2.length c6)) = (rowCells cs2).take (placeOf rows (lead q.1) * 2) ++ [.slice b5 (normR q).1.length c5, .slice b6 (normR q).2.length c6] ++ (rowCells cs2).drop (placeOf rows (lead q.1) * 2) := by
            rw [insAt, rowCells_append, rowCells_append, rowCells_take, rowCells_drop]; rfl
          rw [e2]
          exact hsl4
        · exact RowsOk.ins (hok2.mono (hlb.trans hle4)) _ (by simpa using hpl) (hnc.mono (hlb2.trans (hlb.trans hle4))) (hnp.mono (hlb2.trans (hlb.trans hle4)))
  · have hone : insR g s rows r = (false, rows) := by rw [insR, if_neg hdim]
    rw [hone]
    simp only [if_neg hdim]
    by_cases hd1 : r.1.length = g
    · have hd2 : ¬ r.2.length = s := fun h => hdim ⟨hd1, h⟩
      refine WC.seq ?_
      refine WC.draw 19 mixed hs (by kernel_rfl) ?_
      refine ⟨MF.eq _, by intro Mx H w hle hs; refine forVals_nil (ORg.plain (OR.fieldAddr FA45_0 rfl ?_)); exact ⟨_, [], Hp.le.refl _, hs, rfl, rfl⟩, ?_⟩
      refine ⟨MF.eq _, by intro Mx H w hle hs; refine forVals_eq rfl rfl rfl ?_; refine forVals_nil (ORg.plain (OR.load T43 rfl rfl (hs.right.cellM (i := 0) rfl rfl) ?_)); exact ⟨_, [], Hp.le.refl _, hs, rfl, rfl⟩, ?_⟩
      refine ⟨MF.eq _, by intro Mx H w hle hs; refine forVals_eq rfl rfl rfl ?_; refine forVals_nil (ORg.plain (OR.lenSlice T43.und rfl ?_)); exact ⟨_, [], Hp.le.refl _, hs, rfl, rfl⟩, ?_⟩
      refine ⟨MF.eq _, by intro Mx H w hle hs; refine forVals_nil (ORg.plain (OR.move rfl ?_)); exact ⟨_, [], Hp.le.refl _, hs, rfl, rfl⟩, ?_⟩
      refine ⟨MF.eq _, by intro Mx H w hle hs; refine forVals_eq rfl rfl rfl ?_; refine forVals_nil (ORg.plain (OR.nilCheck rfl ?_)); exact ⟨_, [], Hp.le.refl _, hs, rfl, rfl⟩, ?_⟩
      refine ⟨MF.eq _, by intro Mx H w hle hs; refine forVals_eq rfl rfl rfl ?_; refine forVals_nil (ORg.plain (OR.fieldAddr FA194_0 rfl ?_)); exact ⟨_, [], Hp.le.refl _, hs, rfl, rfl⟩, ?_⟩
      refine ⟨MF.eq _, by intro Mx H w hle hs; refine forVals_eq rfl rfl rfl ?_; refine forVals_nil (ORg.plain (OR.load T3 rfl rfl (hs.right.cellM (i := 1) rfl rfl) ?_)); exact ⟨_, [], Hp.le.refl _, hs, rfl, rfl⟩, ?_⟩
      refine ⟨MF.eq _, by intro Mx H w hle hs; refine forVals_eq rfl rfl rfl ?_; refine forVals_eq rfl rfl rfl ?_; refine forVals_nil (ORg.plain (OR.neq rfl rfl ?_)); exact ⟨_, [], Hp.le.refl _, hs, rfl, rfl⟩, ?_⟩
      refine ⟨MF.eq _, by intro Mx H w hle hs; refine forVals_eq rfl rfl rfl ?_; refine forVals_nil (ORg.plain (OR.move rfl ?_)); exact ⟨_, [], Hp.le.refl _, hs, rfl, rfl⟩, ?_⟩
      refine ⟨MF.eq _, by intro Mx H w hle hs; refine forVals_eq rfl rfl rfl ?_; refine forVals_nil (ORg.yes rfl (decide_eq_false (by omega : ¬ ((r.1.length : Int) ≠ (g : Int)))) rfl (OR.fieldAddr FA45_1 rfl ?_)); exact ⟨_, [], Hp.le.refl _, hs, rfl, rfl⟩, ?_⟩
      refine ⟨MF.eq _, by intro Mx H w hle hs; refine forVals_eq rfl rfl rfl ?_; refine forVals_eq rfl rfl rfl ?_; refine forVals_nil (ORg.yes rfl (decide_eq_false (by omega : ¬ ((r.1.length : Int) ≠ (g : Int)))) rfl (OR.load T43 rfl rfl (hs.right.cellM (i := 0) rfl rfl) ?_)); exact ⟨_, [], Hp.le.refl _, hs, rfl, rfl⟩, ?_⟩
      refine ⟨MF.eq _, by intro Mx H w hle hs; refine forVals_eq rfl rfl rfl ?_; refine forVals_eq rfl rfl rfl ?_; refine forVals_nil (ORg.yes rfl (decide_eq_false (by omega : ¬ ((r.1.length : Int) ≠ (g : Int)))) rfl (OR.lenSlice T43.und rfl ?_)); exact ⟨_, [], Hp.le.refl _, hs, rfl, rfl⟩, ?_⟩
      refine ⟨MF.eq _, by intro Mx H w hle hs; refine forVals_eq rfl rfl rfl ?_; refine forVals_nil (ORg.yes rfl (decide_eq_false (by omega : ¬ ((r.1.length : Int) ≠ (g : Int)))) rfl (OR.move rfl ?_)); exact ⟨_, [], Hp.le.refl _, hs, rfl, rfl⟩, ?_⟩
      refine ⟨MF.eq _, by intro Mx H w hle hs; refine forVals_eq rfl rfl rfl ?_; refine forVals_eq rfl rfl rfl ?_; refine forVals_nil (ORg.yes rfl (decide_eq_false (by omega : ¬ ((r.1.length : Int) ≠ (g : Int)))) rfl (OR.nilCheck rfl ?_)); exact ⟨_, [], Hp.le.refl _, hs, rfl, rfl⟩, ?_⟩
      refine ⟨MF.eq _, by intro Mx H w hle hs; refine forVals_eq rfl rfl rfl ?_; refine forVals_eq rfl rfl rfl ?_; refine forVals_nil (ORg.yes rfl (decide_eq_false (by omega : ¬ ((r.1.length : Int) ≠ (g : Int)))) rfl (OR.fieldAddr FA194_1 rfl ?_)); exact ⟨_, [], Hp.le.refl _, hs, rfl, rfl⟩, ?_⟩
      refine ⟨MF.eq _, by intro Mx H w hle hs; refine forVals_eq rfl rfl rfl ?_; refine forVals_eq rfl rfl rfl ?_; refine forVals_nil (ORg.yes rfl (decide_eq_false (by omega : ¬ ((r.1.length : Int) ≠ (g : Int)))) rfl (OR.load T3 rfl rfl (hs.right.cellM (i := 1) rfl rfl) ?_)); exact ⟨_, [], Hp.le.refl _, hs, rfl, rfl⟩, ?_⟩
      refine ⟨MF.eq _, by intro Mx H w hle hs; refine forVals_eq rfl rfl rfl ?_; refine forVals_eq rfl rfl rfl ?_; refine forVals_eq rfl rfl rfl ?_; refine forVals_nil (ORg.yes rfl (decide_eq_false (by omega : ¬ ((r.1.length : Int) ≠ (g : Int)))) rfl (OR.neq rfl rfl ?_)); exact ⟨_, [], Hp.le.refl _, hs, rfl, rfl⟩, ?_⟩
      refine ⟨MF.eq _, by intro Mx H w hle hs; refine forVals_eq rfl rfl rfl ?_; refine forVals_eq rfl rfl rfl ?_; refine forVals_nil (ORg.plain (OR.pickF rfl (decide_eq_false (by omega : ¬ ((r.1.length : Int) ≠ (g : Int)))) rfl ?_)); exact ⟨_, [], Hp.le.refl _, hs, rfl, rfl⟩, ?_⟩
      refine ⟨MF.eq _, by intro Mx H w hle hs; refine forVals_eq rfl rfl rfl ?_; refine forVals_nil (ORg.plain (OR.assign rfl ?_)); exact ⟨_, [], Hp.le.refl _, hs, rfl, rfl⟩, ?_⟩
      intro H w hle2; (try replace hle := hle.trans hle2); (try replace hlb := hlb.trans hle2)
      refine forAllVals_eq rfl ?_
      refine forAllVals_eq rfl ?_
      refine forAllVals_eq rfl ?_
      refine forAllVals_eq rfl ?_
      refine forAllVals_eq rfl ?_
      refine forAllVals_eq rfl ?_
      refine forAllVals_eq rfl ?_
      refine forAllVals_eq rfl ?_
      refine forAllVals_eq rfl ?_
      refine forAllVals_eq rfl ?_
      refine forAllVals_eq rfl ?_
      refine forAllVals_eq rfl ?_
      refine forAllVals_eq rfl ?_
      refine forAllVals_eq rfl ?_
      refine forAllVals_eq rfl ?_
      refine forAllVals_eq rfl ?_
      refine forAllVals_eq rfl ?_
      refine forAllVals_eq rfl ?_
      refine forAllVals_eq rfl ?_
      refine forAllVals_nil ?_; (try clear hs); intro hs
      refine WO.done (WX.seq ?_)
      refine WC.yes rfl (decide_eq_true (by omega)) ?_
      refine WC.seq (WC.region (WO.step rfl (OR.assign rfl (WO.step rfl (OR.assign rfl (WO.done (WX.seq ?_)))))))
      refine WC.ret (WX.block_ret (WX.seq_ret ?_))
      replace hs := hs.drop (i := 0)
      refine WX.ret2 rfl rfl rfl ?_
      exact ⟨_, H, _, rfl, hs, by simp, _, rfl, hv.mono hle, rfl⟩
    · have hd2 : True := trivial
      refine WC.seq ?_
      refine WC.draw 19 mixed hs (by kernel_rfl) ?_
      refine ⟨MF.eq _, by intro Mx H w hle hs; refine forVals_nil (ORg.plain (OR.fieldAddr FA45_0 rfl ?_)); exact ⟨_, [], Hp.le.refl _, hs, rfl, rfl⟩, ?_⟩
      refine ⟨MF.eq _, by intro Mx H w hle hs; refine forVals_eq rfl rfl rfl ?_; refine forVals_nil (ORg.plain (OR.load T43 rfl rfl (hs.right.cellM (i := 0) rfl rfl) ?_)); exact ⟨_, [], Hp.le.refl _, hs, rfl, rfl⟩, ?_⟩
      refine ⟨MF.eq _, by intro Mx H w hle hs; refine forVals_eq rfl rfl rfl ?_; refine forVals_nil (ORg.plain (OR.lenSlice T43.und rfl ?_)); exact ⟨_, [], Hp.le.refl _, hs, rfl, rfl⟩, ?_⟩
      refine ⟨MF.eq _, by intro Mx H w hle hs; refine forVals_nil (ORg.plain (OR.move rfl ?_)); exact ⟨_, [], Hp.le.refl _, hs, rfl, rfl⟩, ?_⟩
      refine ⟨MF.eq _, by intro Mx H w hle hs; refine forVals_eq rfl rfl rfl ?_; refine forVals_nil (ORg.plain (OR.nilCheck rfl ?_)); exact ⟨_, [], Hp.le.refl _, hs, rfl, rfl⟩, ?_⟩
      refine ⟨MF.eq _, by intro Mx H w hle hs; refine forVals_eq rfl rfl rfl ?_; refine forVals_nil (ORg.plain (OR.fieldAddr FA194_0 rfl ?_)); exact ⟨_, [], Hp.le.refl _, hs, rfl, rfl⟩, ?_⟩
      refine ⟨MF.eq _, by intro Mx H w hle hs; refine forVals_eq rfl rfl rfl ?_; refine forVals_nil (ORg.plain (OR.load T3 rfl rfl (hs.right.cellM (i := 1) rfl rfl) ?_)); exact ⟨_, [], Hp.le.refl _, hs, rfl, rfl⟩, ?_⟩
      refine ⟨MF.eq _, by intro Mx H w hle hs; refine forVals_eq rfl rfl rfl ?_; refine forVals_eq rfl rfl rfl ?_; refine forVals_nil (ORg.plain (OR.neq rfl rfl ?_)); exact ⟨_, [], Hp.le.refl _, hs, rfl, rfl⟩, ?_⟩
      refine ⟨MF.eq _, by intro Mx H w hle hs; refine forVals_eq rfl rfl rfl ?_; refine forVals_nil (ORg.plain (OR.move rfl ?_)); exact ⟨_, [], Hp.le.refl _, hs, rfl, rfl⟩, ?_⟩
      refine ⟨MF.eq undef, by intro Mx H w hle hs; refine forVals_eq rfl rfl rfl ?_; refine forVals_nil (ORg.no rfl (decide_eq_true (by omega : ((r.1.length : Int) ≠ (g : Int)))) rfl ?_); exact ⟨_, [], Hp.le.refl _, hs, rfl, rfl⟩, ?_⟩
      refine ⟨MF.eq undef, by intro Mx H w hle hs; refine forVals_eq rfl rfl rfl ?_; refine forVals_eq rfl rfl rfl ?_; refine forVals_nil (ORg.no rfl (decide_eq_true (by omega : ((r.1.length : Int) ≠ (g : Int)))) rfl ?_); exact ⟨_, [], Hp.le.refl _, hs, rfl, rfl⟩, ?_⟩
      refine ⟨MF.eq undef, by intro Mx H w hle hs; refine forVals_eq rfl rfl rfl ?_; refine forVals_eq rfl rfl rfl ?_; refine forVals_nil (ORg.no rfl (decide_eq_true (by omega : ((r.1.length : Int) ≠ (g : Int)))) rfl ?_); exact ⟨_, [], Hp.le.refl _, hs, rfl, rfl⟩, ?_⟩
      refine ⟨MF.eq undef, by intro Mx H w hle hs; refine forVals_eq rfl rfl rfl ?_; refine forVals_nil (ORg.no rfl (decide_eq_true (by omega : ((r.1.length : Int) ≠ (g : Int)))) rfl ?_); exact ⟨_, [], Hp.le.refl _, hs, rfl, rfl⟩, ?_⟩
      refine ⟨MF.eq undef, by intro Mx H w hle hs; refine forVals_eq rfl rfl rfl ?_; refine forVals_eq rfl rfl rfl ?_; refine forVals_nil (ORg.no rfl (decide_eq_true (by omega : ((r.1.length : Int) ≠ (g : Int)))) rfl ?_); exact ⟨_, [], Hp.le.refl _, hs, rfl, rfl⟩, ?_⟩
      refine ⟨MF.eq undef, by intro Mx H w hle hs; refine forVals_eq rfl rfl rfl ?_; refine forVals_eq rfl rfl rfl ?_; refine forVals_nil (ORg.no rfl (decide_eq_true (by omega : ((r.1.length : Int) ≠ (g : Int)))) rfl ?_); exact ⟨_, [], Hp.le.refl _, hs, rfl, rfl⟩, ?_⟩
      refine ⟨MF.eq undef, by intro Mx H w hle hs; refine forVals_eq rfl rfl rfl ?_; refine forVals_eq rfl rfl rfl ?_; refine forVals_nil (ORg.no rfl (decide_eq_true (by omega : ((r.1.length : Int) ≠ (g : Int)))) rfl ?_); exact ⟨_, [], Hp.le.refl _, hs, rfl, rfl⟩, ?_⟩
      refine ⟨MF.eq undef, by intro Mx H w hle hs; refine forVals_eq rfl rfl rfl ?_; refine forVals_eq rfl rfl rfl ?_; refine forVals_eq rfl rfl rfl ?_; refine forVals_nil (ORg.no rfl (decide_eq_true (by omega : ((r.1.length : Int) ≠ (g : Int)))) rfl ?_); exact ⟨_, [], Hp.le.refl _, hs, rfl, rfl⟩, ?_⟩
      refine ⟨MF.eq _, by intro Mx H w hle hs; refine forVals_eq rfl rfl rfl ?_; refine forVals_eq rfl rfl rfl ?_; refine forVals_nil (ORg.plain (OR.pickT rfl (decide_eq_true (by omega : ((r.1.length : Int) ≠ (g : Int)))) rfl ?_)); exact ⟨_, [], Hp.le.refl _, hs, rfl, rfl⟩, ?_⟩
      refine ⟨MF.eq _, by intro Mx H w hle hs; refine forVals_eq rfl rfl rfl ?_; refine forVals_nil (ORg.plain (OR.assign rfl ?_)); exact ⟨_, [], Hp.le.refl _, hs, rfl, rfl⟩, ?_⟩
      intro H w hle2; (try replace hle := hle.trans hle2); (try replace hlb := hlb.trans hle2)
      refine forAllVals_eq rfl ?_
      refine forAllVals_eq rfl ?_
      refine forAllVals_eq rfl ?_
      refine forAllVals_eq rfl ?_
      refine forAllVals_eq rfl ?_
      refine forAllVals_eq rfl ?_
      refine forAllVals_eq rfl ?_
      refine forAllVals_eq rfl ?_
      refine forAllVals_eq rfl ?_
      refine forAllVals_eq rfl ?_
      refine forAllVals_eq rfl ?_
      refine forAllVals_eq rfl ?_
      refine forAllVals_eq rfl ?_
      refine forAllVals_eq rfl ?_
      refine forAllVals_eq rfl ?_
      refine forAllVals_eq rfl ?_
      refine forAllVals_eq rfl ?_
      refine forAllVals_eq rfl ?_
      refine forAllVals_eq rfl ?_
      refine forAllVals_nil ?_; (try clear hs); intro hs
      refine WO.done (WX.seq (WC.yes rfl rfl (WC.seq (WC.region (WO.step rfl (OR.assign rfl (WO.step rfl ?_)))))))
      refine OR.assign rfl (WO.done (WX.seq (WC.ret (WX.block_ret (WX.seq_ret ?_)))))
      replace hs := hs.drop (i := 0)
      refine WX.ret2 rfl rfl rfl ?_
      exact ⟨_, H, _, rfl, hs, by simp, _, rfl, hv.mono hle, rfl⟩

end Go.Bw
