/- A relay: Rank, Rows, Solve, Take. -/
import Derived.Test.YtdibepkfgemddaaRel1
namespace Go.Bw
set_option linter.unusedVariables false
set_option linter.unusedSimpArgs false
open Go.Proofs

theorem HS.last1 {xs : List Nat} {H0 H : Hp} {w0 w : World} {A : Mem} {q : Nat × Obj × Bool} (hs : HS xs H0 w0 H (A ++ [q]) w) : HS xs H0 w0 H [q] w := hs.sublist (List.sublist_append_right _ _)
theorem HS.pick2 {xs : List Nat} {H0 H : Hp} {w0 w : World} {A : Mem} {p q : Nat × Obj × Bool} (hs : HS xs H0 w0 H (p :: (A ++ [q])) w) : HS xs H0 w0 H [q, p] w :=
  (hs.sublist ((List.sublist_append_right A [q]).cons_cons p)).front (i := 1) rfl
def RelD.rk (x : RelD) (gen : Nat) : List RowD := if inWin x.base x.width gen then x.rows (gen % x.width) else []
theorem RelOk.rk {x : RelD} (h : RelOk x) (gen : Nat) : Red x.g x.s (x.rk gen) := by
  unfold RelD.rk
  split
  · exact h.red _
  · exact Red.nil _ _
theorem Red.forB {g s : Nat} {A : List RowD} (h : Red g s A) (hg : g ≤ 255) : (∀ y ∈ A, RowGS g s y) ∧ (∀ y ∈ A, RowGS g s y ∧ 0 ≤ lead y.1) ∧ A.length ≤ 255 :=
  ⟨h.gs, fun y hy => ⟨h.gs y hy, h.ld y hy⟩, Nat.le_trans h.len hg⟩

set_option maxRecDepth 20000 in
set_option maxHeartbeats 2000000 in
theorem rrank1_ok (gn b g s : Nat) (v0 u rv : Value) (rows : List RowD) (t : Bool) (xs : List Nat) (H0 H1 : Hp) (w0 w1 : World) (hs : HS xs H0 w0 H1 [(gn, .cells #[u] 3, true), (b, basisObj g s rv, t)] w1) (hg : 0 < g) (hr : Rws H1 rv rows) :
    Calls Try.prog 44 #[v0, ptr b, ptr gn] w1 (fun e w' => ∃ H', e = .returned (.int .i64 0) ∧ HS xs H0 w0 H' [(gn, .cells #[.int .i64 (rows.length : Int)] 3, true)] w') := by
  have hle := Hp.le.refl H1
  refine Calls.enter (args := [v0, ptr b, ptr gn]) Try.func44 rfl Try.ntmps44 rfl ?_
  refine WC.seq (WC.region (WO.step rfl (OR.assign rfl (WO.done (WX.seq (WC.seq (WC.region ?_)))))))
  refine WO.step rfl (OR.move rfl ?_)
  refine WO.step rfl (OR.call hs body40 rfl rfl (rank_ok b g s rv rows _ _ hs.toSub (hs.blk (i := 1) rfl) (hs.nh (i := 1) rfl) hg hr) ?_)
  clear hs; rintro _ H w hs hle1 rfl; replace hle := hle.trans hle1; (try replace hlb := hlb.trans hle1)
  refine WO.stepN (OR.storeAll hs T3 rfl rfl rfl rfl rfl ?_)
  clear hs; intro w hs
  refine WO.done (WX.seq (WC.seq (WC.region (WO.step rfl (OR.assign rfl (WO.done (WX.seq ?_)))))))
  refine WC.ret ?_
  refine WX.ret1 rfl rfl ?_
  exact ⟨H, rfl, hs.drop 1⟩
set_option maxRecDepth 20000 in
set_option maxHeartbeats 2000000 in
theorem rrank_ok (rb wb gen : Nat) (x : RelD) (l : Slots) (H0 : Hp) (w0 : World) (hs : HS [] H0 w0 H0 (relMem false x rb wb l) w0) (hx : SlotsOk H0 x l) (hok : RelOk x) (hg : gen < 18446744073709551616) :
    Calls Try.prog 19 #[ptr rb, .int .u64 (gen : Int)] w0 (Pure H0 w0 fun v _ => v = .int .i64 ((x.rk gen).length : Int)) := by
  have hle := Hp.le.refl H0
  have h00 := hs.toSub
  have hgp := hok.g1
  refine Calls.enter (args := [ptr rb, .int .u64 (gen : Int)]) Try.func19 rfl Try.ntmps19 rfl ?_
  refine WC.seq (WC.region (WO.step rfl (OR.alloc hs T3 ?_)))
  clear hs; intro g1 w hg1 hs
  refine WO.done (WX.seq (WC.seq (WC.region (WO.step rfl (OR.move rfl (WO.step rfl (OR.move rfl ?_)))))))
  refine WO.step rfl (OR.makeFunc rfl rfl ?_)
  have hs9 := HS.mtail (A := [_]) hs
  refine WO.step rfl (OR.callW body35 rfl rfl (rat_ok rb wb 44 gen [] [ptr g1] x l false [] H0 H0 [_] w0 _ (fun e w' => ∃ H' i, e = .returned (.int .i64 i) ∧ HS [] H0 w0 H' [(g1, .cells #[.int .i64 ((x.rk gen).length : Int)] 3, true)] w') h00 hs9 hx hok hg body44 (fun e w ⟨_, i, h, _⟩ => ⟨i, h⟩) (fun hno H w hl hs => ⟨H, 23, rfl, by rw [RelD.rk, if_neg hno]; exact HS.last1 (A := _ :: _ :: _) hs⟩) (fun hin H w b rv t' hl _ hs _ _ hr => (rrank1_ok g1 b x.g x.s _ _ rv _ t' [] H0 H w0 w (HS.pick2 (A := _ :: _ :: _) hs) hgp hr).mono fun e w' ⟨H', h1, h2⟩ => ⟨H', 0, h1, by rw [RelD.rk, if_pos hin]; exact h2⟩)) ?_)
  clear hs hs9
  rintro e w ⟨H, i, rfl, hs⟩
  refine ⟨_, rfl, ?_⟩
  refine WO.done (WX.seq (WC.seq (WC.region (WO.step rfl (OR.load T3 rfl rfl (hs.cellM (i := 0) rfl rfl) (WO.stepN (OR.storeAll hs T3 rfl rfl rfl rfl rfl ?_)))))))
  clear hs; intro w hs
  refine WO.done (WX.seq (WC.ret ?_))
  refine WX.retCellS T3 rfl rfl rfl (hs.cellM (i := 0) rfl rfl) ?_
  exact .mk (hs.drop 0) rfl

set_option maxRecDepth 20000 in
set_option maxHeartbeats 2000000 in
theorem rrows1_ok (gn b g s : Nat) (v0 u rv : Value) (rows : List RowD) (t : Bool) (xs : List Nat) (H0 H1 : Hp) (w0 w1 : World) (hs : HS xs H0 w0 H1 [(gn, .cells #[u] 50, true), (b, basisObj g s rv, t)] w1) (hg : 0 < g) (hg2 : g ≤ 255) (hs2 : s ≤ 65535) (hr : Rws H1 rv rows) (hred : Red g s rows) :
    Calls Try.prog 45 #[v0, ptr b, ptr gn] w1 (fun e w' => ∃ H' r, e = .returned (.int .i64 0) ∧ HS xs H0 w0 H' [(gn, .cells #[r] 50, true)] w' ∧ Rws H' r rows) := by
  have hle := Hp.le.refl H1
  obtain ⟨q1, q2, q3⟩ := Red.forB hred hg2
  refine Calls.enter (args := [v0, ptr b, ptr gn]) Try.func45 rfl Try.ntmps45 rfl ?_
  refine WC.seq (WC.region (WO.step rfl (OR.assign rfl (WO.done (WX.seq (WC.seq (WC.region ?_)))))))
  refine WO.step rfl (OR.move rfl ?_)
  refine WO.step rfl (OR.call hs body46 rfl rfl (rows_ok rows rv b g s _ _ hs.toSub (hs.blk (i := 1) rfl) (hs.nh (i := 1) rfl) hr q1 hg hg2 hs2 q3) ?_)
  clear hs; rintro _ H w hs hle1 hr2; replace hle := hle.trans hle1; (try replace hlb := hlb.trans hle1)
  obtain ⟨cs, hsl, hro⟩ := hr2
  obtain ⟨b1, c1, rfl⟩ := hsl.form
  refine WO.stepN (OR.storeAll hs T50 rfl rfl rfl rfl rfl ?_)
  clear hs; intro w hs
  refine WO.done (WX.seq (WC.seq (WC.region (WO.step rfl (OR.assign rfl (WO.done (WX.seq ?_)))))))
  refine WC.ret ?_
  refine WX.ret1 rfl rfl ?_
  exact ⟨H, _, rfl, hs.drop 1, cs, hsl, hro⟩
set_option maxRecDepth 20000 in
set_option maxHeartbeats 2000000 in
theorem rrows_ok (rb wb gen : Nat) (x : RelD) (l : Slots) (H0 : Hp) (w0 : World) (hs : HS [] H0 w0 H0 (relMem false x rb wb l) w0) (hx : SlotsOk H0 x l) (hok : RelOk x) (hg : gen < 18446744073709551616) :
    Calls Try.prog 20 #[ptr rb, .int .u64 (gen : Int)] w0 (Pure H0 w0 fun v H' => Rws H' v (x.rk gen)) := by
  have hle := Hp.le.refl H0
  have h00 := hs.toSub
  refine Calls.enter (args := [ptr rb, .int .u64 (gen : Int)]) Try.func20 rfl Try.ntmps20 rfl ?_
  refine WC.seq (WC.region (WO.step rfl (OR.alloc hs T50 ?_)))
  clear hs; intro g1 w hg1 hs
  refine WO.done (WX.seq (WC.seq (WC.region (WO.step rfl (OR.move rfl (WO.step rfl (OR.move rfl ?_)))))))
  refine WO.step rfl (OR.makeFunc rfl rfl ?_)
  have hs9 := HS.mtail (A := [_]) hs
  refine WO.step rfl (OR.callW body35 rfl rfl (rat_ok rb wb 45 gen [] [ptr g1] x l false [] H0 H0 [_] w0 _ (fun e w' => ∃ H' i r, e = .returned (.int .i64 i) ∧ HS [] H0 w0 H' [(g1, .cells #[r] 50, true)] w' ∧ Rws H' r (x.rk gen)) h00 hs9 hx hok hg body45 (fun e w ⟨_, i, _, h, _⟩ => ⟨i, h⟩) (fun hno H w hl hs => ⟨H, 23, .slice none 0 0, rfl, HS.last1 (A := _ :: _ :: _) hs, by rw [RelD.rk, if_neg hno]; exact ⟨[], Sl.nil _ _, rfl, fun i h => by simp at h⟩⟩) (fun hin H w b rv t' hl _ hs _ _ hr => (rrows1_ok g1 b x.g x.s _ _ rv _ t' [] H0 H w0 w (HS.pick2 (A := _ :: _ :: _) hs) hok.g1 hok.g2 hok.s2 hr (hok.red _)).mono fun e w' ⟨H', r, h1, h2, h3⟩ => ⟨H', 0, r, h1, h2, by rw [RelD.rk, if_pos hin]; exact h3⟩)) ?_)
  clear hs hs9
  rintro e w ⟨H, i, r, rfl, hs, hr⟩
  refine ⟨_, rfl, ?_⟩
  obtain ⟨cs, hsl, hro⟩ := hr
  obtain ⟨b1, c1, rfl⟩ := hsl.form
  refine WO.done (WX.seq (WC.seq (WC.region (WO.step rfl (OR.load T50 rfl rfl (hs.cellM (i := 0) rfl rfl) (WO.stepN (OR.storeAll hs T50 rfl rfl rfl rfl rfl ?_)))))))
  clear hs; intro w hs
  refine WO.done (WX.seq (WC.ret ?_))
  refine WX.retCellS T50 rfl rfl rfl (hs.cellM (i := 0) rfl rfl) ?_
  exact .mk (hs.drop 0) ⟨cs, hsl, hro⟩

def RelD.solE (x : RelD) (gen : Nat) : Int := if inWin x.base x.width gen then (if (x.rows (gen % x.width)).length < x.g then 24 else 0) else 23
def RelD.solF (x : RelD) (gen : Nat) : List (List UInt8) := if inWin x.base x.width gen then (if (x.rows (gen % x.width)).length < x.g then [] else (x.rows (gen % x.width)).map (·.2)) else []
set_option maxRecDepth 20000 in
set_option maxHeartbeats 2000000 in
theorem rsolve1_ok (gn b g s : Nat) (v0 u rv : Value) (rows : List RowD) (t : Bool) (xs : List Nat) (H0 H1 : Hp) (w0 w1 : World) (hs : HS xs H0 w0 H1 [(gn, .cells #[u] 31, true), (b, basisObj g s rv, t)] w1) (hg : 0 < g) (hg2 : g ≤ 255) (hs2 : s ≤ 65535) (hr : Rws H1 rv rows) (hred : Red g s rows) :
    Calls Try.prog 48 #[v0, ptr b, ptr gn] w1 (fun e w' => ∃ H' r, e = .returned (.int .i64 (if rows.length < g then 24 else 0)) ∧ HS xs H0 w0 H' [(gn, .cells #[r] 31, true)] w' ∧ BytesL H' r (if rows.length < g then [] else rows.map (·.2))) := by
  have hle := Hp.le.refl H1
  obtain ⟨q1, q2, q3⟩ := Red.forB hred hg2
  refine Calls.enter (args := [v0, ptr b, ptr gn]) Try.func48 rfl Try.ntmps48 rfl ?_
  refine WC.seq (WC.region (WO.step rfl (OR.assign rfl (WO.done (WX.seq (WC.seq (WC.region ?_)))))))
  refine WO.step rfl (OR.move rfl ?_)
  refine WO.step rfl (OR.call hs body49 rfl rfl (solve_ok rows rv b g s _ _ hs.toSub (hs.blk (i := 1) rfl) (hs.nh (i := 1) rfl) hr q1 hg hg2 hs2 q3) ?_)
  clear hs; rintro _ H w hs hle1 ⟨r, rfl, hr2⟩; replace hle := hle.trans hle1; (try replace hlb := hlb.trans hle1)
  obtain ⟨b1, c1, rfl⟩ := hr2.form
  refine WO.step rfl (OR.move rfl (WO.step rfl (OR.extract rfl rfl (WO.step rfl (OR.extract rfl rfl (WO.stepN (OR.storeAll hs T31 rfl rfl rfl rfl rfl ?_)))))))
  clear hs; intro w hs
  refine WO.step rfl (OR.assign rfl (WO.done (WX.seq (WC.seq (WC.region (WO.step rfl (OR.move rfl ?_)))))))
  refine WO.step rfl (OR.assign rfl (WO.done (WX.seq (WC.ret ?_))))
  refine WX.ret1 rfl rfl ?_
  exact ⟨H, _, rfl, hs.drop 1, hr2⟩
set_option maxRecDepth 20000 in
set_option maxHeartbeats 2000000 in
theorem rsolve_ok (rb wb gen : Nat) (x : RelD) (l : Slots) (H0 : Hp) (w0 : World) (hs : HS [] H0 w0 H0 (relMem false x rb wb l) w0) (hx : SlotsOk H0 x l) (hok : RelOk x) (hg : gen < 18446744073709551616) :
    Calls Try.prog 24 #[ptr rb, .int .u64 (gen : Int)] w0 (Pure H0 w0 fun v H' => ∃ r, v = .tuple #[r, .int .i64 (x.solE gen)] ∧ BytesL H' r (x.solF gen)) := by
  have hle := Hp.le.refl H0
  have h00 := hs.toSub
  refine Calls.enter (args := [ptr rb, .int .u64 (gen : Int)]) Try.func24 rfl Try.ntmps24 rfl ?_
  refine WC.seq (WC.region (WO.step rfl (OR.alloc hs T31 ?_)))
  clear hs; intro g1 w hg1 hs
  refine WO.step rfl (OR.assign rfl (WO.done (WX.seq (WC.seq (WC.region (WO.step rfl (OR.move rfl ?_)))))))
  refine WO.step rfl (OR.move rfl (WO.step rfl (OR.makeFunc rfl rfl ?_)))
  have hs9 := HS.mtail (A := [_]) hs
  refine WO.step rfl (OR.callW body35 rfl rfl (rat_ok rb wb 48 gen [] [ptr g1] x l false [] H0 H0 [_] w0 _ (fun e w' => ∃ H' r, e = .returned (.int .i64 (x.solE gen)) ∧ HS [] H0 w0 H' [(g1, .cells #[r] 31, true)] w' ∧ BytesL H' r (x.solF gen)) h00 hs9 hx hok hg body48 (fun e w ⟨_, _, h, _⟩ => ⟨_, h⟩) (fun hno H w hl hs => ⟨H, .slice none 0 0, by rw [RelD.solE, if_neg hno], HS.last1 (A := _ :: _ :: _) hs, by rw [RelD.solF, if_neg hno]; exact ⟨[], Sl.nil _ _, rfl, fun i h => by simp at h⟩⟩) (fun hin H w b rv t' hl _ hs _ _ hr => (rsolve1_ok g1 b x.g x.s _ _ rv _ t' [] H0 H w0 w (HS.pick2 (A := _ :: _ :: _) hs) hok.g1 hok.g2 hok.s2 hr (hok.red _)).mono fun e w' ⟨H', r, h1, h2, h3⟩ => ⟨H', r, by rw [RelD.solE, if_pos hin]; exact h1, h2, by rw [RelD.solF, if_pos hin]; exact h3⟩)) ?_)
  clear hs hs9
  rintro e w ⟨H, r, rfl, hs, hr⟩
  refine ⟨_, rfl, ?_⟩
  obtain ⟨b1, c1, rfl⟩ := hr.form
  refine WO.step rfl (OR.assign rfl (WO.done (WX.seq (WC.seq (WC.region (WO.step rfl (OR.load T31 rfl rfl (hs.cellM (i := 0) rfl rfl) ?_)))))))
  refine WO.step rfl (OR.move rfl (WO.stepN (OR.storeAll hs T31 rfl rfl rfl rfl rfl ?_)))
  clear hs; intro w hs
  refine WO.step rfl (OR.assign rfl (WO.done (WX.seq (WC.ret ?_))))
  refine WX.retCTS T31 rfl rfl rfl rfl (hs.cellM (i := 0) rfl rfl) ?_
  exact .mk (hs.drop 0) ⟨_, rfl, hr⟩
end Go.Bw
