/- A relay: what is done with a generation. -/
import Derived.Test.YtdibepkfgemddaaGreatWin
import Derived.Test.YtdibepkfgemddaaGreatDrawL
import Derived.Test.YtdibepkfgemddaaGreatDraws
namespace Go.Bw
set_option linter.unusedVariables false
set_option linter.unusedSimpArgs false
open Go.Proofs

set_option maxRecDepth 20000 in
set_option maxHeartbeats 2000000 in
theorem rnone_ok (rb g s wb : Nat) (l : Slots) (H0 : Hp) (w0 : World) (h0 : Sub H0 w0) (hb : w0.heap[rb]? = some (relObj g s wb l)) (hn : H0 rb = none) : Calls Tryz.prog 77 #[ptr rb] w0 (Pure H0 w0 fun v _ => v = .bool false) := by
  have hs := HS.startR h0 hb hn
  refine Calls.enter (args := [ptr rb]) Tryz.func77 rfl Tryz.ntmps77 rfl ?_
  refine WC.seq (WC.region (WO.step rfl (OR.assign rfl (WO.done (WX.seq (WC.seq (WC.region ?_)))))))
  refine WO.step rfl (OR.move rfl (WO.step rfl (OR.eqlNilP T34.und rfl rfl (WO.step rfl (OR.move rfl (WO.guardYes rfl rfl rfl rfl (OR.move rfl ?_)))))))
  refine WO.guardYes rfl rfl rfl rfl (OR.nilCheck rfl (WO.guardYes rfl rfl rfl rfl (OR.fieldAddr FA131_2 rfl (WO.guardYes rfl rfl rfl rfl (OR.load T123 rfl rfl (hs.cellM (i := 0) rfl rfl) (WO.guardYes rfl rfl rfl rfl (OR.eqlNilP T123.und rfl rfl ?_)))))))
  refine WO.step rfl (OR.pickF rfl rfl rfl (WO.step rfl (OR.assign rfl (WO.done (WX.seq (WC.ret ?_))))))
  refine WX.ret1 rfl rfl ?_
  exact .mk (hs.drop 0) rfl

def MF.newB (N : Nat) (Hb : Hp) (g s : Nat) (f : Value → Value) : MF := MF.of (fun v H => ∃ b, N ≤ b ∧ Hb b = none ∧ v = f (.pointer (some ⟨b, 0, none⟩)) ∧ H b = some (basisObj g s (.slice none 0 0))) fun _ _ _ hle ⟨b, h1, h2, h3, h4⟩ => ⟨b, h1, h2, h3, hle _ _ h4⟩
set_option maxRecDepth 20000 in
set_option maxHeartbeats 2000000 in
theorem rat_ok (rb wb f gen : Nat) (first cap : List Value) (x : RelD) (l : Slots) (t : Bool) (xs : List Nat) (H0 H1 : Hp) (Mr : Mem) (w0 w1 : World) (C : Ending → World → Prop) (h00 : Sub H0 w0)
    (hs : HS xs H0 w0 H1 ((rb, relObj x.g x.s wb l, t) :: (wb, winObj x.base x.width, t) :: (slotMem x.g x.s t l ++ Mr)) w1) (hx : SlotsOk H1 x l) (hok : RelOk x) (hg : gen < 18446744073709551616) (hb : Body Tryz.prog f)
    (hC : ∀ e w, C e w → ∃ i : Int, e = .returned (.int .i64 i))
    (hout : ¬ inWin x.base x.width gen → ∀ H w, Hp.le H1 H → HS xs H0 w0 H ((rb, relObj x.g x.s wb l, t) :: (wb, winObj x.base x.width, t) :: (slotMem x.g x.s t l ++ Mr)) w → C (.returned (.int .i64 23)) w)
    (hdo : inWin x.base x.width gen → ∀ H w b rv t', Hp.le H1 H → (t = true → t' = true) → HS xs H0 w0 H ((b, basisObj x.g x.s rv, t') :: (rb, relObj x.g x.s wb l, t) :: (wb, winObj x.base x.width, t) :: (slotMem x.g x.s t (l.set (gen % x.width) none) ++ Mr)) w →
      (l[gen % x.width]? = some (some (b, rv)) ∨ l[gen % x.width]? = some none) → (l[gen % x.width]? = some (some (b, rv)) → t' = t) → Rws H rv (x.rows (gen % x.width)) → Calls Tryz.prog f (first ++ [.int .i64 ((gen % x.width : Nat) : Int), ptr b] ++ cap).toArray w C) :
    Calls Tryz.prog 70 #[ptr rb, .int .u64 (gen : Int), .func (.func f) first.toArray cap.toArray] w1 C := by
  have hle := Hp.le.refl H1
  have hw16 := hok.w2
  have hw1 := hok.w1
  have hsl := hok.slot gen
  obtain ⟨h16, hx⟩ := hx
  refine Calls.enter (args := [ptr rb, .int .u64 (gen : Int), .func (.func f) first.toArray cap.toArray]) Tryz.func70 rfl Tryz.ntmps70 rfl ?_
  refine WC.seq (WC.region (WO.step rfl (OR.assign rfl (WO.done (WX.seq (WC.seq (WC.seq ?_)))))))
  refine WC.region (WO.step rfl (OR.move rfl ?_))
  refine WO.step rfl (OR.call hs body77 rfl rfl (rnone_ok rb x.g x.s wb l _ _ hs.toSub (hs.blk (i := 0) rfl) (hs.nh (i := 0) rfl)) ?_)
  clear hs; rintro _ H w hs hle1 rfl; replace hle := hle.trans hle1; (try replace hlb := hlb.trans hle1)
  refine WO.done (WX.seq ?_)
  refine WC.no rfl rfl ?_
  refine WC.skip (WX.seq (WC.seq (WC.region (WO.step rfl (OR.move rfl (WO.step rfl (OR.nilCheck rfl ?_)))))))
  refine WO.step rfl (OR.fieldAddr FA131_2 rfl (WO.step rfl (OR.load T123 rfl rfl (hs.cellM (i := 0) rfl rfl) (WO.step rfl (OR.move rfl ?_)))))
  refine WO.step rfl (OR.call hs body118 rfl rfl (wslot_ok wb x.base x.width _ _ gen hs.toSub (hs.blk (i := 1) rfl) (hs.nh (i := 1) rfl) hok.b hw16 hw1 hg) ?_)
  clear hs; rintro _ H w hs hle1 rfl; replace hle := hle.trans hle1; (try replace hlb := hlb.trans hle1)
  refine WO.step rfl (OR.move rfl (WO.step rfl (OR.extract rfl rfl (WO.step rfl (OR.extract rfl rfl (WO.step rfl (OR.assign rfl ?_)))))))
  refine WO.step rfl (OR.assign rfl (WO.done (WX.seq (WC.seq (WC.seq (WC.region (WO.step rfl ?_)))))))
  refine OR.move rfl (WO.step rfl (OR.neq rfl rfl (WO.done (WX.seq ?_))))
  by_cases hin : inWin x.base x.width gen
  · rw [if_pos hin, if_pos hin]
    refine WC.no rfl (decide_eq_false (by decide)) ?_
    have hget : ∃ y, l[gen % x.width]? = some y := ⟨_, List.getElem?_eq_getElem (by omega)⟩
    obtain ⟨y, hy⟩ := hget
    have hnth := nth_slots (.int .i64 (x.g : Int)) (.int .i64 (x.s : Int)) (ptr wb) l _ y hy
    refine WC.skip (WX.seq (WC.seq (WC.region (WO.step rfl (OR.move rfl (WO.step rfl (OR.move rfl ?_)))))))
    refine WO.step rfl (OR.nilCheck rfl (WO.step rfl (OR.fieldAddr FA131_3 rfl ?_)))
    refine WO.step rfl (OR.idxArr (gen % x.width) T129.und T126 rfl rfl rfl (by omega) ?_)
    refine WO.step rfl (OR.load T126 rfl rfl (hs.cellM (i := 0) rfl (by rw [Nat.zero_add]; exact hnth)) ?_)
    have hslot := hx _ _ hy
    cases y with
    | none =>
      refine WO.step rfl (OR.assign rfl (WO.done (WX.seq (WC.seq (WC.seq (WC.region (WO.step rfl ?_)))))))
      refine OR.move rfl (WO.step rfl (OR.eqlNilP T126.und rfl rfl (WO.done (WX.seq ?_))))
      refine WC.yes rfl rfl ?_
      have hlb := Hp.le.refl H
      refine WC.drawL 12 11 mixed hs (by kernel_rfl) ?_
      refine ⟨MF.eq _, by intro Mx H w hle hs; refine forVals_nil (ORg.plain (OR.move rfl ?_)); exact ⟨_, [], Hp.le.refl _, hs, rfl, rfl⟩, ?_⟩
      refine ⟨MF.eq _, by intro Mx H w hle hs; refine forVals_eq rfl rfl rfl ?_; refine forVals_nil (ORg.plain (OR.nilCheck rfl ?_)); exact ⟨_, [], Hp.le.refl _, hs, rfl, rfl⟩, ?_⟩
      refine ⟨MF.eq _, by intro Mx H w hle hs; refine forVals_eq rfl rfl rfl ?_; refine forVals_nil (ORg.plain (OR.fieldAddr FA131_0 rfl ?_)); exact ⟨_, [], Hp.le.refl _, hs, rfl, rfl⟩, ?_⟩
      refine ⟨MF.eq _, by intro Mx H w hle hs; refine forVals_eq rfl rfl rfl ?_; refine forVals_nil (ORg.plain (OR.load T3 rfl rfl (hs.right.cellM (i := 0) rfl rfl) ?_)); exact ⟨_, [], Hp.le.refl _, hs, rfl, rfl⟩, ?_⟩
      refine ⟨MF.eq _, by intro Mx H w hle hs; refine forVals_nil (ORg.plain (OR.move rfl ?_)); exact ⟨_, [], Hp.le.refl _, hs, rfl, rfl⟩, ?_⟩
      refine ⟨MF.eq _, by intro Mx H w hle hs; refine forVals_eq rfl rfl rfl ?_; refine forVals_nil (ORg.plain (OR.nilCheck rfl ?_)); exact ⟨_, [], Hp.le.refl _, hs, rfl, rfl⟩, ?_⟩
      refine ⟨MF.eq _, by intro Mx H w hle hs; refine forVals_eq rfl rfl rfl ?_; refine forVals_nil (ORg.plain (OR.fieldAddr FA131_1 rfl ?_)); exact ⟨_, [], Hp.le.refl _, hs, rfl, rfl⟩, ?_⟩
      refine ⟨MF.eq _, by intro Mx H w hle hs; refine forVals_eq rfl rfl rfl ?_; refine forVals_nil (ORg.plain (OR.load T3 rfl rfl (hs.right.cellM (i := 0) rfl rfl) ?_)); exact ⟨_, [], Hp.le.refl _, hs, rfl, rfl⟩, ?_⟩
      refine ⟨MF.newB w0.heap.size H1 x.g x.s (fun v => .tuple #[v, .int .i64 0]), ?_, ?_⟩
      · intro Mx H w hle2 hs; (try replace hle := hle.trans hle2); (try replace hlb := hlb.trans hle2); refine forVals_eq rfl rfl rfl ?_; refine forVals_eq rfl rfl rfl ?_
        have hsz := hs.size
        have hdom : ∀ q, w.heap.size ≤ q → H1 q = none := fun q hq => by
          cases hh : H1 q with
          | none => rfl
          | some u => have := lt_of_heap (hs.sub q u (hle _ _ hh)); omega
        refine forVals_nil (ORg.plain (OR.callX (Mx := []) hs body65 rfl rfl (new_ok (x.g : Int) (x.s : Int) _ _ hs.toSub) rfl rfl ?_))
        clear hs; rintro v H3 M3 w hs hle3 hnew ⟨rfl, hc⟩
        rw [if_pos (by have h1 := hok.g1; have h2 := hok.g2; have h3 := hok.s1; have h4 := hok.s2; omega)] at hc
        obtain ⟨b, hb1, rfl, rfl⟩ := hc
        obtain ⟨H4, hle4, hp, hs⟩ := HS.pub1 hs (Nat.le_trans hsz hb1)
        exact ⟨_, [], hle4, hs, ⟨b, Nat.le_trans hsz hb1, hdom b hb1, rfl, hp⟩, rfl⟩
      refine ⟨MF.newB w0.heap.size H1 x.g x.s (fun v => .tuple #[v, .int .i64 0]), ?_, ?_⟩
      · intro Mx H w hle2 hs; (try replace hle := hle.trans hle2); (try replace hlb := hlb.trans hle2); refine forVals_of rfl rfl rfl ?_; intro v8 h8
        refine forVals_nil (ORg.plain (OR.move rfl ?_))
        exact ⟨_, [], Hp.le.refl _, hs, h8, rfl⟩
      refine ⟨MF.newB w0.heap.size H1 x.g x.s (fun v => v), ?_, ?_⟩
      · intro Mx H w hle2 hs; (try replace hle := hle.trans hle2); (try replace hlb := hlb.trans hle2); refine forVals_of rfl rfl rfl ?_; intro v9 h9
        obtain ⟨b, hb1, hb2, rfl, hb3⟩ := h9
        refine forVals_nil (ORg.plain (OR.extract rfl rfl ?_))
        exact ⟨_, [], Hp.le.refl _, hs, ⟨b, hb1, hb2, rfl, hb3⟩, rfl⟩
      refine ⟨MF.eq (.int .i64 0), ?_, ?_⟩
      · intro Mx H w hle2 hs; (try replace hle := hle.trans hle2); (try replace hlb := hlb.trans hle2); refine forVals_of rfl rfl rfl ?_; intro v9 h9
        obtain ⟨b, hb1, hb2, rfl, hb3⟩ := h9
        refine forVals_nil (ORg.plain (OR.extract rfl rfl ?_))
        exact ⟨_, [], Hp.le.refl _, hs, rfl, rfl⟩
      intro H w hle2; (try replace hle := hle.trans hle2); (try replace hlb := hlb.trans hle2)
      refine forAllVals_eq rfl ?_
      refine forAllVals_eq rfl ?_
      refine forAllVals_eq rfl ?_
      refine forAllVals_eq rfl ?_
      refine forAllVals_eq rfl ?_
      refine forAllVals_eq rfl ?_
      refine forAllVals_eq rfl ?_
      refine forAllVals_eq rfl ?_
      refine forAllVals_of rfl ?_; intro v8 h8
      refine forAllVals_of rfl ?_; intro v9 h9
      refine forAllVals_of rfl ?_; intro v10 h10
      refine forAllVals_eq rfl ?_
      refine forAllVals_nil ?_; (try clear hs); intro hs
      obtain ⟨b, hb1, hb2, rfl, hb3⟩ := h10
      have hs2 := HS.unpub h00 hs hb3 hb1
      rw [show slotMem x.g x.s t l = slotMem x.g x.s t (l.set (gen % x.width) none) from by
        congr 1
        have hi : gen % x.width < l.length := (List.getElem?_eq_some_iff.1 hy).1
        have hx2 : l[gen % x.width] = none := by rw [List.getElem?_eq_getElem hi] at hy; exact Option.some.inj hy
        conv => lhs; rw [← List.set_getElem_self hi, hx2]] at hs2
      have hrows : x.rows (gen % x.width) = [] := hslot
      refine WO.step rfl (OR.assign rfl (WO.done (WX.seq (WC.seq (WC.region (WO.step rfl (OR.move rfl ?_)))))))
      refine WO.step rfl (OR.move rfl (WO.step rfl (OR.move rfl ?_)))
      refine WO.step rfl (OR.callW hb rfl rfl (hdo hin _ _ b (.slice none 0 0) true (Hp.le_del hle hb2) (fun _ => rfl) hs2 (.inr hy) (fun h => by rw [hy] at h; cases h) (by rw [hrows]; exact ⟨[], Sl.nil _ _, rfl, fun i h => by simp at h⟩)) ?_)
      intro e w hCe
      obtain ⟨i, rfl⟩ := hC e w hCe
      refine ⟨_, rfl, ?_⟩
      refine WO.step rfl (OR.assign rfl (WO.done (WX.seq (WC.ret ?_))))
      refine WX.ret1 rfl rfl ?_
      exact hCe
    | some p =>
      obtain ⟨b, rv⟩ := p
      refine WO.step rfl (OR.assign rfl (WO.done (WX.seq (WC.seq (WC.seq (WC.region (WO.step rfl ?_)))))))
      refine OR.move rfl (WO.step rfl (OR.eqlNilP T126.und rfl rfl (WO.done (WX.seq ?_))))
      refine WC.no rfl rfl ?_
      have hs2 := HS.slotOut (A := [_, _]) hs hy
      refine WC.skip (WX.seq (WC.seq (WC.region (WO.step rfl (OR.move rfl (WO.step rfl (OR.move rfl ?_)))))))
      refine WO.step rfl (OR.move rfl ?_)
      refine WO.step rfl (OR.callW hb rfl rfl (hdo hin _ _ b rv t hle id hs2 (.inl hy) (fun _ => rfl) (Rws.mono hslot hle)) ?_)
      intro e w hCe
      obtain ⟨i, rfl⟩ := hC e w hCe
      refine ⟨_, rfl, ?_⟩
      refine WO.step rfl (OR.assign rfl (WO.done (WX.seq (WC.ret ?_))))
      refine WX.ret1 rfl rfl ?_
      exact hCe
  · rw [if_neg hin, if_neg hin]
    refine WC.yes rfl (decide_eq_true (by decide)) ?_
    refine WC.seq (WC.region (WO.step rfl (OR.assign rfl (WO.done (WX.seq (WC.ret (WX.seq_ret ?_)))))))
    refine WX.ret1 rfl rfl ?_
    exact hout hin _ _ hle hs
end Go.Bw
namespace Go.Bw
set_option linter.unusedVariables false
set_option linter.unusedSimpArgs false
open Go.Proofs

theorem HS.last1 {xs : List Nat} {H0 H : Hp} {w0 w : World} {A : Mem} {q : Nat × Obj × Bool} (hs : HS xs H0 w0 H (A ++ [q]) w) : HS xs H0 w0 H [q] w := hs.sublist (List.sublist_append_right _ _)
theorem HS.pick2 {xs : List Nat} {H0 H : Hp} {w0 w : World} {A : Mem} {p q : Nat × Obj × Bool} (hs : HS xs H0 w0 H (p :: (A ++ [q])) w) : HS xs H0 w0 H [q, p] w :=
  (hs.sublist ((List.sublist_append_right A [q]).cons_cons p)).front (i := 1) rfl
def RelD.rk (x : RelD) (gen : Nat) : List RowD := if inWin x.base x.width gen then x.rows (gen % x.width) else []
theorem RelOk.rk {x : RelD} (h : RelOk x) (gen : Nat) : Red x.g x.s (x.rk gen) := by
  unfold RelD.rk
  split
  · exact h.red _
  · exact Red.nil _ _
theorem Red.forB {g s : Nat} {A : List RowD} (h : Red g s A) (hg : g ≤ 255) : (∀ y ∈ A, RowGS g s y) ∧ (∀ y ∈ A, RowGS g s y ∧ 0 ≤ lead y.1) ∧ A.length ≤ 255 :=
  ⟨h.gs, fun y hy => ⟨h.gs y hy, h.ld y hy⟩, Nat.le_trans h.len hg⟩

set_option maxRecDepth 20000 in
set_option maxHeartbeats 2000000 in
theorem rrank1_ok (gn b g s : Nat) (v0 u rv : Value) (rows : List RowD) (t : Bool) (xs : List Nat) (H0 H1 : Hp) (w0 w1 : World) (hs : HS xs H0 w0 H1 [(gn, .cells #[u] 3, true), (b, basisObj g s rv, t)] w1) (hg : 0 < g) (hr : Rws H1 rv rows) :
    Calls Tryz.prog 92 #[v0, ptr b, ptr gn] w1 (fun e w' => ∃ H', e = .returned (.int .i64 0) ∧ HS xs H0 w0 H' [(gn, .cells #[.int .i64 (rows.length : Int)] 3, true)] w') := by
  have hle := Hp.le.refl H1
  refine Calls.enter (args := [v0, ptr b, ptr gn]) Tryz.func92 rfl Tryz.ntmps92 rfl ?_
  refine WC.seq (WC.region (WO.step rfl (OR.assign rfl (WO.done (WX.seq (WC.seq (WC.region ?_)))))))
  refine WO.step rfl (OR.move rfl ?_)
  refine WO.step rfl (OR.call hs body93 rfl rfl (rank_ok b g s rv rows _ _ hs.toSub (hs.blk (i := 1) rfl) (hs.nh (i := 1) rfl) hg hr) ?_)
  clear hs; rintro _ H w hs hle1 rfl; replace hle := hle.trans hle1; (try replace hlb := hlb.trans hle1)
  refine WO.stepN (OR.storeAll hs T3 rfl rfl rfl rfl rfl ?_)
  clear hs; intro w hs
  refine WO.done (WX.seq (WC.seq (WC.region (WO.step rfl (OR.assign rfl (WO.done (WX.seq ?_)))))))
  refine WC.ret ?_
  refine WX.ret1 rfl rfl ?_
  exact ⟨H, rfl, hs.drop 1⟩
set_option maxRecDepth 20000 in
set_option maxHeartbeats 2000000 in
theorem rrank_ok (rb wb gen : Nat) (x : RelD) (l : Slots) (H0 : Hp) (w0 : World) (hs : HS [] H0 w0 H0 (relMem false x rb wb l) w0) (hx : SlotsOk H0 x l) (hok : RelOk x) (hg : gen < 18446744073709551616) :
    Calls Tryz.prog 34 #[ptr rb, .int .u64 (gen : Int)] w0 (Pure H0 w0 fun v _ => v = .int .i64 ((x.rk gen).length : Int)) := by
  have hle := Hp.le.refl H0
  have h00 := hs.toSub
  have hgp := hok.g1
  refine Calls.enter (args := [ptr rb, .int .u64 (gen : Int)]) Tryz.func34 rfl Tryz.ntmps34 rfl ?_
  refine WC.seq (WC.region (WO.step rfl (OR.alloc hs T3 ?_)))
  clear hs; intro g1 w hg1 hs
  refine WO.done (WX.seq (WC.seq (WC.region (WO.step rfl (OR.move rfl (WO.step rfl (OR.move rfl ?_)))))))
  refine WO.step rfl (OR.makeFunc rfl rfl ?_)
  have hs9 := HS.mtail (A := [_]) hs
  refine WO.step rfl (OR.callW body70 rfl rfl (rat_ok rb wb 92 gen [] [ptr g1] x l false [] H0 H0 [_] w0 _ (fun e w' => ∃ H' i, e = .returned (.int .i64 i) ∧ HS [] H0 w0 H' [(g1, .cells #[.int .i64 ((x.rk gen).length : Int)] 3, true)] w') h00 hs9 hx hok hg body92 (fun e w ⟨_, i, h, _⟩ => ⟨i, h⟩) (fun hno H w hl hs => ⟨H, 23, rfl, by rw [RelD.rk, if_neg hno]; exact HS.last1 (A := _ :: _ :: _) hs⟩) (fun hin H w b rv t' hl _ hs _ _ hr => (rrank1_ok g1 b x.g x.s _ _ rv _ t' [] H0 H w0 w (HS.pick2 (A := _ :: _ :: _) hs) hgp hr).mono fun e w' ⟨H', h1, h2⟩ => ⟨H', 0, h1, by rw [RelD.rk, if_pos hin]; exact h2⟩)) ?_)
  clear hs hs9
  rintro e w ⟨H, i, rfl, hs⟩
  refine ⟨_, rfl, ?_⟩
  refine WO.done (WX.seq (WC.seq (WC.region (WO.step rfl (OR.load T3 rfl rfl (hs.cellM (i := 0) rfl rfl) (WO.stepN (OR.storeAll hs T3 rfl rfl rfl rfl rfl ?_)))))))
  clear hs; intro w hs
  refine WO.done (WX.seq (WC.ret ?_))
  refine WX.retCellS T3 rfl rfl rfl (hs.cellM (i := 0) rfl rfl) ?_
  exact .mk (hs.drop 0) rfl

set_option maxRecDepth 20000 in
set_option maxHeartbeats 2000000 in
theorem rrows1_ok (gn b g s : Nat) (v0 u rv : Value) (rows : List RowD) (t : Bool) (xs : List Nat) (H0 H1 : Hp) (w0 w1 : World) (hs : HS xs H0 w0 H1 [(gn, .cells #[u] 97, true), (b, basisObj g s rv, t)] w1) (hg : 0 < g) (hg2 : g ≤ 255) (hs2 : s ≤ 65535) (hr : Rws H1 rv rows) (hred : Red g s rows) :
    Calls Tryz.prog 142 #[v0, ptr b, ptr gn] w1 (fun e w' => ∃ H' r, e = .returned (.int .i64 0) ∧ HS xs H0 w0 H' [(gn, .cells #[r] 97, true)] w' ∧ Rws H' r rows) := by
  have hle := Hp.le.refl H1
  obtain ⟨q1, q2, q3⟩ := Red.forB hred hg2
  refine Calls.enter (args := [v0, ptr b, ptr gn]) Tryz.func142 rfl Tryz.ntmps142 rfl ?_
  refine WC.seq (WC.region (WO.step rfl (OR.assign rfl (WO.done (WX.seq (WC.seq (WC.region ?_)))))))
  refine WO.step rfl (OR.move rfl ?_)
  refine WO.step rfl (OR.call hs body143 rfl rfl (rows_ok rows rv b g s _ _ hs.toSub (hs.blk (i := 1) rfl) (hs.nh (i := 1) rfl) hr q1 hg hg2 hs2 q3) ?_)
  clear hs; rintro _ H w hs hle1 hr2; replace hle := hle.trans hle1; (try replace hlb := hlb.trans hle1)
  obtain ⟨cs, hsl, hro⟩ := hr2
  obtain ⟨b1, c1, rfl⟩ := hsl.form
  refine WO.stepN (OR.storeAll hs T97 rfl rfl rfl rfl rfl ?_)
  clear hs; intro w hs
  refine WO.done (WX.seq (WC.seq (WC.region (WO.step rfl (OR.assign rfl (WO.done (WX.seq ?_)))))))
  refine WC.ret ?_
  refine WX.ret1 rfl rfl ?_
  exact ⟨H, _, rfl, hs.drop 1, cs, hsl, hro⟩
set_option maxRecDepth 20000 in
set_option maxHeartbeats 2000000 in
theorem rrows_ok (rb wb gen : Nat) (x : RelD) (l : Slots) (H0 : Hp) (w0 : World) (hs : HS [] H0 w0 H0 (relMem false x rb wb l) w0) (hx : SlotsOk H0 x l) (hok : RelOk x) (hg : gen < 18446744073709551616) :
    Calls Tryz.prog 101 #[ptr rb, .int .u64 (gen : Int)] w0 (Pure H0 w0 fun v H' => Rws H' v (x.rk gen)) := by
  have hle := Hp.le.refl H0
  have h00 := hs.toSub
  refine Calls.enter (args := [ptr rb, .int .u64 (gen : Int)]) Tryz.func101 rfl Tryz.ntmps101 rfl ?_
  refine WC.seq (WC.region (WO.step rfl (OR.alloc hs T97 ?_)))
  clear hs; intro g1 w hg1 hs
  refine WO.done (WX.seq (WC.seq (WC.region (WO.step rfl (OR.move rfl (WO.step rfl (OR.move rfl ?_)))))))
  refine WO.step rfl (OR.makeFunc rfl rfl ?_)
  have hs9 := HS.mtail (A := [_]) hs
  refine WO.step rfl (OR.callW body70 rfl rfl (rat_ok rb wb 142 gen [] [ptr g1] x l false [] H0 H0 [_] w0 _ (fun e w' => ∃ H' i r, e = .returned (.int .i64 i) ∧ HS [] H0 w0 H' [(g1, .cells #[r] 97, true)] w' ∧ Rws H' r (x.rk gen)) h00 hs9 hx hok hg body142 (fun e w ⟨_, i, _, h, _⟩ => ⟨i, h⟩) (fun hno H w hl hs => ⟨H, 23, .slice none 0 0, rfl, HS.last1 (A := _ :: _ :: _) hs, by rw [RelD.rk, if_neg hno]; exact ⟨[], Sl.nil _ _, rfl, fun i h => by simp at h⟩⟩) (fun hin H w b rv t' hl _ hs _ _ hr => (rrows1_ok g1 b x.g x.s _ _ rv _ t' [] H0 H w0 w (HS.pick2 (A := _ :: _ :: _) hs) hok.g1 hok.g2 hok.s2 hr (hok.red _)).mono fun e w' ⟨H', r, h1, h2, h3⟩ => ⟨H', 0, r, h1, h2, by rw [RelD.rk, if_pos hin]; exact h3⟩)) ?_)
  clear hs hs9
  rintro e w ⟨H, i, r, rfl, hs, hr⟩
  refine ⟨_, rfl, ?_⟩
  obtain ⟨cs, hsl, hro⟩ := hr
  obtain ⟨b1, c1, rfl⟩ := hsl.form
  refine WO.done (WX.seq (WC.seq (WC.region (WO.step rfl (OR.load T97 rfl rfl (hs.cellM (i := 0) rfl rfl) (WO.stepN (OR.storeAll hs T97 rfl rfl rfl rfl rfl ?_)))))))
  clear hs; intro w hs
  refine WO.done (WX.seq (WC.ret ?_))
  refine WX.retCellS T97 rfl rfl rfl (hs.cellM (i := 0) rfl rfl) ?_
  exact .mk (hs.drop 0) ⟨cs, hsl, hro⟩

def RelD.solE (x : RelD) (gen : Nat) : Int := if inWin x.base x.width gen then (if (x.rows (gen % x.width)).length < x.g then 24 else 0) else 23
def RelD.solF (x : RelD) (gen : Nat) : List (List UInt8) := if inWin x.base x.width gen then (if (x.rows (gen % x.width)).length < x.g then [] else (x.rows (gen % x.width)).map (·.2)) else []
set_option maxRecDepth 20000 in
set_option maxHeartbeats 2000000 in
theorem rsolve1_ok (gn b g s : Nat) (v0 u rv : Value) (rows : List RowD) (t : Bool) (xs : List Nat) (H0 H1 : Hp) (w0 w1 : World) (hs : HS xs H0 w0 H1 [(gn, .cells #[u] 40, true), (b, basisObj g s rv, t)] w1) (hg : 0 < g) (hg2 : g ≤ 255) (hs2 : s ≤ 65535) (hr : Rws H1 rv rows) (hred : Red g s rows) :
    Calls Tryz.prog 151 #[v0, ptr b, ptr gn] w1 (fun e w' => ∃ H' r, e = .returned (.int .i64 (if rows.length < g then 24 else 0)) ∧ HS xs H0 w0 H' [(gn, .cells #[r] 40, true)] w' ∧ BytesL H' r (if rows.length < g then [] else rows.map (·.2))) := by
  have hle := Hp.le.refl H1
  obtain ⟨q1, q2, q3⟩ := Red.forB hred hg2
  refine Calls.enter (args := [v0, ptr b, ptr gn]) Tryz.func151 rfl Tryz.ntmps151 rfl ?_
  refine WC.seq (WC.region (WO.step rfl (OR.assign rfl (WO.done (WX.seq (WC.seq (WC.region ?_)))))))
  refine WO.step rfl (OR.move rfl ?_)
  refine WO.step rfl (OR.call hs body152 rfl rfl (solve_ok rows rv b g s _ _ hs.toSub (hs.blk (i := 1) rfl) (hs.nh (i := 1) rfl) hr q1 hg hg2 hs2 q3) ?_)
  clear hs; rintro _ H w hs hle1 ⟨r, rfl, hr2⟩; replace hle := hle.trans hle1; (try replace hlb := hlb.trans hle1)
  obtain ⟨b1, c1, rfl⟩ := hr2.form
  refine WO.step rfl (OR.move rfl (WO.step rfl (OR.extract rfl rfl (WO.step rfl (OR.extract rfl rfl (WO.stepN (OR.storeAll hs T40 rfl rfl rfl rfl rfl ?_)))))))
  clear hs; intro w hs
  refine WO.step rfl (OR.assign rfl (WO.done (WX.seq (WC.seq (WC.region (WO.step rfl (OR.move rfl ?_)))))))
  refine WO.step rfl (OR.assign rfl (WO.done (WX.seq (WC.ret ?_))))
  refine WX.ret1 rfl rfl ?_
  exact ⟨H, _, rfl, hs.drop 1, hr2⟩
set_option maxRecDepth 20000 in
set_option maxHeartbeats 2000000 in
theorem rsolve_ok (rb wb gen : Nat) (x : RelD) (l : Slots) (H0 : Hp) (w0 : World) (hs : HS [] H0 w0 H0 (relMem false x rb wb l) w0) (hx : SlotsOk H0 x l) (hok : RelOk x) (hg : gen < 18446744073709551616) :
    Calls Tryz.prog 116 #[ptr rb, .int .u64 (gen : Int)] w0 (Pure H0 w0 fun v H' => ∃ r, v = .tuple #[r, .int .i64 (x.solE gen)] ∧ BytesL H' r (x.solF gen)) := by
  have hle := Hp.le.refl H0
  have h00 := hs.toSub
  refine Calls.enter (args := [ptr rb, .int .u64 (gen : Int)]) Tryz.func116 rfl Tryz.ntmps116 rfl ?_
  refine WC.seq (WC.region (WO.step rfl (OR.alloc hs T40 ?_)))
  clear hs; intro g1 w hg1 hs
  refine WO.step rfl (OR.assign rfl (WO.done (WX.seq (WC.seq (WC.region (WO.step rfl (OR.move rfl ?_)))))))
  refine WO.step rfl (OR.move rfl (WO.step rfl (OR.makeFunc rfl rfl ?_)))
  have hs9 := HS.mtail (A := [_]) hs
  refine WO.step rfl (OR.callW body70 rfl rfl (rat_ok rb wb 151 gen [] [ptr g1] x l false [] H0 H0 [_] w0 _ (fun e w' => ∃ H' r, e = .returned (.int .i64 (x.solE gen)) ∧ HS [] H0 w0 H' [(g1, .cells #[r] 40, true)] w' ∧ BytesL H' r (x.solF gen)) h00 hs9 hx hok hg body151 (fun e w ⟨_, _, h, _⟩ => ⟨_, h⟩) (fun hno H w hl hs => ⟨H, .slice none 0 0, by rw [RelD.solE, if_neg hno], HS.last1 (A := _ :: _ :: _) hs, by rw [RelD.solF, if_neg hno]; exact ⟨[], Sl.nil _ _, rfl, fun i h => by simp at h⟩⟩) (fun hin H w b rv t' hl _ hs _ _ hr => (rsolve1_ok g1 b x.g x.s _ _ rv _ t' [] H0 H w0 w (HS.pick2 (A := _ :: _ :: _) hs) hok.g1 hok.g2 hok.s2 hr (hok.red _)).mono fun e w' ⟨H', r, h1, h2, h3⟩ => ⟨H', r, by rw [RelD.solE, if_pos hin]; exact h1, h2, by rw [RelD.solF, if_pos hin]; exact h3⟩)) ?_)
  clear hs hs9
  rintro e w ⟨H, r, rfl, hs, hr⟩
  refine ⟨_, rfl, ?_⟩
  obtain ⟨b1, c1, rfl⟩ := hr.form
  refine WO.step rfl (OR.assign rfl (WO.done (WX.seq (WC.seq (WC.region (WO.step rfl (OR.load T40 rfl rfl (hs.cellM (i := 0) rfl rfl) ?_)))))))
  refine WO.step rfl (OR.move rfl (WO.stepN (OR.storeAll hs T40 rfl rfl rfl rfl rfl ?_)))
  clear hs; intro w hs
  refine WO.step rfl (OR.assign rfl (WO.done (WX.seq (WC.ret ?_))))
  refine WX.retCTS T40 rfl rfl rfl rfl (hs.cellM (i := 0) rfl rfl) ?_
  exact .mk (hs.drop 0) ⟨_, rfl, hr⟩
end Go.Bw
namespace Go.Bw
set_option linter.unusedVariables false
set_option linter.unusedSimpArgs false
open Go.Proofs

def RelD.take (x : RelD) (gen : Nat) (r : RowD) : RelD := if inWin x.base x.width gen then x.put gen (insR x.g x.s (x.rows (gen % x.width)) r).2 else x
def RelD.takeI (x : RelD) (gen : Nat) (r : RowD) : Bool := decide (inWin x.base x.width gen) && (insR x.g x.s (x.rows (gen % x.width)) r).1
def RelD.takeE (x : RelD) (gen : Nat) (r : RowD) : Int := if inWin x.base x.width gen then (if r.1.length = x.g ∧ r.2.length = x.s then 0 else 21) else 23
theorem RelOk.take {x : RelD} (h : RelOk x) (gen : Nat) (r : RowD) : RelOk (x.take gen r) := by
  unfold RelD.take
  split
  · exact h.put gen _ (insAny_red (h.red _) r)
  · exact h
theorem slots_put {H : Hp} {x : RelD} {l : Slots} {gen : Nat} {rows : List RowD} {y : Option (Nat × Value)} (h : SlotsOk H x l) (hy : slotOk H rows y) : SlotsOk H (x.put gen rows) (l.set (gen % x.width) y) := by
  refine ⟨by rw [List.length_set]; exact h.1, fun i z hz => ?_⟩
  show slotOk H (if i = gen % x.width then rows else x.rows i) z
  by_cases e : i = gen % x.width
  · rw [if_pos e]
    subst e
    rw [List.getElem?_set] at hz
    split at hz
    · split at hz
      · cases hz; exact hy
      · cases hz
    · rename_i h9; exact absurd rfl h9
  · rw [if_neg e]
    rw [List.getElem?_set_ne (Ne.symm e)] at hz
    exact h.2 i z hz
theorem slots_same {l : Slots} {i : Nat} {y z : Option (Nat × Value)} (h : l[i]? = some y) (e : slotV y = slotV z) : (l.set i z).map slotV = l.map slotV := by
  have hi : i < l.length := (List.getElem?_eq_some_iff.1 h).1
  have hx : l[i] = y := by rw [List.getElem?_eq_getElem hi] at h; exact Option.some.inj h
  rw [List.map_set, ← e, ← hx]
  have hi2 : i < (l.map slotV).length := by simpa using hi
  rw [show slotV l[i] = (l.map slotV)[i]'hi2 by simp, List.set_getElem_self]
/-- What Take leaves behind: the relay, and whether the row was taken. -/
def takeC (rb wb gI : Nat) (x : RelD) (gen : Nat) (r : RowD) (xs : List Nat) (H0 : Hp) (w0 : World) (e : Ending) (w' : World) : Prop :=
  ∃ H' l', e = .returned (.int .i64 (x.takeE gen r)) ∧ SlotsOk H' (x.take gen r) l' ∧ HS xs H0 w0 H' ((rb, relObj x.g x.s wb l', true) :: (wb, winObj x.base x.width, true) :: (slotMem x.g x.s true l' ++ [(gI, .cells #[.bool (x.takeI gen r)] 4, true)])) w'
set_option maxRecDepth 20000 in
set_option maxHeartbeats 2000000 in
theorem rtake1_ok (rb wb gI gR gW b gen : Nat) (rv rc rp : Value) (x : RelD) (l : Slots) (r : RowD) (xs : List Nat) (H0 H1 : Hp) (w0 w1 : World)
    (hs : HS xs H0 w0 H1 ((b, basisObj x.g x.s rv, true) :: (rb, relObj x.g x.s wb l, true) :: (wb, winObj x.base x.width, true) :: (slotMem x.g x.s true (l.set (gen % x.width) none) ++ [(gI, .cells #[.bool false] 4, true)])) w1)
    (hin : inWin x.base x.width gen) (hx : SlotsOk H1 x l) (hok : RelOk x) (hl : l[gen % x.width]? = some (some (b, rv)) ∨ l[gen % x.width]? = some none) (hrv : Rws H1 rv (x.rows (gen % x.width)))
    (hgW : hcell H1 ⟨gW, 0, none⟩ = some rc ∧ hcell H1 ⟨gW, 1, none⟩ = some rp) (hrc : Bytes H1 rc r.1) (hrp : Bytes H1 rp r.2) (hgR : hcell H1 ⟨gR, 0, none⟩ = some (ptr rb)) :
    Calls Tryz.prog 71 #[.int .i64 ((gen % x.width : Nat) : Int), ptr b, ptr gW, ptr gI, ptr gR] w1 (takeC rb wb gI x gen r xs H0 w0) := by
  have hle := Hp.le.refl H1
  have hsl := hok.slot gen
  obtain ⟨q1, q2, q3⟩ := Red.forB (hok.red (gen % x.width)) hok.g2
  have hl16 := hx.1
  have hslot : ∃ y, l[gen % x.width]? = some y := ⟨_, List.getElem?_eq_getElem (by omega)⟩
  have hs0 := HS.mtail (A := _ :: _ :: _ :: slotMem x.g x.s true (l.set (gen % x.width) none)) hs
  clear hs
  have hs := hs0
  clear hs0
  refine Calls.enter (args := [.int .i64 ((gen % x.width : Nat) : Int), ptr b, ptr gW, ptr gI, ptr gR]) Tryz.func71 rfl Tryz.ntmps71 rfl ?_
  refine WC.seq (WC.region (WO.step rfl (OR.assign rfl (WO.done (WX.seq (WC.seq (WC.seq ?_)))))))
  refine WC.region (WO.step rfl (OR.move rfl ?_))
  refine WO.step rfl (OR.loadN (cs := [rc, rp]) T45 rfl rfl rfl (fun j u hj => hs.cell (by rw [add_off, Nat.zero_add]; match j, hj with | 0, hj => (cases hj; exact hgW.1) | 1, hj => (cases hj; exact hgW.2))) ?_)
  replace hs := hs.front (i := 1) rfl
  refine WO.step rfl (OR.callX (Mx := [(b, _, true)]) hs body72 rfl rfl (insert_ok (x.rows (gen % x.width)) r rv rc rp b x.g x.s _ _ hs.toSub (hs.blk (i := 0) rfl) (hs.nh (i := 0) rfl) hrv hrc hrp q2 hok.g1 hok.g2 hok.s2 q3) rfl rfl ?_)
  clear hs; rintro _ H M' w hs hle1 hnew ⟨rv', rfl, hrv', rfl⟩; replace hle := hle.trans hle1; (try replace hlb := hlb.trans hle1)
  obtain ⟨y, hy⟩ := hslot
  have hxt : x.take gen r = x.put gen (insR x.g x.s (x.rows (gen % x.width)) r).2 := by rw [RelD.take, if_pos hin]
  have hE : x.takeE gen r = if r.1.length = x.g ∧ r.2.length = x.s then 0 else 21 := by rw [RelD.takeE, if_pos hin]
  have hI : x.takeI gen r = (insR x.g x.s (x.rows (gen % x.width)) r).1 := by rw [RelD.takeI, decide_eq_true hin, Bool.true_and]
  have hgR2 := hcell.mono hle hgR
  replace hx := hx.mono hle
  refine WO.step rfl (OR.move rfl (WO.step rfl (OR.extract rfl rfl (WO.step rfl (OR.extract rfl rfl ?_)))))
  replace hs := hs.front (i := 1) rfl
  refine WO.stepN (OR.storeAll hs T4 rfl rfl rfl rfl rfl ?_)
  clear hs; intro w hs
  refine WO.step rfl (OR.assign rfl (WO.done (WX.seq (WC.seq (WC.region (WO.step rfl (OR.load T4 rfl rfl (hs.cellM (i := 0) rfl rfl) ?_)))))))
  refine WO.done (WX.seq ?_)
  refine WC.cond rfl (fun hins => ?_) (fun hins => ?_)
  · refine WC.region ?_
    refine WO.step rfl (OR.load T34 rfl rfl (hs.cell hgR2) ?_)
    refine WO.step rfl (OR.move rfl (WO.step rfl (OR.move rfl (WO.step rfl (OR.nilCheck rfl (WO.step rfl (OR.fieldAddr FA131_3 rfl ?_)))))))
    refine WO.step rfl (OR.idxArr (gen % x.width) T129.und T126 rfl rfl rfl (by omega) ?_)
    replace hs := hs.front (i := 2) rfl
    refine WO.stepN (OR.store hs T126 rfl rfl rfl (by simp; omega) rfl ?_)
    clear hs; intro w hs
    refine WO.done (WX.seq (WC.seq (WC.region (WO.step rfl (OR.move rfl (WO.step rfl (OR.assign rfl ?_)))))))
    refine WO.done (WX.seq (WC.ret ?_))
    refine WX.ret1 rfl rfl ?_
    have hset := setL_slots (.int .i64 (x.g : Int)) (.int .i64 (x.s : Int)) (ptr wb) l (gen % x.width) (some (b, rv')) (by omega)
    have hobj : Obj.cells (setL (Value.int .i64 (x.g : Int) :: .int .i64 (x.s : Int) :: ptr wb :: l.map slotV).toArray.toList (0 + 3 + gen % x.width) (ptr b).cells.toList).toArray 131 = relObj x.g x.s wb (l.set (gen % x.width) (some (b, rv'))) := by
      rw [relObj, ← hset, Nat.zero_add]
      rfl
    rw [hobj] at hs
    refine ⟨H, l.set (gen % x.width) (some (b, rv')), by rw [hE], by rw [hxt]; exact slots_put hx hrv', ?_⟩
    rw [hI]
    have hs3 := HS.mtail (A := [_]) (hs.front (i := 1) rfl)
    have hs4 := hs3.front (i := 1) rfl
    exact HS.slotIn (A := [_, _]) hs4 hy
  · refine WC.skip (WX.seq (WC.seq (WC.region (WO.step rfl (OR.move rfl (WO.step rfl (OR.assign rfl ?_)))))))
    refine WO.done (WX.seq (WC.ret ?_))
    refine WX.ret1 rfl rfl ?_
    have hfalse := insAny_false hins
    have hs3 := HS.mtail (A := [_]) hs
    rcases hl with hl | hl
    · have hsame := slots_same (z := some (b, rv')) hl rfl
      refine ⟨H, l.set (gen % x.width) (some (b, rv')), by rw [hE], by rw [hxt]; exact slots_put hx hrv', ?_⟩
      rw [hI]
      have hobj : relObj x.g x.s wb (l.set (gen % x.width) (some (b, rv'))) = relObj x.g x.s wb l := by rw [relObj, hsame]; rfl
      rw [hobj]
      exact HS.slotIn (A := [_, _]) hs3 hl
    · have hrows : x.rows (gen % x.width) = [] := hx.2 _ _ hl
      have hset : l.set (gen % x.width) none = l := by
        have hi : gen % x.width < l.length := (List.getElem?_eq_some_iff.1 hl).1
        have hx2 : l[gen % x.width] = none := by rw [List.getElem?_eq_getElem hi] at hl; exact Option.some.inj hl
        conv => rhs; rw [← List.set_getElem_self hi, hx2]
      have hso := slots_put (gen := gen) (rows := (insR x.g x.s (x.rows (gen % x.width)) r).2) (y := none) hx (by show _ = _; rw [hfalse, hrows])
      rw [hset] at hso hs3
      refine ⟨H, l, by rw [hE], by rw [hxt]; exact hso, ?_⟩
      rw [hI]
      exact hs3.drop 0
set_option maxRecDepth 20000 in
set_option maxHeartbeats 2000000 in
theorem rtake_ok' (rb wb gen : Nat) (rc rp : Value) (x : RelD) (l : Slots) (r : RowD) (H0 : Hp) (w0 : World) (hs : HS (Mem.keys (relMem true x rb wb l)) H0 w0 H0 (relMem true x rb wb l) w0) (hx : SlotsOk H0 x l) (hok : RelOk x) (hg : gen < 18446744073709551616) (hrc : Bytes H0 rc r.1) (hrp : Bytes H0 rp r.2) :
    Calls Tryz.prog 15 #[ptr rb, .int .u64 (gen : Int), .agg #[rc, rp]] w0 (Ret (Mem.keys (relMem true x rb wb l)) H0 w0 fun v H' M' => v = .tuple #[.bool (x.takeI gen r), .int .i64 (x.takeE gen r)] ∧ ∃ l', M' = relMem true (x.take gen r) rb wb l' ∧ SlotsOk H' (x.take gen r) l') := by
  have hle := Hp.le.refl H0
  have h00 := hs.toSub
  obtain ⟨xs, hxs⟩ : ∃ xs, xs = Mem.keys (relMem true x rb wb l) := ⟨_, rfl⟩
  rw [← hxs] at hs ⊢
  clear hxs
  obtain ⟨b1, c1, rfl⟩ := hrc.form
  obtain ⟨b2, c2, rfl⟩ := hrp.form
  refine Calls.enter (args := [ptr rb, .int .u64 (gen : Int), .agg #[.slice b1 r.1.length c1, .slice b2 r.2.length c2]]) Tryz.func15 rfl Tryz.ntmps15 rfl ?_
  refine WC.seq (WC.region (WO.step rfl (OR.box hs rfl ?_)))
  clear hs; intro g1 w hg1 hs
  refine WO.step rfl (OR.box hs rfl ?_)
  clear hs; intro g2 w hg2 hs
  refine WO.step rfl (OR.alloc hs T4 ?_)
  clear hs; intro g3 w hg3 hs
  refine WO.step rfl (OR.assign rfl (WO.done (WX.seq (WC.seq (WC.region (WO.step rfl (OR.load T34 rfl rfl (hs.cellM (i := 2) rfl rfl) ?_)))))))
  refine WO.step rfl (OR.move rfl (WO.step rfl (OR.makeFunc rfl rfl ?_)))
  replace hs := hs.front (i := 2) rfl
  obtain ⟨H, hle1, hp_g1, hs9⟩ := hs.pub1 hg1; clear hs; have hs := hs9; clear hs9; replace hle := hle.trans hle1; (try replace hlb := hlb.trans hle1)
  have hM : hcell H ⟨g1, 0, none⟩ = some (ptr rb) := hcell_of hp_g1 rfl
  replace hs := hs.front (i := 1) rfl
  obtain ⟨H, hle1, hp_g2, hs9⟩ := hs.pub1 hg2; clear hs; have hs := hs9; clear hs9; replace hle := hle.trans hle1; (try replace hlb := hlb.trans hle1)
  replace hM := hcell.mono hle1 hM
  have hW1 : hcell H ⟨g2, 0, none⟩ = some (.slice b1 r.1.length c1) := hcell_of hp_g2 rfl
  have hW2 : hcell H ⟨g2, 1, none⟩ = some (.slice b2 r.2.length c2) := hcell_of hp_g2 rfl
  have hs9 : HS xs H0 w0 H ((rb, relObj x.g x.s wb l, true) :: (wb, winObj x.base x.width, true) :: (slotMem x.g x.s true l ++ [(g3, .cells #[.bool false] 4, true)])) w := HS.mtail (A := [_]) hs
  have hdo : inWin x.base x.width gen → ∀ H2 w b rv t', Hp.le H H2 → (true = true → t' = true) → HS xs H0 w0 H2 ((b, basisObj x.g x.s rv, t') :: (rb, relObj x.g x.s wb l, true) :: (wb, winObj x.base x.width, true) :: (slotMem x.g x.s true (l.set (gen % x.width) none) ++ [(g3, .cells #[.bool false] 4, true)])) w →
      (l[gen % x.width]? = some (some (b, rv)) ∨ l[gen % x.width]? = some none) → (l[gen % x.width]? = some (some (b, rv)) → t' = true) → Rws H2 rv (x.rows (gen % x.width)) → Calls Tryz.prog 71 ([] ++ [Value.int .i64 ((gen % x.width : Nat) : Int), ptr b] ++ [ptr g2, ptr g3, ptr g1]).toArray w (takeC rb wb g3 x gen r xs H0 w0) := by
    intro hin H2 w b rv t' hl2 ht hs hl _ hr
    rw [ht rfl] at hs
    exact rtake1_ok rb wb g3 g1 g2 b gen rv (.slice b1 r.1.length c1) (.slice b2 r.2.length c2) x l r xs H0 H2 w0 w hs hin (hx.mono (hle.trans hl2)) hok hl hr ⟨hcell.mono hl2 hW1, hcell.mono hl2 hW2⟩ (hrc.mono (hle.trans hl2)) (hrp.mono (hle.trans hl2)) (hcell.mono hl2 hM)
  have hout : ¬ inWin x.base x.width gen → ∀ H2 w, Hp.le H H2 → HS xs H0 w0 H2 ((rb, relObj x.g x.s wb l, true) :: (wb, winObj x.base x.width, true) :: (slotMem x.g x.s true l ++ [(g3, .cells #[.bool false] 4, true)])) w → takeC rb wb g3 x gen r xs H0 w0 (.returned (.int .i64 23)) w := by
    intro hno H2 w hl2 hs
    refine ⟨H2, l, by rw [RelD.takeE, if_neg hno], by rw [RelD.take, if_neg hno]; exact hx.mono (hle.trans hl2), ?_⟩
    rw [RelD.takeI, decide_eq_false hno, Bool.false_and]
    exact hs
  refine WO.step rfl (OR.callW body70 rfl rfl (rat_ok rb wb 71 gen [] [ptr g2, ptr g3, ptr g1] x l true _ H0 H [_] w0 _ (takeC rb wb g3 x gen r xs H0 w0) h00 hs9 (hx.mono hle) hok hg body71 (fun e w ⟨_, _, h, _⟩ => ⟨_, h⟩) hout hdo) ?_)
  clear hs hs9
  rintro e w ⟨H, l', rfl, hso, hs⟩
  refine ⟨_, rfl, ?_⟩
  replace hs := HS.mtail (A := _ :: _ :: slotMem x.g x.s true l') (B := [_]) hs
  refine WO.step rfl (OR.assign rfl (WO.done (WX.seq (WC.seq (WC.region (WO.step rfl (OR.load T4 rfl rfl (hs.cellM (i := 0) rfl rfl) ?_)))))))
  refine WO.step rfl (OR.move rfl (WO.stepN (OR.storeAll hs T4 rfl rfl rfl rfl rfl ?_)))
  clear hs; intro w hs
  refine WO.step rfl (OR.assign rfl (WO.done (WX.seq (WC.ret ?_))))
  refine WX.retCTS T4 rfl rfl rfl rfl (hs.cellM (i := 0) rfl rfl) ?_
  have hgs : (x.take gen r).g = x.g ∧ (x.take gen r).s = x.s ∧ (x.take gen r).base = x.base ∧ (x.take gen r).width = x.width := by
    unfold RelD.take
    split <;> exact ⟨rfl, rfl, rfl, rfl⟩
  obtain ⟨e1, e2, e3, e4⟩ := hgs
  refine ⟨_, H, relMem true (x.take gen r) rb wb l', rfl, ?_, List.all_eq_true.1 (relMem_flags _ _ _ _), rfl, l', rfl, hso⟩
  unfold relMem
  rw [e1, e2, e3, e4]
  exact hs.drop 0
end Go.Bw
namespace Go.Bw
set_option linter.unusedVariables false
set_option linter.unusedSimpArgs false
open Go.Proofs

def newR (g s width : Nat) : RelD := ⟨g, s, 0, width, fun _ => []⟩
theorem newR_ok {g s width : Nat} (h : 1 ≤ g ∧ g ≤ 255 ∧ 1 ≤ s ∧ s ≤ 65535) (hw : 1 ≤ width ∧ width ≤ 16) : RelOk (newR g s width) :=
  ⟨h.1, h.2.1, h.2.2.1, h.2.2.2, hw.1, hw.2, Nat.zero_le _, fun _ => Red.nil _ _⟩
set_option maxRecDepth 20000 in
set_option maxHeartbeats 2000000 in
theorem rnew_ok (g s width : Nat) (H0 : Hp) (w0 : World) (h0 : Sub H0 w0) (h : 1 ≤ g ∧ g ≤ 255 ∧ 1 ≤ s ∧ s ≤ 65535) (hw : 1 ≤ width ∧ width ≤ 16) :
    Calls Tryz.prog 12 #[.int .i64 (g : Int), .int .i64 (s : Int), .int .i64 (width : Int)] w0 (Ret [] H0 w0 fun v H' M' => H' = H0 ∧ ∃ rb wb, v = .tuple #[ptr rb, .int .i64 0] ∧ M' = relMem true (newR g s width) rb wb (List.replicate 16 none)) := by
  have hs := HS.init h0
  have hle := Hp.le.refl H0
  refine Calls.enter (args := [.int .i64 (g : Int), .int .i64 (s : Int), .int .i64 (width : Int)]) Tryz.func12 rfl Tryz.ntmps12 rfl ?_
  refine WC.seq (WC.region (WO.step rfl (OR.assign rfl (WO.step rfl (OR.assign rfl (WO.done (WX.seq ?_)))))))
  refine WC.seq (WC.region (WO.step rfl (OR.move rfl ?_)))
  refine WO.step rfl (OR.callX (Mx := []) hs body64 rfl rfl (wnewW_ok (width : Int) _ _ hs.toSub) rfl rfl ?_)
  clear hs; rintro _ H M' w hs hle1 hnew ⟨rfl, hres⟩; replace hle := hle.trans hle1; (try replace hlb := hlb.trans hle1)
  rw [if_pos (by omega)] at hres
  obtain ⟨wb, rfl, rfl⟩ := hres
  refine WO.step rfl (OR.move rfl (WO.step rfl (OR.extract rfl rfl (WO.step rfl (OR.extract rfl rfl (WO.step rfl (OR.assign rfl ?_)))))))
  refine WO.step rfl (OR.assign rfl (WO.done (WX.seq (WC.seq (WC.seq (WC.region (WO.step rfl ?_)))))))
  refine OR.move rfl (WO.step rfl (OR.move rfl ?_))
  refine WO.step rfl (OR.callX (Mx := []) hs body65 rfl rfl (new_ok (g : Int) (s : Int) _ _ hs.toSub) rfl rfl ?_)
  clear hs; rintro _ H M' w hs hle1 hnew ⟨rfl, hres⟩; replace hle := hle.trans hle1; (try replace hlb := hlb.trans hle1)
  rw [if_pos (by omega)] at hres
  obtain ⟨bb, hbb, rfl, rfl⟩ := hres
  refine WO.step rfl (OR.move rfl (WO.step rfl (OR.extract rfl rfl (WO.step rfl (OR.extract rfl rfl (WO.step rfl (OR.assign rfl ?_)))))))
  refine WO.step rfl (OR.assign rfl (WO.done (WX.seq (WC.seq (WC.region (WO.step rfl (OR.move rfl ?_)))))))
  refine WO.step rfl (OR.neq rfl rfl (WO.step rfl (OR.move rfl ?_)))
  replace hs := hs.drop (i := 0)
  refine WO.guardYes rfl rfl rfl rfl (OR.move rfl (WO.guardYes rfl rfl rfl rfl (OR.neq rfl rfl (WO.step rfl (OR.pickF rfl rfl rfl (WO.done (WX.seq ?_)))))))
  refine WC.no rfl rfl ?_
  refine WC.skip (WX.seq (WC.seq (WC.region (WO.step rfl (OR.move rfl (WO.step rfl (OR.move rfl ?_)))))))
  refine WO.step rfl (OR.move rfl ?_)
  refine WO.step rfl (OR.build (cs := (Value.int .i64 (g : Int) :: Value.int .i64 (s : Int) :: ptr wb :: List.replicate 16 (Value.pointer none)).toArray) rfl (by intro w; kernel_rfl) ?_)
  refine WO.step rfl (OR.box hs rfl ?_)
  clear hs; intro g1 w hg1 hs
  refine WO.step rfl (OR.assign rfl (WO.step rfl (OR.assign rfl (WO.done (WX.seq (WC.ret ?_))))))
  refine WX.ret2 rfl rfl rfl ?_
  refine ⟨_, _, [_, _], rfl, hs, by simp, rfl, g1, wb, rfl, ?_⟩
  rfl
end Go.Bw
namespace Go.Bw
set_option linter.unusedVariables false
set_option linter.unusedSimpArgs false
open Go.Proofs

def RelD.sndE (x : RelD) (gen : Nat) : Int := if inWin x.base x.width gen then (if (x.rows (gen % x.width)).length = 0 then 6 else 0) else 23
/-- What is made of rows by a draw. -/
def sndR (g s : Nat) (rows : List RowD) (sent : Nat) (by_ : List UInt8) : RowD := if rows.length = 0 then ([], []) else combR g s rows (coefF rows.length (sent % rows.length) by_)
def RelD.sndF (x : RelD) (gen sent : Nat) (by_ : List UInt8) : RowD := if inWin x.base x.width gen then sndR x.g x.s (x.rows (gen % x.width)) sent by_ else ([], [])
set_option maxRecDepth 20000 in
set_option maxHeartbeats 2000000 in
theorem rsend1_ok (S D gn b g s sent : Nat) (v0 rv vd : Value) (by_ : List UInt8) (rows : List RowD) (t : Bool) (xs : List Nat) (H0 H1 : Hp) (w0 w1 : World) (hs : HS xs H0 w0 H1 [(gn, .cells #[.slice none 0 0, .slice none 0 0] 45, true), (b, basisObj g s rv, t)] w1) (hg : 0 < g) (hg2 : g ≤ 255) (hs2 : s ≤ 65535) (hr : Rws H1 rv rows) (hred : Red g s rows)
    (hS : hcell H1 ⟨S, 0, none⟩ = some (.int .u64 (sent : Int))) (hD : hcell H1 ⟨D, 0, none⟩ = some vd) (hby : Bytes H1 vd by_) (hsent : sent < 18446744073709551616) :
    Calls Tryz.prog 201 #[v0, ptr b, ptr S, ptr D, ptr gn] w1 (fun e w' => ∃ H' r1 r2, e = .returned (.int .i64 (if rows.length = 0 then 6 else 0)) ∧ HS xs H0 w0 H' [(gn, .cells #[r1, r2] 45, true)] w' ∧ Bytes H' r1 (sndR g s rows sent by_).1 ∧ Bytes H' r2 (sndR g s rows sent by_).2) := by
  have hle := Hp.le.refl H1
  obtain ⟨q1, q2, q3⟩ := Red.forB hred hg2
  refine Calls.enter (args := [v0, ptr b, ptr S, ptr D, ptr gn]) Tryz.func201 rfl Tryz.ntmps201 rfl ?_
  refine WC.seq (WC.region (WO.step rfl (OR.assign rfl (WO.done (WX.seq (WC.seq (WC.region ?_)))))))
  refine WO.step rfl (OR.move rfl ?_)
  refine WO.step rfl (OR.call hs body93 rfl rfl (rank_ok b g s rv rows _ _ hs.toSub (hs.blk (i := 1) rfl) (hs.nh (i := 1) rfl) hg hr) ?_)
  clear hs; rintro _ H w hs hle1 rfl; replace hle := hle.trans hle1; (try replace hlb := hlb.trans hle1)
  refine WO.step rfl (OR.assign rfl (WO.done (WX.seq (WC.seq (WC.seq (WC.region (WO.step rfl ?_)))))))
  refine OR.move rfl (WO.step rfl (OR.eql rfl rfl (WO.done (WX.seq ?_))))
  refine WC.condD rfl (fun h0 => ?_) (fun h0 => ?_)
  · refine WC.seq (WC.region (WO.step rfl (OR.assign rfl (WO.done (WX.seq (WC.ret (WX.seq_ret ?_)))))))
    refine WX.ret1 rfl rfl ?_
    have h0' : rows.length = 0 := by omega
    refine ⟨H, _, _, by rw [if_pos h0'], hs.drop 1, ?_, ?_⟩
    · rw [sndR, if_pos h0']; exact Sl.empty _ _ _
    · rw [sndR, if_pos h0']; exact Sl.empty _ _ _
  · have h0' : ¬ rows.length = 0 := by omega
    refine WC.skip (WX.seq (WC.seq (WC.region ?_)))
    refine WO.step rfl (OR.load T22 rfl rfl (hs.cell (hcell.mono hle hS)) ?_)
    refine WO.step rfl (OR.move rfl ?_)
    refine WO.step rfl (OR.call hs body202 rfl rfl (turn_ok sent rows.length _ _ hs.toSub (by omega) hsent) ?_)
    clear hs; rintro _ H w hs hle1 rfl; replace hle := hle.trans hle1; (try replace hlb := hlb.trans hle1)
    refine WO.step rfl (OR.move rfl (WO.step rfl (OR.extract rfl rfl (WO.step rfl (OR.extract rfl rfl (WO.step rfl (OR.assign rfl ?_)))))))
    refine WO.step rfl (OR.assign rfl (WO.done (WX.seq (WC.seq (WC.region ?_)))))
    refine WO.step rfl (OR.load T43 rfl rfl (hs.cell (hcell.mono hle hD)) ?_)
    refine WO.step rfl (OR.move rfl (WO.step rfl (OR.move rfl ?_)))
    refine WO.step rfl (OR.call hs body203 rfl rfl (coefs_ok vd by_ rows.length (sent % rows.length) _ _ hs.toSub (hby.mono hle) (by omega) (Nat.mod_lt _ (by omega))) ?_)
    clear hs; rintro _ H w hs hle1 ⟨rc, rfl, hrc⟩
    replace hle := hle.trans hle1
    refine WO.step rfl (OR.move rfl (WO.step rfl (OR.extract rfl rfl (WO.step rfl (OR.extract rfl rfl (WO.step rfl (OR.assign rfl ?_)))))))
    refine WO.step rfl (OR.assign rfl (WO.done (WX.seq (WC.seq (WC.region (WO.step rfl (OR.move rfl ?_)))))))
    refine WO.step rfl (OR.move rfl ?_)
    refine WO.step rfl (OR.call hs body204 rfl rfl (combineB_ok rows rv rc (coefF rows.length (sent % rows.length) by_) b g s _ _ hs.toSub (hs.blk (i := 1) rfl) (hs.nh (i := 1) rfl) (Rws.mono hr hle) hrc q1 hg hg2 hs2 q3) ?_)
    clear hs; rintro _ H w hs hle1 ⟨rr, rfl, hrr⟩
    rw [if_pos (coefF_len _ _ _)] at hrr
    rw [if_pos (coefF_len _ _ _)]
    obtain ⟨r1, r2, rfl, hb1, hb2⟩ := hrr
    obtain ⟨b1, c1, hf1⟩ := hb1.form
    obtain ⟨b2, c2, hf2⟩ := hb2.form
    subst hf1 hf2
    refine WO.step rfl (OR.move rfl (WO.step rfl (OR.extract rfl rfl (WO.step rfl (OR.extract rfl rfl (WO.stepN (OR.storeAll hs T45 rfl rfl rfl rfl rfl ?_)))))))
    clear hs; intro w hs
    refine WO.step rfl (OR.assign rfl (WO.done (WX.seq (WC.seq (WC.region (WO.step rfl (OR.move rfl ?_)))))))
    refine WO.step rfl (OR.assign rfl (WO.done (WX.seq (WC.ret ?_))))
    refine WX.ret1 rfl rfl ?_
    refine ⟨H, _, _, by rw [if_neg h0'], hs.drop 1, ?_, ?_⟩
    · rw [sndR, if_neg h0']; exact hb1
    · rw [sndR, if_neg h0']; exact hb2
set_option maxRecDepth 20000 in
set_option maxHeartbeats 2000000 in
theorem rsend_ok (rb wb gen sent : Nat) (vd : Value) (by_ : List UInt8) (x : RelD) (l : Slots) (H0 : Hp) (w0 : World) (hs : HS [] H0 w0 H0 (relMem false x rb wb l) w0) (hx : SlotsOk H0 x l) (hok : RelOk x) (hg : gen < 18446744073709551616) (hby : Bytes H0 vd by_) (hsent : sent < 18446744073709551616) :
    Calls Tryz.prog 200 #[ptr rb, .int .u64 (gen : Int), .int .u64 (sent : Int), vd] w0 (Pure H0 w0 fun v H' => ∃ r1 r2, v = .tuple #[.agg #[r1, r2], .int .i64 (x.sndE gen)] ∧ Bytes H' r1 (x.sndF gen sent by_).1 ∧ Bytes H' r2 (x.sndF gen sent by_).2) := by
  have hle := Hp.le.refl H0
  have h00 := hs.toSub
  obtain ⟨bd, cd, hfd⟩ := hby.form
  subst hfd
  refine Calls.enter (args := [ptr rb, .int .u64 (gen : Int), .int .u64 (sent : Int), .slice bd by_.length cd]) Tryz.func200 rfl Tryz.ntmps200 rfl ?_
  refine WC.seq (WC.region (WO.step rfl (OR.box hs rfl ?_)))
  clear hs; intro g1 w hg1 hs
  refine WO.step rfl (OR.box hs rfl ?_)
  clear hs; intro g2 w hg2 hs
  refine WO.step rfl (OR.alloc hs T45 ?_)
  clear hs; intro g3 w hg3 hs
  refine WO.step rfl (OR.assign rfl (WO.done (WX.seq (WC.seq (WC.region (WO.step rfl (OR.move rfl ?_)))))))
  refine WO.step rfl (OR.move rfl (WO.step rfl (OR.makeFunc rfl rfl ?_)))
  replace hs := hs.front (i := 2) rfl
  obtain ⟨H, hle1, hp_g1, hs9⟩ := hs.pub1 hg1; clear hs; have hs := hs9; clear hs9; replace hle := hle.trans hle1; (try replace hlb := hlb.trans hle1)
  have hS : hcell H ⟨g1, 0, none⟩ = some (.int .u64 (sent : Int)) := hcell_of hp_g1 rfl
  replace hs := hs.front (i := 1) rfl
  obtain ⟨H, hle1, hp_g2, hs9⟩ := hs.pub1 hg2; clear hs; have hs := hs9; clear hs9; replace hle := hle.trans hle1; (try replace hlb := hlb.trans hle1)
  replace hS := hcell.mono hle1 hS
  have hD : hcell H ⟨g2, 0, none⟩ = some (.slice bd by_.length cd) := hcell_of hp_g2 rfl
  have hs9 := HS.mtail (A := [_]) hs
  have hby2 := hby.mono hle
  have hdo : inWin x.base x.width gen → ∀ H2 w b rv t', Hp.le H H2 → (false = true → t' = true) → HS [] H0 w0 H2 ((b, basisObj x.g x.s rv, t') :: (rb, relObj x.g x.s wb l, false) :: (wb, winObj x.base x.width, false) :: (slotMem x.g x.s false (l.set (gen % x.width) none) ++ [(g3, .cells #[.slice none 0 0, .slice none 0 0] 45, true)])) w →
      (l[gen % x.width]? = some (some (b, rv)) ∨ l[gen % x.width]? = some none) → (l[gen % x.width]? = some (some (b, rv)) → t' = false) → Rws H2 rv (x.rows (gen % x.width)) → Calls Tryz.prog 201 ([] ++ [Value.int .i64 ((gen % x.width : Nat) : Int), ptr b] ++ [ptr g1, ptr g2, ptr g3]).toArray w
        (fun e w' => ∃ H' r1 r2, e = .returned (.int .i64 (x.sndE gen)) ∧ HS [] H0 w0 H' [(g3, .cells #[r1, r2] 45, true)] w' ∧ Bytes H' r1 (x.sndF gen sent by_).1 ∧ Bytes H' r2 (x.sndF gen sent by_).2) := by
    intro hin H2 w b rv t' hl2 _ hs _ _ hr
    refine (rsend1_ok g1 g2 g3 b x.g x.s sent _ rv _ by_ _ t' [] H0 H2 w0 w (HS.pick2 (A := _ :: _ :: _) hs) hok.g1 hok.g2 hok.s2 hr (hok.red _) (hcell.mono hl2 hS) (hcell.mono hl2 hD) (hby2.mono hl2) hsent).mono ?_
    rintro e w' ⟨H', r1, r2, h1, h2, h3, h4⟩
    exact ⟨H', r1, r2, by rw [RelD.sndE, if_pos hin]; exact h1, h2, by rw [RelD.sndF, if_pos hin]; exact h3, by rw [RelD.sndF, if_pos hin]; exact h4⟩
  have hout : ¬ inWin x.base x.width gen → ∀ H2 w, Hp.le H H2 → HS [] H0 w0 H2 ((rb, relObj x.g x.s wb l, false) :: (wb, winObj x.base x.width, false) :: (slotMem x.g x.s false l ++ [(g3, .cells #[.slice none 0 0, .slice none 0 0] 45, true)])) w →
      (∃ H' r1 r2, (.returned (.int .i64 23) : Ending) = .returned (.int .i64 (x.sndE gen)) ∧ HS [] H0 w0 H' [(g3, .cells #[r1, r2] 45, true)] w ∧ Bytes H' r1 (x.sndF gen sent by_).1 ∧ Bytes H' r2 (x.sndF gen sent by_).2) := by
    intro hno H2 w hl2 hs
    exact ⟨H2, .slice none 0 0, .slice none 0 0, by rw [RelD.sndE, if_neg hno], HS.last1 (A := _ :: _ :: _) hs, by rw [RelD.sndF, if_neg hno]; exact Sl.empty _ _ _, by rw [RelD.sndF, if_neg hno]; exact Sl.empty _ _ _⟩
  refine WO.step rfl (OR.callW body70 rfl rfl (rat_ok rb wb 201 gen [] [ptr g1, ptr g2, ptr g3] x l false [] H0 H [_] w0 _ (fun e w' => ∃ H' r1 r2, e = .returned (.int .i64 (x.sndE gen)) ∧ HS [] H0 w0 H' [(g3, .cells #[r1, r2] 45, true)] w' ∧ Bytes H' r1 (x.sndF gen sent by_).1 ∧ Bytes H' r2 (x.sndF gen sent by_).2) h00 hs9 (hx.mono hle) hok hg body201 (fun e w ⟨_, _, _, h, _⟩ => ⟨_, h⟩) hout hdo) ?_)
  clear hs hs9
  rintro e w ⟨H, r1, r2, rfl, hs, hb1, hb2⟩
  refine ⟨_, rfl, ?_⟩
  obtain ⟨b1, c1, hf1⟩ := hb1.form
  obtain ⟨b2, c2, hf2⟩ := hb2.form
  subst hf1 hf2
  refine WO.step rfl (OR.assign rfl (WO.done (WX.seq (WC.seq (WC.region (WO.step rfl (OR.loadAll T45 rfl rfl (hs.blk (i := 0) rfl) rfl ?_)))))))
  refine WO.step rfl (OR.move rfl (WO.stepN (OR.storeAll hs T45 rfl rfl rfl rfl rfl ?_)))
  clear hs; intro w hs
  refine WO.step rfl (OR.assign rfl (WO.done (WX.seq (WC.ret ?_))))
  refine WX.retCT T45 rfl rfl rfl rfl rfl (hs.blk (i := 0) rfl) ?_
  exact .mk (hs.drop 0) ⟨_, _, rfl, hb1, hb2⟩
end Go.Bw
