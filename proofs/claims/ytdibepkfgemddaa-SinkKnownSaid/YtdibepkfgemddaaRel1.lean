/- A relay: what is done with a generation. -/
import Derived.Test.YtdibepkfgemddaaWin3
import Derived.Test.YtdibepkfgemddaaDrawL
namespace Go.Bw
set_option linter.unusedVariables false
set_option linter.unusedSimpArgs false
open Go.Proofs

set_option maxRecDepth 20000 in
set_option maxHeartbeats 2000000 in
theorem rnone_ok (rb g s wb : Nat) (l : Slots) (H0 : Hp) (w0 : World) (h0 : Sub H0 w0) (hb : w0.heap[rb]? = some (relObj g s wb l)) (hn : H0 rb = none) : Calls Try.prog 61 #[ptr rb] w0 (Pure H0 w0 fun v _ => v = .bool false) := by
  have hs := HS.startR h0 hb hn
  refine Calls.enter (args := [ptr rb]) Try.func61 rfl Try.ntmps61 rfl ?_
  refine WC.seq (WC.region (WO.step rfl (OR.assign rfl (WO.done (WX.seq (WC.seq (WC.region ?_)))))))
  refine WO.step rfl (OR.move rfl (WO.step rfl (OR.eqlNilP T28.und rfl rfl (WO.step rfl (OR.move rfl (WO.guardYes rfl rfl rfl rfl (OR.move rfl ?_)))))))
  refine WO.guardYes rfl rfl rfl rfl (OR.nilCheck rfl (WO.guardYes rfl rfl rfl rfl (OR.fieldAddr FA73_2 rfl (WO.guardYes rfl rfl rfl rfl (OR.load T65 rfl rfl (hs.cellM (i := 0) rfl rfl) (WO.guardYes rfl rfl rfl rfl (OR.eqlNilP T65.und rfl rfl ?_)))))))
  refine WO.step rfl (OR.pickF rfl rfl rfl (WO.step rfl (OR.assign rfl (WO.done (WX.seq (WC.ret ?_))))))
  refine WX.ret1 rfl rfl ?_
  exact .mk (hs.drop 0) rfl

def MF.newB (N : Nat) (Hb : Hp) (g s : Nat) (f : Value → Value) : MF := MF.of (fun v H => ∃ b, N ≤ b ∧ Hb b = none ∧ v = f (.pointer (some ⟨b, 0, none⟩)) ∧ H b = some (basisObj g s (.slice none 0 0))) fun _ _ _ hle ⟨b, h1, h2, h3, h4⟩ => ⟨b, h1, h2, h3, hle _ _ h4⟩
set_option maxRecDepth 20000 in
set_option maxHeartbeats 2000000 in
theorem rat_ok (rb wb f gen : Nat) (first cap : List Value) (x : RelD) (l : Slots) (t : Bool) (xs : List Nat) (H0 H1 : Hp) (Mr : Mem) (w0 w1 : World) (C : Ending → World → Prop) (h00 : Sub H0 w0)
    (hs : HS xs H0 w0 H1 ((rb, relObj x.g x.s wb l, t) :: (wb, winObj x.base x.width, t) :: (slotMem x.g x.s t l ++ Mr)) w1) (hx : SlotsOk H1 x l) (hok : RelOk x) (hg : gen < 18446744073709551616) (hb : Body Try.prog f)
    (hC : ∀ e w, C e w → ∃ i : Int, e = .returned (.int .i64 i))
    (hout : ¬ inWin x.base x.width gen → ∀ H w, Hp.le H1 H → HS xs H0 w0 H ((rb, relObj x.g x.s wb l, t) :: (wb, winObj x.base x.width, t) :: (slotMem x.g x.s t l ++ Mr)) w → C (.returned (.int .i64 23)) w)
    (hdo : inWin x.base x.width gen → ∀ H w b rv t', Hp.le H1 H → (t = true → t' = true) → HS xs H0 w0 H ((b, basisObj x.g x.s rv, t') :: (rb, relObj x.g x.s wb l, t) :: (wb, winObj x.base x.width, t) :: (slotMem x.g x.s t (l.set (gen % x.width) none) ++ Mr)) w →
      (l[gen % x.width]? = some (some (b, rv)) ∨ l[gen % x.width]? = some none) → (l[gen % x.width]? = some (some (b, rv)) → t' = t) → Rws H rv (x.rows (gen % x.width)) → Calls Try.prog f (first ++ [.int .i64 ((gen % x.width : Nat) : Int), ptr b] ++ cap).toArray w C) :
    Calls Try.prog 35 #[ptr rb, .int .u64 (gen : Int), .func (.func f) first.toArray cap.toArray] w1 C := by
  have hle := Hp.le.refl H1
  have hw16 := hok.w2
  have hw1 := hok.w1
  have hsl := hok.slot gen
  obtain ⟨h16, hx⟩ := hx
  refine Calls.enter (args := [ptr rb, .int .u64 (gen : Int), .func (.func f) first.toArray cap.toArray]) Try.func35 rfl Try.ntmps35 rfl ?_
  refine WC.seq (WC.region (WO.step rfl (OR.assign rfl (WO.done (WX.seq (WC.seq (WC.seq ?_)))))))
  refine WC.region (WO.step rfl (OR.move rfl ?_))
  refine WO.step rfl (OR.call hs body61 rfl rfl (rnone_ok rb x.g x.s wb l _ _ hs.toSub (hs.blk (i := 0) rfl) (hs.nh (i := 0) rfl)) ?_)
  clear hs; rintro _ H w hs hle1 rfl; replace hle := hle.trans hle1; (try replace hlb := hlb.trans hle1)
  refine WO.done (WX.seq ?_)
  refine WC.no rfl rfl ?_
  refine WC.skip (WX.seq (WC.seq (WC.region (WO.step rfl (OR.move rfl (WO.step rfl (OR.nilCheck rfl ?_)))))))
  refine WO.step rfl (OR.fieldAddr FA73_2 rfl (WO.step rfl (OR.load T65 rfl rfl (hs.cellM (i := 0) rfl rfl) (WO.step rfl (OR.move rfl ?_)))))
  refine WO.step rfl (OR.call hs body62 rfl rfl (wslot_ok wb x.base x.width _ _ gen hs.toSub (hs.blk (i := 1) rfl) (hs.nh (i := 1) rfl) hok.b hw16 hw1 hg) ?_)
  clear hs; rintro _ H w hs hle1 rfl; replace hle := hle.trans hle1; (try replace hlb := hlb.trans hle1)
  refine WO.step rfl (OR.move rfl (WO.step rfl (OR.extract rfl rfl (WO.step rfl (OR.extract rfl rfl (WO.step rfl (OR.assign rfl ?_)))))))
  refine WO.step rfl (OR.assign rfl (WO.done (WX.seq (WC.seq (WC.seq (WC.region (WO.step rfl ?_)))))))
  refine OR.move rfl (WO.step rfl (OR.neq rfl rfl (WO.done (WX.seq ?_))))
  by_cases hin : inWin x.base x.width gen
  · rw [if_pos hin, if_pos hin]
    refine WC.no rfl (decide_eq_false (by decide)) ?_
    have hget : ∃ y, l[gen % x.width]? = some y := ⟨_, List.getElem?_eq_getElem (by omega)⟩
    obtain ⟨y, hy⟩ := hget
    have hnth := nth_slots (.int .i64 (x.g : Int)) (.int .i64 (x.s : Int)) (ptr wb) l _ y hy
    refine WC.skip (WX.seq (WC.seq (WC.region (WO.step rfl (OR.move rfl (WO.step rfl (OR.move rfl ?_)))))))
    refine WO.step rfl (OR.nilCheck rfl (WO.step rfl (OR.fieldAddr FA73_3 rfl ?_)))
    refine WO.step rfl (OR.idxArr (gen % x.width) T71.und T68 rfl rfl rfl (by omega) ?_)
    refine WO.step rfl (OR.load T68 rfl rfl (hs.cellM (i := 0) rfl (by rw [Nat.zero_add]; exact hnth)) ?_)
    have hslot := hx _ _ hy
    cases y with
    | none =>
      refine WO.step rfl (OR.assign rfl (WO.done (WX.seq (WC.seq (WC.seq (WC.region (WO.step rfl ?_)))))))
      refine OR.move rfl (WO.step rfl (OR.eqlNilP T68.und rfl rfl (WO.done (WX.seq ?_))))
      refine WC.yes rfl rfl ?_
      have hlb := Hp.le.refl H
      refine WC.drawL 12 11 mixed hs (by kernel_rfl) ?_
      refine ⟨MF.eq _, by intro Mx H w hle hs; refine forVals_nil (ORg.plain (OR.move rfl ?_)); exact ⟨_, [], Hp.le.refl _, hs, rfl, rfl⟩, ?_⟩
      refine ⟨MF.eq _, by intro Mx H w hle hs; refine forVals_eq rfl rfl rfl ?_; refine forVals_nil (ORg.plain (OR.nilCheck rfl ?_)); exact ⟨_, [], Hp.le.refl _, hs, rfl, rfl⟩, ?_⟩
      refine ⟨MF.eq _, by intro Mx H w hle hs; refine forVals_eq rfl rfl rfl ?_; refine forVals_nil (ORg.plain (OR.fieldAddr FA73_0 rfl ?_)); exact ⟨_, [], Hp.le.refl _, hs, rfl, rfl⟩, ?_⟩
      refine ⟨MF.eq _, by intro Mx H w hle hs; refine forVals_eq rfl rfl rfl ?_; refine forVals_nil (ORg.plain (OR.load T3 rfl rfl (hs.right.cellM (i := 0) rfl rfl) ?_)); exact ⟨_, [], Hp.le.refl _, hs, rfl, rfl⟩, ?_⟩
      refine ⟨MF.eq _, by intro Mx H w hle hs; refine forVals_nil (ORg.plain (OR.move rfl ?_)); exact ⟨_, [], Hp.le.refl _, hs, rfl, rfl⟩, ?_⟩
      refine ⟨MF.eq _, by intro Mx H w hle hs; refine forVals_eq rfl rfl rfl ?_; refine forVals_nil (ORg.plain (OR.nilCheck rfl ?_)); exact ⟨_, [], Hp.le.refl _, hs, rfl, rfl⟩, ?_⟩
      refine ⟨MF.eq _, by intro Mx H w hle hs; refine forVals_eq rfl rfl rfl ?_; refine forVals_nil (ORg.plain (OR.fieldAddr FA73_1 rfl ?_)); exact ⟨_, [], Hp.le.refl _, hs, rfl, rfl⟩, ?_⟩
      refine ⟨MF.eq _, by intro Mx H w hle hs; refine forVals_eq rfl rfl rfl ?_; refine forVals_nil (ORg.plain (OR.load T3 rfl rfl (hs.right.cellM (i := 0) rfl rfl) ?_)); exact ⟨_, [], Hp.le.refl _, hs, rfl, rfl⟩, ?_⟩
      refine ⟨MF.newB w0.heap.size H1 x.g x.s (fun v => .tuple #[v, .int .i64 0]), ?_, ?_⟩
      · intro Mx H w hle2 hs; (try replace hle := hle.trans hle2); (try replace hlb := hlb.trans hle2); refine forVals_eq rfl rfl rfl ?_; refine forVals_eq rfl rfl rfl ?_
        have hsz := hs.size
        have hdom : ∀ q, w.heap.size ≤ q → H1 q = none := fun q hq => by
          cases hh : H1 q with
          | none => rfl
          | some u => have := lt_of_heap (hs.sub q u (hle _ _ hh)); omega
        refine forVals_nil (ORg.plain (OR.callX (Mx := []) hs body32 rfl rfl (new_ok (x.g : Int) (x.s : Int) _ _ hs.toSub) rfl rfl ?_))
        clear hs; rintro v H3 M3 w hs hle3 hnew ⟨rfl, hc⟩
        rw [if_pos (by have h1 := hok.g1; have h2 := hok.g2; have h3 := hok.s1; have h4 := hok.s2; omega)] at hc
        obtain ⟨b, hb1, rfl, rfl⟩ := hc
        obtain ⟨H4, hle4, hp, hs⟩ := HS.pub1 hs (Nat.le_trans hsz hb1)
        exact ⟨_, [], hle4, hs, ⟨b, Nat.le_trans hsz hb1, hdom b hb1, rfl, hp⟩, rfl⟩
      refine ⟨MF.newB w0.heap.size H1 x.g x.s (fun v => .tuple #[v, .int .i64 0]), ?_, ?_⟩
      · intro Mx H w hle2 hs; (try replace hle := hle.trans hle2); (try replace hlb := hlb.trans hle2); refine forVals_of rfl rfl rfl ?_; intro v8 h8
        refine forVals_nil (ORg.plain (OR.move rfl ?_))
        exact ⟨_, [], Hp.le.refl _, hs, h8, rfl⟩
      refine ⟨MF.newB w0.heap.size H1 x.g x.s (fun v => v), ?_, ?_⟩
      · intro Mx H w hle2 hs; (try replace hle := hle.trans hle2); (try replace hlb := hlb.trans hle2); refine forVals_of rfl rfl rfl ?_; intro v9 h9
        obtain ⟨b, hb1, hb2, rfl, hb3⟩ := h9
        refine forVals_nil (ORg.plain (OR.extract rfl rfl ?_))
        exact ⟨_, [], Hp.le.refl _, hs, ⟨b, hb1, hb2, rfl, hb3⟩, rfl⟩
      refine ⟨MF.eq (.int .i64 0), ?_, ?_⟩
      · intro Mx H w hle2 hs; (try replace hle := hle.trans hle2); (try replace hlb := hlb.trans hle2); refine forVals_of rfl rfl rfl ?_; intro v9 h9
        obtain ⟨b, hb1, hb2, rfl, hb3⟩ := h9
        refine forVals_nil (ORg.plain (OR.extract rfl rfl ?_))
        exact ⟨_, [], Hp.le.refl _, hs, rfl, rfl⟩
      intro H w hle2; (try replace hle := hle.trans hle2); (try replace hlb := hlb.trans hle2)
      refine forAllVals_eq rfl ?_
      refine forAllVals_eq rfl ?_
      refine forAllVals_eq rfl ?_
      refine forAllVals_eq rfl ?_
      refine forAllVals_eq rfl ?_
      refine forAllVals_eq rfl ?_
      refine forAllVals_eq rfl ?_
      refine forAllVals_eq rfl ?_
      refine forAllVals_of rfl ?_; intro v8 h8
      refine forAllVals_of rfl ?_; intro v9 h9
      refine forAllVals_of rfl ?_; intro v10 h10
      refine forAllVals_eq rfl ?_
      refine forAllVals_nil ?_; (try clear hs); intro hs
      obtain ⟨b, hb1, hb2, rfl, hb3⟩ := h10
      have hs2 := HS.unpub h00 hs hb3 hb1
      rw [show slotMem x.g x.s t l = slotMem x.g x.s t (l.set (gen % x.width) none) from by
        congr 1
        have hi : gen % x.width < l.length := (List.getElem?_eq_some_iff.1 hy).1
        have hx2 : l[gen % x.width] = none := by rw [List.getElem?_eq_getElem hi] at hy; exact Option.some.inj hy
        conv => lhs; rw [← List.set_getElem_self hi, hx2]] at hs2
      have hrows : x.rows (gen % x.width) = [] := hslot
      refine WO.step rfl (OR.assign rfl (WO.done (WX.seq (WC.seq (WC.region (WO.step rfl (OR.move rfl ?_)))))))
      refine WO.step rfl (OR.move rfl (WO.step rfl (OR.move rfl ?_)))
      refine WO.step rfl (OR.callW hb rfl rfl (hdo hin _ _ b (.slice none 0 0) true (Hp.le_del hle hb2) (fun _ => rfl) hs2 (.inr hy) (fun h => by rw [hy] at h; cases h) (by rw [hrows]; exact ⟨[], Sl.nil _ _, rfl, fun i h => by simp at h⟩)) ?_)
      intro e w hCe
      obtain ⟨i, rfl⟩ := hC e w hCe
      refine ⟨_, rfl, ?_⟩
      refine WO.step rfl (OR.assign rfl (WO.done (WX.seq (WC.ret ?_))))
      refine WX.ret1 rfl rfl ?_
      exact hCe
    | some p =>
      obtain ⟨b, rv⟩ := p
      refine WO.step rfl (OR.assign rfl (WO.done (WX.seq (WC.seq (WC.seq (WC.region (WO.step rfl ?_)))))))
      refine OR.move rfl (WO.step rfl (OR.eqlNilP T68.und rfl rfl (WO.done (WX.seq ?_))))
      refine WC.no rfl rfl ?_
      have hs2 := HS.slotOut (A := [_, _]) hs hy
      refine WC.skip (WX.seq (WC.seq (WC.region (WO.step rfl (OR.move rfl (WO.step rfl (OR.move rfl ?_)))))))
      refine WO.step rfl (OR.move rfl ?_)
      refine WO.step rfl (OR.callW hb rfl rfl (hdo hin _ _ b rv t hle id hs2 (.inl hy) (fun _ => rfl) (Rws.mono hslot hle)) ?_)
      intro e w hCe
      obtain ⟨i, rfl⟩ := hC e w hCe
      refine ⟨_, rfl, ?_⟩
      refine WO.step rfl (OR.assign rfl (WO.done (WX.seq (WC.ret ?_))))
      refine WX.ret1 rfl rfl ?_
      exact hCe
  · rw [if_neg hin, if_neg hin]
    refine WC.yes rfl (decide_eq_true (by decide)) ?_
    refine WC.seq (WC.region (WO.step rfl (OR.assign rfl (WO.done (WX.seq (WC.ret (WX.seq_ret ?_)))))))
    refine WX.ret1 rfl rfl ?_
    exact hout hin _ _ hle hs
end Go.Bw
