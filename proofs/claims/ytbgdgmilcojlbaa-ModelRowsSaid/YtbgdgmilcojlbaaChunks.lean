/- Parting a stream. -/
import Derived.Test.YtbgdgmilcojlbaaSrc1
import Derived.Test.YtbgdgmilcojlbaaOps5
namespace Go.Bw
set_option linter.unusedVariables false
set_option linter.unusedSimpArgs false
open Go.Proofs

/-- n whole pieces from a place on. -/
def wholeL (room : Nat) (st : List UInt8) (a n : Nat) : List (List UInt8) := (List.range n).map fun k => (st.drop (a + k * room)).take room
theorem wholeL_succ (room : Nat) (st : List UInt8) (a n : Nat) : wholeL room st a (n + 1) = wholeL room st a n ++ [(st.drop (a + n * room)).take room] := by
  simp [wholeL, List.range_succ]
def cutPiece (st : List UInt8) (a cut : Nat) : List (List UInt8) := if a < cut then [(st.drop a).take (cut - a)] else []
/-- What a cut makes of the pieces, and of the place. -/
def chunkStep (room : Nat) (st : List UInt8) (p : List (List UInt8) × Nat) (cut : Int) : List (List UInt8) × Nat :=
  (p.1 ++ wholeL room st p.2 ((cut.toNat - p.2) / room) ++ cutPiece st (p.2 + (cut.toNat - p.2) / room * room) cut.toNat, cut.toNat)
def cutsOk (n : Nat) : Int → List Int → Bool
  | _, [] => true
  | last, c :: cs => decide (last ≤ c) && decide (c ≤ (n : Int)) && cutsOk n c cs
def chunkP (room : Nat) (st : List UInt8) (cuts : List Int) : List (List UInt8) × Nat := cuts.foldl (chunkStep room st) ([], 0)
def chunksF (room : Nat) (st : List UInt8) (cuts : List Int) : List (List UInt8) :=
  (chunkP room st cuts).1 ++ wholeL room st (chunkP room st cuts).2 ((st.length - (chunkP room st cuts).2) / room)
def openF (room : Nat) (st : List UInt8) (cuts : List Int) : List UInt8 :=
  st.drop ((chunkP room st cuts).2 + (st.length - (chunkP room st cuts).2) / room * room)

set_option maxRecDepth 20000 in
set_option maxHeartbeats 2000000 in
theorem room_ok (g s : Int) (H0 : Hp) (w0 : World) (h0 : Sub H0 w0) :
    Calls Try.prog 141 #[.int .i64 g, .int .i64 s] w0 (Pure H0 w0 fun v _ => v = if 1 ≤ g ∧ g ≤ 255 ∧ 1 ≤ s ∧ s ≤ 65535 ∧ 4 < g * s then .tuple #[.int .i64 (g * s - 4), .int .i64 0] else .tuple #[.int .i64 0, .int .i64 1]) := by
  have hs := HS.init h0
  refine Calls.enter (args := [.int .i64 g, .int .i64 s]) Try.func141 rfl Try.ntmps141 rfl ?_
  refine WC.seq (WC.region (WO.step rfl (OR.assign rfl (WO.step rfl (OR.assign rfl (WO.done (WX.seq ?_)))))))
  refine WC.seq (WC.seq (WC.region (WO.step rfl (OR.move rfl (WO.step rfl (OR.lss rfl rfl (WO.step rfl ?_)))))))
  refine OR.move rfl ?_
  refine WO.guardSplit (j := 2) rfl (fun q1 => ?_) (fun q1 => ?_)
  · refine WO.guardNo rfl (decide_eq_true q1) rfl rfl (WO.guardNo rfl (decide_eq_true q1) rfl rfl (WO.step rfl (OR.pickT rfl (decide_eq_true q1) rfl (WO.step rfl (OR.move rfl (WO.guardNo rfl rfl rfl rfl (WO.guardNo rfl rfl rfl rfl ?_)))))))
    refine WO.step rfl (OR.pickT rfl rfl rfl (WO.step rfl (OR.move rfl (WO.guardNo rfl rfl rfl rfl (WO.guardNo rfl rfl rfl rfl (WO.step rfl (OR.pickT rfl rfl rfl ?_)))))))
    refine WO.step rfl (OR.move rfl (WO.guardNo rfl rfl rfl rfl (WO.guardNo rfl rfl rfl rfl (WO.guardNo rfl rfl rfl rfl (WO.guardNo rfl rfl rfl rfl (WO.step rfl (OR.pickT rfl rfl rfl ?_)))))))
    refine WO.done (WX.seq (WC.yes rfl rfl (WC.seq (WC.region (WO.step rfl (OR.assign rfl (WO.step rfl ?_)))))))
    refine OR.assign rfl (WO.done (WX.seq (WC.ret (WX.seq_ret ?_))))
    refine WX.ret2 rfl rfl rfl ?_
    exact .mk hs (by rw [if_neg (by omega)])
  · refine WO.guardYes rfl (decide_eq_false q1) rfl rfl (OR.move rfl (WO.guardYes rfl (decide_eq_false q1) rfl rfl (OR.gtr rfl rfl (WO.step rfl (OR.pickF rfl (decide_eq_false q1) rfl (WO.step rfl (OR.move rfl ?_)))))))
    refine WO.guardSplit (j := 6) rfl (fun q2 => ?_) (fun q2 => ?_)
    · refine WO.guardNo rfl (decide_eq_true q2) rfl rfl (WO.guardNo rfl (decide_eq_true q2) rfl rfl (WO.step rfl (OR.pickT rfl (decide_eq_true q2) rfl (WO.step rfl (OR.move rfl (WO.guardNo rfl rfl rfl rfl (WO.guardNo rfl rfl rfl rfl ?_)))))))
      refine WO.step rfl (OR.pickT rfl rfl rfl (WO.step rfl (OR.move rfl (WO.guardNo rfl rfl rfl rfl (WO.guardNo rfl rfl rfl rfl (WO.guardNo rfl rfl rfl rfl (WO.guardNo rfl rfl rfl rfl ?_)))))))
      refine WO.step rfl (OR.pickT rfl rfl rfl (WO.done (WX.seq (WC.yes rfl rfl (WC.seq (WC.region (WO.step rfl ?_)))))))
      refine OR.assign rfl (WO.step rfl (OR.assign rfl (WO.done (WX.seq (WC.ret (WX.seq_ret ?_))))))
      refine WX.ret2 rfl rfl rfl ?_
      exact .mk hs (by rw [if_neg (by omega)])
    · refine WO.guardYes rfl (decide_eq_false q2) rfl rfl (OR.move rfl (WO.guardYes rfl (decide_eq_false q2) rfl rfl (OR.lss rfl rfl (WO.step rfl (OR.pickF rfl (decide_eq_false q2) rfl (WO.step rfl (OR.move rfl ?_)))))))
      refine WO.guardSplit (j := 10) rfl (fun q3 => ?_) (fun q3 => ?_)
      · refine WO.guardNo rfl (decide_eq_true q3) rfl rfl (WO.guardNo rfl (decide_eq_true q3) rfl rfl (WO.step rfl (OR.pickT rfl (decide_eq_true q3) rfl (WO.step rfl (OR.move rfl (WO.guardNo rfl rfl rfl rfl (WO.guardNo rfl rfl rfl rfl ?_)))))))
        refine WO.guardNo rfl rfl rfl rfl (WO.guardNo rfl rfl rfl rfl (WO.step rfl (OR.pickT rfl rfl rfl (WO.done (WX.seq (WC.yes rfl rfl (WC.seq ?_)))))))
        refine WC.region (WO.step rfl (OR.assign rfl (WO.step rfl (OR.assign rfl (WO.done (WX.seq (WC.ret ?_)))))))
        refine WX.seq_ret ?_
        refine WX.ret2 rfl rfl rfl ?_
        exact .mk hs (by rw [if_neg (by omega)])
      · refine WO.guardYes rfl (decide_eq_false q3) rfl rfl (OR.move rfl (WO.guardYes rfl (decide_eq_false q3) rfl rfl (OR.gtr rfl rfl (WO.step rfl (OR.pickF rfl (decide_eq_false q3) rfl (WO.step rfl (OR.move rfl ?_)))))))
        refine WO.guardSplit (j := 14) rfl (fun q4 => ?_) (fun q4 => ?_)
        · refine WO.guardNo rfl (decide_eq_true q4) rfl rfl (WO.guardNo rfl (decide_eq_true q4) rfl rfl (WO.guardNo rfl (decide_eq_true q4) rfl rfl (WO.guardNo rfl (decide_eq_true q4) rfl rfl (WO.step rfl (OR.pickT rfl (decide_eq_true q4) rfl (WO.done (WX.seq ?_)))))))
          refine WC.yes rfl rfl (WC.seq (WC.region (WO.step rfl (OR.assign rfl (WO.step rfl (OR.assign rfl (WO.done ?_)))))))
          refine WX.seq (WC.ret (WX.seq_ret ?_))
          refine WX.ret2 rfl rfl rfl ?_
          exact .mk hs (by rw [if_neg (by omega)])
        · have hb1 : 0 ≤ g * s := Int.mul_nonneg (by omega) (by omega)
          have hb2 : g * s ≤ 255 * 65535 := Int.mul_le_mul (by omega) (by omega) (by omega) (by omega)
          refine WO.guardYes rfl (decide_eq_false q4) rfl rfl (OR.move rfl (WO.guardYes rfl (decide_eq_false q4) rfl rfl (OR.move rfl (WO.guardYes rfl (decide_eq_false q4) rfl rfl (OR.mulI rfl rfl (by omega) (by omega) (WO.guardYes rfl (decide_eq_false q4) rfl rfl (OR.leq rfl rfl ?_)))))))
          refine WO.step rfl (OR.pickF rfl (decide_eq_false q4) rfl (WO.done (WX.seq ?_)))
          refine WC.condD rfl (fun q5 => ?_) (fun q5 => ?_)
          · refine WC.seq (WC.region (WO.step rfl (OR.assign rfl (WO.step rfl (OR.assign rfl (WO.done (WX.seq ?_)))))))
            refine WC.ret (WX.seq_ret ?_)
            refine WX.ret2 rfl rfl rfl ?_
            exact .mk hs (by rw [if_neg (fun h => by have := h.2.2.2.2; omega)])
          · refine WC.skip (WX.seq (WC.seq (WC.region (WO.step rfl (OR.move rfl (WO.step rfl (OR.move rfl ?_)))))))
            refine WO.step rfl (OR.mulI rfl rfl (by omega) (by omega) (WO.step rfl (OR.subI rfl rfl (by omega) (by omega) (WO.step rfl (OR.assign rfl (WO.step rfl (OR.assign rfl ?_)))))))
            refine WO.done (WX.seq (WC.ret ?_))
            refine WX.ret2 rfl rfl rfl ?_
            exact .mk hs (by rw [if_pos ⟨by omega, by omega, by omega, by omega, by omega⟩])

theorem BytesL.single {H : Hp} {v c : Value} {l : List UInt8} (hs : Sl H 1 v 1 [c]) (hb : Bytes H c l) : BytesL H v [l] := by
  refine ⟨[c], hs, rfl, fun i h h' => ?_⟩
  cases i with
  | zero => exact hb
  | succ i => simp at h
theorem Bytes.oneC {H : Hp} {v : Value} {l : List UInt8} (h : Bytes H v l) : v.oneCell' = true := by
  obtain ⟨b, c, rfl⟩ := h.form
  rfl
set_option maxRecDepth 20000 in
set_option maxHeartbeats 2000000 in
theorem hand_ok (gout gst gat : Nat) (ov sv : Value) (cl : List Value) (chs : List (List UInt8)) (st : List UInt8) (a to : Nat) (Mo : Mem) (N : Nat) (H0 : Hp) (w0 : World)
    (hs : HS (gout :: gat :: Mem.keys Mo) H0 w0 H0 ((gout, .cells #[ov] 22, true) :: (gat, .cells #[.int .i64 (a : Int)] 3, true) :: (gst, .cells #[sv] 23, false) :: Mo) w0)
    (hst : Bytes H0 sv st) (ho : Own N 23 1 ov chs.length cl Mo) (hN : N ≤ w0.heap.size) (hok : BLOk H0 cl chs) (hat : a ≤ to) (hto : to ≤ st.length) (hlen : st.length ≤ 1000000000000) (hchs : chs.length ≤ 1000000000000) :
    Calls Try.prog 157 #[.int .i64 (to : Int), ptr gout, ptr gst, ptr gat] w0 (Ret (gout :: gat :: Mem.keys Mo) H0 w0 fun v H' M' => v = .tuple #[] ∧ ∃ Mo' ov' cl',
      M' = (gout, .cells #[ov'] 22, true) :: (gat, .cells #[.int .i64 (to : Int)] 3, true) :: Mo' ∧ Own N 23 1 ov' (chs.length + 1) cl' Mo' ∧ BLOk H' cl' (chs ++ [(st.drop a).take (to - a)])) := by
  have hle := Hp.le.refl H0
  obtain ⟨b1, c1, rfl⟩ := hst.form
  obtain ⟨b2, c2, rfl⟩ := ho.form
  have hcap := hst.cap_le
  refine Calls.enter (args := [.int .i64 (to : Int), ptr gout, ptr gst, ptr gat]) Try.func157 rfl Try.ntmps157 rfl ?_
  have hpart := hst.part a to hat hto
  refine WC.seq ?_
  refine WC.draw 7 mixed hs (by kernel_rfl) ?_
  refine ⟨MF.eq _, by intro Mx H w hle hs; refine forVals_nil (ORg.plain (OR.load T22 rfl rfl (hs.right.cellM (i := 0) rfl rfl) ?_)); exact ⟨_, [], Hp.le.refl _, hs, rfl, rfl⟩, ?_⟩
  refine ⟨MF.eq _, by intro Mx H w hle hs; refine forVals_nil (ORg.plain (OR.load T23 rfl rfl (hs.right.cellM (i := 2) rfl rfl) ?_)); exact ⟨_, [], Hp.le.refl _, hs, rfl, rfl⟩, ?_⟩
  refine ⟨MF.eq _, by intro Mx H w hle hs; refine forVals_nil (ORg.plain (OR.load T3 rfl rfl (hs.right.cellM (i := 1) rfl rfl) ?_)); exact ⟨_, [], Hp.le.refl _, hs, rfl, rfl⟩, ?_⟩
  refine ⟨MF.eq _, by intro Mx H w hle hs; refine forVals_nil (ORg.plain (OR.move rfl ?_)); exact ⟨_, [], Hp.le.refl _, hs, rfl, rfl⟩, ?_⟩
  refine ⟨MF.eq (.slice (if c1 = a then b1 else b1.map (·.add (a * 1))) (to - a) (c1 - a)), ?_, ?_⟩
  · intro Mx H w hle2 hs; (try replace hle := hle.trans hle2); (try replace hlb := hlb.trans hle2); refine forVals_eq rfl rfl rfl ?_; refine forVals_eq rfl rfl rfl ?_; refine forVals_eq rfl rfl rfl ?_
    refine forVals_nil (ORg.plain (OR.slice2G a to T23.und T5 rfl rfl rfl rfl rfl hat (by omega) ?_))
    exact ⟨_, [], Hp.le.refl _, hs, rfl, rfl⟩
  refine ⟨MF.bytes ((st.drop a).take (to - a)), ?_, ?_⟩
  · intro Mx H w hle2 hs; (try replace hle := hle.trans hle2); (try replace hlb := hlb.trans hle2); refine forVals_eq rfl rfl rfl ?_
    refine forVals_nil (ORg.plain (OR.call hs body57 rfl rfl (clone_pure _ _ _ _ hs.toSub (hpart.mono hle) (by simp; omega)) ?_))
    clear hs; rintro _ H w hs hle1 hb
    exact ⟨_, [], hle1, hs, hb, rfl⟩
  refine ⟨MF.bytesL [(st.drop a).take (to - a)], ?_, ?_⟩
  · intro Mx H w hle2 hs; (try replace hle := hle.trans hle2); (try replace hlb := hlb.trans hle2); refine forVals_of rfl rfl rfl ?_; intro v5 h5
    obtain ⟨b5, c5, rfl⟩ := h5.form
    refine forVals_nil (ORg.plain (OR.buildSlice (vs := [_]) hs T22.und T23 rfl rfl rfl rfl (by simp) ?_))
    intro gn w hgn hs
    obtain ⟨H, hle1, hp, hs⟩ := hs.pub1 hgn
    exact ⟨_, [], hle1, hs, (BytesL.single (Sl.block hp rfl rfl (by simp)) (h5.mono hle1)), rfl⟩
  intro H w hle2; (try replace hle := hle.trans hle2); (try replace hlb := hlb.trans hle2)
  refine forAllVals_eq rfl ?_
  refine forAllVals_eq rfl ?_
  refine forAllVals_eq rfl ?_
  refine forAllVals_eq rfl ?_
  refine forAllVals_eq rfl ?_
  refine forAllVals_of rfl ?_; intro v5 h5
  refine forAllVals_of rfl ?_; intro v6 h6
  refine forAllVals_nil ?_; (try clear hs); intro hs
  obtain ⟨cs6, hsl6, hl6, hb6⟩ := h6
  obtain ⟨b6, c6, q6⟩ := hsl6.form
  subst q6
  have hone6 : cs6.all (·.oneCell') = true := by
    rw [List.all_eq_true]
    intro u hu
    obtain ⟨i, hi, rfl⟩ := List.mem_iff_getElem.1 hu
    obtain ⟨b7, c7, e7⟩ := (hb6 i (by omega) hi).form
    rw [e7]; rfl
  replace hs := hs.perm (List.perm_append_comm (l₁ := Mo) (l₂ := [_, _, _]))
  refine WO.step rfl (OR.appendN (m := 1) (news := cs6) hN hs ho T22.und T23 rfl (by omega) rfl rfl (by simpa using hl6) (Sl.src hsl6 hs) (Sl.src0 hsl6) hone6 (by omega) (by omega) ?_)
  clear hs ho; intro vo' w Mo' hs ho hge
  replace hs := hs.perm (List.perm_append_comm (l₁ := [_, _, _]) (l₂ := Mo'))
  obtain ⟨b8, c8, rfl⟩ := ho.form
  refine WO.stepN (OR.storeAll hs T22 rfl rfl rfl rfl rfl ?_)
  clear hs; intro w hs
  refine WO.done (WX.seq (WC.region (WO.step rfl (OR.move rfl ?_))))
  replace hs := hs.front (i := 1) rfl
  refine WO.stepN (OR.storeAll hs T3 rfl rfl rfl rfl rfl ?_)
  clear hs; intro w hs
  refine WO.done ?_
  replace hs := hs.front (i := 1) rfl
  replace hs := hs.drop 2
  refine WX.end0 rfl ?_
  refine ⟨_, _, _, rfl, hs, ?_, rfl, Mo', _, cl ++ cs6, rfl, ho, ?_⟩
  · intro p hp
    rcases List.mem_cons.1 hp with rfl | hp
    · rfl
    · rcases List.mem_cons.1 hp with rfl | hp
      · rfl
      · exact ho.tt p hp
  · have h9 := hok.mono hle
    refine ⟨by simp [h9.1, hl6], fun i h1 h2 => ?_⟩
    have e1 := h9.1
    by_cases e : i < chs.length
    · simp only [List.getElem_append_left e, List.getElem_append_left (show i < cl.length by omega)]
      exact h9.2 i e (by omega)
    · simp only [List.length_append] at h1 h2
      simp only [List.getElem_append_right (show chs.length ≤ i by omega), List.getElem_append_right (show cl.length ≤ i by omega), e1]
      exact hb6 (i - chs.length) (by simp at h1 ⊢; omega) (by omega)


/-- The value of hand. -/
abbrev handV (gout gst gat : Nat) : Value := .func (.func 157) #[] #[ptr gout, ptr gst, ptr gat]
set_option maxRecDepth 20000 in
set_option maxHeartbeats 2000000 in
theorem whole_ok (gout gst gat groom ghand : Nat) (room : Nat) (ov sv : Value) (cl : List Value) (chs : List (List UInt8)) (st : List UInt8) (a to : Nat) (Mo : Mem) (N : Nat) (H0 : Hp) (w0 : World)
    (hs : HS (gout :: gat :: Mem.keys Mo) H0 w0 H0 ((gout, .cells #[ov] 22, true) :: (gat, .cells #[.int .i64 (a : Int)] 3, true) :: (gst, .cells #[sv] 23, false) ::
      (groom, .cells #[.int .i64 (room : Int)] 3, false) :: (ghand, .cells #[handV gout gst gat] 220, false) :: Mo) w0)
    (hst : Bytes H0 sv st) (ho : Own N 23 1 ov chs.length cl Mo) (hN : N ≤ w0.heap.size) (hok : BLOk H0 cl chs) (hat : a ≤ to) (hto : to ≤ st.length) (hlen : st.length ≤ 100000000000) (hchs : chs.length ≤ 100000000000) (hroom : 1 ≤ room) (hroom2 : room ≤ 100000000000) :
    Calls Try.prog 158 #[.int .i64 (to : Int), ptr gat, ptr groom, ptr ghand] w0 (Ret (gout :: gat :: Mem.keys Mo) H0 w0 fun v H' M' => v = .tuple #[] ∧ ∃ Mo' ov' cl',
      M' = (gout, .cells #[ov'] 22, true) :: (gat, .cells #[.int .i64 ((a + (to - a) / room * room : Nat) : Int)] 3, true) :: Mo' ∧ Own N 23 1 ov' (chs.length + (to - a) / room) cl' Mo' ∧
      BLOk H' cl' (chs ++ wholeL room st a ((to - a) / room))) := by
  have hle := Hp.le.refl H0
  obtain ⟨n, hn⟩ : ∃ n, n = (to - a) / room := ⟨_, rfl⟩
  rw [← hn]
  have hnl : n * room ≤ to - a := by rw [hn]; exact Nat.div_mul_le_self _ _
  have hn1 : ∀ k, (k + 1) * room ≤ to - a → k + 1 ≤ n := fun k h => by rw [hn]; exact (Nat.le_div_iff_mul_le hroom).2 h
  have hn2 : ∀ k, k + 1 ≤ n → (k + 1) * room ≤ to - a := fun k h => Nat.le_trans (Nat.mul_le_mul_right room h) hnl
  have hnto : n ≤ to - a := Nat.le_trans (Nat.le_mul_of_pos_right n hroom) hnl
  clear hn
  refine Calls.enter (args := [.int .i64 (to : Int), ptr gat, ptr groom, ptr ghand]) Try.func158 rfl Try.ntmps158 rfl ?_
  refine WC.block ?_
  refine WC.loop (ι := Nat) (fun k => [(0, .int .i64 (to : Int)), (1, ptr gat), (2, ptr groom), (3, ptr ghand)]) (fun k w => (k ≤ n ∧ ∃ H Mo' ov' cl', Hp.le H0 H ∧ Own N 23 1 ov' (chs.length + k) cl' Mo' ∧ BLOk H cl' (chs ++ wholeL room st a k) ∧ HS (gout :: gat :: Mem.keys Mo) H0 w0 H ((gout, .cells #[ov'] 22, true) :: (gat, .cells #[.int .i64 ((a + k * room : Nat) : Int)] 3, true) :: (gst, .cells #[sv] 23, false) :: (groom, .cells #[.int .i64 (room : Int)] 3, false) :: (ghand, .cells #[handV gout gst gat] 220, false) :: Mo') w)) (fun k => n - k) 0 ⟨rfl, rfl, rfl, rfl,  trivial⟩ ?_ (fun k w hW => ?_)
  · exact ⟨by omega, H0, Mo, ov, cl, hle, ho, by simpa [wholeL] using hok, by simpa using hs⟩
  clear hs hle ho hok
  obtain ⟨hk, H, Mo1, ov1, cl1, hle, ho, hok, hs⟩ := hW
  have hkr : k * room ≤ to - a := Nat.le_trans (Nat.mul_le_mul_right room hk) hnl
  have hk1 : (k + 1) * room = k * room + room := Nat.succ_mul k room
  refine WC.seq (WC.seq (WC.region (WO.step rfl (OR.move rfl (WO.step rfl (OR.load T3 rfl rfl (hs.cellM (i := 1) rfl rfl) (WO.step rfl ?_)))))))
  refine OR.subI rfl rfl (by omega) (by omega) (WO.step rfl (OR.load T3 rfl rfl (hs.cellM (i := 3) rfl rfl) (WO.step rfl (OR.geq rfl rfl (WO.done (WX.seq ?_))))))
  refine WC.condD rfl (fun hge => ?_) (fun hge => ?_)
  · have hk2 := hn1 k (by omega)
    have hwl : (chs ++ wholeL room st a k).length = chs.length + k := by simp [wholeL]
    refine WC.skip (WX.seq (WC.block (WC.region (WO.step rfl (OR.load T220 rfl rfl (hs.cellM (i := 4) rfl rfl) (WO.step rfl (OR.load T3 rfl rfl (hs.cellM (i := 1) rfl rfl) ?_)))))))
    refine WO.step rfl (OR.load T3 rfl rfl (hs.cellM (i := 3) rfl rfl) (WO.step rfl (OR.addI rfl rfl (by omega) (by omega) ?_)))
    have hs2 := ((hs.drop 3).drop 3).beginR (Mr := [_, _, _]) (Mo := Mo1) [true, true, false]
    replace hs := hs.perm (((((List.perm_append_comm (l₁ := Mo1) (l₂ := [_, _, _])).cons _).cons _)) : List.Perm (_ :: _ :: (Mo1 ++ [_, _, _])) _)
    refine WO.step rfl (OR.callX (Mx := _ :: _ :: Mo1) (Mr := [_, _, _]) hs body157 rfl rfl (hand_ok gout gst gat ov1 sv cl1 (chs ++ wholeL room st a k) st (a + k * room) (a + k * room + room) Mo1 N H _ hs2 (hst.mono hle) (by rw [hwl]; exact ho) (Nat.le_trans hN hs.size) hok (by omega) (by omega) (by omega) (by rw [hwl]; omega)) rfl (by simpa using ho.tt) ?_)
    clear hs hs2 ho hok; rintro v H2 M2 w hs hle1 hnew ⟨rfl, Mo2, ov2, cl2, rfl, ho, hok⟩
    replace hle := hle.trans hle1
    replace hs := hs.perm (((((List.perm_append_comm (l₁ := [_, _, _]) (l₂ := Mo2)).cons _).cons _)) : List.Perm (_ :: _ :: ([_, _, _] ++ Mo2)) _)
    rw [hwl] at ho
    have e9 : a + k * room + room - (a + k * room) = room := by omega
    rw [e9, List.append_assoc, ← wholeL_succ] at hok
    refine WO.done (WX.block ?_)
    refine WX.again (k + 1) ⟨rfl, rfl, rfl, rfl,  trivial⟩ ?_ ?_
    · refine ⟨hk2, H2, Mo2, ov2, cl2, hle, ho, hok, ?_⟩
      have e8 : a + (k + 1) * room = a + k * room + room := by omega
      rw [e8]
      exact hs
    · omega
  · have e : k = n := by
      rcases Nat.lt_or_ge k n with h | h
      · have := hn2 k h; omega
      · omega
    subst e
    refine WC.exit (WX.seq_exit (WX.loop_exit (WX.block_hit ?_)))
    replace hs := ((hs.drop 2).drop 2).drop 2
    refine WX.end0 rfl ?_
    refine ⟨_, _, _, rfl, hs, ?_, rfl, Mo1, ov1, cl1, rfl, ho, hok⟩
    intro p hp
    rcases List.mem_cons.1 hp with rfl | hp
    · rfl
    · rcases List.mem_cons.1 hp with rfl | hp
      · rfl
      · exact ho.tt p hp


set_option maxRecDepth 20000 in
set_option maxHeartbeats 2000000 in
theorem chunks_bad (g s : Int) (v1 v2 : Value) (H0 : Hp) (w0 : World) (h0 : Sub H0 w0) (hgs : ¬ (1 ≤ g ∧ g ≤ 255 ∧ 1 ≤ s ∧ s ≤ 65535 ∧ 4 < g * s)) (h1 : v1.oneCell' = true) :
    Calls Try.prog 98 #[v1, v2, .int .i64 g, .int .i64 s] w0 (Pure H0 w0 fun v _ => v = .tuple #[.slice none 0 0, .slice none 0 0, .int .i64 1]) := by
  have hs := HS.init h0
  have hle := Hp.le.refl H0
  refine Calls.enter (args := [v1, v2, .int .i64 g, .int .i64 s]) Try.func98 rfl Try.ntmps98 rfl ?_
  refine WC.seq (WC.region (WO.step rfl (OR.box hs rfl ?_)))
  clear hs; intro g1 w hg1 hs
  refine WO.step rfl (OR.assign rfl (WO.step rfl (OR.assign rfl (WO.step rfl (OR.assign rfl (WO.done (WX.seq ?_)))))))
  refine WC.seq (WC.region (WO.step rfl (OR.move rfl (WO.step rfl (OR.move rfl ?_)))))
  refine WO.step rfl (OR.call hs body141 rfl rfl (room_ok g s _ _ hs.toSub) ?_)
  clear hs; rintro _ H w hs hle1 rfl; replace hle := hle.trans hle1; (try replace hlb := hlb.trans hle1)
  rw [if_neg hgs]
  refine WO.step rfl (OR.move rfl (WO.step rfl (OR.extract rfl rfl (WO.step rfl (OR.extract rfl rfl (WO.step rfl (OR.alloc hs T3 ?_)))))))
  clear hs; intro g2 w hg2 hs
  refine WO.stepN (OR.storeAll hs T3 rfl rfl rfl rfl rfl ?_)
  clear hs; intro w hs
  refine WO.step rfl (OR.assign rfl (WO.done (WX.seq (WC.seq (WC.seq (WC.region (WO.step rfl ?_)))))))
  refine OR.move rfl (WO.step rfl (OR.neq rfl rfl (WO.done (WX.seq ?_))))
  refine WC.yes rfl (decide_eq_true (by omega)) ?_
  refine WC.seq (WC.region (WO.step rfl (OR.move rfl (WO.step rfl (OR.assign rfl (WO.step rfl (OR.assign rfl ?_)))))))
  refine WO.step rfl (OR.assign rfl (WO.done (WX.seq (WC.ret (WX.seq_ret ?_)))))
  refine WX.ret3 rfl rfl rfl rfl ?_
  exact .mk hs rfl

theorem chunkStep_len {room : Nat} {st : List UInt8} {p : List (List UInt8) × Nat} {cut : Int} (h : p.1.length ≤ p.2) (hc : p.2 ≤ cut.toNat) (hr : 1 ≤ room) : (chunkStep room st p cut).1.length ≤ (chunkStep room st p cut).2 := by
  simp only [chunkStep, List.length_append]
  have h1 : (wholeL room st p.2 ((cut.toNat - p.2) / room)).length = (cut.toNat - p.2) / room := by simp [wholeL]
  rw [h1]
  have h2 : (cut.toNat - p.2) / room ≤ (cut.toNat - p.2) / room * room := Nat.le_mul_of_pos_right _ hr
  have h3 : (cut.toNat - p.2) / room * room ≤ cut.toNat - p.2 := Nat.div_mul_le_self _ _
  unfold cutPiece
  split
  · simp only [List.length_singleton]; omega
  · simp only [List.length_nil]; omega
theorem chunkP_succ (room : Nat) (st : List UInt8) (cuts : List Int) (k : Nat) (h : k < cuts.length) : chunkP room st (cuts.take (k + 1)) = chunkStep room st (chunkP room st (cuts.take k)) cuts[k] := by
  unfold chunkP
  rw [List.take_succ_eq_append_getElem h, List.foldl_append]
  rfl

set_option maxRecDepth 20000 in
set_option maxHeartbeats 2000000 in
theorem chunks_ok (g s : Nat) (vs vc : Value) (st : List UInt8) (cuts : List Int) (H0 : Hp) (w0 : World) (h0 : Sub H0 w0) (hgs : 1 ≤ g ∧ g ≤ 255 ∧ 1 ≤ s ∧ s ≤ 65535 ∧ 4 < g * s) (hst : Bytes H0 vs st) (hcu : Ints H0 vc cuts)
    (hlen : st.length ≤ 10000000000) (hcl : cuts.length ≤ 10000000000) :
    Calls Try.prog 98 #[vs, vc, .int .i64 (g : Int), .int .i64 (s : Int)] w0 (Pure H0 w0 fun v H' => ∃ r1 r2, v = .tuple #[r1, r2, .int .i64 (if cutsOk st.length 0 cuts = true then 0 else 1)] ∧
      BytesL H' r1 (if cutsOk st.length 0 cuts = true then chunksF (g * s - 4) st cuts else []) ∧ Bytes H' r2 (if cutsOk st.length 0 cuts = true then openF (g * s - 4) st cuts else [])) := by
  have hs := HS.init h0
  have hle := Hp.le.refl H0
  obtain ⟨hg1, hg2, hs1, hs2, hgs4⟩ := hgs
  have hmul : g * s ≤ 255 * 65535 := Nat.mul_le_mul hg2 hs2
  obtain ⟨bs, cs, rfl⟩ := hst.form
  obtain ⟨bc, cc, rfl⟩ := hcu.form
  have hcap := hst.cap_le
  refine Calls.enter (args := [.slice bs st.length cs, .slice bc cuts.length cc, .int .i64 (g : Int), .int .i64 (s : Int)]) Try.func98 rfl Try.ntmps98 rfl ?_
  refine WC.seq (WC.region (WO.step rfl (OR.box hs rfl ?_)))
  clear hs; intro g1 w hg1 hs
  refine WO.step rfl (OR.assign rfl (WO.step rfl (OR.assign rfl (WO.step rfl (OR.assign rfl (WO.done (WX.seq ?_)))))))
  refine WC.seq (WC.region (WO.step rfl (OR.move rfl (WO.step rfl (OR.move rfl ?_)))))
  refine WO.step rfl (OR.call hs body141 rfl rfl (room_ok (g : Int) (s : Int) _ _ hs.toSub) ?_)
  clear hs; rintro _ H w hs hle1 rfl; replace hle := hle.trans hle1; (try replace hlb := hlb.trans hle1)
  have hmc : (g : Int) * (s : Int) = ((g * s : Nat) : Int) := by rw [Int.natCast_mul]
  have hrc : (g : Int) * (s : Int) - 4 = ((g * s - 4 : Nat) : Int) := by rw [hmc]; omega
  rw [if_pos (show 1 ≤ (g : Int) ∧ (g : Int) ≤ 255 ∧ 1 ≤ (s : Int) ∧ (s : Int) ≤ 65535 ∧ 4 < (g : Int) * (s : Int) from ⟨by omega, by omega, by omega, by omega, by rw [hmc]; omega⟩), hrc]
  obtain ⟨room, hroom⟩ : ∃ r, r = g * s - 4 := ⟨_, rfl⟩
  rw [← hroom]
  have hr1 : 1 ≤ room := by omega
  have hr2 : room ≤ 100000000000 := by omega
  clear hrc hmc hroom hgs4 hmul hg1 hg2 hs1 hs2
  refine WO.step rfl (OR.move rfl (WO.step rfl (OR.extract rfl rfl (WO.step rfl (OR.extract rfl rfl (WO.step rfl (OR.alloc hs T3 ?_)))))))
  clear hs; intro g2 w hg2 hs
  refine WO.stepN (OR.storeAll hs T3 rfl rfl rfl rfl rfl ?_)
  clear hs; intro w hs
  refine WO.step rfl (OR.assign rfl (WO.done (WX.seq (WC.seq (WC.seq (WC.region (WO.step rfl ?_)))))))
  refine OR.move rfl (WO.step rfl (OR.neq rfl rfl (WO.done (WX.seq ?_))))
  refine WC.no rfl (decide_eq_false (by omega)) ?_
  refine WC.skip (WX.seq (WC.seq (WC.region (WO.step rfl (OR.alloc hs T22 ?_)))))
  clear hs; intro g3 w hg3 hs
  refine WO.done (WX.seq (WC.seq (WC.region (WO.step rfl (OR.alloc hs T3 ?_)))))
  clear hs; intro g4 w hg4 hs
  refine WO.stepN (OR.storeAll hs T3 rfl rfl rfl rfl rfl ?_)
  clear hs; intro w hs
  refine WO.done (WX.seq (WC.seq (WC.region (WO.step rfl (OR.makeFunc rfl rfl (WO.step rfl (OR.alloc hs T220 ?_)))))))
  clear hs; intro g5 w hg5 hs
  refine WO.stepN (OR.storeAll hs T220 rfl rfl rfl rfl rfl ?_)
  clear hs; intro w hs
  refine WO.done (WX.seq (WC.seq (WC.region (WO.step rfl (OR.makeFunc rfl rfl (WO.step rfl (OR.assign rfl ?_)))))))
  refine WO.done (WX.seq (WC.seq (WC.region (WO.step rfl (OR.assign rfl (WO.done (WX.seq ?_)))))))
  refine WC.seq (WC.seq (WC.region (WO.step rfl (OR.move rfl (WO.step rfl (OR.lenSlice T87.und rfl (WO.step rfl ?_)))))))
  refine OR.move rfl (WO.done (WX.seq (WC.block ?_)))
  replace hs := hs.front (i := 0) rfl
  replace hs := hs.front (i := 3) rfl
  replace hs := hs.front (i := 4) rfl
  replace hs := hs.front (i := 3) rfl
  replace hs := hs.front (i := 4) rfl
  refine WC.loop (ι := Nat) (fun k => [(4, ptr g1), (11, ptr g2), (13, ptr g3), (14, ptr g4), (15, ptr g5), (16, .func (.func 158) #[] #[ptr g4, ptr g2, ptr g5]), (17, .int .i64 ((chunkP room st (cuts.take k)).2 : Int)), (31, .slice bc cuts.length cc), (32, .int .i64 (cuts.length : Int)), (33, .int .i64 (k : Int))]) (fun k w => (k ≤ cuts.length ∧ cutsOk st.length 0 cuts = cutsOk st.length ((chunkP room st (cuts.take k)).2 : Int) (cuts.drop k) ∧ (chunkP room st (cuts.take k)).2 ≤ st.length ∧ (chunkP room st (cuts.take k)).1.length ≤ (chunkP room st (cuts.take k)).2 ∧ ∃ H Mo ov cl, Hp.le H0 H ∧ Own w0.heap.size 23 1 ov (chunkP room st (cuts.take k)).1.length cl Mo ∧ BLOk H cl (chunkP room st (cuts.take k)).1 ∧ HS [] H0 w0 H ([(g3, .cells #[ov] 22, true), (g4, .cells #[.int .i64 ((chunkP room st (cuts.take k)).2 : Int)] 3, true), (g1, .cells #[.slice bs st.length cs] 23, true), (g2, .cells #[.int .i64 (room : Int)] 3, true), (g5, .cells #[handV g3 g1 g4] 220, true)] ++ Mo) w)) (fun k => cuts.length - k) 0 ⟨rfl, rfl, rfl, rfl, rfl, rfl, rfl, rfl, rfl, rfl,  trivial⟩ ?_ (fun k w hW => ?_)
  · exact ⟨by omega, rfl, Nat.zero_le _, Nat.zero_le _, H, [], .slice none 0 0, [], hle, Own.nil _ _ _, BLOk.nil _, hs⟩
  clear hs hle
  obtain ⟨hk, hok0, hP2, hPl, H, Mo, ov, cl, hle, ho, hok, hs⟩ := hW
  have hPs : ∀ h : k < cuts.length, chunkP room st (cuts.take (k + 1)) = chunkStep room st (chunkP room st (cuts.take k)) cuts[k] := fun h => chunkP_succ room st cuts k h
  generalize hPg : chunkP room st (cuts.take k) = P at *
  obtain ⟨chs, a⟩ := P
  simp only at hok0 hP2 hPl ho hok hs hPs
  refine WC.seq (WC.region (WO.step rfl (OR.lss rfl rfl (WO.done (WX.seq (WC.seq ?_))))))
  refine WC.condD rfl (fun hlt => ?_) (fun hlt => ?_)
  · have hk' : k < cuts.length := by omega
    obtain ⟨xb, xo, rfl, hcc⟩ := hcu.pos (by omega)
    have hdr : cuts.drop k = cuts[k] :: cuts.drop (k + 1) := List.drop_eq_getElem_cons hk'
    rw [hdr, cutsOk] at hok0
    refine WC.skip (WX.seq (WC.seq (WC.block (WC.seq (WC.region ?_)))))
    refine WO.step rfl (OR.idx k T87.und T3 rfl rfl rfl hk' ?_)
    refine WO.step rfl (OR.load T3 rfl rfl (hs.cell (hcell.mono hle (hcc k hk'))) ?_)
    refine WO.step rfl (OR.assign rfl (WO.done (WX.seq (WC.seq (WC.seq (WC.region (WO.step rfl ?_)))))))
    refine OR.move rfl (WO.step rfl (OR.move rfl (WO.step rfl (OR.lss rfl rfl (WO.step rfl (OR.move rfl ?_))))))
    refine WO.guardSplit (j := 3) rfl (fun q1 => ?_) (fun q1 => ?_)
    · refine WO.guardNo rfl (decide_eq_true q1) rfl rfl (WO.guardNo rfl (decide_eq_true q1) rfl rfl (WO.guardNo rfl (decide_eq_true q1) rfl rfl (WO.guardNo rfl (decide_eq_true q1) rfl rfl (WO.step rfl (OR.pickT rfl (decide_eq_true q1) rfl (WO.done (WX.seq ?_)))))))
      refine WC.yes rfl rfl (WC.seq (WC.region (WO.step rfl (OR.assign rfl (WO.step rfl (OR.assign rfl (WO.step rfl ?_)))))))
      refine OR.assign rfl (WO.done (WX.seq (WC.ret (WX.seq_ret (WX.block_ret (WX.seq_ret (WX.loop_ret ?_)))))))
      refine WX.block_ret (WX.seq_ret ?_)
      refine WX.ret3 rfl rfl rfl rfl ?_
      have hf : cutsOk st.length 0 cuts = false := by rw [hok0, decide_eq_false (by omega)]; rfl
      exact .mk hs ⟨_, _, by rw [hf]; rfl, by rw [hf]; exact ⟨[], Sl.nil _ _, rfl, fun i h => by simp at h⟩, by rw [hf]; exact Bytes.nil _⟩
    · refine WO.guardYes rfl (decide_eq_false q1) rfl rfl (OR.move rfl (WO.guardYes rfl (decide_eq_false q1) rfl rfl (OR.load T23 rfl rfl (hs.cellM (i := 2) rfl rfl) (WO.guardYes rfl (decide_eq_false q1) rfl rfl (OR.lenSlice T23.und rfl (WO.guardYes rfl (decide_eq_false q1) rfl rfl (OR.gtr rfl rfl ?_)))))))
      refine WO.step rfl (OR.pickF rfl (decide_eq_false q1) rfl (WO.done (WX.seq ?_)))
      refine WC.condD rfl (fun q2 => ?_) (fun q2 => ?_)
      · refine WC.seq (WC.region (WO.step rfl (OR.assign rfl (WO.step rfl (OR.assign rfl (WO.step rfl (OR.assign rfl ?_)))))))
        refine WO.done (WX.seq (WC.ret (WX.seq_ret (WX.block_ret (WX.seq_ret (WX.loop_ret (WX.block_ret ?_)))))))
        refine WX.seq_ret ?_
        refine WX.ret3 rfl rfl rfl rfl ?_
        have hf : cutsOk st.length 0 cuts = false := by rw [hok0, decide_eq_false (show ¬ cuts[k] ≤ (st.length : Int) by omega), Bool.and_false]; rfl
        exact .mk hs ⟨_, _, by rw [hf]; rfl, by rw [hf]; exact ⟨[], Sl.nil _ _, rfl, fun i h => by simp at h⟩, by rw [hf]; exact Bytes.nil _⟩
      · obtain ⟨c, hc⟩ := Int.eq_ofNat_of_zero_le (show 0 ≤ cuts[k] by omega)
        have hok1 : cutsOk st.length 0 cuts = cutsOk st.length (c : Int) (cuts.drop (k + 1)) := by
          rw [hok0, decide_eq_true (show (a : Int) ≤ cuts[k] by omega), decide_eq_true (show cuts[k] ≤ (st.length : Int) by omega), hc]; rfl
        have hac : a ≤ c := by omega
        have hcn : c ≤ st.length := by omega
        have hPs1 := hPs hk'
        rw [hc] at hPs1
        have hstep := chunkStep_len (room := room) (st := st) (p := (chs, a)) (cut := (c : Int)) hPl hac hr1
        have hct : ((c : Int)).toNat = c := rfl
        rw [hc]
        refine WC.skip (WX.seq (WC.seq (WC.region (WO.step rfl (OR.move rfl (WO.step rfl (OR.assign rfl ?_)))))))
        refine WO.done (WX.seq (WC.seq (WC.region (WO.step rfl (OR.move rfl (WO.step rfl (OR.move rfl ?_)))))))
        have hs2 := hs.beginR (Mr := [_, _, _, _, _]) (Mo := Mo) [true, true, false, false, false]
        replace hs := hs.perm (((((List.perm_append_comm (l₁ := Mo) (l₂ := [_, _, _])).cons _).cons _)) : List.Perm (_ :: _ :: (Mo ++ [_, _, _])) _)
        refine WO.step rfl (OR.callX (Mx := _ :: _ :: Mo) (Mr := [_, _, _]) hs body158 rfl rfl (whole_ok g3 g1 g4 g2 g5 room ov (.slice bs st.length cs) cl chs st a c Mo w0.heap.size H _ hs2 (hst.mono hle) ho hs.size hok hac hcn (by omega) (by omega) hr1 hr2) rfl (by simpa using ho.tt) ?_)
        clear hs hs2 ho hok; rintro v H2 Mo2 w hs hle1 hnew ⟨rfl, Mo2, ov2, cl2, rfl, ho, hok⟩
        replace hle := hle.trans hle1
        replace hs := hs.perm (((((List.perm_append_comm (l₁ := [_, _, _]) (l₂ := Mo2)).cons _).cons _)) : List.Perm (_ :: _ :: ([_, _, _] ++ Mo2)) _)
        have hnl : (c - a) / room * room ≤ c - a := Nat.div_mul_le_self _ _
        have hnn : (c - a) / room ≤ (c - a) / room * room := Nat.le_mul_of_pos_right _ hr1
        have hwl : (chs ++ wholeL room st a ((c - a) / room)).length = chs.length + (c - a) / room := by simp [wholeL]
        refine WO.done (WX.seq (WC.seq (WC.region (WO.step rfl (OR.load T3 rfl rfl (hs.cellM (i := 1) rfl rfl) (WO.step rfl (OR.move rfl ?_)))))))
        refine WO.step rfl (OR.lss rfl rfl (WO.done (WX.seq ?_)))
        refine WC.condD rfl (fun q3 => ?_) (fun q3 => ?_)
        · refine WC.region (WO.step rfl (OR.load T220 rfl rfl (hs.cellM (i := 4) rfl rfl) (WO.step rfl (OR.move rfl ?_))))
          have hs2 := ((hs.drop 3).drop 3).beginR (Mr := [_, _, _]) (Mo := Mo2) [true, true, false]
          replace hs := hs.perm (((((List.perm_append_comm (l₁ := Mo2) (l₂ := [_, _, _])).cons _).cons _)) : List.Perm (_ :: _ :: (Mo2 ++ [_, _, _])) _)
          refine WO.step rfl (OR.callX (Mx := _ :: _ :: Mo2) (Mr := [_, _, _]) hs body157 rfl rfl (hand_ok g3 g1 g4 ov2 (.slice bs st.length cs) cl2 (chs ++ wholeL room st a ((c - a) / room)) st (a + (c - a) / room * room) c Mo2 w0.heap.size H2 _ hs2 (hst.mono hle) (by rw [hwl]; exact ho) hs.size hok (by omega) hcn (by omega) (by rw [hwl]; omega)) rfl (by simpa using ho.tt) ?_)
          clear hs hs2 ho hok; rintro v H3 M3 w hs hle1 hnew ⟨rfl, Mo3, ov3, cl3, rfl, ho, hok⟩
          replace hle := hle.trans hle1
          replace hs := hs.perm (((((List.perm_append_comm (l₁ := [_, _, _]) (l₂ := Mo3)).cons _).cons _)) : List.Perm (_ :: _ :: ([_, _, _] ++ Mo3)) _)
          have hst2 : chunkStep room st (chs, a) (c : Int) = (chs ++ wholeL room st a ((c - a) / room) ++ [(st.drop (a + (c - a) / room * room)).take (c - (a + (c - a) / room * room))], c) := by
            simp only [chunkStep, hct, cutPiece]
            rw [if_pos (by omega)]
          rw [hst2] at hPs1 hstep
          have hfin : (chunkP room st (cuts.take (k + 1))).2 = c := by rw [hPs1]
          have hfin1 : (chunkP room st (cuts.take (k + 1))).1 = chs ++ wholeL room st a ((c - a) / room) ++ [(st.drop (a + (c - a) / room * room)).take (c - (a + (c - a) / room * room))] := by rw [hPs1]
          rw [← hfin1] at hok
          rw [← hfin]
          refine WO.done (WX.block (WX.seq (WC.region (WO.step rfl (OR.addI rfl rfl (by omega) (by omega) (WO.step rfl (OR.move rfl ?_)))))))
          refine WO.done ?_
          refine WX.again (k + 1) ⟨rfl, rfl, rfl, rfl, rfl, rfl, rfl, rfl, rfl, rfl,  trivial⟩ ?_ ?_
          · refine ⟨hk', by rw [hok1, hfin], by rw [hfin]; exact hcn, by rw [hfin1, hfin]; exact hstep, H3, Mo3, ov3, cl3, hle, ?_, hok, ?_⟩
            · have : (chunkP room st (cuts.take (k + 1))).1.length = (chs ++ wholeL room st a ((c - a) / room)).length + 1 := by rw [hfin1, List.length_append, List.length_singleton]
              rw [this]; exact ho
            · rw [hfin]; exact hs
          · omega
        · have hae : a + (c - a) / room * room = c := by omega
          have hst2 : chunkStep room st (chs, a) (c : Int) = (chs ++ wholeL room st a ((c - a) / room), c) := by
            simp only [chunkStep, hct, cutPiece]
            rw [if_neg (by omega), List.append_nil]
          rw [hst2] at hPs1 hstep
          rw [hae] at hs
          have hfin : (chunkP room st (cuts.take (k + 1))).2 = c := by rw [hPs1]
          have hfin1 : (chunkP room st (cuts.take (k + 1))).1 = chs ++ wholeL room st a ((c - a) / room) := by rw [hPs1]
          rw [← hfin1] at hok
          rw [← hfin]
          refine WC.skip (WX.block (WX.seq (WC.region (WO.step rfl (OR.addI rfl rfl (by omega) (by omega) (WO.step rfl (OR.move rfl ?_)))))))
          refine WO.done ?_
          refine WX.again (k + 1) ⟨rfl, rfl, rfl, rfl, rfl, rfl, rfl, rfl, rfl, rfl,  trivial⟩ ?_ ?_
          · refine ⟨hk', by rw [hok1, hfin], by rw [hfin]; exact hcn, by rw [hfin1, hfin]; exact hstep, H2, Mo2, ov2, cl2, hle, ?_, hok, ?_⟩
            · rw [hfin1, hwl]; exact ho
            · rw [hfin]; exact hs
          · omega
  · have e : k = cuts.length := by omega
    subst e
    rw [List.take_length] at hPg
    rw [List.drop_length] at hok0
    have hT : cutsOk st.length 0 cuts = true := hok0
    refine WC.exit (WX.seq_exit (WX.loop_exit (WX.block_hit (WX.seq (WC.seq (WC.region (WO.step rfl ?_)))))))
    refine OR.move rfl (WO.step rfl (OR.load T23 rfl rfl (hs.cellM (i := 2) rfl rfl) (WO.step rfl (OR.lenSlice T23.und rfl ?_))))
    have hs2 := hs.beginR (Mr := [_, _, _, _, _]) (Mo := Mo) [true, true, false, false, false]
    replace hs := hs.perm (((((List.perm_append_comm (l₁ := Mo) (l₂ := [_, _, _])).cons _).cons _)) : List.Perm (_ :: _ :: (Mo ++ [_, _, _])) _)
    refine WO.step rfl (OR.callX (Mx := _ :: _ :: Mo) (Mr := [_, _, _]) hs body158 rfl rfl (whole_ok g3 g1 g4 g2 g5 room ov (.slice bs st.length cs) cl chs st a st.length Mo w0.heap.size H _ hs2 (hst.mono hle) ho hs.size hok hP2 (Nat.le_refl _) (by omega) (by omega) hr1 hr2) rfl (by simpa using ho.tt) ?_)
    clear hs hs2 ho hok; rintro v H2 Mo2 w hs hle1 hnew ⟨rfl, Mo2, ov2, cl2, rfl, ho, hok⟩
    replace hle := hle.trans hle1
    replace hs := hs.perm (((((List.perm_append_comm (l₁ := [_, _, _]) (l₂ := Mo2)).cons _).cons _)) : List.Perm (_ :: _ :: ([_, _, _] ++ Mo2)) _)
    have hnl : (st.length - a) / room * room ≤ st.length - a := Nat.div_mul_le_self _ _
    have hwl : (chs ++ wholeL room st a ((st.length - a) / room)).length = chs.length + (st.length - a) / room := by simp [wholeL]
    have hsl := Sl.dropS hst (a + (st.length - a) / room * room) (by omega)
    obtain ⟨bo, co, rfl⟩ := ho.form
    have hopn : openF room st cuts = st.drop (a + (st.length - a) / room * room) := by rw [openF, hPg]
    have hchf : chunksF room st cuts = chs ++ wholeL room st a ((st.length - a) / room) := by rw [chunksF, hPg]
    have hpart : Bytes H0 (.slice (if cs = a + (st.length - a) / room * room then bs else bs.map (·.add ((a + (st.length - a) / room * room) * 1))) (st.length - (a + (st.length - a) / room * room)) (cs - (a + (st.length - a) / room * room))) (openF room st cuts) := by
      unfold Bytes
      rw [hopn, List.length_drop, List.map_drop]
      rw [Nat.mul_one] at hsl ⊢
      exact hsl
    obtain ⟨OF, hOF⟩ : ∃ OF, OF = openF room st cuts := ⟨_, rfl⟩
    rw [← hOF] at hpart hopn
    have hol : OF.length ≤ st.length := by rw [hopn, List.length_drop]; omega
    refine WO.done (WX.seq (WC.seq ?_))
    refine WC.draw 5 mixed hs (by kernel_rfl) ?_
    refine ⟨MF.eq _, by intro Mx H w hle hs; refine forVals_nil (ORg.plain (OR.load T22 rfl rfl (hs.right.cellM (i := 0) rfl rfl) ?_)); exact ⟨_, [], Hp.le.refl _, hs, rfl, rfl⟩, ?_⟩
    refine ⟨MF.eq _, by intro Mx H w hle hs; refine forVals_nil (ORg.plain (OR.load T23 rfl rfl (hs.right.cellM (i := 2) rfl rfl) ?_)); exact ⟨_, [], Hp.le.refl _, hs, rfl, rfl⟩, ?_⟩
    refine ⟨MF.eq _, by intro Mx H w hle hs; refine forVals_nil (ORg.plain (OR.load T3 rfl rfl (hs.right.cellM (i := 1) rfl rfl) ?_)); exact ⟨_, [], Hp.le.refl _, hs, rfl, rfl⟩, ?_⟩
    refine ⟨MF.eq (.slice (if cs = a + (st.length - a) / room * room then bs else bs.map (·.add ((a + (st.length - a) / room * room) * 1))) (st.length - (a + (st.length - a) / room * room)) (cs - (a + (st.length - a) / room * room))), ?_, ?_⟩
    · intro Mx H w hle2 hs; (try replace hle := hle.trans hle2); (try replace hlb := hlb.trans hle2); refine forVals_eq rfl rfl rfl ?_; refine forVals_eq rfl rfl rfl ?_
      refine forVals_nil (ORg.plain (OR.sliceLoG (a + (st.length - a) / room * room) T23.und T5 rfl rfl rfl (by omega) ?_))
      exact ⟨_, [], Hp.le.refl _, hs, rfl, rfl⟩
    refine ⟨MF.bytes OF, ?_, ?_⟩
    · intro Mx H w hle2 hs; (try replace hle := hle.trans hle2); (try replace hlb := hlb.trans hle2); refine forVals_eq rfl rfl rfl ?_
      refine forVals_nil (ORg.plain (OR.call hs body57 rfl rfl (clone_pure _ _ _ _ hs.toSub (hpart.mono hle) (by omega)) ?_))
      clear hs; rintro _ H w hs hle1 hb
      exact ⟨_, [], hle1, hs, hb, rfl⟩
    intro H w hle2; (try replace hle := hle.trans hle2); (try replace hlb := hlb.trans hle2)
    refine forAllVals_eq rfl ?_
    refine forAllVals_eq rfl ?_
    refine forAllVals_eq rfl ?_
    refine forAllVals_eq rfl ?_
    refine forAllVals_of rfl ?_; intro v4 h4
    refine forAllVals_nil ?_; (try clear hs); intro hs
    refine WO.step rfl (OR.assign rfl (WO.step rfl (OR.assign rfl (WO.step rfl (OR.assign rfl (WO.done (WX.seq ?_)))))))
    refine WC.ret ?_
    refine WX.ret3 rfl rfl rfl rfl ?_
    replace hs := (((((hs.drop 0).drop 0).drop 0).drop 0).drop 0)
    have hs3 : HS [] H0 w0 H (Mo2 ++ []) w := by rw [List.append_nil]; exact hs
    obtain ⟨H4, hle4, hs4, hsl4, _⟩ := HS.pub hs3 ho
    refine .mk hs4 ⟨_, _, by rw [hT]; rfl, ?_, ?_⟩
    · rw [hT, if_pos rfl, hchf]
      exact (hok.mono (hle2.trans hle4)).bytesL (by rw [hwl]; exact hsl4)
    · rw [hT, if_pos rfl, ← hOF]
      exact h4.mono hle4

end Go.Bw
