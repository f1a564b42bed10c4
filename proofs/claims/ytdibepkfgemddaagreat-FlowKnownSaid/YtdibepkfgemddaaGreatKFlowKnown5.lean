/- What law_FlowKnown needs: laid out of own texts. No condition. -/
import Derived.Test.YtdibepkfgemddaaGreatKFlowKnown4
namespace Go.Bw
set_option linter.unusedVariables false
set_option linter.unusedSimpArgs false
open Go.Proofs
/-- A source in memory. -/
def srcObj (g s : Int) (vs vc : Value) (cl : Bool) (vch vop : Value) : Obj := .cells #[.int .i64 g, .int .i64 s, vs, vc, .bool cl, vch, vop] 163
structure SrcD where
  g : Nat
  s : Nat
  st : List UInt8
  cuts : List Int
  cl : Bool
  chunks : List (List UInt8)
  opn : List UInt8
def SrcIn (H : Hp) (x : SrcD) (o : Obj) : Prop := ∃ vs vc vch vop, o = srcObj x.g x.s vs vc x.cl vch vop ∧ Bytes H vs x.st ∧ Ints H vc x.cuts ∧ BytesL H vch x.chunks ∧ Bytes H vop x.opn
theorem SrcIn.mono {H H' : Hp} {x : SrcD} {o : Obj} (h : SrcIn H x o) (hle : Hp.le H H') : SrcIn H' x o := by
  obtain ⟨vs, vc, vch, vop, h1, h2, h3, h4, h5⟩ := h
  exact ⟨vs, vc, vch, vop, h1, h2.mono hle, h3.mono hle, h4.mono hle, h5.mono hle⟩

set_option maxRecDepth 20000 in
set_option maxHeartbeats 2000000 in
theorem cloneInts_ok (v : Value) (l : List Int) (H0 : Hp) (w0 : World) (h0 : Sub H0 w0) (hv : Ints H0 v l) (hl : l.length ≤ 1000000000000) :
    Calls Tryz.prog 97 #[v] w0 (Ret [] H0 w0 fun v H' M' => H' = H0 ∧ Own w0.heap.size 3 1 v l.length (l.map fun i => .int .i64 i) M') := by
  have hs := HS.init h0
  obtain ⟨base, cp, rfl⟩ := hv.form
  refine Calls.enter (args := [.slice base l.length cp]) Tryz.func97 rfl Tryz.ntmps97 rfl ?_
  refine WC.seq (WC.region (WO.step rfl (OR.assign rfl (WO.done (WX.seq (WC.seq (WC.seq ?_)))))))
  refine WC.region (WO.step rfl (OR.move rfl (WO.step rfl (OR.eqlNil T76.und rfl rfl (WO.done (WX.seq ?_))))))
  refine WC.cond rfl (fun hb => ?_) (fun hb => ?_)
  · refine WC.seq (WC.region (WO.step rfl (OR.assign rfl (WO.done (WX.seq (WC.ret (WX.seq_ret ?_)))))))
    refine WX.ret1 rfl rfl ?_
    have hb' : base = none := by cases base with | none => rfl | some a => cases hb
    subst hb'
    have h2 := Sl.src0 hv rfl
    refine ⟨_, H0, [], rfl, hs, by simp, rfl, ?_⟩
    have : l = [] := List.eq_nil_of_length_eq_zero h2
    subst this
    exact Own.nil _ _ _
  · refine WC.skip (WX.seq (WC.seq (WC.region ?_)))
    refine WO.step rfl (OR.buildSlice (vs := []) hs T76.und T3 rfl rfl rfl rfl (by simp) ?_)
    clear hs; intro g1 w hg1 hs
    refine WO.step rfl (OR.move rfl ?_)
    refine WO.step rfl (OR.append (n := 0) (cs := []) (news := l.map fun i => .int .i64 i) (Mo := [_]) (M := []) hs (Own.block (cap := 0) (by omega) rfl rfl hg1) T76.und T3 rfl (by omega) rfl rfl (by simp) (Sl.src hv hs) (Sl.src0 hv) (ints_one l) (by omega) (by omega) ?_)
    clear hs; intro v' w Mo hs ho hge
    refine WO.step rfl (OR.assign rfl (WO.done (WX.seq (WC.ret ?_))))
    refine WX.ret1 rfl rfl ?_
    rw [Nat.zero_add, List.nil_append] at ho
    refine ⟨_, H0, Mo, rfl, by simpa using hs, ?_, rfl, ho⟩
    rcases ho.2 with ⟨rfl, _⟩ | ⟨g, c, cap, rfl, _⟩ <;> simp
theorem cloneInts_pure (v : Value) (l : List Int) (H0 : Hp) (w0 : World) (h0 : Sub H0 w0) (hv : Ints H0 v l) (hl : l.length ≤ 1000000000000) :
    Calls Tryz.prog 97 #[v] w0 (Pure H0 w0 fun v H' => Ints H' v l) :=
  (cloneInts_ok v l H0 w0 h0 hv hl).mono fun _ _ h => own_pure h fun _ _ _ h => h

set_option maxRecDepth 20000 in
set_option maxHeartbeats 2000000 in
/-- The first error of some questions: what holds ahead of each, and at the end. -/
theorem first_ok (fs : List Value) (gb cap : Nat) (I : Nat → World → Prop) (Q : Int → World → Prop) (w0 : World) (h0 : I 0 w0) (hn : fs.length ≤ 1000)
    (hread : ∀ i w, I i w → ∀ h : i < fs.length, w.cell? ⟨gb, i, none⟩ = some fs[i])
    (hask : ∀ i (h : i < fs.length) w, I i w → ∃ f vf vc, fs[i] = .func (.func f) (List.toArray vf) (List.toArray vc) ∧ Body Tryz.prog f ∧ Calls Tryz.prog f (vf ++ [] ++ vc).toArray w (fun e w' => ∃ er : Int, e = .returned (.int .i64 er) ∧ ((er = 0 ∧ I (i + 1) w') ∨ (er ≠ 0 ∧ Q er w'))))
    (hend : ∀ w, I fs.length w → Q 0 w) :
    Calls Tryz.prog 83 #[.slice (some ⟨gb, 0, none⟩) fs.length cap] w0 (fun e w' => ∃ er : Int, e = .returned (.int .i64 er) ∧ Q er w') := by
  refine Calls.enter (args := [.slice (some ⟨gb, 0, none⟩) fs.length cap]) Tryz.func83 rfl Tryz.ntmps83 rfl ?_
  refine WC.seq (WC.region (WO.step rfl (OR.assign rfl (WO.done (WX.seq (WC.seq (WC.seq ?_)))))))
  refine WC.region (WO.step rfl (OR.move rfl (WO.step rfl (OR.lenSlice T215.und rfl (WO.step rfl (OR.move rfl (WO.done ?_)))))))
  refine WX.seq (WC.block ?_)
  refine WC.loop (ι := Nat) (fun i => [(6, .slice (some ⟨gb, 0, none⟩) fs.length cap), (7, .int .i64 (fs.length : Int)), (8, .int .i64 (i : Int))]) (fun i w => (i ≤ fs.length ∧ I i w)) (fun i => fs.length - i) 0 ⟨rfl, rfl, rfl,  trivial⟩ ?_ (fun i w hW => ?_)
  · exact ⟨by omega, h0⟩
  obtain ⟨hi, hI⟩ := hW
  refine WC.seq (WC.region (WO.step rfl (OR.lss rfl rfl (WO.done (WX.seq (WC.seq ?_))))))
  refine WC.condD rfl (fun hlt => ?_) (fun hlt => ?_)
  · have hi' : i < fs.length := by omega
    have hc := hread i w hI hi'
    obtain ⟨f, vf, vc, hf, hbf, hcall⟩ := hask i hi' w hI
    rw [hf] at hc
    refine WC.skip (WX.seq (WC.seq (WC.block (WC.seq (WC.region ?_)))))
    refine WO.step rfl (OR.idx i T215.und T70 rfl rfl rfl hi' ?_)
    refine WO.step rfl (OR.load T70 rfl rfl (by rw [Nat.zero_add]; exact hc) ?_)
    refine WO.step rfl (OR.assign rfl (WO.done (WX.seq (WC.seq (WC.region (WO.step rfl (OR.move rfl ?_)))))))
    refine WO.step rfl (OR.callW hbf rfl rfl hcall ?_)
    rintro e w' ⟨er, rfl, hcase⟩
    refine ⟨_, rfl, ?_⟩
    refine WO.step rfl (OR.assign rfl (WO.done (WX.seq (WC.seq (WC.region (WO.step rfl (OR.move rfl ?_)))))))
    refine WO.step rfl (OR.neq rfl rfl (WO.done (WX.seq ?_)))
    refine WC.condD rfl (fun hne => ?_) (fun hne => ?_)
    · refine WC.seq (WC.region (WO.step rfl (OR.move rfl (WO.step rfl (OR.assign rfl (WO.done (WX.seq ?_)))))))
      refine WC.ret (WX.block_ret (WX.seq_ret (WX.loop_ret (WX.block_ret (WX.seq_ret ?_)))))
      refine WX.ret1 rfl rfl ?_
      rcases hcase with ⟨h, _⟩ | ⟨_, h⟩
      · exact absurd h hne
      · exact ⟨er, rfl, h⟩
    · refine WC.skip (WX.block (WX.seq (WC.region (WO.step rfl (OR.addI rfl rfl (by omega) (by omega) (WO.step rfl (OR.move rfl ?_)))))))
      refine WO.done ?_
      refine WX.again (i + 1) ⟨rfl, rfl, rfl,  trivial⟩ ?_ ?_
      · refine ⟨hi', ?_⟩
        rcases hcase with ⟨_, h⟩ | ⟨h, _⟩
        · exact h
        · exact absurd h hne
      · omega
  · have e : i = fs.length := by omega
    subst e
    refine WC.exit (WX.seq_exit (WX.loop_exit (WX.block_hit (WX.seq (WC.seq (WC.region (WO.step rfl ?_)))))))
    refine OR.assign rfl (WO.done (WX.seq (WC.ret ?_)))
    refine WX.ret1 rfl rfl ?_
    exact ⟨0, rfl, hend w hI⟩

section
variable (b g s : Nat) (vs vc vch vop : Value) (cl : Bool) (H0 : Hp) (w0 : World)
set_option maxRecDepth 20000 in
set_option maxHeartbeats 2000000 in
theorem smade_ok (h0 : Sub H0 w0) (hb : w0.heap[b]? = some (srcObj g s vs vc cl vch vop)) (hn : H0 b = none) (hg : 0 < g) : Calls Tryz.prog 84 #[ptr b] w0 (Pure H0 w0 fun v _ => v = .int .i64 0) := by
  have hs := HS.startR h0 hb hn
  refine Calls.enter (args := [ptr b]) Tryz.func84 rfl Tryz.ntmps84 rfl ?_
  refine WC.seq (WC.region (WO.step rfl (OR.assign rfl (WO.done (WX.seq (WC.seq (WC.seq ?_)))))))
  refine WC.region (WO.step rfl (OR.move rfl (WO.step rfl (OR.eqlNilP T66.und rfl rfl (WO.step rfl (OR.move rfl (WO.guardYes rfl rfl rfl rfl ?_)))))))
  refine OR.move rfl (WO.guardYes rfl rfl rfl rfl (OR.nilCheck rfl (WO.guardYes rfl rfl rfl rfl (OR.fieldAddr FA163_0 rfl (WO.guardYes rfl rfl rfl rfl (OR.load T3 rfl rfl (hs.cellM (i := 0) rfl rfl) (WO.guardYes rfl rfl rfl rfl ?_)))))))
  refine OR.eql rfl rfl (WO.step rfl (OR.pickF rfl rfl rfl (WO.done (WX.seq ?_))))
  refine WC.no rfl (decide_eq_false (by omega)) ?_
  refine WC.skip (WX.seq (WC.seq (WC.region (WO.step rfl (OR.assign rfl (WO.done (WX.seq ?_)))))))
  refine WC.ret ?_
  refine WX.ret1 rfl rfl ?_
  exact .mk hs rfl
set_option maxRecDepth 20000 in
set_option maxHeartbeats 2000000 in
theorem sfree_ok (h0 : Sub H0 w0) (hb : w0.heap[b]? = some (srcObj g s vs vc cl vch vop)) (hn : H0 b = none) : Calls Tryz.prog 85 #[ptr b] w0 (Pure H0 w0 fun v _ => v = .int .i64 (if cl = true then 27 else 0)) := by
  have hs := HS.startR h0 hb hn
  refine Calls.enter (args := [ptr b]) Tryz.func85 rfl Tryz.ntmps85 rfl ?_
  refine WC.seq (WC.region (WO.step rfl (OR.assign rfl (WO.done (WX.seq (WC.seq (WC.seq ?_)))))))
  refine WC.region (WO.step rfl (OR.move rfl (WO.step rfl (OR.nilCheck rfl (WO.step rfl (OR.fieldAddr FA163_4 rfl (WO.step rfl ?_)))))))
  refine OR.load T4 rfl rfl (hs.cellM (i := 0) rfl rfl) (WO.done (WX.seq ?_))
  refine WC.cond rfl (fun hc => ?_) (fun hc => ?_)
  · refine WC.seq (WC.region (WO.step rfl (OR.assign rfl (WO.done (WX.seq (WC.ret (WX.seq_ret ?_)))))))
    refine WX.ret1 rfl rfl ?_
    exact .mk hs (by rw [if_pos hc])
  · refine WC.skip (WX.seq (WC.seq (WC.region (WO.step rfl (OR.assign rfl (WO.done (WX.seq ?_)))))))
    refine WC.ret ?_
    refine WX.ret1 rfl rfl ?_
    exact .mk hs (by rw [if_neg (by rw [hc]; decide)])
set_option maxRecDepth 20000 in
set_option maxHeartbeats 2000000 in
theorem sclosed_ok (h0 : Sub H0 w0) (hb : w0.heap[b]? = some (srcObj g s vs vc cl vch vop)) (hn : H0 b = none) : Calls Tryz.prog 114 #[ptr b] w0 (Pure H0 w0 fun v _ => v = .bool cl) := by
  have hs := HS.startR h0 hb hn
  refine Calls.enter (args := [ptr b]) Tryz.func114 rfl Tryz.ntmps114 rfl ?_
  refine WC.seq (WC.region (WO.step rfl (OR.assign rfl (WO.done (WX.seq (WC.seq (WC.region ?_)))))))
  refine WO.step rfl (OR.move rfl (WO.step rfl (OR.neqNilP T66.und rfl rfl (WO.step rfl (OR.move rfl (WO.guardYes rfl rfl rfl rfl (OR.move rfl ?_)))))))
  refine WO.guardYes rfl rfl rfl rfl (OR.nilCheck rfl (WO.guardYes rfl rfl rfl rfl (OR.fieldAddr FA163_4 rfl (WO.guardYes rfl rfl rfl rfl (OR.load T4 rfl rfl (hs.cellM (i := 0) rfl rfl) (WO.step rfl (OR.pickT rfl rfl rfl ?_)))))))
  refine WO.step rfl (OR.assign rfl (WO.done (WX.seq (WC.ret ?_))))
  refine WX.ret1 rfl rfl ?_
  exact .mk hs rfl
end
set_option maxRecDepth 20000 in
set_option maxHeartbeats 2000000 in
theorem gens_ok (b : Nat) (x : SrcD) (o : Obj) (H0 : Hp) (w0 : World) (h0 : Sub H0 w0) (hb : w0.heap[b]? = some o) (hn : H0 b = none) (hx : SrcIn H0 x o) (hl : x.chunks.length < 9223372036854775807) :
    Calls Tryz.prog 31 #[ptr b] w0 (Pure H0 w0 fun v _ => v = .int .u64 (x.chunks.length : Int)) := by
  obtain ⟨vs, vc, vch, vop, rfl, h1, h2, h3, h4⟩ := hx
  have hs := HS.startR h0 hb hn
  obtain ⟨b1, c1, rfl⟩ := h3.form
  refine Calls.enter (args := [ptr b]) Tryz.func31 rfl Tryz.ntmps31 rfl ?_
  refine WC.seq (WC.region (WO.step rfl (OR.assign rfl (WO.done (WX.seq (WC.seq (WC.seq ?_)))))))
  refine WC.region (WO.step rfl (OR.move rfl (WO.step rfl (OR.eqlNilP T66.und rfl rfl (WO.done (WX.seq (WC.no rfl rfl ?_)))))))
  refine WC.skip (WX.seq (WC.seq (WC.region (WO.step rfl (OR.move rfl (WO.step rfl (OR.nilCheck rfl ?_)))))))
  refine WO.step rfl (OR.fieldAddr FA163_5 rfl (WO.step rfl (OR.load T40 rfl rfl (hs.cellM (i := 0) rfl rfl) (WO.step rfl (OR.lenSlice T40.und rfl ?_)))))
  refine WO.step rfl (OR.convI T3.und T22.und rfl ?_)
  rw [u64_wrap _ (by omega)]
  refine WO.step rfl (OR.assign rfl (WO.done (WX.seq (WC.ret ?_))))
  refine WX.ret1 rfl rfl ?_
  exact .mk hs rfl
-- left out, for this seat has no (*braidwork/source.Source).Stream: theorem stream_nil (H0
-- left out, for this seat has no (*braidwork/source.Source).Stream: theorem stream_ok (b
-- left out, for this seat has no (*braidwork/source.Source).Cuts: theorem cuts_nil (H0
-- left out, for this seat has no (*braidwork/source.Source).Cuts: theorem cuts_ok (b
end Go.Bw
namespace Go.Bw
set_option linter.unusedVariables false
set_option linter.unusedSimpArgs false
open Go.Proofs
/-- n whole pieces from a place on. -/
def wholeL (room : Nat) (st : List UInt8) (a n : Nat) : List (List UInt8) := (List.range n).map fun k => (st.drop (a + k * room)).take room
theorem wholeL_succ (room : Nat) (st : List UInt8) (a n : Nat) : wholeL room st a (n + 1) = wholeL room st a n ++ [(st.drop (a + n * room)).take room] := by
  simp [wholeL, List.range_succ]
def cutPiece (st : List UInt8) (a cut : Nat) : List (List UInt8) := if a < cut then [(st.drop a).take (cut - a)] else []
/-- What a cut makes of the pieces, and of the place. -/
def chunkStep (room : Nat) (st : List UInt8) (p : List (List UInt8) × Nat) (cut : Int) : List (List UInt8) × Nat :=
  (p.1 ++ wholeL room st p.2 ((cut.toNat - p.2) / room) ++ cutPiece st (p.2 + (cut.toNat - p.2) / room * room) cut.toNat, cut.toNat)
def cutsOk (n : Nat) : Int → List Int → Bool
  | _, [] => true
  | last, c :: cs => decide (last ≤ c) && decide (c ≤ (n : Int)) && cutsOk n c cs
def chunkP (room : Nat) (st : List UInt8) (cuts : List Int) : List (List UInt8) × Nat := cuts.foldl (chunkStep room st) ([], 0)
def chunksF (room : Nat) (st : List UInt8) (cuts : List Int) : List (List UInt8) :=
  (chunkP room st cuts).1 ++ wholeL room st (chunkP room st cuts).2 ((st.length - (chunkP room st cuts).2) / room)
def openF (room : Nat) (st : List UInt8) (cuts : List Int) : List UInt8 :=
  st.drop ((chunkP room st cuts).2 + (st.length - (chunkP room st cuts).2) / room * room)

set_option maxRecDepth 20000 in
set_option maxHeartbeats 2000000 in
theorem hand_ok (gout gst gat : Nat) (ov sv : Value) (cl : List Value) (chs : List (List UInt8)) (st : List UInt8) (a to : Nat) (Mo : Mem) (N : Nat) (H0 : Hp) (w0 : World)
    (hs : HS (gout :: gat :: Mem.keys Mo) H0 w0 H0 ((gout, .cells #[ov] 40, true) :: (gat, .cells #[.int .i64 (a : Int)] 3, true) :: (gst, .cells #[sv] 43, false) :: Mo) w0)
    (hst : Bytes H0 sv st) (ho : Own N 43 1 ov chs.length cl Mo) (hN : N ≤ w0.heap.size) (hok : BLOk H0 cl chs) (hat : a ≤ to) (hto : to ≤ st.length) (hlen : st.length ≤ 1000000000000) (hchs : chs.length ≤ 1000000000000) :
    Calls Tryz.prog 137 #[.int .i64 (to : Int), ptr gout, ptr gst, ptr gat] w0 (Ret (gout :: gat :: Mem.keys Mo) H0 w0 fun v H' M' => v = .tuple #[] ∧ ∃ Mo' ov' cl',
      M' = (gout, .cells #[ov'] 40, true) :: (gat, .cells #[.int .i64 (to : Int)] 3, true) :: Mo' ∧ Own N 43 1 ov' (chs.length + 1) cl' Mo' ∧ BLOk H' cl' (chs ++ [(st.drop a).take (to - a)])) := by
  have hle := Hp.le.refl H0
  obtain ⟨b1, c1, rfl⟩ := hst.form
  obtain ⟨b2, c2, rfl⟩ := ho.form
  have hcap := hst.cap_le
  refine Calls.enter (args := [.int .i64 (to : Int), ptr gout, ptr gst, ptr gat]) Tryz.func137 rfl Tryz.ntmps137 rfl ?_
  have hpart := hst.part a to hat hto
  refine WC.seq ?_
  refine WC.draw 7 mixed hs (by kernel_rfl) ?_
  refine ⟨MF.eq _, by intro Mx H w hle hs; refine forVals_nil (ORg.plain (OR.load T40 rfl rfl (hs.right.cellM (i := 0) rfl rfl) ?_)); exact ⟨_, [], Hp.le.refl _, hs, rfl, rfl⟩, ?_⟩
  refine ⟨MF.eq _, by intro Mx H w hle hs; refine forVals_nil (ORg.plain (OR.load T43 rfl rfl (hs.right.cellM (i := 2) rfl rfl) ?_)); exact ⟨_, [], Hp.le.refl _, hs, rfl, rfl⟩, ?_⟩
  refine ⟨MF.eq _, by intro Mx H w hle hs; refine forVals_nil (ORg.plain (OR.load T3 rfl rfl (hs.right.cellM (i := 1) rfl rfl) ?_)); exact ⟨_, [], Hp.le.refl _, hs, rfl, rfl⟩, ?_⟩
  refine ⟨MF.eq _, by intro Mx H w hle hs; refine forVals_nil (ORg.plain (OR.move rfl ?_)); exact ⟨_, [], Hp.le.refl _, hs, rfl, rfl⟩, ?_⟩
  refine ⟨MF.eq (.slice (if c1 = a then b1 else b1.map (·.add (a * 1))) (to - a) (c1 - a)), ?_, ?_⟩
  · intro Mx H w hle2 hs; (try replace hle := hle.trans hle2); (try replace hlb := hlb.trans hle2); refine forVals_eq rfl rfl rfl ?_; refine forVals_eq rfl rfl rfl ?_; refine forVals_eq rfl rfl rfl ?_
    refine forVals_nil (ORg.plain (OR.slice2G a to T43.und T5 rfl rfl rfl rfl rfl hat (by omega) ?_))
    exact ⟨_, [], Hp.le.refl _, hs, rfl, rfl⟩
  refine ⟨MF.bytes ((st.drop a).take (to - a)), ?_, ?_⟩
  · intro Mx H w hle2 hs; (try replace hle := hle.trans hle2); (try replace hlb := hlb.trans hle2); refine forVals_eq rfl rfl rfl ?_
    refine forVals_nil (ORg.plain (OR.call hs body87 rfl rfl (clone_pure _ _ _ _ hs.toSub (hpart.mono hle) (by simp; omega)) ?_))
    clear hs; rintro _ H w hs hle1 hb
    exact ⟨_, [], hle1, hs, hb, rfl⟩
  refine ⟨MF.bytesL [(st.drop a).take (to - a)], ?_, ?_⟩
  · intro Mx H w hle2 hs; (try replace hle := hle.trans hle2); (try replace hlb := hlb.trans hle2); refine forVals_of rfl rfl rfl ?_; intro v5 h5
    obtain ⟨b5, c5, rfl⟩ := h5.form
    refine forVals_nil (ORg.plain (OR.buildSlice (vs := [_]) hs T40.und T43 rfl rfl rfl rfl (by simp) ?_))
    intro gn w hgn hs
    obtain ⟨H, hle1, hp, hs⟩ := hs.pub1 hgn
    exact ⟨_, [], hle1, hs, (BytesL.single (Sl.block hp rfl rfl (by simp)) (h5.mono hle1)), rfl⟩
  intro H w hle2; (try replace hle := hle.trans hle2); (try replace hlb := hlb.trans hle2)
  refine forAllVals_eq rfl ?_
  refine forAllVals_eq rfl ?_
  refine forAllVals_eq rfl ?_
  refine forAllVals_eq rfl ?_
  refine forAllVals_eq rfl ?_
  refine forAllVals_of rfl ?_; intro v5 h5
  refine forAllVals_of rfl ?_; intro v6 h6
  refine forAllVals_nil ?_; (try clear hs); intro hs
  obtain ⟨cs6, hsl6, hl6, hb6⟩ := h6
  obtain ⟨b6, c6, q6⟩ := hsl6.form
  subst q6
  have hone6 : cs6.all (·.oneCell') = true := by
    rw [List.all_eq_true]
    intro u hu
    obtain ⟨i, hi, rfl⟩ := List.mem_iff_getElem.1 hu
    obtain ⟨b7, c7, e7⟩ := (hb6 i (by omega) hi).form
    rw [e7]; rfl
  replace hs := hs.perm (List.perm_append_comm (l₁ := Mo) (l₂ := [_, _, _]))
  refine WO.step rfl (OR.appendN (m := 1) (news := cs6) hN hs ho T40.und T43 rfl (by omega) rfl rfl (by simpa using hl6) (Sl.src hsl6 hs) (Sl.src0 hsl6) hone6 (by omega) (by omega) ?_)
  clear hs ho; intro vo' w Mo' hs ho hge
  replace hs := hs.perm (List.perm_append_comm (l₁ := [_, _, _]) (l₂ := Mo'))
  obtain ⟨b8, c8, rfl⟩ := ho.form
  refine WO.stepN (OR.storeAll hs T40 rfl rfl rfl rfl rfl ?_)
  clear hs; intro w hs
  refine WO.done (WX.seq (WC.region (WO.step rfl (OR.move rfl ?_))))
  replace hs := hs.front (i := 1) rfl
  refine WO.stepN (OR.storeAll hs T3 rfl rfl rfl rfl rfl ?_)
  clear hs; intro w hs
  refine WO.done ?_
  replace hs := hs.front (i := 1) rfl
  replace hs := hs.drop 2
  refine WX.end0 rfl ?_
  refine ⟨_, _, _, rfl, hs, ?_, rfl, Mo', _, cl ++ cs6, rfl, ho, ?_⟩
  · intro p hp
    rcases List.mem_cons.1 hp with rfl | hp
    · rfl
    · rcases List.mem_cons.1 hp with rfl | hp
      · rfl
      · exact ho.tt p hp
  · have h9 := hok.mono hle
    refine ⟨by simp [h9.1, hl6], fun i h1 h2 => ?_⟩
    have e1 := h9.1
    by_cases e : i < chs.length
    · simp only [List.getElem_append_left e, List.getElem_append_left (show i < cl.length by omega)]
      exact h9.2 i e (by omega)
    · simp only [List.length_append] at h1 h2
      simp only [List.getElem_append_right (show chs.length ≤ i by omega), List.getElem_append_right (show cl.length ≤ i by omega), e1]
      exact hb6 (i - chs.length) (by simp at h1 ⊢; omega) (by omega)


/-- The value of hand. -/
abbrev handV (gout gst gat : Nat) : Value := .func (.func 137) #[] #[ptr gout, ptr gst, ptr gat]
set_option maxRecDepth 20000 in
set_option maxHeartbeats 2000000 in
theorem whole_ok (gout gst gat groom ghand : Nat) (room : Nat) (ov sv : Value) (cl : List Value) (chs : List (List UInt8)) (st : List UInt8) (a to : Nat) (Mo : Mem) (N : Nat) (H0 : Hp) (w0 : World)
    (hs : HS (gout :: gat :: Mem.keys Mo) H0 w0 H0 ((gout, .cells #[ov] 40, true) :: (gat, .cells #[.int .i64 (a : Int)] 3, true) :: (gst, .cells #[sv] 43, false) ::
      (groom, .cells #[.int .i64 (room : Int)] 3, false) :: (ghand, .cells #[handV gout gst gat] 216, false) :: Mo) w0)
    (hst : Bytes H0 sv st) (ho : Own N 43 1 ov chs.length cl Mo) (hN : N ≤ w0.heap.size) (hok : BLOk H0 cl chs) (hat : a ≤ to) (hto : to ≤ st.length) (hlen : st.length ≤ 100000000000) (hchs : chs.length ≤ 100000000000) (hroom : 1 ≤ room) (hroom2 : room ≤ 100000000000) :
    Calls Tryz.prog 138 #[.int .i64 (to : Int), ptr gat, ptr groom, ptr ghand] w0 (Ret (gout :: gat :: Mem.keys Mo) H0 w0 fun v H' M' => v = .tuple #[] ∧ ∃ Mo' ov' cl',
      M' = (gout, .cells #[ov'] 40, true) :: (gat, .cells #[.int .i64 ((a + (to - a) / room * room : Nat) : Int)] 3, true) :: Mo' ∧ Own N 43 1 ov' (chs.length + (to - a) / room) cl' Mo' ∧
      BLOk H' cl' (chs ++ wholeL room st a ((to - a) / room))) := by
  have hle := Hp.le.refl H0
  obtain ⟨n, hn⟩ : ∃ n, n = (to - a) / room := ⟨_, rfl⟩
  rw [← hn]
  have hnl : n * room ≤ to - a := by rw [hn]; exact Nat.div_mul_le_self _ _
  have hn1 : ∀ k, (k + 1) * room ≤ to - a → k + 1 ≤ n := fun k h => by rw [hn]; exact (Nat.le_div_iff_mul_le hroom).2 h
  have hn2 : ∀ k, k + 1 ≤ n → (k + 1) * room ≤ to - a := fun k h => Nat.le_trans (Nat.mul_le_mul_right room h) hnl
  have hnto : n ≤ to - a := Nat.le_trans (Nat.le_mul_of_pos_right n hroom) hnl
  clear hn
  refine Calls.enter (args := [.int .i64 (to : Int), ptr gat, ptr groom, ptr ghand]) Tryz.func138 rfl Tryz.ntmps138 rfl ?_
  refine WC.block ?_
  refine WC.loop (ι := Nat) (fun k => [(0, .int .i64 (to : Int)), (1, ptr gat), (2, ptr groom), (3, ptr ghand)]) (fun k w => (k ≤ n ∧ ∃ H Mo' ov' cl', Hp.le H0 H ∧ Own N 43 1 ov' (chs.length + k) cl' Mo' ∧ BLOk H cl' (chs ++ wholeL room st a k) ∧ HS (gout :: gat :: Mem.keys Mo) H0 w0 H ((gout, .cells #[ov'] 40, true) :: (gat, .cells #[.int .i64 ((a + k * room : Nat) : Int)] 3, true) :: (gst, .cells #[sv] 43, false) :: (groom, .cells #[.int .i64 (room : Int)] 3, false) :: (ghand, .cells #[handV gout gst gat] 216, false) :: Mo') w)) (fun k => n - k) 0 ⟨rfl, rfl, rfl, rfl,  trivial⟩ ?_ (fun k w hW => ?_)
  · exact ⟨by omega, H0, Mo, ov, cl, hle, ho, by simpa [wholeL] using hok, by simpa using hs⟩
  clear hs hle ho hok
  obtain ⟨hk, H, Mo1, ov1, cl1, hle, ho, hok, hs⟩ := hW
  have hkr : k * room ≤ to - a := Nat.le_trans (Nat.mul_le_mul_right room hk) hnl
  have hk1 : (k + 1) * room = k * room + room := Nat.succ_mul k room
  refine WC.seq (WC.seq (WC.region (WO.step rfl (OR.move rfl (WO.step rfl (OR.load T3 rfl rfl (hs.cellM (i := 1) rfl rfl) (WO.step rfl ?_)))))))
  refine OR.subI rfl rfl (by omega) (by omega) (WO.step rfl (OR.load T3 rfl rfl (hs.cellM (i := 3) rfl rfl) (WO.step rfl (OR.geq rfl rfl (WO.done (WX.seq ?_))))))
  refine WC.condD rfl (fun hge => ?_) (fun hge => ?_)
  · have hk2 := hn1 k (by omega)
    have hwl : (chs ++ wholeL room st a k).length = chs.length + k := by simp [wholeL]
    refine WC.skip (WX.seq (WC.block (WC.region (WO.step rfl (OR.load T216 rfl rfl (hs.cellM (i := 4) rfl rfl) (WO.step rfl (OR.load T3 rfl rfl (hs.cellM (i := 1) rfl rfl) ?_)))))))
    refine WO.step rfl (OR.load T3 rfl rfl (hs.cellM (i := 3) rfl rfl) (WO.step rfl (OR.addI rfl rfl (by omega) (by omega) ?_)))
    have hs2 := ((hs.drop 3).drop 3).beginR (Mr := [_, _, _]) (Mo := Mo1) [true, true, false]
    replace hs := hs.perm (((((List.perm_append_comm (l₁ := Mo1) (l₂ := [_, _, _])).cons _).cons _)) : List.Perm (_ :: _ :: (Mo1 ++ [_, _, _])) _)
    refine WO.step rfl (OR.callX (Mx := _ :: _ :: Mo1) (Mr := [_, _, _]) hs body137 rfl rfl (hand_ok gout gst gat ov1 sv cl1 (chs ++ wholeL room st a k) st (a + k * room) (a + k * room + room) Mo1 N H _ hs2 (hst.mono hle) (by rw [hwl]; exact ho) (Nat.le_trans hN hs.size) hok (by omega) (by omega) (by omega) (by rw [hwl]; omega)) rfl (by simpa using ho.tt) ?_)
    clear hs hs2 ho hok; rintro v H2 M2 w hs hle1 hnew ⟨rfl, Mo2, ov2, cl2, rfl, ho, hok⟩
    replace hle := hle.trans hle1
    replace hs := hs.perm (((((List.perm_append_comm (l₁ := [_, _, _]) (l₂ := Mo2)).cons _).cons _)) : List.Perm (_ :: _ :: ([_, _, _] ++ Mo2)) _)
    rw [hwl] at ho
    have e9 : a + k * room + room - (a + k * room) = room := by omega
    rw [e9, List.append_assoc, ← wholeL_succ] at hok
    refine WO.done (WX.block ?_)
    refine WX.again (k + 1) ⟨rfl, rfl, rfl, rfl,  trivial⟩ ?_ ?_
    · refine ⟨hk2, H2, Mo2, ov2, cl2, hle, ho, hok, ?_⟩
      have e8 : a + (k + 1) * room = a + k * room + room := by omega
      rw [e8]
      exact hs
    · omega
  · have e : k = n := by
      rcases Nat.lt_or_ge k n with h | h
      · have := hn2 k h; omega
      · omega
    subst e
    refine WC.exit (WX.seq_exit (WX.loop_exit (WX.block_hit ?_)))
    replace hs := ((hs.drop 2).drop 2).drop 2
    refine WX.end0 rfl ?_
    refine ⟨_, _, _, rfl, hs, ?_, rfl, Mo1, ov1, cl1, rfl, ho, hok⟩
    intro p hp
    rcases List.mem_cons.1 hp with rfl | hp
    · rfl
    · rcases List.mem_cons.1 hp with rfl | hp
      · rfl
      · exact ho.tt p hp


theorem chunkStep_len {room : Nat} {st : List UInt8} {p : List (List UInt8) × Nat} {cut : Int} (h : p.1.length ≤ p.2) (hc : p.2 ≤ cut.toNat) (hr : 1 ≤ room) : (chunkStep room st p cut).1.length ≤ (chunkStep room st p cut).2 := by
  simp only [chunkStep, List.length_append]
  have h1 : (wholeL room st p.2 ((cut.toNat - p.2) / room)).length = (cut.toNat - p.2) / room := by simp [wholeL]
  rw [h1]
  have h2 : (cut.toNat - p.2) / room ≤ (cut.toNat - p.2) / room * room := Nat.le_mul_of_pos_right _ hr
  have h3 : (cut.toNat - p.2) / room * room ≤ cut.toNat - p.2 := Nat.div_mul_le_self _ _
  unfold cutPiece
  split
  · simp only [List.length_singleton]; omega
  · simp only [List.length_nil]; omega
theorem chunkP_succ (room : Nat) (st : List UInt8) (cuts : List Int) (k : Nat) (h : k < cuts.length) : chunkP room st (cuts.take (k + 1)) = chunkStep room st (chunkP room st (cuts.take k)) cuts[k] := by
  unfold chunkP
  rw [List.take_succ_eq_append_getElem h, List.foldl_append]
  rfl

set_option maxRecDepth 20000 in
set_option maxHeartbeats 2000000 in
theorem chunks_ok (g s : Nat) (vs vc : Value) (st : List UInt8) (cuts : List Int) (H0 : Hp) (w0 : World) (h0 : Sub H0 w0) (hgs : 1 ≤ g ∧ g ≤ 255 ∧ 1 ≤ s ∧ s ≤ 65535 ∧ 4 < g * s) (hst : Bytes H0 vs st) (hcu : Ints H0 vc cuts)
    (hlen : st.length ≤ 10000000000) (hcl : cuts.length ≤ 10000000000) :
    Calls Tryz.prog 88 #[vs, vc, .int .i64 (g : Int), .int .i64 (s : Int)] w0 (Pure H0 w0 fun v H' => ∃ r1 r2, v = .tuple #[r1, r2, .int .i64 (if cutsOk st.length 0 cuts = true then 0 else 1)] ∧
      BytesL H' r1 (if cutsOk st.length 0 cuts = true then chunksF (g * s - 4) st cuts else []) ∧ Bytes H' r2 (if cutsOk st.length 0 cuts = true then openF (g * s - 4) st cuts else [])) := by
  have hs := HS.init h0
  have hle := Hp.le.refl H0
  obtain ⟨hg1, hg2, hs1, hs2, hgs4⟩ := hgs
  have hmul : g * s ≤ 255 * 65535 := Nat.mul_le_mul hg2 hs2
  obtain ⟨bs, cs, rfl⟩ := hst.form
  obtain ⟨bc, cc, rfl⟩ := hcu.form
  have hcap := hst.cap_le
  refine Calls.enter (args := [.slice bs st.length cs, .slice bc cuts.length cc, .int .i64 (g : Int), .int .i64 (s : Int)]) Tryz.func88 rfl Tryz.ntmps88 rfl ?_
  refine WC.seq (WC.region (WO.step rfl (OR.box hs rfl ?_)))
  clear hs; intro g1 w hg1 hs
  refine WO.step rfl (OR.assign rfl (WO.step rfl (OR.assign rfl (WO.step rfl (OR.assign rfl (WO.done (WX.seq ?_)))))))
  refine WC.seq (WC.region (WO.step rfl (OR.move rfl (WO.step rfl (OR.move rfl ?_)))))
  refine WO.step rfl (OR.call hs body62 rfl rfl (room_ok (g : Int) (s : Int) _ _ hs.toSub) ?_)
  clear hs; rintro _ H w hs hle1 rfl; replace hle := hle.trans hle1; (try replace hlb := hlb.trans hle1)
  have hmc : (g : Int) * (s : Int) = ((g * s : Nat) : Int) := by rw [Int.natCast_mul]
  have hrc : (g : Int) * (s : Int) - 4 = ((g * s - 4 : Nat) : Int) := by rw [hmc]; omega
  rw [if_pos (show 1 ≤ (g : Int) ∧ (g : Int) ≤ 255 ∧ 1 ≤ (s : Int) ∧ (s : Int) ≤ 65535 ∧ 4 < (g : Int) * (s : Int) from ⟨by omega, by omega, by omega, by omega, by rw [hmc]; omega⟩), hrc]
  obtain ⟨room, hroom⟩ : ∃ r, r = g * s - 4 := ⟨_, rfl⟩
  rw [← hroom]
  have hr1 : 1 ≤ room := by omega
  have hr2 : room ≤ 100000000000 := by omega
  clear hrc hmc hroom hgs4 hmul hg1 hg2 hs1 hs2
  refine WO.step rfl (OR.move rfl (WO.step rfl (OR.extract rfl rfl (WO.step rfl (OR.extract rfl rfl (WO.step rfl (OR.alloc hs T3 ?_)))))))
  clear hs; intro g2 w hg2 hs
  refine WO.stepN (OR.storeAll hs T3 rfl rfl rfl rfl rfl ?_)
  clear hs; intro w hs
  refine WO.step rfl (OR.assign rfl (WO.done (WX.seq (WC.seq (WC.seq (WC.region (WO.step rfl ?_)))))))
  refine OR.move rfl (WO.step rfl (OR.neq rfl rfl (WO.done (WX.seq ?_))))
  refine WC.no rfl (decide_eq_false (by omega)) ?_
  refine WC.skip (WX.seq (WC.seq (WC.region (WO.step rfl (OR.alloc hs T40 ?_)))))
  clear hs; intro g3 w hg3 hs
  refine WO.done (WX.seq (WC.seq (WC.region (WO.step rfl (OR.alloc hs T3 ?_)))))
  clear hs; intro g4 w hg4 hs
  refine WO.stepN (OR.storeAll hs T3 rfl rfl rfl rfl rfl ?_)
  clear hs; intro w hs
  refine WO.done (WX.seq (WC.seq (WC.region (WO.step rfl (OR.makeFunc rfl rfl (WO.step rfl (OR.alloc hs T216 ?_)))))))
  clear hs; intro g5 w hg5 hs
  refine WO.stepN (OR.storeAll hs T216 rfl rfl rfl rfl rfl ?_)
  clear hs; intro w hs
  refine WO.done (WX.seq (WC.seq (WC.region (WO.step rfl (OR.makeFunc rfl rfl (WO.step rfl (OR.assign rfl ?_)))))))
  refine WO.done (WX.seq (WC.seq (WC.region (WO.step rfl (OR.assign rfl (WO.done (WX.seq ?_)))))))
  refine WC.seq (WC.seq (WC.region (WO.step rfl (OR.move rfl (WO.step rfl (OR.lenSlice T76.und rfl (WO.step rfl ?_)))))))
  refine OR.move rfl (WO.done (WX.seq (WC.block ?_)))
  replace hs := hs.front (i := 0) rfl
  replace hs := hs.front (i := 3) rfl
  replace hs := hs.front (i := 4) rfl
  replace hs := hs.front (i := 3) rfl
  replace hs := hs.front (i := 4) rfl
  refine WC.loop (ι := Nat) (fun k => [(4, ptr g1), (11, ptr g2), (13, ptr g3), (14, ptr g4), (15, ptr g5), (16, .func (.func 138) #[] #[ptr g4, ptr g2, ptr g5]), (17, .int .i64 ((chunkP room st (cuts.take k)).2 : Int)), (31, .slice bc cuts.length cc), (32, .int .i64 (cuts.length : Int)), (33, .int .i64 (k : Int))]) (fun k w => (k ≤ cuts.length ∧ cutsOk st.length 0 cuts = cutsOk st.length ((chunkP room st (cuts.take k)).2 : Int) (cuts.drop k) ∧ (chunkP room st (cuts.take k)).2 ≤ st.length ∧ (chunkP room st (cuts.take k)).1.length ≤ (chunkP room st (cuts.take k)).2 ∧ ∃ H Mo ov cl, Hp.le H0 H ∧ Own w0.heap.size 43 1 ov (chunkP room st (cuts.take k)).1.length cl Mo ∧ BLOk H cl (chunkP room st (cuts.take k)).1 ∧ HS [] H0 w0 H ([(g3, .cells #[ov] 40, true), (g4, .cells #[.int .i64 ((chunkP room st (cuts.take k)).2 : Int)] 3, true), (g1, .cells #[.slice bs st.length cs] 43, true), (g2, .cells #[.int .i64 (room : Int)] 3, true), (g5, .cells #[handV g3 g1 g4] 216, true)] ++ Mo) w)) (fun k => cuts.length - k) 0 ⟨rfl, rfl, rfl, rfl, rfl, rfl, rfl, rfl, rfl, rfl,  trivial⟩ ?_ (fun k w hW => ?_)
  · exact ⟨by omega, rfl, Nat.zero_le _, Nat.zero_le _, H, [], .slice none 0 0, [], hle, Own.nil _ _ _, BLOk.nil _, hs⟩
  clear hs hle
  obtain ⟨hk, hok0, hP2, hPl, H, Mo, ov, cl, hle, ho, hok, hs⟩ := hW
  have hPs : ∀ h : k < cuts.length, chunkP room st (cuts.take (k + 1)) = chunkStep room st (chunkP room st (cuts.take k)) cuts[k] := fun h => chunkP_succ room st cuts k h
  generalize hPg : chunkP room st (cuts.take k) = P at *
  obtain ⟨chs, a⟩ := P
  simp only at hok0 hP2 hPl ho hok hs hPs
  refine WC.seq (WC.region (WO.step rfl (OR.lss rfl rfl (WO.done (WX.seq (WC.seq ?_))))))
  refine WC.condD rfl (fun hlt => ?_) (fun hlt => ?_)
  · have hk' : k < cuts.length := by omega
    obtain ⟨xb, xo, rfl, hcc⟩ := hcu.pos (by omega)
    have hdr : cuts.drop k = cuts[k] :: cuts.drop (k + 1) := List.drop_eq_getElem_cons hk'
    rw [hdr, cutsOk] at hok0
    refine WC.skip (WX.seq (WC.seq (WC.block (WC.seq (WC.region ?_)))))
    refine WO.step rfl (OR.idx k T76.und T3 rfl rfl rfl hk' ?_)
    refine WO.step rfl (OR.load T3 rfl rfl (hs.cell (hcell.mono hle (hcc k hk'))) ?_)
    refine WO.step rfl (OR.assign rfl (WO.done (WX.seq (WC.seq (WC.seq (WC.region (WO.step rfl ?_)))))))
    refine OR.move rfl (WO.step rfl (OR.move rfl (WO.step rfl (OR.lss rfl rfl (WO.step rfl (OR.move rfl ?_))))))
    refine WO.guardSplit (j := 3) rfl (fun q1 => ?_) (fun q1 => ?_)
    · refine WO.guardNo rfl (decide_eq_true q1) rfl rfl (WO.guardNo rfl (decide_eq_true q1) rfl rfl (WO.guardNo rfl (decide_eq_true q1) rfl rfl (WO.guardNo rfl (decide_eq_true q1) rfl rfl (WO.step rfl (OR.pickT rfl (decide_eq_true q1) rfl (WO.done (WX.seq ?_)))))))
      refine WC.yes rfl rfl (WC.seq (WC.region (WO.step rfl (OR.assign rfl (WO.step rfl (OR.assign rfl (WO.step rfl ?_)))))))
      refine OR.assign rfl (WO.done (WX.seq (WC.ret (WX.seq_ret (WX.block_ret (WX.seq_ret (WX.loop_ret ?_)))))))
      refine WX.block_ret (WX.seq_ret ?_)
      refine WX.ret3 rfl rfl rfl rfl ?_
      have hf : cutsOk st.length 0 cuts = false := by rw [hok0, decide_eq_false (by omega)]; rfl
      exact .mk hs ⟨_, _, by rw [hf]; rfl, by rw [hf]; exact ⟨[], Sl.nil _ _, rfl, fun i h => by simp at h⟩, by rw [hf]; exact Bytes.nil _⟩
    · refine WO.guardYes rfl (decide_eq_false q1) rfl rfl (OR.move rfl (WO.guardYes rfl (decide_eq_false q1) rfl rfl (OR.load T43 rfl rfl (hs.cellM (i := 2) rfl rfl) (WO.guardYes rfl (decide_eq_false q1) rfl rfl (OR.lenSlice T43.und rfl (WO.guardYes rfl (decide_eq_false q1) rfl rfl (OR.gtr rfl rfl ?_)))))))
      refine WO.step rfl (OR.pickF rfl (decide_eq_false q1) rfl (WO.done (WX.seq ?_)))
      refine WC.condD rfl (fun q2 => ?_) (fun q2 => ?_)
      · refine WC.seq (WC.region (WO.step rfl (OR.assign rfl (WO.step rfl (OR.assign rfl (WO.step rfl (OR.assign rfl ?_)))))))
        refine WO.done (WX.seq (WC.ret (WX.seq_ret (WX.block_ret (WX.seq_ret (WX.loop_ret (WX.block_ret ?_)))))))
        refine WX.seq_ret ?_
        refine WX.ret3 rfl rfl rfl rfl ?_
        have hf : cutsOk st.length 0 cuts = false := by rw [hok0, decide_eq_false (show ¬ cuts[k] ≤ (st.length : Int) by omega), Bool.and_false]; rfl
        exact .mk hs ⟨_, _, by rw [hf]; rfl, by rw [hf]; exact ⟨[], Sl.nil _ _, rfl, fun i h => by simp at h⟩, by rw [hf]; exact Bytes.nil _⟩
      · obtain ⟨c, hc⟩ := Int.eq_ofNat_of_zero_le (show 0 ≤ cuts[k] by omega)
        have hok1 : cutsOk st.length 0 cuts = cutsOk st.length (c : Int) (cuts.drop (k + 1)) := by
          rw [hok0, decide_eq_true (show (a : Int) ≤ cuts[k] by omega), decide_eq_true (show cuts[k] ≤ (st.length : Int) by omega), hc]; rfl
        have hac : a ≤ c := by omega
        have hcn : c ≤ st.length := by omega
        have hPs1 := hPs hk'
        rw [hc] at hPs1
        have hstep := chunkStep_len (room := room) (st := st) (p := (chs, a)) (cut := (c : Int)) hPl hac hr1
        have hct : ((c : Int)).toNat = c := rfl
        rw [hc]
        refine WC.skip (WX.seq (WC.seq (WC.region (WO.step rfl (OR.move rfl (WO.step rfl (OR.assign rfl ?_)))))))
        refine WO.done (WX.seq (WC.seq (WC.region (WO.step rfl (OR.move rfl (WO.step rfl (OR.move rfl ?_)))))))
        have hs2 := hs.beginR (Mr := [_, _, _, _, _]) (Mo := Mo) [true, true, false, false, false]
        replace hs := hs.perm (((((List.perm_append_comm (l₁ := Mo) (l₂ := [_, _, _])).cons _).cons _)) : List.Perm (_ :: _ :: (Mo ++ [_, _, _])) _)
        refine WO.step rfl (OR.callX (Mx := _ :: _ :: Mo) (Mr := [_, _, _]) hs body138 rfl rfl (whole_ok g3 g1 g4 g2 g5 room ov (.slice bs st.length cs) cl chs st a c Mo w0.heap.size H _ hs2 (hst.mono hle) ho hs.size hok hac hcn (by omega) (by omega) hr1 hr2) rfl (by simpa using ho.tt) ?_)
        clear hs hs2 ho hok; rintro v H2 Mo2 w hs hle1 hnew ⟨rfl, Mo2, ov2, cl2, rfl, ho, hok⟩
        replace hle := hle.trans hle1
        replace hs := hs.perm (((((List.perm_append_comm (l₁ := [_, _, _]) (l₂ := Mo2)).cons _).cons _)) : List.Perm (_ :: _ :: ([_, _, _] ++ Mo2)) _)
        have hnl : (c - a) / room * room ≤ c - a := Nat.div_mul_le_self _ _
        have hnn : (c - a) / room ≤ (c - a) / room * room := Nat.le_mul_of_pos_right _ hr1
        have hwl : (chs ++ wholeL room st a ((c - a) / room)).length = chs.length + (c - a) / room := by simp [wholeL]
        refine WO.done (WX.seq (WC.seq (WC.region (WO.step rfl (OR.load T3 rfl rfl (hs.cellM (i := 1) rfl rfl) (WO.step rfl (OR.move rfl ?_)))))))
        refine WO.step rfl (OR.lss rfl rfl (WO.done (WX.seq ?_)))
        refine WC.condD rfl (fun q3 => ?_) (fun q3 => ?_)
        · refine WC.region (WO.step rfl (OR.load T216 rfl rfl (hs.cellM (i := 4) rfl rfl) (WO.step rfl (OR.move rfl ?_))))
          have hs2 := ((hs.drop 3).drop 3).beginR (Mr := [_, _, _]) (Mo := Mo2) [true, true, false]
          replace hs := hs.perm (((((List.perm_append_comm (l₁ := Mo2) (l₂ := [_, _, _])).cons _).cons _)) : List.Perm (_ :: _ :: (Mo2 ++ [_, _, _])) _)
          refine WO.step rfl (OR.callX (Mx := _ :: _ :: Mo2) (Mr := [_, _, _]) hs body137 rfl rfl (hand_ok g3 g1 g4 ov2 (.slice bs st.length cs) cl2 (chs ++ wholeL room st a ((c - a) / room)) st (a + (c - a) / room * room) c Mo2 w0.heap.size H2 _ hs2 (hst.mono hle) (by rw [hwl]; exact ho) hs.size hok (by omega) hcn (by omega) (by rw [hwl]; omega)) rfl (by simpa using ho.tt) ?_)
          clear hs hs2 ho hok; rintro v H3 M3 w hs hle1 hnew ⟨rfl, Mo3, ov3, cl3, rfl, ho, hok⟩
          replace hle := hle.trans hle1
          replace hs := hs.perm (((((List.perm_append_comm (l₁ := [_, _, _]) (l₂ := Mo3)).cons _).cons _)) : List.Perm (_ :: _ :: ([_, _, _] ++ Mo3)) _)
          have hst2 : chunkStep room st (chs, a) (c : Int) = (chs ++ wholeL room st a ((c - a) / room) ++ [(st.drop (a + (c - a) / room * room)).take (c - (a + (c - a) / room * room))], c) := by
            simp only [chunkStep, hct, cutPiece]
            rw [if_pos (by omega)]
          rw [hst2] at hPs1 hstep
          have hfin : (chunkP room st (cuts.take (k + 1))).2 = c := by rw [hPs1]
          have hfin1 : (chunkP room st (cuts.take (k + 1))).1 = chs ++ wholeL room st a ((c - a) / room) ++ [(st.drop (a + (c - a) / room * room)).take (c - (a + (c - a) / room * room))] := by rw [hPs1]
          rw [← hfin1] at hok
          rw [← hfin]
          refine WO.done (WX.block (WX.seq (WC.region (WO.step rfl (OR.addI rfl rfl (by omega) (by omega) (WO.step rfl (OR.move rfl ?_)))))))
          refine WO.done ?_
          refine WX.again (k + 1) ⟨rfl, rfl, rfl, rfl, rfl, rfl, rfl, rfl, rfl, rfl,  trivial⟩ ?_ ?_
          · refine ⟨hk', by rw [hok1, hfin], by rw [hfin]; exact hcn, by rw [hfin1, hfin]; exact hstep, H3, Mo3, ov3, cl3, hle, ?_, hok, ?_⟩
            · have : (chunkP room st (cuts.take (k + 1))).1.length = (chs ++ wholeL room st a ((c - a) / room)).length + 1 := by rw [hfin1, List.length_append, List.length_singleton]
              rw [this]; exact ho
            · rw [hfin]; exact hs
          · omega
        · have hae : a + (c - a) / room * room = c := by omega
          have hst2 : chunkStep room st (chs, a) (c : Int) = (chs ++ wholeL room st a ((c - a) / room), c) := by
            simp only [chunkStep, hct, cutPiece]
            rw [if_neg (by omega), List.append_nil]
          rw [hst2] at hPs1 hstep
          rw [hae] at hs
          have hfin : (chunkP room st (cuts.take (k + 1))).2 = c := by rw [hPs1]
          have hfin1 : (chunkP room st (cuts.take (k + 1))).1 = chs ++ wholeL room st a ((c - a) / room) := by rw [hPs1]
          rw [← hfin1] at hok
          rw [← hfin]
          refine WC.skip (WX.block (WX.seq (WC.region (WO.step rfl (OR.addI rfl rfl (by omega) (by omega) (WO.step rfl (OR.move rfl ?_)))))))
          refine WO.done ?_
          refine WX.again (k + 1) ⟨rfl, rfl, rfl, rfl, rfl, rfl, rfl, rfl, rfl, rfl,  trivial⟩ ?_ ?_
          · refine ⟨hk', by rw [hok1, hfin], by rw [hfin]; exact hcn, by rw [hfin1, hfin]; exact hstep, H2, Mo2, ov2, cl2, hle, ?_, hok, ?_⟩
            · rw [hfin1, hwl]; exact ho
            · rw [hfin]; exact hs
          · omega
  · have e : k = cuts.length := by omega
    subst e
    rw [List.take_length] at hPg
    rw [List.drop_length] at hok0
    have hT : cutsOk st.length 0 cuts = true := hok0
    refine WC.exit (WX.seq_exit (WX.loop_exit (WX.block_hit (WX.seq (WC.seq (WC.region (WO.step rfl ?_)))))))
    refine OR.move rfl (WO.step rfl (OR.load T43 rfl rfl (hs.cellM (i := 2) rfl rfl) (WO.step rfl (OR.lenSlice T43.und rfl ?_))))
    have hs2 := hs.beginR (Mr := [_, _, _, _, _]) (Mo := Mo) [true, true, false, false, false]
    replace hs := hs.perm (((((List.perm_append_comm (l₁ := Mo) (l₂ := [_, _, _])).cons _).cons _)) : List.Perm (_ :: _ :: (Mo ++ [_, _, _])) _)
    refine WO.step rfl (OR.callX (Mx := _ :: _ :: Mo) (Mr := [_, _, _]) hs body138 rfl rfl (whole_ok g3 g1 g4 g2 g5 room ov (.slice bs st.length cs) cl chs st a st.length Mo w0.heap.size H _ hs2 (hst.mono hle) ho hs.size hok hP2 (Nat.le_refl _) (by omega) (by omega) hr1 hr2) rfl (by simpa using ho.tt) ?_)
    clear hs hs2 ho hok; rintro v H2 Mo2 w hs hle1 hnew ⟨rfl, Mo2, ov2, cl2, rfl, ho, hok⟩
    replace hle := hle.trans hle1
    replace hs := hs.perm (((((List.perm_append_comm (l₁ := [_, _, _]) (l₂ := Mo2)).cons _).cons _)) : List.Perm (_ :: _ :: ([_, _, _] ++ Mo2)) _)
    have hnl : (st.length - a) / room * room ≤ st.length - a := Nat.div_mul_le_self _ _
    have hwl : (chs ++ wholeL room st a ((st.length - a) / room)).length = chs.length + (st.length - a) / room := by simp [wholeL]
    have hsl := Sl.dropS hst (a + (st.length - a) / room * room) (by omega)
    obtain ⟨bo, co, rfl⟩ := ho.form
    have hopn : openF room st cuts = st.drop (a + (st.length - a) / room * room) := by rw [openF, hPg]
    have hchf : chunksF room st cuts = chs ++ wholeL room st a ((st.length - a) / room) := by rw [chunksF, hPg]
    have hpart : Bytes H0 (.slice (if cs = a + (st.length - a) / room * room then bs else bs.map (·.add ((a + (st.length - a) / room * room) * 1))) (st.length - (a + (st.length - a) / room * room)) (cs - (a + (st.length - a) / room * room))) (openF room st cuts) := by
      unfold Bytes
      rw [hopn, List.length_drop, List.map_drop]
      rw [Nat.mul_one] at hsl ⊢
      exact hsl
    obtain ⟨OF, hOF⟩ : ∃ OF, OF = openF room st cuts := ⟨_, rfl⟩
    rw [← hOF] at hpart hopn
    have hol : OF.length ≤ st.length := by rw [hopn, List.length_drop]; omega
    refine WO.done (WX.seq (WC.seq ?_))
    refine WC.draw 5 mixed hs (by kernel_rfl) ?_
    refine ⟨MF.eq _, by intro Mx H w hle hs; refine forVals_nil (ORg.plain (OR.load T40 rfl rfl (hs.right.cellM (i := 0) rfl rfl) ?_)); exact ⟨_, [], Hp.le.refl _, hs, rfl, rfl⟩, ?_⟩
    refine ⟨MF.eq _, by intro Mx H w hle hs; refine forVals_nil (ORg.plain (OR.load T43 rfl rfl (hs.right.cellM (i := 2) rfl rfl) ?_)); exact ⟨_, [], Hp.le.refl _, hs, rfl, rfl⟩, ?_⟩
    refine ⟨MF.eq _, by intro Mx H w hle hs; refine forVals_nil (ORg.plain (OR.load T3 rfl rfl (hs.right.cellM (i := 1) rfl rfl) ?_)); exact ⟨_, [], Hp.le.refl _, hs, rfl, rfl⟩, ?_⟩
    refine ⟨MF.eq (.slice (if cs = a + (st.length - a) / room * room then bs else bs.map (·.add ((a + (st.length - a) / room * room) * 1))) (st.length - (a + (st.length - a) / room * room)) (cs - (a + (st.length - a) / room * room))), ?_, ?_⟩
    · intro Mx H w hle2 hs; (try replace hle := hle.trans hle2); (try replace hlb := hlb.trans hle2); refine forVals_eq rfl rfl rfl ?_; refine forVals_eq rfl rfl rfl ?_
      refine forVals_nil (ORg.plain (OR.sliceLoG (a + (st.length - a) / room * room) T43.und T5 rfl rfl rfl (by omega) ?_))
      exact ⟨_, [], Hp.le.refl _, hs, rfl, rfl⟩
    refine ⟨MF.bytes OF, ?_, ?_⟩
    · intro Mx H w hle2 hs; (try replace hle := hle.trans hle2); (try replace hlb := hlb.trans hle2); refine forVals_eq rfl rfl rfl ?_
      refine forVals_nil (ORg.plain (OR.call hs body87 rfl rfl (clone_pure _ _ _ _ hs.toSub (hpart.mono hle) (by omega)) ?_))
      clear hs; rintro _ H w hs hle1 hb
      exact ⟨_, [], hle1, hs, hb, rfl⟩
    intro H w hle2; (try replace hle := hle.trans hle2); (try replace hlb := hlb.trans hle2)
    refine forAllVals_eq rfl ?_
    refine forAllVals_eq rfl ?_
    refine forAllVals_eq rfl ?_
    refine forAllVals_eq rfl ?_
    refine forAllVals_of rfl ?_; intro v4 h4
    refine forAllVals_nil ?_; (try clear hs); intro hs
    refine WO.step rfl (OR.assign rfl (WO.step rfl (OR.assign rfl (WO.step rfl (OR.assign rfl (WO.done (WX.seq ?_)))))))
    refine WC.ret ?_
    refine WX.ret3 rfl rfl rfl rfl ?_
    replace hs := (((((hs.drop 0).drop 0).drop 0).drop 0).drop 0)
    have hs3 : HS [] H0 w0 H (Mo2 ++ []) w := by rw [List.append_nil]; exact hs
    obtain ⟨H4, hle4, hs4, hsl4, _⟩ := HS.pub hs3 ho
    refine .mk hs4 ⟨_, _, by rw [hT]; rfl, ?_, ?_⟩
    · rw [hT, if_pos rfl, hchf]
      exact (hok.mono (hle2.trans hle4)).bytesL (by rw [hwl]; exact hsl4)
    · rw [hT, if_pos rfl, ← hOF]
      exact h4.mono hle4

end Go.Bw
namespace Go.Bw
set_option linter.unusedVariables false
set_option linter.unusedSimpArgs false
open Go.Proofs
def Tup3 (H : Hp) (v : Value) (ll : List (List UInt8)) (l : List UInt8) (e : Int) : Prop := ∃ r1 r2, v = .tuple #[r1, r2, .int .i64 e] ∧ BytesL H r1 ll ∧ Bytes H r2 l
def MF.tup3 (ll : List (List UInt8)) (l : List UInt8) (e : Int) : MF := MF.of (fun v H => Tup3 H v ll l e) fun _ _ _ hle ⟨r1, r2, h1, h2, h3⟩ => ⟨r1, r2, h1, h2.mono hle, h3.mono hle⟩

def goodGS (g s : Int) : Prop := 1 ≤ g ∧ g ≤ 255 ∧ 1 ≤ s ∧ s ≤ 65535 ∧ 4 < g * s
instance (g s : Int) : Decidable (goodGS g s) := inferInstanceAs (Decidable (_ ∧ _))

set_option maxRecDepth 20000 in
set_option maxHeartbeats 2000000 in
theorem set_ok (b : Nat) (g s : Nat) (vs vc vch vop v1 v2 : Value) (cl : Bool) (st : List UInt8) (cuts : List Int) (H0 : Hp) (w0 : World) (h0 : Sub H0 w0) (hb : w0.heap[b]? = some (srcObj g s vs vc cl vch vop)) (hn : H0 b = none) (hgs : goodGS g s)
    (h1 : Bytes H0 v1 st) (h2 : Ints H0 v2 cuts) (hl1 : st.length ≤ 10000000000) (hl2 : cuts.length ≤ 10000000000) :
    Calls Tryz.prog 89 #[ptr b, v1, v2] w0 (Ret [b] H0 w0 fun v H' M' => if cutsOk st.length 0 cuts = true then
        v = .int .i64 0 ∧ ∃ o, M' = [(b, o, true)] ∧ SrcIn H' ⟨g, s, st, cuts, cl, chunksF (g * s - 4) st cuts, openF (g * s - 4) st cuts⟩ o
      else v = .int .i64 1 ∧ M' = [(b, srcObj g s vs vc cl vch vop, true)]) := by
  have hs := HS.start1 h0 hb hn
  have hle := Hp.le.refl H0
  obtain ⟨b1, c1, rfl⟩ := h1.form
  obtain ⟨b2, c2, rfl⟩ := h2.form
  obtain ⟨g1, g2, g3, g4, g5⟩ := hgs
  have hgs' : 1 ≤ g ∧ g ≤ 255 ∧ 1 ≤ s ∧ s ≤ 65535 ∧ 4 < g * s := ⟨by omega, by omega, by omega, by omega, by rw [← Int.natCast_mul] at g5; omega⟩
  refine Calls.enter (args := [ptr b, .slice b1 st.length c1, .slice b2 cuts.length c2]) Tryz.func89 rfl Tryz.ntmps89 rfl ?_
  obtain ⟨CF, hCF⟩ : ∃ X, X = (if cutsOk st.length 0 cuts = true then chunksF (g * s - 4) st cuts else []) := ⟨_, rfl⟩
  obtain ⟨OF, hOF⟩ : ∃ X, X = (if cutsOk st.length 0 cuts = true then openF (g * s - 4) st cuts else []) := ⟨_, rfl⟩
  obtain ⟨E, hE⟩ : ∃ X : Int, X = (if cutsOk st.length 0 cuts = true then 0 else 1) := ⟨_, rfl⟩
  refine WC.seq (WC.region (WO.step rfl (OR.assign rfl (WO.done (WX.seq (WC.seq ?_))))))
  refine WC.draw 17 mixed hs (by kernel_rfl) ?_
  refine ⟨MF.eq _, by intro Mx H w hle hs; refine forVals_nil (ORg.plain (OR.move rfl ?_)); exact ⟨_, [], Hp.le.refl _, hs, rfl, rfl⟩, ?_⟩
  refine ⟨MF.eq _, by intro Mx H w hle hs; refine forVals_nil (ORg.plain (OR.move rfl ?_)); exact ⟨_, [], Hp.le.refl _, hs, rfl, rfl⟩, ?_⟩
  refine ⟨MF.eq _, by intro Mx H w hle hs; refine forVals_nil (ORg.plain (OR.move rfl ?_)); exact ⟨_, [], Hp.le.refl _, hs, rfl, rfl⟩, ?_⟩
  refine ⟨MF.eq _, by intro Mx H w hle hs; refine forVals_eq rfl rfl rfl ?_; refine forVals_nil (ORg.plain (OR.nilCheck rfl ?_)); exact ⟨_, [], Hp.le.refl _, hs, rfl, rfl⟩, ?_⟩
  refine ⟨MF.eq _, by intro Mx H w hle hs; refine forVals_eq rfl rfl rfl ?_; refine forVals_nil (ORg.plain (OR.fieldAddr FA163_0 rfl ?_)); exact ⟨_, [], Hp.le.refl _, hs, rfl, rfl⟩, ?_⟩
  refine ⟨MF.eq _, by intro Mx H w hle hs; refine forVals_eq rfl rfl rfl ?_; refine forVals_nil (ORg.plain (OR.load T3 rfl rfl (hs.right.cellM (i := 0) rfl rfl) ?_)); exact ⟨_, [], Hp.le.refl _, hs, rfl, rfl⟩, ?_⟩
  refine ⟨MF.eq _, by intro Mx H w hle hs; refine forVals_nil (ORg.plain (OR.move rfl ?_)); exact ⟨_, [], Hp.le.refl _, hs, rfl, rfl⟩, ?_⟩
  refine ⟨MF.eq _, by intro Mx H w hle hs; refine forVals_eq rfl rfl rfl ?_; refine forVals_nil (ORg.plain (OR.nilCheck rfl ?_)); exact ⟨_, [], Hp.le.refl _, hs, rfl, rfl⟩, ?_⟩
  refine ⟨MF.eq _, by intro Mx H w hle hs; refine forVals_eq rfl rfl rfl ?_; refine forVals_nil (ORg.plain (OR.fieldAddr FA163_1 rfl ?_)); exact ⟨_, [], Hp.le.refl _, hs, rfl, rfl⟩, ?_⟩
  refine ⟨MF.eq _, by intro Mx H w hle hs; refine forVals_eq rfl rfl rfl ?_; refine forVals_nil (ORg.plain (OR.load T3 rfl rfl (hs.right.cellM (i := 0) rfl rfl) ?_)); exact ⟨_, [], Hp.le.refl _, hs, rfl, rfl⟩, ?_⟩
  refine ⟨MF.tup3 CF OF E, ?_, ?_⟩
  · intro Mx H w hle2 hs; (try replace hle := hle.trans hle2); (try replace hlb := hlb.trans hle2); refine forVals_eq rfl rfl rfl ?_; refine forVals_eq rfl rfl rfl ?_; refine forVals_eq rfl rfl rfl ?_; refine forVals_eq rfl rfl rfl ?_
    refine forVals_nil (ORg.plain (OR.call hs body88 rfl rfl (chunks_ok g s _ _ st cuts _ _ hs.toSub hgs' (h1.mono hle) (h2.mono hle) hl1 hl2) ?_))
    clear hs; rintro _ H w hs hle1 ⟨r1, r2, rfl, hr1, hr2⟩
    exact ⟨_, [], hle1, hs, ⟨_, _, by rw [hE], by rw [hCF]; exact hr1, by rw [hOF]; exact hr2⟩, rfl⟩
  refine ⟨MF.tup3 CF OF E, ?_, ?_⟩
  · intro Mx H w hle2 hs; (try replace hle := hle.trans hle2); (try replace hlb := hlb.trans hle2); refine forVals_of rfl rfl rfl ?_; intro v10 h10
    obtain ⟨r1, r2, rfl, hr1, hr2⟩ := h10
    refine forVals_nil (ORg.plain (OR.move rfl ?_))
    exact ⟨_, [], Hp.le.refl _, hs, ⟨_, _, rfl, hr1, hr2⟩, rfl⟩
  refine ⟨MF.bytesL CF, ?_, ?_⟩
  · intro Mx H w hle2 hs; (try replace hle := hle.trans hle2); (try replace hlb := hlb.trans hle2); refine forVals_of rfl rfl rfl ?_; intro v11 h11
    obtain ⟨r1, r2, rfl, hr1, hr2⟩ := h11
    refine forVals_nil (ORg.plain (OR.extract rfl rfl ?_))
    exact ⟨_, [], Hp.le.refl _, hs, hr1, rfl⟩
  refine ⟨MF.bytes OF, ?_, ?_⟩
  · intro Mx H w hle2 hs; (try replace hle := hle.trans hle2); (try replace hlb := hlb.trans hle2); refine forVals_of rfl rfl rfl ?_; intro v11 h11
    obtain ⟨r1, r2, rfl, hr1, hr2⟩ := h11
    refine forVals_nil (ORg.plain (OR.extract rfl rfl ?_))
    exact ⟨_, [], Hp.le.refl _, hs, hr2, rfl⟩
  refine ⟨MF.eq (.int .i64 E), ?_, ?_⟩
  · intro Mx H w hle2 hs; (try replace hle := hle.trans hle2); (try replace hlb := hlb.trans hle2); refine forVals_of rfl rfl rfl ?_; intro v11 h11
    obtain ⟨r1, r2, rfl, hr1, hr2⟩ := h11
    refine forVals_nil (ORg.plain (OR.extract rfl rfl ?_))
    exact ⟨_, [], Hp.le.refl _, hs, rfl, rfl⟩
  refine ⟨MF.bytesL CF, ?_, ?_⟩
  · intro Mx H w hle2 hs; (try replace hle := hle.trans hle2); (try replace hlb := hlb.trans hle2); refine forVals_of rfl rfl rfl ?_; intro v12 h12
    refine forVals_nil (ORg.plain (OR.assign rfl ?_))
    exact ⟨_, [], Hp.le.refl _, hs, h12, rfl⟩
  refine ⟨MF.bytes OF, ?_, ?_⟩
  · intro Mx H w hle2 hs; (try replace hle := hle.trans hle2); (try replace hlb := hlb.trans hle2); refine forVals_of rfl rfl rfl ?_; intro v13 h13
    refine forVals_nil (ORg.plain (OR.assign rfl ?_))
    exact ⟨_, [], Hp.le.refl _, hs, h13, rfl⟩
  intro H w hle2; (try replace hle := hle.trans hle2); (try replace hlb := hlb.trans hle2)
  refine forAllVals_eq rfl ?_
  refine forAllVals_eq rfl ?_
  refine forAllVals_eq rfl ?_
  refine forAllVals_eq rfl ?_
  refine forAllVals_eq rfl ?_
  refine forAllVals_eq rfl ?_
  refine forAllVals_eq rfl ?_
  refine forAllVals_eq rfl ?_
  refine forAllVals_eq rfl ?_
  refine forAllVals_eq rfl ?_
  refine forAllVals_of rfl ?_; intro v10 h10
  refine forAllVals_of rfl ?_; intro v11 h11
  refine forAllVals_of rfl ?_; intro v12 h12
  refine forAllVals_of rfl ?_; intro v13 h13
  refine forAllVals_eq rfl ?_
  refine forAllVals_of rfl ?_; intro v15 h15
  refine forAllVals_of rfl ?_; intro v16 h16
  refine forAllVals_nil ?_; (try clear hs); intro hs
  obtain ⟨b3, c3, rfl⟩ := h15.form
  obtain ⟨b4, c4, rfl⟩ := h16.form
  have hlb := Hp.le.refl H
  by_cases hT : cutsOk st.length 0 cuts = true
  · rw [if_pos hT] at hCF hOF hE
    subst hE
    refine WO.step rfl (OR.assign rfl (WO.done (WX.seq (WC.seq (WC.seq (WC.region (WO.step rfl ?_)))))))
    refine OR.move rfl (WO.step rfl (OR.eql rfl rfl (WO.done (WX.seq ?_))))
    refine WC.yes rfl (decide_eq_true rfl) ?_
    refine WC.region (WO.step rfl (OR.move rfl (WO.step rfl (OR.move rfl (WO.step rfl (OR.move rfl (WO.step rfl ?_)))))))
    refine OR.move rfl (WO.step rfl (OR.move rfl ?_))
    refine WO.step rfl (OR.call hs body87 rfl rfl (clone_pure _ _ _ _ hs.toSub (h1.mono hle) (by omega)) ?_)
    clear hs; rintro _ H w hs hle1 hr3; replace hle := hle.trans hle1; (try replace hlb := hlb.trans hle1)
    refine WO.step rfl (OR.move rfl ?_)
    refine WO.step rfl (OR.call hs body97 rfl rfl (cloneInts_pure _ _ _ _ hs.toSub (h2.mono hle) (by omega)) ?_)
    clear hs; rintro _ H w hs hle1 hr4; replace hle := hle.trans hle1; (try replace hlb := hlb.trans hle1)
    obtain ⟨b5, c5, rfl⟩ := hr3.form
    obtain ⟨b6, c6, rfl⟩ := hr4.form
    replace hr3 := hr3.mono hle1
    refine WO.step rfl (OR.move rfl (WO.step rfl (OR.move rfl (WO.step rfl (OR.nilCheck rfl (WO.step rfl (OR.fieldAddr FA163_2 rfl ?_)))))))
    refine WO.stepN (OR.store hs T43 rfl rfl rfl (Nat.le_of_ble_eq_true rfl) rfl ?_)
    clear hs; intro w hs
    refine WO.step rfl (OR.nilCheck rfl (WO.step rfl (OR.fieldAddr FA163_3 rfl (WO.stepN (OR.store hs T76 rfl rfl rfl (Nat.le_of_ble_eq_true rfl) rfl ?_)))))
    clear hs; intro w hs
    refine WO.step rfl (OR.nilCheck rfl (WO.step rfl (OR.fieldAddr FA163_5 rfl (WO.stepN (OR.store hs T40 rfl rfl rfl (Nat.le_of_ble_eq_true rfl) rfl ?_)))))
    clear hs; intro w hs
    refine WO.step rfl (OR.nilCheck rfl (WO.step rfl (OR.fieldAddr FA163_6 rfl (WO.stepN (OR.store hs T43 rfl rfl rfl (Nat.le_of_ble_eq_true rfl) rfl ?_)))))
    clear hs; intro w hs
    refine WO.done (WX.seq (WC.seq (WC.region (WO.step rfl (OR.move rfl (WO.step rfl (OR.assign rfl ?_)))))))
    refine WO.done (WX.seq (WC.ret ?_))
    refine WX.ret1 rfl rfl ?_
    refine ⟨_, H, _, rfl, hs, by simp, ?_⟩
    show ite _ _ _; rw [if_pos hT]
    exact ⟨rfl, _, rfl, _, _, _, _, rfl, hr3, hr4, by rw [← hCF]; exact h15.mono hlb, by rw [← hOF]; exact h16.mono hlb⟩
  · rw [if_neg hT] at hCF hOF hE
    subst hE
    refine WO.step rfl (OR.assign rfl (WO.done (WX.seq (WC.seq (WC.seq (WC.region (WO.step rfl ?_)))))))
    refine OR.move rfl (WO.step rfl (OR.eql rfl rfl (WO.done (WX.seq ?_))))
    refine WC.no rfl (decide_eq_false (by omega)) ?_
    refine WC.skip (WX.seq (WC.seq (WC.region (WO.step rfl (OR.move rfl (WO.step rfl (OR.assign rfl ?_)))))))
    refine WO.done (WX.seq (WC.ret ?_))
    refine WX.ret1 rfl rfl ?_
    refine ⟨_, H, _, rfl, hs, by simp, ?_⟩
    show ite _ _ _; rw [if_neg hT]
    exact ⟨rfl, rfl⟩


theorem cutsOk_snoc (n : Nat) : ∀ (cuts : List Int) (last : Int), last ≤ (n : Int) → cutsOk n last cuts = true → cutsOk n last (cuts ++ [(n : Int)]) = true
  | [], last, hl, _ => by simp [cutsOk, hl]
  | c :: cs, last, hl, h => by
    simp only [cutsOk, Bool.and_eq_true, decide_eq_true_eq] at h
    rw [List.cons_append, cutsOk, decide_eq_true h.1.1, decide_eq_true h.1.2, cutsOk_snoc n cs c h.1.2 h.2]
    rfl
/-- What a cut at the end makes. -/
def cutD (x : SrcD) : SrcD := if x.opn = [] then x else { x with cuts := x.cuts ++ [(x.st.length : Int)], chunks := chunksF (x.g * x.s - 4) x.st (x.cuts ++ [(x.st.length : Int)]), opn := openF (x.g * x.s - 4) x.st (x.cuts ++ [(x.st.length : Int)]) }

set_option maxRecDepth 20000 in
set_option maxHeartbeats 2000000 in
theorem cut_ok (b : Nat) (x : SrcD) (o : Obj) (H0 : Hp) (w0 : World) (h0 : Sub H0 w0) (hb : w0.heap[b]? = some o) (hn : H0 b = none) (hx : SrcIn H0 x o) (hgs : goodGS x.g x.s) (hc : cutsOk x.st.length 0 x.cuts = true)
    (hl1 : x.st.length ≤ 1000000000) (hl2 : x.cuts.length ≤ 1000000000) (hl3 : x.opn.length ≤ 1000000000) :
    Calls Tryz.prog 90 #[ptr b] w0 (Ret [b] H0 w0 fun v H' M' => v = .int .i64 0 ∧ ∃ o', M' = [(b, o', true)] ∧ SrcIn H' (cutD x) o') := by
  obtain ⟨g, s, st, cuts, cl, chunks, opn⟩ := x
  simp only at hgs hc hl1 hl2 hl3
  obtain ⟨vs, vc, vch, vop, rfl, h1, h2, h3, h4⟩ := hx
  simp only at h1 h2 h3 h4 hb
  have hs := HS.start1 h0 hb hn
  have hle := Hp.le.refl H0
  obtain ⟨b1, c1, rfl⟩ := h1.form
  obtain ⟨b2, c2, rfl⟩ := h2.form
  obtain ⟨b4, c4, rfl⟩ := h4.form
  refine Calls.enter (args := [ptr b]) Tryz.func90 rfl Tryz.ntmps90 rfl ?_
  refine WC.seq (WC.region (WO.step rfl (OR.assign rfl (WO.done (WX.seq (WC.seq (WC.seq ?_)))))))
  refine WC.region (WO.step rfl (OR.move rfl (WO.step rfl (OR.nilCheck rfl (WO.step rfl (OR.fieldAddr FA163_6 rfl (WO.step rfl ?_)))))))
  refine OR.load T43 rfl rfl (hs.cellM (i := 0) rfl rfl) (WO.step rfl (OR.lenSlice T43.und rfl (WO.step rfl (OR.eql rfl rfl (WO.done (WX.seq ?_))))))
  refine WC.condD rfl (fun ho => ?_) (fun ho => ?_)
  · have h0' : opn = [] := List.eq_nil_of_length_eq_zero (by omega)
    refine WC.seq (WC.region (WO.step rfl (OR.assign rfl (WO.done (WX.seq (WC.ret (WX.seq_ret ?_)))))))
    refine WX.ret1 rfl rfl ?_
    refine ⟨_, H0, _, rfl, hs, by simp, rfl, _, rfl, ?_⟩
    rw [cutD, if_pos h0']
    exact ⟨_, _, _, _, rfl, h1, h2, h3, h4⟩
  · have h0' : ¬ opn = [] := fun e => ho (by rw [e]; rfl)
    refine WC.skip (WX.seq (WC.seq ?_))
    refine WC.drawT 17 16 9 mixed hs (by kernel_rfl) ?_
    refine ⟨MF.eq _, by intro Mx H w hle hs; refine forVals_nil (ORg.plain (OR.move rfl ?_)); exact ⟨_, [], Hp.le.refl _, hs, rfl, rfl⟩, ?_⟩
    refine ⟨MF.eq _, by intro Mx H w hle hs; refine forVals_nil (ORg.plain (OR.move rfl ?_)); exact ⟨_, [], Hp.le.refl _, hs, rfl, rfl⟩, ?_⟩
    refine ⟨MF.eq _, by intro Mx H w hle hs; refine forVals_eq rfl rfl rfl ?_; refine forVals_nil (ORg.plain (OR.nilCheck rfl ?_)); exact ⟨_, [], Hp.le.refl _, hs, rfl, rfl⟩, ?_⟩
    refine ⟨MF.eq _, by intro Mx H w hle hs; refine forVals_eq rfl rfl rfl ?_; refine forVals_nil (ORg.plain (OR.fieldAddr FA163_2 rfl ?_)); exact ⟨_, [], Hp.le.refl _, hs, rfl, rfl⟩, ?_⟩
    refine ⟨MF.eq _, by intro Mx H w hle hs; refine forVals_eq rfl rfl rfl ?_; refine forVals_nil (ORg.plain (OR.load T43 rfl rfl (hs.right.cellM (i := 0) rfl rfl) ?_)); exact ⟨_, [], Hp.le.refl _, hs, rfl, rfl⟩, ?_⟩
    refine ⟨MF.eq _, by intro Mx H w hle hs; refine forVals_nil (ORg.plain (OR.move rfl ?_)); exact ⟨_, [], Hp.le.refl _, hs, rfl, rfl⟩, ?_⟩
    refine ⟨MF.eq _, by intro Mx H w hle hs; refine forVals_eq rfl rfl rfl ?_; refine forVals_nil (ORg.plain (OR.nilCheck rfl ?_)); exact ⟨_, [], Hp.le.refl _, hs, rfl, rfl⟩, ?_⟩
    refine ⟨MF.eq _, by intro Mx H w hle hs; refine forVals_eq rfl rfl rfl ?_; refine forVals_nil (ORg.plain (OR.fieldAddr FA163_3 rfl ?_)); exact ⟨_, [], Hp.le.refl _, hs, rfl, rfl⟩, ?_⟩
    refine ⟨MF.eq _, by intro Mx H w hle hs; refine forVals_eq rfl rfl rfl ?_; refine forVals_nil (ORg.plain (OR.load T76 rfl rfl (hs.right.cellM (i := 0) rfl rfl) ?_)); exact ⟨_, [], Hp.le.refl _, hs, rfl, rfl⟩, ?_⟩
    refine ⟨MF.own w0.heap.size 3 1 cuts.length (cuts.map fun i => .int .i64 i), ?_, ?_⟩
    · intro Mx H w hle2 hs; (try replace hle := hle.trans hle2); (try replace hlb := hlb.trans hle2); refine forVals_eq rfl rfl rfl ?_
      have hN := hs.size
      refine forVals_nil (ORg.plain (OR.callX (Mx := []) hs body97 rfl rfl (cloneInts_ok _ cuts _ _ hs.toSub (h2.mono hle) (by omega)) rfl rfl ?_))
      have hsz := hs.size
      clear hs; rintro v H1 M1 w hs hle1 hnew ⟨rfl, ho⟩
      exact ⟨_, M1, hle1, hs, ho.mono hsz⟩
    refine ⟨MF.eq _, by intro Mx H w hle hs; refine forVals_nil (ORg.plain (OR.move rfl ?_)); exact ⟨_, [], Hp.le.refl _, hs, rfl, rfl⟩, ?_⟩
    refine ⟨MF.eq _, by intro Mx H w hle hs; refine forVals_eq rfl rfl rfl ?_; refine forVals_nil (ORg.plain (OR.nilCheck rfl ?_)); exact ⟨_, [], Hp.le.refl _, hs, rfl, rfl⟩, ?_⟩
    refine ⟨MF.eq _, by intro Mx H w hle hs; refine forVals_eq rfl rfl rfl ?_; refine forVals_nil (ORg.plain (OR.fieldAddr FA163_2 rfl ?_)); exact ⟨_, [], Hp.le.refl _, hs, rfl, rfl⟩, ?_⟩
    refine ⟨MF.eq _, by intro Mx H w hle hs; refine forVals_eq rfl rfl rfl ?_; refine forVals_nil (ORg.plain (OR.load T43 rfl rfl (hs.right.cellM (i := 0) rfl rfl) ?_)); exact ⟨_, [], Hp.le.refl _, hs, rfl, rfl⟩, ?_⟩
    refine ⟨MF.eq _, by intro Mx H w hle hs; refine forVals_eq rfl rfl rfl ?_; refine forVals_nil (ORg.plain (OR.lenSlice T43.und rfl ?_)); exact ⟨_, [], Hp.le.refl _, hs, rfl, rfl⟩, ?_⟩
    refine ⟨MF.ints [(st.length : Int)], ?_, ?_⟩
    · intro Mx H w hle2 hs; (try replace hle := hle.trans hle2); (try replace hlb := hlb.trans hle2); refine forVals_eq rfl rfl rfl ?_
      refine forVals_nil (ORg.plain (OR.buildSlice (vs := [_]) hs T76.und T3 rfl rfl rfl rfl (by simp) ?_))
      intro gn w hgn hs
      obtain ⟨H, hle1, hp, hs⟩ := hs.pub1 hgn
      exact ⟨_, [], hle1, hs, (Sl.block hp rfl rfl (by simp)), rfl⟩
    refine ⟨MF.own w0.heap.size 3 1 (cuts.length + 1) ((cuts ++ [(st.length : Int)]).map fun i => .int .i64 i), _, rfl, ⟨_, rfl, ?_⟩, ?_⟩
    · intro vj Mj Mx H w hle2 hs hFj; (try replace hle := hle.trans hle2); (try replace hlb := hlb.trans hle2); refine forVals_eq rfl rfl rfl ?_; refine forVals_of rfl rfl rfl ?_; intro v15 h15
      obtain ⟨b15, c15, rfl⟩ := h15.form
      refine forVals_nil (ORg.plain (OR.append (m := 1) (news := [_]) (Mo := Mj) hs hFj T76.und T3 rfl (by omega) rfl rfl rfl (Sl.src h15 hs) (Sl.src0 h15) rfl (by omega) (by omega) ?_))
      clear hs; intro v' w Mo' hs ho' hge
      exact ⟨_, Mo', Hp.le.refl _, hs, (by rw [List.map_append]; exact ho')⟩
    intro H w hle2; (try replace hle := hle.trans hle2); (try replace hlb := hlb.trans hle2)
    refine forAllVals_eq rfl ?_
    refine forAllVals_eq rfl ?_
    refine forAllVals_eq rfl ?_
    refine forAllVals_eq rfl ?_
    refine forAllVals_eq rfl ?_
    refine forAllVals_eq rfl ?_
    refine forAllVals_eq rfl ?_
    refine forAllVals_eq rfl ?_
    refine forAllVals_eq rfl ?_
    refine forAllVals_gone rfl ?_; intro v9
    refine forAllVals_eq rfl ?_
    refine forAllVals_eq rfl ?_
    refine forAllVals_eq rfl ?_
    refine forAllVals_eq rfl ?_
    refine forAllVals_eq rfl ?_
    refine forAllVals_of rfl ?_; intro v15 h15
    refine forAllVals_cons rfl ?_; intro v16 M16 h16
    refine forAllVals_nil ?_; (try clear hs); intro hs
    obtain ⟨H3, hle3, hs, hsl3, _⟩ := HS.pub hs h16
    replace hle := hle.trans hle3
    have hv3 : Ints H3 v16 (cuts ++ [(st.length : Int)]) := by unfold Ints; rw [List.length_append, List.length_singleton]; exact hsl3
    have hc3 := cutsOk_snoc st.length cuts 0 (by omega) hc
    refine WO.step rfl (OR.callX (Mx := [(b, _, true)]) hs body89 rfl rfl (set_ok b g s _ _ _ _ _ _ cl st (cuts ++ [(st.length : Int)]) _ _ hs.toSub (hs.blk (i := 0) rfl) (hs.mem b _ true (List.mem_cons_self ..)).2.1 hgs (h1.mono hle) hv3 (by omega) (by simp; omega)) rfl rfl ?_)
    clear hs; rintro _ H4 M' w hs hle1 hnew hres; replace hle := hle.trans hle1; (try replace hlb := hlb.trans hle1)
    rw [if_pos hc3] at hres
    obtain ⟨rfl, o', rfl, hsrc⟩ := hres
    refine WO.step rfl (OR.assign rfl (WO.done (WX.seq (WC.ret ?_))))
    refine WX.ret1 rfl rfl ?_
    refine ⟨_, H4, _, rfl, hs, by simp, rfl, _, rfl, ?_⟩
    rw [cutD, if_neg h0']
    exact hsrc

end Go.Bw
namespace Go.Bw
set_option linter.unusedVariables false
set_option linter.unusedSimpArgs false
open Go.Proofs
theorem chunkP_bound {room n : Nat} {st : List UInt8} (hr : 1 ≤ room) : ∀ (cuts : List Int) (p : List (List UInt8) × Nat), p.1.length ≤ p.2 → p.2 ≤ n → cutsOk n (p.2 : Int) cuts = true →
    (cuts.foldl (chunkStep room st) p).1.length ≤ (cuts.foldl (chunkStep room st) p).2 ∧ (cuts.foldl (chunkStep room st) p).2 ≤ n
  | [], p, h1, h2, _ => ⟨h1, h2⟩
  | c :: cs, p, h1, h2, h => by
    simp only [cutsOk, Bool.and_eq_true, decide_eq_true_eq] at h
    obtain ⟨⟨h3, h4⟩, h5⟩ := h
    obtain ⟨k, rfl⟩ := Int.eq_ofNat_of_zero_le (show 0 ≤ c by omega)
    have hk : (chunkStep room st p ((k : Nat) : Int)).2 = k := rfl
    have h6 := chunkStep_len (room := room) (st := st) (p := p) (cut := ((k : Nat) : Int)) h1 (show p.2 ≤ k by omega) hr
    exact chunkP_bound hr cs _ h6 (by rw [hk]; omega) (by rw [hk]; exact h5)
theorem chunksF_len {room : Nat} {st : List UInt8} {cuts : List Int} (hr : 1 ≤ room) (h : cutsOk st.length 0 cuts = true) : (chunksF room st cuts).length ≤ st.length := by
  have h1 := chunkP_bound (st := st) hr cuts ([], 0) (Nat.le_refl _) (Nat.zero_le _) h
  have h2 : (chunkP room st cuts).1.length ≤ (chunkP room st cuts).2 := h1.1
  have h3 : (chunkP room st cuts).2 ≤ st.length := h1.2
  have h4 : (st.length - (chunkP room st cuts).2) / room ≤ st.length - (chunkP room st cuts).2 := Nat.div_le_self _ _
  have h5 : (wholeL room st (chunkP room st cuts).2 ((st.length - (chunkP room st cuts).2) / room)).length = (st.length - (chunkP room st cuts).2) / room := by simp [wholeL]
  rw [chunksF, List.length_append, h5]
  omega
theorem openF_len (room : Nat) (st : List UInt8) (cuts : List Int) : (openF room st cuts).length ≤ st.length := by rw [openF, List.length_drop]; omega
theorem cutsOk_mono {n m : Nat} (h : n ≤ m) : ∀ (cuts : List Int) (last : Int), cutsOk n last cuts = true → cutsOk m last cuts = true
  | [], _, _ => rfl
  | c :: cs, last, hk => by
    simp only [cutsOk, Bool.and_eq_true, decide_eq_true_eq] at hk ⊢
    exact ⟨⟨hk.1.1, by omega⟩, cutsOk_mono h cs c hk.2⟩

structure SrcOk (x : SrcD) : Prop where
  gs : goodGS x.g x.s
  cuts : cutsOk x.st.length 0 x.cuts = true
  ch : x.chunks = chunksF (x.g * x.s - 4) x.st x.cuts
  op : x.opn = openF (x.g * x.s - 4) x.st x.cuts
  len : x.st.length ≤ 262144
theorem SrcOk.room {x : SrcD} (h : SrcOk x) : 1 ≤ x.g * x.s - 4 := by
  have h1 : (4 : Int) < (x.g : Int) * (x.s : Int) := h.gs.2.2.2.2
  rw [← Int.natCast_mul] at h1
  omega
theorem SrcOk.chl {x : SrcD} (h : SrcOk x) : x.chunks.length ≤ 262144 := by
  rw [h.ch]
  exact Nat.le_trans (chunksF_len h.room h.cuts) h.len
theorem SrcOk.opl {x : SrcD} (h : SrcOk x) : x.opn.length ≤ 262144 := by
  rw [h.op]
  exact Nat.le_trans (openF_len _ _ _) h.len
theorem SrcOk.cut {x : SrcD} (h : SrcOk x) : SrcOk (cutD x) := by
  unfold cutD
  split
  · exact h
  · exact ⟨h.gs, cutsOk_snoc _ _ _ (by omega) h.cuts, rfl, rfl, h.len⟩

/-- What a Submit would make, and how many generations that needs. -/
def longD (x : SrcD) (l : List UInt8) : SrcD := { x with st := x.st ++ l, chunks := chunksF (x.g * x.s - 4) (x.st ++ l) x.cuts, opn := openF (x.g * x.s - 4) (x.st ++ l) x.cuts }
def needs (x : SrcD) : Nat := x.chunks.length + (if x.opn = [] then 0 else 1)
def subFits (x : SrcD) (l : List UInt8) (most : Nat) : Prop := x.st.length + l.length ≤ 262144 ∧ needs (longD x l) ≤ most
instance (x : SrcD) (l : List UInt8) (most : Nat) : Decidable (subFits x l most) := inferInstanceAs (Decidable (_ ∧ _))
theorem SrcOk.long {x : SrcD} {l : List UInt8} (h : SrcOk x) (hl : x.st.length + l.length ≤ 262144) : SrcOk (longD x l) :=
  ⟨h.gs, cutsOk_mono (by simp [longD]) _ _ h.cuts, rfl, rfl, by simp [longD]; exact hl⟩

set_option maxRecDepth 20000 in
set_option maxHeartbeats 2000000 in
theorem submit1_ok (b gb gx gm : Nat) (x : SrcD) (o : Obj) (bv : Value) (l : List UInt8) (most : Nat) (H0 : Hp) (w0 : World)
    (hs : HS [b] H0 w0 H0 [(b, o, true), (gb, .cells #[bv] 43, false), (gx, .cells #[ptr b] 66, false), (gm, .cells #[.int .u64 (most : Int)] 22, false)] w0)
    (hx : SrcIn H0 x o) (hok : SrcOk x) (hl : Bytes H0 bv l) (hll : l.length ≤ 9223372036854775807) (hcl : x.cuts.length ≤ 1000000000) :
    Calls Tryz.prog 86 #[ptr gb, ptr gx, ptr gm] w0 (Ret [b] H0 w0 fun v H' M' => v = .int .i64 (if subFits x l most then 0 else 7) ∧ ∃ o', M' = [(b, o', true)] ∧ SrcIn H' (if subFits x l most then longD x l else x) o') := by
  have hxl := hok.len
  have hok0 := hok
  obtain ⟨g, s, st, cuts, cl, chunks, opn⟩ := x
  obtain ⟨vs, vc, vch, vop, rfl, hst, hcu, hch, hop⟩ := hx
  simp only at hst hcu hch hop hs hxl hcl
  have hle := Hp.le.refl H0
  have hgs := hok0.gs
  simp only at hgs
  obtain ⟨b1, c1, rfl⟩ := hst.form
  obtain ⟨b2, c2, rfl⟩ := hcu.form
  obtain ⟨b3, c3, rfl⟩ := hch.form
  obtain ⟨b4, c4, rfl⟩ := hop.form
  obtain ⟨b5, c5, rfl⟩ := hl.form
  refine Calls.enter (args := [ptr gb, ptr gx, ptr gm]) Tryz.func86 rfl Tryz.ntmps86 rfl ?_
  refine WC.seq (WC.region (WO.step rfl (OR.assign rfl (WO.done (WX.seq (WC.seq (WC.seq ?_)))))))
  refine WC.draw 9 mixed hs (by kernel_rfl) ?_
  refine ⟨MF.eq _, by intro Mx H w hle hs; refine forVals_nil (ORg.plain (OR.load T43 rfl rfl (hs.right.cellM (i := 1) rfl rfl) ?_)); exact ⟨_, [], Hp.le.refl _, hs, rfl, rfl⟩, ?_⟩
  refine ⟨MF.eq _, by intro Mx H w hle hs; refine forVals_eq rfl rfl rfl ?_; refine forVals_nil (ORg.plain (OR.lenSlice T43.und rfl ?_)); exact ⟨_, [], Hp.le.refl _, hs, rfl, rfl⟩, ?_⟩
  refine ⟨MF.eq _, by intro Mx H w hle hs; refine forVals_nil (ORg.plain (OR.load T66 rfl rfl (hs.right.cellM (i := 2) rfl rfl) ?_)); exact ⟨_, [], Hp.le.refl _, hs, rfl, rfl⟩, ?_⟩
  refine ⟨MF.eq _, by intro Mx H w hle hs; refine forVals_eq rfl rfl rfl ?_; refine forVals_nil (ORg.plain (OR.nilCheck rfl ?_)); exact ⟨_, [], Hp.le.refl _, hs, rfl, rfl⟩, ?_⟩
  refine ⟨MF.eq _, by intro Mx H w hle hs; refine forVals_eq rfl rfl rfl ?_; refine forVals_nil (ORg.plain (OR.fieldAddr FA163_2 rfl ?_)); exact ⟨_, [], Hp.le.refl _, hs, rfl, rfl⟩, ?_⟩
  refine ⟨MF.eq _, by intro Mx H w hle hs; refine forVals_eq rfl rfl rfl ?_; refine forVals_nil (ORg.plain (OR.load T43 rfl rfl (hs.right.cellM (i := 0) rfl rfl) ?_)); exact ⟨_, [], Hp.le.refl _, hs, rfl, rfl⟩, ?_⟩
  refine ⟨MF.eq _, by intro Mx H w hle hs; refine forVals_eq rfl rfl rfl ?_; refine forVals_nil (ORg.plain (OR.lenSlice T43.und rfl ?_)); exact ⟨_, [], Hp.le.refl _, hs, rfl, rfl⟩, ?_⟩
  refine ⟨MF.eq _, by intro Mx H w hle hs; refine forVals_eq rfl rfl rfl ?_; refine forVals_nil (ORg.plain (OR.subI rfl rfl (by omega) (by omega) ?_)); exact ⟨_, [], Hp.le.refl _, hs, rfl, rfl⟩, ?_⟩
  refine ⟨MF.eq _, by intro Mx H w hle hs; refine forVals_eq rfl rfl rfl ?_; refine forVals_eq rfl rfl rfl ?_; refine forVals_nil (ORg.plain (OR.gtr rfl rfl ?_)); exact ⟨_, [], Hp.le.refl _, hs, rfl, rfl⟩, ?_⟩
  intro H w hle2; (try replace hle := hle.trans hle2); (try replace hlb := hlb.trans hle2)
  refine forAllVals_eq rfl ?_
  refine forAllVals_eq rfl ?_
  refine forAllVals_eq rfl ?_
  refine forAllVals_eq rfl ?_
  refine forAllVals_eq rfl ?_
  refine forAllVals_eq rfl ?_
  refine forAllVals_eq rfl ?_
  refine forAllVals_eq rfl ?_
  refine forAllVals_eq rfl ?_
  refine forAllVals_nil ?_; (try clear hs); intro hs
  refine WO.done (WX.seq ?_)
  refine WC.condD rfl (fun hbig => ?_) (fun hbig => ?_)
  · have hnf : ¬ subFits ⟨g, s, st, cuts, cl, chunks, opn⟩ l most := fun h => by have := h.1; simp only at this; omega
    refine WC.seq (WC.region (WO.step rfl (OR.assign rfl (WO.done (WX.seq (WC.ret (WX.seq_ret ?_)))))))
    refine WX.ret1 rfl rfl ?_
    refine ⟨_, _, _, rfl, ((hs.drop 1).drop 1).drop 1, by simp [dropAt], by rw [if_neg hnf], _, rfl, ?_⟩
    rw [if_neg hnf]
    exact ⟨_, _, _, _, rfl, hst.mono hle, hcu.mono hle, hch.mono hle, hop.mono hle⟩
  · have hfit : st.length + l.length ≤ 262144 := by omega
    have hok2 := hok0.long (l := l) hfit
    obtain ⟨LD, hLD⟩ : ∃ LD, LD = longD ⟨g, s, st, cuts, cl, chunks, opn⟩ l := ⟨_, rfl⟩
    rw [← hLD] at hok2
    have hc2 := hok2.cuts
    have hchl := hok2.chl
    have hopl := hok2.opl
    have hsub : subFits ⟨g, s, st, cuts, cl, chunks, opn⟩ l most ↔ needs LD ≤ most := by rw [subFits, ← hLD]; exact ⟨fun h => h.2, fun h => ⟨hfit, h⟩⟩
    have hLs : LD.st = st ++ l := by rw [hLD]; rfl
    have hLc : LD.cuts = cuts := by rw [hLD]; rfl
    have hLch : LD.chunks = chunksF (g * s - 4) (st ++ l) cuts := by rw [hLD]; rfl
    have hLop : LD.opn = openF (g * s - 4) (st ++ l) cuts := by rw [hLD]; rfl
    have hgs' : 1 ≤ g ∧ g ≤ 255 ∧ 1 ≤ s ∧ s ≤ 65535 ∧ 4 < g * s := by
      obtain ⟨g1, g2, g3, g4, g5⟩ := hgs
      exact ⟨by omega, by omega, by omega, by omega, by rw [← Int.natCast_mul] at g5; omega⟩
    rw [hLs, hLc] at hc2
    have hlen2 : (st ++ l).length = st.length + l.length := List.length_append
    refine WC.skip (WX.seq (WC.seq ?_))
    refine WC.draw 6 mixed hs (by kernel_rfl) ?_
    refine ⟨MF.eq _, by intro Mx H w hle hs; refine forVals_nil (ORg.plain (OR.load T66 rfl rfl (hs.right.cellM (i := 2) rfl rfl) ?_)); exact ⟨_, [], Hp.le.refl _, hs, rfl, rfl⟩, ?_⟩
    refine ⟨MF.eq _, by intro Mx H w hle hs; refine forVals_eq rfl rfl rfl ?_; refine forVals_nil (ORg.plain (OR.nilCheck rfl ?_)); exact ⟨_, [], Hp.le.refl _, hs, rfl, rfl⟩, ?_⟩
    refine ⟨MF.eq _, by intro Mx H w hle hs; refine forVals_eq rfl rfl rfl ?_; refine forVals_nil (ORg.plain (OR.fieldAddr FA163_2 rfl ?_)); exact ⟨_, [], Hp.le.refl _, hs, rfl, rfl⟩, ?_⟩
    refine ⟨MF.eq _, by intro Mx H w hle hs; refine forVals_eq rfl rfl rfl ?_; refine forVals_nil (ORg.plain (OR.load T43 rfl rfl (hs.right.cellM (i := 0) rfl rfl) ?_)); exact ⟨_, [], Hp.le.refl _, hs, rfl, rfl⟩, ?_⟩
    refine ⟨MF.own w0.heap.size 5 1 st.length (st.map B), ?_, ?_⟩
    · intro Mx H w hle2 hs; (try replace hle := hle.trans hle2); (try replace hlb := hlb.trans hle2); refine forVals_eq rfl rfl rfl ?_
      refine forVals_nil (ORg.plain (OR.callX (Mx := []) hs body87 rfl rfl (clone_ok _ st _ _ hs.toSub (hst.mono hle) (by omega)) rfl rfl ?_))
      have hsz := hs.size
      clear hs; rintro v H1 M1 w hs hle1 hnew ⟨rfl, ho⟩
      exact ⟨_, M1, hle1, hs, ho.mono hsz⟩
    refine ⟨MF.eq _, by intro Mx H w hle hs; refine forVals_nil (ORg.plain (OR.load T43 rfl rfl (hs.right.cellM (i := 1) rfl rfl) ?_)); exact ⟨_, [], Hp.le.refl _, hs, rfl, rfl⟩, ?_⟩
    intro H w hle2; (try replace hle := hle.trans hle2); (try replace hlb := hlb.trans hle2)
    refine forAllVals_eq rfl ?_
    refine forAllVals_eq rfl ?_
    refine forAllVals_eq rfl ?_
    refine forAllVals_eq rfl ?_
    refine forAllVals_cons rfl ?_; intro v4 M4 h4
    refine forAllVals_eq rfl ?_
    refine forAllVals_nil ?_; (try clear hs); intro hs
    refine WO.step rfl (OR.append (m := l.length) (news := l.map B) hs h4 T43.und T5 rfl (by omega) rfl rfl (by simp) (Sl.src (hl.mono hle) hs) (Sl.src0 hl) (bytes_one l) (by omega) (by omega) ?_)
    clear hs; intro vl w Mo hs ho hge
    obtain ⟨H3, hle3, hs, hsl3, _⟩ := HS.pub hs ho
    replace hle := hle.trans hle3
    have hlong : Bytes H3 vl (st ++ l) := by unfold Bytes; rw [hlen2, List.map_append]; exact hsl3
    obtain ⟨b6, c6, rfl⟩ := hlong.form
    clear ho hsl3 hle3
    have hlb := Hp.le.refl H3
    obtain ⟨HB, hHB⟩ : ∃ X, X = H3 := ⟨_, rfl⟩
    subst hHB
    have hcu1 := hcu.mono hle
    refine WO.step rfl (OR.assign rfl (WO.done (WX.seq (WC.seq ?_))))
    refine WC.draw 20 mixed hs (by kernel_rfl) ?_
    refine ⟨MF.eq _, by intro Mx H w hle hs; refine forVals_nil (ORg.plain (OR.move rfl ?_)); exact ⟨_, [], Hp.le.refl _, hs, rfl, rfl⟩, ?_⟩
    refine ⟨MF.eq _, by intro Mx H w hle hs; refine forVals_nil (ORg.plain (OR.load T66 rfl rfl (hs.right.cellM (i := 2) rfl rfl) ?_)); exact ⟨_, [], Hp.le.refl _, hs, rfl, rfl⟩, ?_⟩
    refine ⟨MF.eq _, by intro Mx H w hle hs; refine forVals_eq rfl rfl rfl ?_; refine forVals_nil (ORg.plain (OR.nilCheck rfl ?_)); exact ⟨_, [], Hp.le.refl _, hs, rfl, rfl⟩, ?_⟩
    refine ⟨MF.eq _, by intro Mx H w hle hs; refine forVals_eq rfl rfl rfl ?_; refine forVals_nil (ORg.plain (OR.fieldAddr FA163_3 rfl ?_)); exact ⟨_, [], Hp.le.refl _, hs, rfl, rfl⟩, ?_⟩
    refine ⟨MF.eq _, by intro Mx H w hle hs; refine forVals_eq rfl rfl rfl ?_; refine forVals_nil (ORg.plain (OR.load T76 rfl rfl (hs.right.cellM (i := 0) rfl rfl) ?_)); exact ⟨_, [], Hp.le.refl _, hs, rfl, rfl⟩, ?_⟩
    refine ⟨MF.eq _, by intro Mx H w hle hs; refine forVals_nil (ORg.plain (OR.load T66 rfl rfl (hs.right.cellM (i := 2) rfl rfl) ?_)); exact ⟨_, [], Hp.le.refl _, hs, rfl, rfl⟩, ?_⟩
    refine ⟨MF.eq _, by intro Mx H w hle hs; refine forVals_eq rfl rfl rfl ?_; refine forVals_nil (ORg.plain (OR.nilCheck rfl ?_)); exact ⟨_, [], Hp.le.refl _, hs, rfl, rfl⟩, ?_⟩
    refine ⟨MF.eq _, by intro Mx H w hle hs; refine forVals_eq rfl rfl rfl ?_; refine forVals_nil (ORg.plain (OR.fieldAddr FA163_0 rfl ?_)); exact ⟨_, [], Hp.le.refl _, hs, rfl, rfl⟩, ?_⟩
    refine ⟨MF.eq _, by intro Mx H w hle hs; refine forVals_eq rfl rfl rfl ?_; refine forVals_nil (ORg.plain (OR.load T3 rfl rfl (hs.right.cellM (i := 0) rfl rfl) ?_)); exact ⟨_, [], Hp.le.refl _, hs, rfl, rfl⟩, ?_⟩
    refine ⟨MF.eq _, by intro Mx H w hle hs; refine forVals_nil (ORg.plain (OR.load T66 rfl rfl (hs.right.cellM (i := 2) rfl rfl) ?_)); exact ⟨_, [], Hp.le.refl _, hs, rfl, rfl⟩, ?_⟩
    refine ⟨MF.eq _, by intro Mx H w hle hs; refine forVals_eq rfl rfl rfl ?_; refine forVals_nil (ORg.plain (OR.nilCheck rfl ?_)); exact ⟨_, [], Hp.le.refl _, hs, rfl, rfl⟩, ?_⟩
    refine ⟨MF.eq _, by intro Mx H w hle hs; refine forVals_eq rfl rfl rfl ?_; refine forVals_nil (ORg.plain (OR.fieldAddr FA163_1 rfl ?_)); exact ⟨_, [], Hp.le.refl _, hs, rfl, rfl⟩, ?_⟩
    refine ⟨MF.eq _, by intro Mx H w hle hs; refine forVals_eq rfl rfl rfl ?_; refine forVals_nil (ORg.plain (OR.load T3 rfl rfl (hs.right.cellM (i := 0) rfl rfl) ?_)); exact ⟨_, [], Hp.le.refl _, hs, rfl, rfl⟩, ?_⟩
    refine ⟨MF.tup3 LD.chunks LD.opn 0, ?_, ?_⟩
    · intro Mx H w hle2 hs; (try replace hle := hle.trans hle2); (try replace hlb := hlb.trans hle2); refine forVals_eq rfl rfl rfl ?_; refine forVals_eq rfl rfl rfl ?_; refine forVals_eq rfl rfl rfl ?_; refine forVals_eq rfl rfl rfl ?_
      refine forVals_nil (ORg.plain (OR.call hs body88 rfl rfl (chunks_ok g s _ _ (st ++ l) cuts _ _ hs.toSub hgs' (hlong.mono hlb) (hcu1.mono hlb) (by omega) (by omega)) ?_))
      clear hs; rintro _ H w hs hle1 ⟨r1, r2, rfl, hr1, hr2⟩
      exact ⟨_, [], hle1, hs, ⟨_, _, by rw [if_pos hc2], by rw [hLch]; rw [if_pos hc2] at hr1; exact hr1, by rw [hLop]; rw [if_pos hc2] at hr2; exact hr2⟩, rfl⟩
    refine ⟨MF.tup3 LD.chunks LD.opn 0, ?_, ?_⟩
    · intro Mx H w hle2 hs; (try replace hle := hle.trans hle2); (try replace hlb := hlb.trans hle2); refine forVals_of rfl rfl rfl ?_; intro v13 h13
      obtain ⟨r1, r2, rfl, hr1, hr2⟩ := h13
      refine forVals_nil (ORg.plain (OR.move rfl ?_))
      exact ⟨_, [], Hp.le.refl _, hs, ⟨_, _, rfl, hr1, hr2⟩, rfl⟩
    refine ⟨MF.bytesL LD.chunks, ?_, ?_⟩
    · intro Mx H w hle2 hs; (try replace hle := hle.trans hle2); (try replace hlb := hlb.trans hle2); refine forVals_of rfl rfl rfl ?_; intro v14 h14
      obtain ⟨r1, r2, rfl, hr1, hr2⟩ := h14
      refine forVals_nil (ORg.plain (OR.extract rfl rfl ?_))
      exact ⟨_, [], Hp.le.refl _, hs, hr1, rfl⟩
    refine ⟨MF.bytes LD.opn, ?_, ?_⟩
    · intro Mx H w hle2 hs; (try replace hle := hle.trans hle2); (try replace hlb := hlb.trans hle2); refine forVals_of rfl rfl rfl ?_; intro v14 h14
      obtain ⟨r1, r2, rfl, hr1, hr2⟩ := h14
      refine forVals_nil (ORg.plain (OR.extract rfl rfl ?_))
      exact ⟨_, [], Hp.le.refl _, hs, hr2, rfl⟩
    refine ⟨MF.eq (.int .i64 0), ?_, ?_⟩
    · intro Mx H w hle2 hs; (try replace hle := hle.trans hle2); (try replace hlb := hlb.trans hle2); refine forVals_of rfl rfl rfl ?_; intro v14 h14
      obtain ⟨r1, r2, rfl, hr1, hr2⟩ := h14
      refine forVals_nil (ORg.plain (OR.extract rfl rfl ?_))
      exact ⟨_, [], Hp.le.refl _, hs, rfl, rfl⟩
    refine ⟨MF.bytesL LD.chunks, ?_, ?_⟩
    · intro Mx H w hle2 hs; (try replace hle := hle.trans hle2); (try replace hlb := hlb.trans hle2); refine forVals_of rfl rfl rfl ?_; intro v15 h15
      refine forVals_nil (ORg.plain (OR.assign rfl ?_))
      exact ⟨_, [], Hp.le.refl _, hs, h15, rfl⟩
    refine ⟨MF.bytes LD.opn, ?_, ?_⟩
    · intro Mx H w hle2 hs; (try replace hle := hle.trans hle2); (try replace hlb := hlb.trans hle2); refine forVals_of rfl rfl rfl ?_; intro v16 h16
      refine forVals_nil (ORg.plain (OR.assign rfl ?_))
      exact ⟨_, [], Hp.le.refl _, hs, h16, rfl⟩
    intro H w hle2; (try replace hle := hle.trans hle2); (try replace hlb := hlb.trans hle2)
    refine forAllVals_eq rfl ?_
    refine forAllVals_eq rfl ?_
    refine forAllVals_eq rfl ?_
    refine forAllVals_eq rfl ?_
    refine forAllVals_eq rfl ?_
    refine forAllVals_eq rfl ?_
    refine forAllVals_eq rfl ?_
    refine forAllVals_eq rfl ?_
    refine forAllVals_eq rfl ?_
    refine forAllVals_eq rfl ?_
    refine forAllVals_eq rfl ?_
    refine forAllVals_eq rfl ?_
    refine forAllVals_eq rfl ?_
    refine forAllVals_of rfl ?_; intro v13 h13
    refine forAllVals_of rfl ?_; intro v14 h14
    refine forAllVals_of rfl ?_; intro v15 h15
    refine forAllVals_of rfl ?_; intro v16 h16
    refine forAllVals_eq rfl ?_
    refine forAllVals_of rfl ?_; intro v18 h18
    refine forAllVals_of rfl ?_; intro v19 h19
    refine forAllVals_nil ?_; (try clear hs); intro hs
    obtain ⟨b7, c7, rfl⟩ := h18.form
    obtain ⟨b8, c8, rfl⟩ := h19.form
    refine WO.step rfl (OR.assign rfl (WO.done (WX.seq (WC.seq (WC.region (WO.step rfl (OR.move rfl ?_)))))))
    refine WO.step rfl (OR.lenSlice T40.und rfl ?_)
    refine WO.step rfl (OR.convI T3.und T22.und rfl ?_)
    rw [u64_wrap _ (by omega)]
    refine WO.step rfl (OR.assign rfl (WO.done (WX.seq (WC.seq (WC.seq (WC.region (WO.step rfl ?_)))))))
    refine OR.move rfl (WO.step rfl (OR.lenSlice T43.und rfl (WO.step rfl (OR.gtr rfl rfl (WO.done (WX.seq ?_))))))
    refine WC.joinK (ι := Unit) (fun ix => [(0, ptr gb), (1, ptr gx), (2, ptr gm), (4, .slice b6 (st ++ l).length c6), (8, .int .u64 (needs LD : Int))]) (fun ix w => (HS [b] H0 w0 H [(b, srcObj g s (.slice b1 st.length c1) (.slice b2 cuts.length c2) cl (.slice b3 chunks.length c3) (.slice b4 opn.length c4), true), (gb, .cells #[.slice b5 l.length c5] 43, false), (gx, .cells #[ptr b] 66, false), (gm, .cells #[.int .u64 (most : Int)] 22, false)] w)) ?_ (fun ix w hW => ?_)
    · refine WC.condD rfl (fun hopn => ?_) (fun hopn => ?_)
      · refine WC.region (WO.step rfl (OR.move rfl ?_))
        refine WO.step rfl (OR.add rfl rfl ?_)
        have hne : ¬ LD.opn = [] := fun e => by rw [e] at hopn; exact absurd hopn (by decide)
        have hnd : IntKind.u64.wrap ((LD.chunks.length : Int) + 1) = (needs LD : Int) := by
          have := u64_wrap (LD.chunks.length + 1) (by omega)
          rw [needs, if_neg hne, ← this]; rfl
        rw [hnd]
        refine WO.step rfl (OR.assign rfl (WO.done ?_))
        refine WX.arrive (()) ⟨rfl, rfl, rfl, rfl, rfl,  trivial⟩ ?_
        · exact hs
      · have he : LD.opn = [] := List.eq_nil_of_length_eq_zero (by omega)
        have hnd : (LD.chunks.length : Int) = (needs LD : Int) := by rw [needs, if_pos he, Nat.add_zero]
        rw [hnd]
        refine WC.skip ?_
        refine WX.arrive (()) ⟨rfl, rfl, rfl, rfl, rfl,  trivial⟩ ?_
        · exact hs
    · clear hs
      have hs := hW
      clear hW
      refine WC.seq (WC.seq (WC.region (WO.step rfl (OR.move rfl (WO.step rfl (OR.load T22 rfl rfl (hs.cellM (i := 3) rfl rfl) (WO.step rfl ?_)))))))
      refine OR.gtr rfl rfl (WO.done (WX.seq ?_))
      refine WC.condD rfl (fun hmost => ?_) (fun hmost => ?_)
      · have hnf : ¬ subFits ⟨g, s, st, cuts, cl, chunks, opn⟩ l most := fun h => by have := hsub.1 h; omega
        refine WC.seq (WC.region (WO.step rfl (OR.assign rfl (WO.done (WX.seq (WC.ret (WX.seq_ret ?_)))))))
        refine WX.ret1 rfl rfl ?_
        refine ⟨_, _, _, rfl, ((hs.drop 1).drop 1).drop 1, by simp [dropAt], by rw [if_neg hnf], _, rfl, ?_⟩
        rw [if_neg hnf]
        exact ⟨_, _, _, _, rfl, hst.mono hle, hcu.mono hle, hch.mono hle, hop.mono hle⟩
      · have hf : subFits ⟨g, s, st, cuts, cl, chunks, opn⟩ l most := hsub.2 (by omega)
        refine WC.skip (WX.seq (WC.seq ?_))
        refine WC.draw 6 mixed hs (by kernel_rfl) ?_
        refine ⟨MF.eq _, by intro Mx H w hle hs; refine forVals_nil (ORg.plain (OR.load T66 rfl rfl (hs.right.cellM (i := 2) rfl rfl) ?_)); exact ⟨_, [], Hp.le.refl _, hs, rfl, rfl⟩, ?_⟩
        refine ⟨MF.eq _, by intro Mx H w hle hs; refine forVals_nil (ORg.plain (OR.move rfl ?_)); exact ⟨_, [], Hp.le.refl _, hs, rfl, rfl⟩, ?_⟩
        refine ⟨MF.eq _, by intro Mx H w hle hs; refine forVals_nil (ORg.plain (OR.load T66 rfl rfl (hs.right.cellM (i := 2) rfl rfl) ?_)); exact ⟨_, [], Hp.le.refl _, hs, rfl, rfl⟩, ?_⟩
        refine ⟨MF.eq _, by intro Mx H w hle hs; refine forVals_eq rfl rfl rfl ?_; refine forVals_nil (ORg.plain (OR.nilCheck rfl ?_)); exact ⟨_, [], Hp.le.refl _, hs, rfl, rfl⟩, ?_⟩
        refine ⟨MF.eq _, by intro Mx H w hle hs; refine forVals_eq rfl rfl rfl ?_; refine forVals_nil (ORg.plain (OR.fieldAddr FA163_3 rfl ?_)); exact ⟨_, [], Hp.le.refl _, hs, rfl, rfl⟩, ?_⟩
        refine ⟨MF.eq _, by intro Mx H w hle hs; refine forVals_eq rfl rfl rfl ?_; refine forVals_nil (ORg.plain (OR.load T76 rfl rfl (hs.right.cellM (i := 0) rfl rfl) ?_)); exact ⟨_, [], Hp.le.refl _, hs, rfl, rfl⟩, ?_⟩
        intro H w hle2; (try replace hle := hle.trans hle2); (try replace hlb := hlb.trans hle2)
        refine forAllVals_eq rfl ?_
        refine forAllVals_eq rfl ?_
        refine forAllVals_eq rfl ?_
        refine forAllVals_eq rfl ?_
        refine forAllVals_eq rfl ?_
        refine forAllVals_eq rfl ?_
        refine forAllVals_nil ?_; (try clear hs); intro hs
        refine WO.step rfl (OR.callX (Mx := [(b, _, true)]) hs body89 rfl rfl (set_ok b g s _ _ _ _ _ _ cl (st ++ l) cuts _ _ hs.toSub (hs.blk (i := 0) rfl) (hs.mem b _ true (List.mem_cons_self ..)).2.1 hgs (hlong.mono hlb) (hcu.mono hle) (by omega) (by omega)) rfl rfl ?_)
        clear hs; rintro _ H4 M' w hs hle1 hnew hres; replace hle := hle.trans hle1; (try replace hlb := hlb.trans hle1)
        rw [if_pos hc2] at hres
        obtain ⟨rfl, o', rfl, hsrc⟩ := hres
        refine WO.step rfl (OR.assign rfl (WO.done (WX.seq (WC.ret ?_))))
        refine WX.ret1 rfl rfl ?_
        refine ⟨_, H4, _, rfl, ((hs.drop 1).drop 1).drop 1, by simp [dropAt], by rw [if_pos hf], _, rfl, ?_⟩
        rw [if_pos hf]
        exact hsrc

end Go.Bw
namespace Go.Bw
set_option linter.unusedVariables false
set_option linter.unusedSimpArgs false
open Go.Proofs
def subE (x : SrcD) (l : List UInt8) (most : Nat) : Int := if x.cl = true then 27 else if subFits x l most then 0 else 7
def subD (x : SrcD) (l : List UInt8) (most : Nat) : SrcD := if x.cl = true then x else if subFits x l most then longD x l else x

abbrev madeV (p : Value) : Value := .func (.func 84) #[p] #[]
abbrev freeV (p : Value) : Value := .func (.func 85) #[p] #[]
abbrev cutV (p : Value) : Value := .func (.func 90) #[p] #[]
set_option maxRecDepth 20000 in
set_option maxHeartbeats 2000000 in
theorem submit_ok (b : Nat) (x : SrcD) (o : Obj) (bv : Value) (l : List UInt8) (most : Nat) (H0 : Hp) (w0 : World) (h0 : Sub H0 w0) (hb : w0.heap[b]? = some o) (hn : H0 b = none)
    (hx : SrcIn H0 x o) (hok : SrcOk x) (hl : Bytes H0 bv l) (hll : l.length ≤ 9223372036854775807) (hcl : x.cuts.length ≤ 1000000000) :
    Calls Tryz.prog 29 #[ptr b, bv, .int .u64 (most : Int)] w0 (Ret [b] H0 w0 fun v H' M' => v = .int .i64 (subE x l most) ∧ ∃ o', M' = [(b, o', true)] ∧ SrcIn H' (subD x l most) o') := by
  have hs := HS.start1 h0 hb hn
  have hle := Hp.le.refl H0
  have hx0 := hx
  have hgp : 0 < x.g := by have := hok.gs.1; omega
  obtain ⟨vs, vc, vch, vop, ho, _⟩ := hx0
  obtain ⟨b5, c5, rfl⟩ := hl.form
  refine Calls.enter (args := [ptr b, .slice b5 l.length c5, .int .u64 (most : Int)]) Tryz.func29 rfl Tryz.ntmps29 rfl ?_
  refine WC.seq (WC.region (WO.step rfl (OR.box hs rfl ?_)))
  clear hs; intro g1 w hg1 hs
  refine WO.step rfl (OR.box hs rfl ?_)
  clear hs; intro g2 w hg2 hs
  refine WO.step rfl (OR.box hs rfl ?_)
  clear hs; intro g3 w hg3 hs
  refine WO.step rfl (OR.assign rfl (WO.done (WX.seq (WC.seq (WC.region (WO.step rfl (OR.load T66 rfl rfl (hs.cellM (i := 2) rfl rfl) ?_)))))))
  refine WO.step rfl (OR.makeFunc rfl rfl (WO.step rfl (OR.load T66 rfl rfl (hs.cellM (i := 2) rfl rfl) (WO.step rfl (OR.makeFunc rfl rfl (WO.step rfl (OR.makeFunc rfl rfl ?_)))))))
  refine WO.step rfl (OR.buildSlice (vs := [_, _, _]) hs T215.und T70 rfl rfl rfl rfl (by simp) ?_)
  clear hs; intro g4 w hg4 hs
  refine WO.step rfl (OR.callW body83 rfl rfl (first_ok [.func (.func 84) #[ptr b] #[], .func (.func 85) #[ptr b] #[], .func (.func 86) #[] #[ptr g2, ptr g1, ptr g3]] g4 3 (fun i w => (i ≤ 2 ∧ (i = 2 → x.cl = false) ∧ ∃ H, Hp.le H0 H ∧ HS [b] H0 w0 H [(g4, .cells #[.func (.func 84) #[ptr b] #[], .func (.func 85) #[ptr b] #[], .func (.func 86) #[] #[ptr g2, ptr g1, ptr g3]] 70, true), (g3, .cells #[.int .u64 (most : Int)] 22, true), (g2, .cells #[.slice b5 l.length c5] 43, true), (g1, .cells #[ptr b] 66, true), (b, o, true)] w) ∨ (i = 3 ∧ subE x l most = 0 ∧ ∃ H o', HS [b] H0 w0 H [(b, o', true)] w ∧ SrcIn H (subD x l most) o')) (fun er w => er = subE x l most ∧ ∃ H o', HS [b] H0 w0 H [(b, o', true)] w ∧ SrcIn H (subD x l most) o') _ (.inl ⟨by omega, (fun h => by cases h), H0, hle, hs⟩) (by simp) ?_ ?_ ?_) ?_)
  · rintro i w (⟨hi, _, H, _, hs⟩ | ⟨rfl, _⟩) h
    · match i, hi with
      | 0, _ => exact hs.cellM (i := 0) rfl rfl
      | 1, _ => exact hs.cellM (i := 0) rfl rfl
      | 2, _ => exact hs.cellM (i := 0) rfl rfl
    · simp at h
  · rintro i h w (⟨hi, hc2, H, hle, hs⟩ | ⟨rfl, _⟩)
    · match i, hi with
      | 0, _ =>
        refine ⟨_, [ptr b], [], rfl, body84, (smade_ok b x.g x.s vs vc vch vop x.cl _ _ hs.toSub (by rw [← ho]; exact hs.blk (i := 4) rfl) (hs.mem b o true (by simp)).2.1 hgp).mono fun e w' hp => ?_⟩
        obtain ⟨v, H', rfl, hs', hle', rfl⟩ := hp.step hs
        exact ⟨0, rfl, .inl ⟨rfl, .inl ⟨by omega, (fun h => by cases h), H', hle.trans hle', hs'⟩⟩⟩
      | 1, _ =>
        refine ⟨_, [ptr b], [], rfl, body85, (sfree_ok b x.g x.s vs vc vch vop x.cl _ _ hs.toSub (by rw [← ho]; exact hs.blk (i := 4) rfl) (hs.mem b o true (by simp)).2.1).mono fun e w' hp => ?_⟩
        obtain ⟨v, H', rfl, hs', hle', rfl⟩ := hp.step hs
        by_cases hc : x.cl = true
        · exact ⟨27, by rw [if_pos hc], .inr ⟨by decide, by rw [subE, if_pos hc], H', o, (((hs'.drop 0).drop 0).drop 0).drop 0, by rw [subD, if_pos hc]; exact hx.mono (hle.trans hle')⟩⟩
        · exact ⟨0, by rw [if_neg hc], .inl ⟨rfl, .inl ⟨by omega, (fun _ => by simpa using hc), H', hle.trans hle', hs'⟩⟩⟩
      | 2, _ =>
        have hc := hc2 rfl
        have hs3 : HS [b] H0 w0 H ([(b, o, true)] ++ [(g2, .cells #[.slice b5 l.length c5] 43, true), (g1, .cells #[ptr b] 66, true), (g3, .cells #[.int .u64 (most : Int)] 22, true)]) w := ((((hs.drop 0).front (i := 0) rfl).front (i := 2) rfl).front (i := 2) rfl).front (i := 3) rfl
        refine ⟨_, [], [ptr g2, ptr g1, ptr g3], rfl, body86, (submit1_ok b g2 g1 g3 x o _ l most H w (hs3.begin [true, false, false, false]) (hx.mono hle) hok (hl.mono hle) hll hcl).mono fun e w' hp => ?_⟩
        obtain ⟨v, H', M', rfl, hs', hle', rfl, o', rfl, hsrc⟩ := hp.step hs3 rfl rfl
        have hE : subE x l most = if subFits x l most then 0 else 7 := by rw [subE, if_neg (by rw [hc]; decide)]
        have hD : subD x l most = if subFits x l most then longD x l else x := by rw [subD, if_neg (by rw [hc]; decide)]
        rw [← hD] at hsrc
        rw [← hE]
        have hs4 : HS [b] H0 w0 H' [(b, o', true)] w' := ((hs'.drop 1).drop 1).drop 1
        by_cases hz : subE x l most = 0
        · exact ⟨_, rfl, .inl ⟨hz, .inr ⟨rfl, hz, H', o', hs4, hsrc⟩⟩⟩
        · exact ⟨_, rfl, .inr ⟨hz, rfl, H', o', hs4, hsrc⟩⟩
    · simp at h
  · rintro w (⟨h, _⟩ | ⟨_, hz, H, o', hs, hsrc⟩)
    · simp at h
    · exact ⟨hz.symm, H, o', hs, hsrc⟩
  rintro e w ⟨er, rfl, rfl, H, o', hs, hsrc⟩
  refine ⟨_, rfl, ?_⟩
  refine WO.step rfl (OR.assign rfl (WO.done (WX.seq (WC.ret ?_))))
  refine WX.ret1 rfl rfl ?_
  exact ⟨_, H, _, rfl, hs, by simp, rfl, o', rfl, hsrc⟩


def closeD (x : SrcD) : SrcD := if x.cl = true then x else { cutD x with cl := true }
set_option maxRecDepth 20000 in
set_option maxHeartbeats 2000000 in
theorem close1_ok (b gx : Nat) (x : SrcD) (o : Obj) (H0 : Hp) (w0 : World) (hs : HS [b] H0 w0 H0 [(b, o, true), (gx, .cells #[ptr b] 66, false)] w0) (hx : SrcIn H0 x o) :
    Calls Tryz.prog 150 #[ptr gx] w0 (Ret [b] H0 w0 fun v H' M' => v = .int .i64 0 ∧ ∃ o', M' = [(b, o', true)] ∧ SrcIn H' { x with cl := true } o') := by
  have hle := Hp.le.refl H0
  obtain ⟨vs, vc, vch, vop, rfl, h1, h2, h3, h4⟩ := hx
  refine Calls.enter (args := [ptr gx]) Tryz.func150 rfl Tryz.ntmps150 rfl ?_
  refine WC.seq (WC.region (WO.step rfl (OR.assign rfl (WO.done (WX.seq (WC.seq (WC.region ?_)))))))
  refine WO.step rfl (OR.load T66 rfl rfl (hs.cellM (i := 1) rfl rfl) (WO.step rfl (OR.nilCheck rfl (WO.step rfl (OR.fieldAddr FA163_4 rfl (WO.stepN (OR.store hs T4 rfl rfl rfl (Nat.le_of_ble_eq_true rfl) rfl ?_)))))))
  clear hs; intro w hs
  refine WO.done (WX.seq (WC.seq (WC.region (WO.step rfl (OR.assign rfl (WO.done (WX.seq ?_)))))))
  refine WC.ret ?_
  refine WX.ret1 rfl rfl ?_
  exact ⟨_, H0, _, rfl, hs.drop 1, by simp [dropAt], rfl, _, rfl, _, _, _, _, rfl, h1, h2, h3, h4⟩

set_option maxRecDepth 20000 in
set_option maxHeartbeats 2000000 in
theorem close_ok (b : Nat) (x : SrcD) (o : Obj) (H0 : Hp) (w0 : World) (h0 : Sub H0 w0) (hb : w0.heap[b]? = some o) (hn : H0 b = none) (hx : SrcIn H0 x o) (hok : SrcOk x) (hcl : x.cuts.length ≤ 1000000000) :
    Calls Tryz.prog 113 #[ptr b] w0 (Ret [b] H0 w0 fun v H' M' => v = .int .i64 (if x.cl = true then 27 else 0) ∧ ∃ o', M' = [(b, o', true)] ∧ SrcIn H' (closeD x) o') := by
  have hs := HS.start1 h0 hb hn
  have hle := Hp.le.refl H0
  have hx0 := hx
  have hgp : 0 < x.g := by have := hok.gs.1; omega
  have hlen := hok.len
  have hopl := hok.opl
  obtain ⟨vs, vc, vch, vop, ho, _⟩ := hx0
  refine Calls.enter (args := [ptr b]) Tryz.func113 rfl Tryz.ntmps113 rfl ?_
  refine WC.seq (WC.region (WO.step rfl (OR.box hs rfl ?_)))
  clear hs; intro g1 w hg1 hs
  refine WO.step rfl (OR.assign rfl (WO.done (WX.seq (WC.seq (WC.region (WO.step rfl (OR.load T66 rfl rfl (hs.cellM (i := 0) rfl rfl) ?_)))))))
  refine WO.step rfl (OR.makeFunc rfl rfl (WO.step rfl (OR.load T66 rfl rfl (hs.cellM (i := 0) rfl rfl) (WO.step rfl (OR.makeFunc rfl rfl (WO.step rfl (OR.load T66 rfl rfl (hs.cellM (i := 0) rfl rfl) ?_)))))))
  refine WO.step rfl (OR.makeFunc rfl rfl (WO.step rfl (OR.makeFunc rfl rfl ?_)))
  refine WO.step rfl (OR.buildSlice (vs := [_, _, _, _]) hs T215.und T70 rfl rfl rfl rfl (by simp) ?_)
  clear hs; intro g4 w hg4 hs
  refine WO.step rfl (OR.callW body83 rfl rfl (first_ok [madeV (ptr b), freeV (ptr b), cutV (ptr b), .func (.func 150) #[] #[ptr g1]] g4 4 (fun i w => (i ≤ 2 ∧ (i = 2 → x.cl = false) ∧ ∃ H, Hp.le H0 H ∧ HS [b] H0 w0 H [(g4, .cells #[madeV (ptr b), freeV (ptr b), cutV (ptr b), .func (.func 150) #[] #[ptr g1]] 70, true), (g1, .cells #[ptr b] 66, true), (b, o, true)] w) ∨ (i = 3 ∧ x.cl = false ∧ ∃ H o', HS [b] H0 w0 H [(b, o', true), (g4, .cells #[madeV (ptr b), freeV (ptr b), cutV (ptr b), .func (.func 150) #[] #[ptr g1]] 70, true), (g1, .cells #[ptr b] 66, true)] w ∧ SrcIn H (cutD x) o') ∨ (i = 4 ∧ x.cl = false ∧ ∃ H o', HS [b] H0 w0 H [(b, o', true)] w ∧ SrcIn H (closeD x) o')) (fun er w => er = (if x.cl = true then 27 else 0) ∧ ∃ H o', HS [b] H0 w0 H [(b, o', true)] w ∧ SrcIn H (closeD x) o') _ (.inl ⟨by omega, (fun h => by cases h), H0, hle, hs⟩) (by simp) ?_ ?_ ?_) ?_)
  · rintro i w (⟨hi, _, H, _, hs⟩ | ⟨rfl, _, H, o', hs, _⟩ | ⟨rfl, _⟩) h
    · match i, hi with
      | 0, _ => exact hs.cellM (i := 0) rfl rfl
      | 1, _ => exact hs.cellM (i := 0) rfl rfl
      | 2, _ => exact hs.cellM (i := 0) rfl rfl
    · exact hs.cellM (i := 1) rfl rfl
    · simp at h
  · rintro i h w (⟨hi, hc2, H, hle, hs⟩ | ⟨rfl, hc, H, o', hs, hsrc⟩ | ⟨rfl, _⟩)
    · match i, hi with
      | 0, _ =>
        refine ⟨_, [ptr b], [], rfl, body84, (smade_ok b x.g x.s vs vc vch vop x.cl _ _ hs.toSub (by rw [← ho]; exact hs.blk (i := 2) rfl) (hs.mem b o true (by simp)).2.1 hgp).mono fun e w' hp => ?_⟩
        obtain ⟨v, H', rfl, hs', hle', rfl⟩ := hp.step hs
        exact ⟨0, rfl, .inl ⟨rfl, .inl ⟨by omega, (fun h => by cases h), H', hle.trans hle', hs'⟩⟩⟩
      | 1, _ =>
        refine ⟨_, [ptr b], [], rfl, body85, (sfree_ok b x.g x.s vs vc vch vop x.cl _ _ hs.toSub (by rw [← ho]; exact hs.blk (i := 2) rfl) (hs.mem b o true (by simp)).2.1).mono fun e w' hp => ?_⟩
        obtain ⟨v, H', rfl, hs', hle', rfl⟩ := hp.step hs
        by_cases hc : x.cl = true
        · exact ⟨27, by rw [if_pos hc], .inr ⟨by decide, by rw [if_pos hc], H', o, (hs'.drop 0).drop 0, by rw [closeD, if_pos hc]; exact hx.mono (hle.trans hle')⟩⟩
        · exact ⟨0, by rw [if_neg hc], .inl ⟨rfl, .inl ⟨by omega, (fun _ => by simpa using hc), H', hle.trans hle', hs'⟩⟩⟩
      | 2, _ =>
        have hc := hc2 rfl
        have hs3 : HS [b] H0 w0 H ([(b, o, true)] ++ [(g4, .cells #[madeV (ptr b), freeV (ptr b), cutV (ptr b), .func (.func 150) #[] #[ptr g1]] 70, true), (g1, .cells #[ptr b] 66, true)]) w := hs.front (i := 2) rfl
        refine ⟨_, [ptr b], [], rfl, body90, (cut_ok b x o H w hs.toSub (hs.blk (i := 2) rfl) (hs.mem b o true (by simp)).2.1 (hx.mono hle) hok.gs hok.cuts (by omega) hcl (by omega)).mono fun e w' hp => ?_⟩
        obtain ⟨v, H', M', rfl, hs', hle', rfl, o', rfl, hsrc⟩ := hp.step hs3 rfl rfl
        exact ⟨0, rfl, .inl ⟨rfl, .inr (.inl ⟨rfl, hc, H', o', hs', hsrc⟩)⟩⟩
    · have hs3 : HS [b] H0 w0 H ([(b, o', true)] ++ [(g1, .cells #[ptr b] 66, true)]) w := hs.drop 1
      refine ⟨_, [], [ptr g1], rfl, body150, (close1_ok b g1 (cutD x) o' H w (hs3.begin [true, false]) hsrc).mono fun e w' hp => ?_⟩
      obtain ⟨v, H', M', rfl, hs', hle', rfl, o2, rfl, hsrc2⟩ := hp.step hs3 rfl rfl
      have hD : closeD x = { cutD x with cl := true } := by rw [closeD, if_neg (by rw [hc]; decide)]
      rw [← hD] at hsrc2
      exact ⟨0, rfl, .inl ⟨rfl, .inr (.inr ⟨rfl, hc, H', o2, hs'.drop 1, hsrc2⟩)⟩⟩
    · simp at h
  · rintro w (⟨h, _⟩ | ⟨h, _⟩ | ⟨_, hz, H, o', hs, hsrc⟩)
    · simp at h
    · simp at h
    · exact ⟨by rw [if_neg (by rw [hz]; decide)], H, o', hs, hsrc⟩
  rintro e w ⟨er, rfl, rfl, H, o', hs, hsrc⟩
  refine ⟨_, rfl, ?_⟩
  refine WO.step rfl (OR.assign rfl (WO.done (WX.seq (WC.ret ?_))))
  refine WX.ret1 rfl rfl ?_
  exact ⟨_, H, _, rfl, hs, by simp, rfl, o', rfl, hsrc⟩

end Go.Bw
namespace Go.Bw
set_option linter.unusedVariables false
set_option linter.unusedSimpArgs false
open Go.Proofs
theorem slotMem_sub (g s : Nat) (t : Bool) (l : Slots) (i : Nat) : List.Sublist (slotMem g s t (l.set i none)) (slotMem g s t l) := by
  by_cases hi : i < l.length
  · obtain ⟨h1, h2⟩ := slots_split (l := l) (i := i) (List.getElem?_eq_getElem hi) none
    have e1 : slotMem g s t l = slotMem g s t (l.take i) ++ (slotM g s t l[i] ++ slotMem g s t (l.drop (i + 1))) := by
      conv => lhs; rw [h1]
      simp only [slotMem, List.flatMap_append, List.flatMap_cons]
    have e2 : slotMem g s t (l.set i none) = slotMem g s t (l.take i) ++ slotMem g s t (l.drop (i + 1)) := by
      rw [h2]
      simp only [slotMem, List.flatMap_append, List.flatMap_cons, slotM, List.nil_append]
    rw [e1, e2]
    exact List.Sublist.append (List.Sublist.refl _) (List.sublist_append_right _ _)
  · rw [List.set_eq_of_length_le (by omega)]
    exact List.Sublist.refl _
/-- The generations of a list forgotten. -/
def RelD.drops (x : RelD) (l : List Nat) : RelD := l.foldl (fun x gen => x.put gen []) x
def slotsDrop (width : Nat) (l : Slots) (gs : List Nat) : Slots := gs.foldl (fun l gen => l.set (gen % width) none) l
theorem slotsDrop_sub (g s : Nat) (t : Bool) (width : Nat) : ∀ (gs : List Nat) (l : Slots), List.Sublist (slotMem g s t (slotsDrop width l gs)) (slotMem g s t l)
  | [], l => List.Sublist.refl _
  | gen :: gs, l => (slotsDrop_sub g s t width gs _).trans (slotMem_sub g s t l _)
theorem slotsDrop_len (width : Nat) : ∀ (gs : List Nat) (l : Slots), (slotsDrop width l gs).length = l.length
  | [], l => rfl
  | gen :: gs, l => (slotsDrop_len width gs _).trans (List.length_set ..)
theorem drops_same : ∀ (gs : List Nat) (x : RelD), (x.drops gs).g = x.g ∧ (x.drops gs).s = x.s ∧ (x.drops gs).base = x.base ∧ (x.drops gs).width = x.width
  | [], x => ⟨rfl, rfl, rfl, rfl⟩
  | gen :: gs, x => drops_same gs (x.put gen [])
theorem RelOk.drops : ∀ (gs : List Nat) (x : RelD), RelOk x → RelOk (x.drops gs)
  | [], x, h => h
  | gen :: gs, x, h => RelOk.drops gs _ (h.put gen [] (Red.nil _ _))
theorem slots_drops {H : Hp} : ∀ (gs : List Nat) (x : RelD) (l : Slots), SlotsOk H x l → SlotsOk H (x.drops gs) (slotsDrop x.width l gs)
  | [], x, l, h => h
  | gen :: gs, x, l, h => slots_drops gs (x.put gen []) (l.set (gen % x.width) none) (slots_put h rfl)
def RelD.moveTo (x : RelD) (nb : Nat) : RelD := if nb ≤ 1099511627776 then { x.drops (winGone x.base x.width nb (winEnd x.base x.width - x.base)) with base := nb } else x
theorem RelOk.moveTo {x : RelD} (h : RelOk x) (nb : Nat) : RelOk (x.moveTo nb) := by
  unfold RelD.moveTo
  split
  · rename_i hn
    have h1 := h.drops (winGone x.base x.width nb (winEnd x.base x.width - x.base))
    exact ⟨h1.g1, h1.g2, h1.s1, h1.s2, h1.w1, h1.w2, hn, h1.red⟩
  · exact h
theorem slotsDrop_succ (width : Nat) (l : Slots) (gs : List Nat) (k : Nat) (h : k < gs.length) : slotsDrop width l (gs.take (k + 1)) = (slotsDrop width l (gs.take k)).set (gs[k] % width) none := by
  unfold slotsDrop
  rw [List.take_succ_eq_append_getElem h, List.foldl_append]
  rfl
theorem wmove2_ok (wb nb : Nat) (x : RelD) (H0 : Hp) (w0 : World) (h0 : Sub H0 w0) (hb : w0.heap[wb]? = some (winObj x.base x.width)) (hn : H0 wb = none) (hok : RelOk x) (hnb : nb < 18446744073709551616) :
    Calls Tryz.prog 78 #[ptr wb, .int .u64 (nb : Int)] w0 (Ret [wb] H0 w0 fun v H' M' => ∃ r gone nb', v = .tuple #[r, .int .i64 (if nb ≤ 1099511627776 then 0 else 1)] ∧ Nums H' r gone ∧ gone.length ≤ 16 ∧ M' = [(wb, winObj nb' x.width, true)] ∧ x.moveTo nb = { x.drops gone with base := nb' }) := by
  refine (wmove_ok wb x.base x.width nb H0 w0 h0 hb hn hok.b hok.w2 hok.w1 hnb).mono ?_
  rintro e w' ⟨v, H', M', h1, h2, h3, h4⟩
  refine ⟨v, H', M', h1, h2, h3, ?_⟩
  replace h4 : if nb ≤ 1099511627776 then ∃ r, v = .tuple #[r, .int .i64 0] ∧ Nums H' r (winGone x.base x.width nb (winEnd x.base x.width - x.base)) ∧ M' = [(wb, winObj nb x.width, true)] else v = .tuple #[.slice none 0 0, .int .i64 1] ∧ M' = [(wb, winObj x.base x.width, true)] := h4
  by_cases hb : nb ≤ 1099511627776
  · rw [if_pos hb] at h4
    obtain ⟨r, rfl, hr, rfl⟩ := h4
    refine ⟨r, _, nb, by rw [if_pos hb], hr, ?_, rfl, by rw [RelD.moveTo, if_pos hb]⟩
    have h5 := winGone_len x.base x.width nb (winEnd x.base x.width - x.base)
    have h6 : winEnd x.base x.width ≤ x.base + x.width := Nat.min_le_left _ _
    have := hok.w2
    omega
  · rw [if_neg hb] at h4
    obtain ⟨rfl, rfl⟩ := h4
    exact ⟨_, [], x.base, by rw [if_neg hb], Sl.nil _ _, by simp, rfl, by rw [RelD.moveTo, if_neg hb]; rfl⟩
set_option maxRecDepth 20000 in
set_option maxHeartbeats 2000000 in
theorem rmove_ok (rb wb nb : Nat) (x : RelD) (l : Slots) (H0 : Hp) (w0 : World) (hs : HS (Mem.keys (relMem true x rb wb l)) H0 w0 H0 (relMem true x rb wb l) w0) (hx : SlotsOk H0 x l) (hok : RelOk x) (hnb : nb < 18446744073709551616) :
    Calls Tryz.prog 21 #[ptr rb, .int .u64 (nb : Int)] w0 (Ret (Mem.keys (relMem true x rb wb l)) H0 w0 fun v H' M' => v = .int .i64 (if nb ≤ 1099511627776 then 0 else 1) ∧ ∃ l', M' = relMem true (x.moveTo nb) rb wb l' ∧ SlotsOk H' (x.moveTo nb) l') := by
  have hle := Hp.le.refl H0
  have h00 := hs.toSub
  have hw16 := hok.w2
  have hw1 := hok.w1
  obtain ⟨xs, hxs⟩ : ∃ xs, xs = Mem.keys (relMem true x rb wb l) := ⟨_, rfl⟩
  rw [← hxs] at hs ⊢
  clear hxs
  refine Calls.enter (args := [ptr rb, .int .u64 (nb : Int)]) Tryz.func21 rfl Tryz.ntmps21 rfl ?_
  refine WC.seq (WC.region (WO.step rfl (OR.assign rfl (WO.done (WX.seq (WC.seq (WC.seq ?_)))))))
  refine WC.region (WO.step rfl (OR.move rfl ?_))
  refine WO.step rfl (OR.call hs body77 rfl rfl (rnone_ok rb x.g x.s wb l _ _ hs.toSub (hs.blk (i := 0) rfl) (hs.nh (i := 0) rfl)) ?_)
  clear hs; rintro _ H w hs hle1 rfl; replace hle := hle.trans hle1; (try replace hlb := hlb.trans hle1)
  refine WO.done (WX.seq ?_)
  refine WC.no rfl rfl ?_
  refine WC.skip (WX.seq (WC.seq (WC.region (WO.step rfl (OR.move rfl (WO.step rfl (OR.nilCheck rfl ?_)))))))
  refine WO.step rfl (OR.fieldAddr FA131_2 rfl (WO.step rfl (OR.load T123 rfl rfl (hs.cellM (i := 0) rfl rfl) (WO.step rfl (OR.move rfl ?_)))))
  replace hs := hs.front (i := 1) rfl
  refine WO.step rfl (OR.callX (Mx := [(wb, _, true)]) hs body78 rfl rfl (wmove2_ok wb nb x _ _ hs.toSub (hs.blk (i := 0) rfl) (hs.nh (i := 0) rfl) hok hnb) rfl rfl ?_)
  clear hs; rintro _ H M' w hs hle1 hnew ⟨r, gone, nb', rfl, hr, hgl, rfl, hmv⟩; replace hle := hle.trans hle1; (try replace hlb := hlb.trans hle1)
  obtain ⟨b1, c1, rfl⟩ := Sl.form hr
  refine WO.step rfl (OR.move rfl (WO.step rfl (OR.extract rfl rfl (WO.step rfl (OR.extract rfl rfl (WO.step rfl (OR.assign rfl ?_)))))))
  refine WO.step rfl (OR.assign rfl (WO.done (WX.seq (WC.seq (WC.seq (WC.region (WO.step rfl ?_)))))))
  refine OR.move rfl (WO.step rfl (OR.lenSlice T152.und rfl (WO.step rfl (OR.move rfl (WO.done (WX.seq (WC.block ?_)))))))
  replace hs := hs.front (i := 1) rfl
  obtain ⟨H9, hH9⟩ : ∃ X, X = H := ⟨_, rfl⟩
  subst hH9
  refine WC.loop (ι := Nat) (fun k => [(0, ptr rb), (6, .int .i64 (if nb ≤ 1099511627776 then 0 else 1)), (20, .slice b1 gone.length c1), (21, .int .i64 (gone.length : Int)), (22, .int .i64 (k : Int))]) (fun k w => (k ≤ gone.length ∧ ∃ H2, Hp.le H0 H2 ∧ Hp.le H9 H2 ∧ HS xs H0 w0 H2 ((rb, relObj x.g x.s wb (slotsDrop x.width l (gone.take k)), true) :: (wb, winObj nb' x.width, true) :: slotMem x.g x.s true l) w)) (fun k => gone.length - k) 0 ⟨rfl, rfl, rfl, rfl, rfl,  trivial⟩ ?_ (fun k w hW => ?_)
  · exact ⟨by omega, H9, hle, Hp.le.refl _, hs⟩
  clear hs hle
  obtain ⟨hk, H, hle, hlb, hs⟩ := hW
  refine WC.seq (WC.region (WO.step rfl (OR.lss rfl rfl (WO.done (WX.seq (WC.seq ?_))))))
  refine WC.condD rfl (fun hlt => ?_) (fun hlt => ?_)
  · have hk' : k < gone.length := by omega
    have hsl := hok.slot gone[k]
    have hdl : (slotsDrop x.width l (gone.take k)).length = 16 := by rw [slotsDrop_len]; exact hx.1
    obtain ⟨yb, yo, rfl, hcy⟩ := Sl.pos hr (by omega)
    have hcy2 := hcy k _ (by rw [List.getElem?_map, List.getElem?_eq_getElem hk']; rfl)
    refine WC.skip (WX.seq (WC.seq (WC.block (WC.seq (WC.region ?_)))))
    refine WO.step rfl (OR.idx k T152.und T22 rfl rfl rfl hk' ?_)
    refine WO.step rfl (OR.load T22 rfl rfl (hs.cell (hcell.mono hlb hcy2)) ?_)
    refine WO.step rfl (OR.assign rfl (WO.done (WX.seq ?_)))
    refine WC.draw 11 mixed hs (by kernel_rfl) ?_
    refine ⟨MF.eq _, by intro Mx H w hle hs; refine forVals_nil (ORg.plain (OR.move rfl ?_)); exact ⟨_, [], Hp.le.refl _, hs, rfl, rfl⟩, ?_⟩
    refine ⟨MF.eq _, by intro Mx H w hle hs; refine forVals_nil (ORg.plain (OR.move rfl ?_)); exact ⟨_, [], Hp.le.refl _, hs, rfl, rfl⟩, ?_⟩
    refine ⟨MF.eq _, by intro Mx H w hle hs; refine forVals_nil (ORg.plain (OR.move rfl ?_)); exact ⟨_, [], Hp.le.refl _, hs, rfl, rfl⟩, ?_⟩
    refine ⟨MF.eq _, by intro Mx H w hle hs; refine forVals_eq rfl rfl rfl ?_; refine forVals_nil (ORg.plain (OR.nilCheck rfl ?_)); exact ⟨_, [], Hp.le.refl _, hs, rfl, rfl⟩, ?_⟩
    refine ⟨MF.eq _, by intro Mx H w hle hs; refine forVals_eq rfl rfl rfl ?_; refine forVals_nil (ORg.plain (OR.fieldAddr FA131_2 rfl ?_)); exact ⟨_, [], Hp.le.refl _, hs, rfl, rfl⟩, ?_⟩
    refine ⟨MF.eq _, by intro Mx H w hle hs; refine forVals_eq rfl rfl rfl ?_; refine forVals_nil (ORg.plain (OR.load T123 rfl rfl (hs.right.cellM (i := 0) rfl rfl) ?_)); exact ⟨_, [], Hp.le.refl _, hs, rfl, rfl⟩, ?_⟩
    refine ⟨MF.eq (.int .i64 (x.width : Int)), ?_, ?_⟩
    · intro Mx H w hle2 hs; (try replace hle := hle.trans hle2); (try replace hlb := hlb.trans hle2); refine forVals_eq rfl rfl rfl ?_
      refine forVals_nil (ORg.plain (OR.call hs body79 rfl rfl (wwidth_ok wb nb' x.width _ _ hs.toSub (hs.right.blk (i := 1) rfl) (hs.right.nh (i := 1) rfl)) ?_))
      clear hs; rintro _ H w hs hle1 rfl
      exact ⟨_, [], hle1, hs, rfl, rfl⟩
    refine ⟨MF.eq (.int .u64 (x.width : Int)), ?_, ?_⟩
    · intro Mx H w hle2 hs; (try replace hle := hle.trans hle2); (try replace hlb := hlb.trans hle2); refine forVals_eq rfl rfl rfl ?_
      refine forVals_nil (ORg.plain (OR.convI T3.und T22.und rfl ?_))
      exact ⟨_, [], Hp.le.refl _, hs, (by rw [u64_wrap _ (by omega)]), rfl⟩
    refine ⟨MF.eq (.int .u64 ((gone[k] % x.width : Nat) : Int)), ?_, ?_⟩
    · intro Mx H w hle2 hs; (try replace hle := hle.trans hle2); (try replace hlb := hlb.trans hle2); refine forVals_eq rfl rfl rfl ?_; refine forVals_eq rfl rfl rfl ?_
      refine forVals_nil (ORg.plain (OR.rem rfl rfl (by omega) ?_))
      exact ⟨_, [], Hp.le.refl _, hs, (by rw [← Int.ofNat_tmod]), rfl⟩
    refine ⟨MF.eq _, by intro Mx H w hle hs; refine forVals_eq rfl rfl rfl ?_; refine forVals_nil (ORg.plain (OR.nilCheck rfl ?_)); exact ⟨_, [], Hp.le.refl _, hs, rfl, rfl⟩, ?_⟩
    refine ⟨MF.eq _, by intro Mx H w hle hs; refine forVals_eq rfl rfl rfl ?_; refine forVals_nil (ORg.plain (OR.fieldAddr FA131_3 rfl ?_)); exact ⟨_, [], Hp.le.refl _, hs, rfl, rfl⟩, ?_⟩
    intro H w hle2; (try replace hle := hle.trans hle2); (try replace hlb := hlb.trans hle2)
    refine forAllVals_eq rfl ?_
    refine forAllVals_eq rfl ?_
    refine forAllVals_eq rfl ?_
    refine forAllVals_eq rfl ?_
    refine forAllVals_eq rfl ?_
    refine forAllVals_eq rfl ?_
    refine forAllVals_eq rfl ?_
    refine forAllVals_eq rfl ?_
    refine forAllVals_eq rfl ?_
    refine forAllVals_eq rfl ?_
    refine forAllVals_eq rfl ?_
    refine forAllVals_nil ?_; (try clear hs); intro hs
    refine WO.step rfl (OR.idxArr (gone[k] % x.width) T129.und T126 rfl rfl rfl (by omega) ?_)
    refine WO.stepN (OR.store hs T126 rfl rfl rfl (by simp; omega) rfl ?_)
    clear hs; intro w hs
    have hset := setL_slots (.int .i64 (x.g : Int)) (.int .i64 (x.s : Int)) (ptr wb) (slotsDrop x.width l (gone.take k)) (gone[k] % x.width) none (by omega)
    have hobj : Obj.cells (setL (Value.int .i64 (x.g : Int) :: .int .i64 (x.s : Int) :: ptr wb :: (slotsDrop x.width l (gone.take k)).map slotV).toArray.toList (0 + 3 + gone[k] % x.width) (Value.pointer none).cells.toList).toArray 131 = relObj x.g x.s wb (slotsDrop x.width l (gone.take (k + 1))) := by
      rw [slotsDrop_succ _ _ _ _ hk', relObj, ← hset, Nat.zero_add]
      rfl
    rw [hobj] at hs
    refine WO.done (WX.block (WX.seq (WC.region (WO.step rfl (OR.addI rfl rfl (by omega) (by omega) (WO.step rfl (OR.move rfl ?_)))))))
    refine WO.done ?_
    refine WX.again (k + 1) ⟨rfl, rfl, rfl, rfl, rfl,  trivial⟩ ?_ ?_
    · exact ⟨hk', H, hle, hlb, hs⟩
    · omega
  · have e : k = gone.length := by omega
    subst e
    refine WC.exit (WX.seq_exit (WX.loop_exit (WX.block_hit (WX.seq (WC.seq (WC.region (WO.step rfl ?_)))))))
    refine OR.move rfl (WO.step rfl (OR.assign rfl (WO.done (WX.seq (WC.ret ?_)))))
    refine WX.ret1 rfl rfl ?_
    rw [List.take_length] at hs
    obtain ⟨d1, d2, d3, d4⟩ := drops_same gone x
    refine ⟨_, H, relMem true (x.moveTo nb) rb wb (slotsDrop x.width l gone), rfl, ?_, List.all_eq_true.1 (relMem_flags _ _ _ _), rfl, _, rfl, ?_⟩
    · rw [hmv]
      unfold relMem
      simp only [d1, d2, d4]
      exact hs.sublist (((slotsDrop_sub x.g x.s true x.width gone l).cons_cons _).cons_cons _)
    · rw [hmv]
      have h9 := (slots_drops gone x l hx).mono hle
      exact ⟨h9.1, h9.2⟩
end Go.Bw
namespace Go.Bw
set_option linter.unusedVariables false
set_option linter.unusedSimpArgs false
open Go.Proofs
def rkC (l : List (Nat × Nat)) : List (Value × Value) := l.map fun p => (.int .u64 (p.1 : Int), .int .i64 (p.2 : Int))
/-- Generations and ranks in a slice. -/
def RkL (H : Hp) (v : Value) (l : List (Nat × Nat)) : Prop := Sl H 2 v l.length (rowCells (rkC l))
theorem RkL.mono {H H' : Hp} {v : Value} {l : List (Nat × Nat)} (h : RkL H v l) (hle : Hp.le H H') : RkL H' v l := Sl.mono h hle
theorem RkL.pos {H : Hp} {l : List (Nat × Nat)} {base : Option Addr} {cap : Nat} (h : RkL H (.slice base l.length cap) l) (hn : 0 < l.length) :
    ∃ b o, base = some ⟨b, o, none⟩ ∧ ∀ i (hi : i < l.length), ∀ j u, [Value.int .u64 (l[i].1 : Int), Value.int .i64 (l[i].2 : Int)][j]? = some u → hcell H ((⟨b, o + i * 2, none⟩ : Addr).add j) = some u := by
  obtain ⟨b, o, h4, h5⟩ := Sl.pos h hn
  refine ⟨b, o, h4, fun i hi j u hj => ?_⟩
  have hlen : i < (rkC l).length := by simpa [rkC] using hi
  have hg := rowCells_get (rkC l) i hlen
  have he : (rkC l)[i] = (.int .u64 (l[i].1 : Int), .int .i64 (l[i].2 : Int)) := by simp [rkC]
  rw [he] at hg
  rw [add_off]
  match j, hj with
  | 0, hj => cases hj; exact h5 _ _ hg.1
  | 1, hj =>
    cases hj
    have := h5 _ _ hg.2
    rw [← Nat.add_assoc] at this
    exact this
theorem rank_eq (a b : Int) (w : World) : (Op.equalIn 10000 174 (.agg #[.int .u64 a, .int .i64 b]) (.agg #[.int .u64 a, .int .i64 b])).run Tryz.prog w = .ok true w := by
  have hu := T174.und
  rw [run_equalIn_agg w 9999 174 _ _ (by rw [Program.fieldsOf, hu]) Tryz.stoodInHeld174]
  have hi1 := T22.und
  have hi2 := T3.und
  have e1 : ∀ a b : Int, (part 22 #[Value.int .u64 a, Value.int .i64 b] 0).run Tryz.prog w = .ok (.int .u64 a) w := fun a b => by simp [part, T22.run_agg, T22.run_size, isAggD]
  have e2 : ∀ a b : Int, (part 3 #[Value.int .u64 a, Value.int .i64 b] 1).run Tryz.prog w = .ok (.int .i64 b) w := fun a b => by simp [part, T3.run_agg, T3.run_size, isAggD]
  rw [Program.fieldsOf, hu]
  simp [Op.eqFields, e1, e2, run_equalIn_int w _ _ _ _ _ _ hi1, run_equalIn_int w _ _ _ _ _ _ hi2]
-- left out, for this seat has no braidwork/braidworkref14.SameRanks: theorem sameRanks_ok (va vb
end Go.Bw
namespace Go.Bw
set_option linter.unusedVariables false
set_option linter.unusedSimpArgs false
open Go.Proofs
def be8 (v : Nat) : List UInt8 := (List.range 8).map fun j => UInt8.ofNat (v / 256 ^ (7 - j))
def beN (size v : Nat) : List UInt8 := (be8 v).drop (8 - size)
theorem beN_len (size v : Nat) (h : size ≤ 8) : (beN size v).length = size := by simp [beN, be8]; omega
theorem toB (n : Nat) : Value.int .u8 (IntKind.u8.wrap (n : Int)) = B (UInt8.ofNat n) := by
  rw [u8_wrap]
  show Value.int .u8 _ = Value.int .u8 ((UInt8.ofNat n).toNat : Int)
  rw [UInt8.toNat_ofNat']

set_option maxRecDepth 20000 in
set_option maxHeartbeats 2000000 in
theorem sclone_ok (v : Value) (l : List UInt8) (H0 : Hp) (w0 : World) (h0 : Sub H0 w0) (hv : Bytes H0 v l) (hl : l.length ≤ 140737488355328) :
    Calls Tryz.prog 175 #[v] w0 (Ret [] H0 w0 fun v H' M' => H' = H0 ∧ Own w0.heap.size 5 1 v l.length (l.map B) M') := by
  have hs := HS.init h0
  obtain ⟨base, cp, rfl⟩ := hv.form
  refine Calls.enter (args := [.slice base l.length cp]) Tryz.func175 rfl Tryz.ntmps175 rfl ?_
  refine WC.seq (WC.region (WO.step rfl (OR.assign rfl (WO.done (WX.seq (WC.seq (WC.seq ?_)))))))
  refine WC.region (WO.step rfl (OR.move rfl (WO.step rfl (OR.eqlNil T43.und rfl rfl (WO.done (WX.seq ?_))))))
  refine WC.cond rfl (fun hb => ?_) (fun hb => ?_)
  · refine WC.seq (WC.region (WO.step rfl (OR.assign rfl (WO.done (WX.seq (WC.ret (WX.seq_ret ?_)))))))
    refine WX.ret1 rfl rfl ?_
    have hb' : base = none := by cases base with | none => rfl | some a => cases hb
    subst hb'
    have h2 := Sl.src0 hv rfl
    refine ⟨_, H0, [], rfl, hs, by simp, rfl, ?_⟩
    have : l = [] := List.eq_nil_of_length_eq_zero h2
    subst this
    exact Own.nil _ _ _
  · refine WC.skip (WX.seq (WC.seq (WC.region ?_)))
    refine WO.step rfl (OR.buildSlice (vs := []) hs T43.und T5 rfl rfl rfl rfl (by simp) ?_)
    clear hs; intro g1 w hg1 hs
    refine WO.step rfl (OR.move rfl ?_)
    refine WO.step rfl (OR.append (n := 0) (cs := []) (news := l.map B) (Mo := [_]) (M := []) hs (Own.block (cap := 0) (by omega) rfl rfl hg1) T43.und T5 rfl (by omega) rfl rfl (by simp) (Sl.src hv hs) (Sl.src0 hv) (bytes_one l) (by omega) (by omega) ?_)
    clear hs; intro v' w Mo hs ho hge
    refine WO.step rfl (OR.assign rfl (WO.done (WX.seq (WC.ret ?_))))
    refine WX.ret1 rfl rfl ?_
    rw [Nat.zero_add, List.nil_append] at ho
    exact ⟨_, H0, Mo, rfl, by simpa using hs, ho.tt, rfl, ho⟩

set_option maxRecDepth 20000 in
set_option maxHeartbeats 2000000 in
theorem num_ok (vd : Value) (l : List UInt8) (v size : Nat) (H0 : Hp) (w0 : World) (h0 : Sub H0 w0) (hl : Bytes H0 vd l) (hll : l.length ≤ 100000000000000) (hv : v < 256 ^ size) (hv64 : v < 18446744073709551616) (hsz : 1 ≤ size ∧ size ≤ 8) :
    Calls Tryz.prog 146 #[vd, .int .u64 (v : Int), .int .i64 (size : Int)] w0 (Ret [] H0 w0 fun r H' M' => ∃ v1, r = .tuple #[v1, .int .i64 0] ∧ Own w0.heap.size 5 1 v1 (l.length + size) ((l ++ beN size v).map B) M') := by
  have hs := HS.init h0
  have hle := Hp.le.refl H0
  obtain ⟨b1, c1, rfl⟩ := hl.form
  refine Calls.enter (args := [.slice b1 l.length c1, .int .u64 (v : Int), .int .i64 (size : Int)]) Tryz.func146 rfl Tryz.ntmps146 rfl ?_
  refine WC.seq (WC.region (WO.step rfl (OR.assign rfl (WO.step rfl (OR.assign rfl (WO.done (WX.seq ?_)))))))
  refine WC.seq (WC.seq (WC.region (WO.step rfl (OR.move rfl (WO.step rfl (OR.lss rfl rfl (WO.step rfl ?_)))))))
  refine OR.move rfl ?_
  refine WO.guardYes rfl (decide_eq_false (by omega : ¬ (size : Int) < 1)) rfl rfl (OR.move rfl (WO.guardYes rfl (decide_eq_false (by omega : ¬ (size : Int) < 1)) rfl rfl (OR.gtr rfl rfl (WO.step rfl (OR.pickF rfl (decide_eq_false (by omega : ¬ (size : Int) < 1)) rfl (WO.done (WX.seq ?_)))))))
  refine WC.no rfl (decide_eq_false (by omega)) ?_
  refine WC.skip (WX.seq (WC.seq (WC.region (WO.step rfl (OR.alloc hs T242 ?_)))))
  clear hs; intro g1 w hg1 hs
  refine WO.done (WX.seq (WC.seq (WC.seq (WC.region (WO.step rfl (OR.move rfl (WO.done ?_)))))))
  refine WX.seq (WC.block ?_)
  refine WC.loop (ι := Nat × Nat) (fun ix => [(0, .slice b1 l.length c1), (1, .int .u64 (ix.2 : Int)), (2, .int .i64 (size : Int)), (8, ptr g1), (18, .int .i64 (ix.1 : Int))]) (fun ix w => (ix.1 ≤ 8 ∧ ix.2 = v / 256 ^ ix.1 ∧ ∃ c : List Value, c.length = 8 ∧ (∀ j, 8 - ix.1 ≤ j → j < 8 → c[j]? = some (B (UInt8.ofNat (v / 256 ^ (7 - j))))) ∧ ∃ H, Hp.le H0 H ∧ HS [] H0 w0 H [(g1, .cells c.toArray 242, true)] w)) (fun ix => 8 - ix.1) (0, v) ⟨rfl, rfl, rfl, rfl, rfl,  trivial⟩ ?_ (fun ix w hW => ?_)
  · refine ⟨by omega, by simp, List.replicate 8 (.int .u8 0), by simp, fun j h1 h2 => by omega, H0, hle, hs⟩
  clear hs hle
  obtain ⟨i, cur⟩ := ix
  obtain ⟨hi, hcur, c, hcl, hc, H, hle, hs⟩ := hW
  simp only at hi hcur hc
  subst hcur
  refine WC.seq (WC.region (WO.step rfl (OR.lss rfl rfl (WO.done (WX.seq (WC.seq ?_))))))
  refine WC.condD rfl (fun hlt => ?_) (fun hlt => ?_)
  · have hi' : i < 8 := by omega
    refine WC.skip (WX.seq (WC.seq (WC.block (WC.seq (WC.region (WO.step rfl (OR.move rfl ?_)))))))
    refine WO.step rfl (OR.assign rfl (WO.done (WX.seq (WC.seq (WC.region (WO.step rfl (OR.move rfl ?_)))))))
    refine WO.step rfl (OR.subI rfl rfl (by omega) (by omega) (WO.step rfl (OR.move rfl ?_)))
    refine WO.step rfl (OR.convI T22.und T5.und rfl ?_)
    rw [toB]
    refine WO.step rfl (OR.idxArr (7 - i) T242.und T5 rfl rfl (by omega) (by omega) ?_)
    refine WO.stepN (OR.store hs T5 rfl rfl rfl (by simp [hcl]) rfl ?_)
    clear hs; intro w hs
    refine WO.done (WX.seq (WC.region (WO.step rfl (OR.move rfl ?_))))
    refine WO.step rfl (OR.shr rfl rfl (by omega) ?_)
    have hsh : ((v / 256 ^ i : Nat) : Int).fdiv (2 ^ (min (8 : Int).toNat IntKind.u64.bits)) = ((v / 256 ^ (i + 1) : Nat) : Int) := by
      have e1 : (2 ^ (min (8 : Int).toNat IntKind.u64.bits) : Int) = ((256 : Nat) : Int) := rfl
      rw [e1, Int.fdiv_eq_ediv_of_nonneg _ (by omega), Nat.pow_succ, ← Nat.div_div_eq_div_mul]
      rfl
    rw [hsh]
    refine WO.step rfl (OR.assign rfl (WO.done (WX.block (WX.seq (WC.region (WO.step rfl (OR.addI rfl rfl (by omega) (by omega) ?_)))))))
    refine WO.step rfl (OR.move rfl (WO.done ?_))
    refine WX.again ((i + 1, v / 256 ^ (i + 1))) ⟨rfl, rfl, rfl, rfl, rfl,  trivial⟩ ?_ ?_
    · refine ⟨hi', rfl, _, by rw [setL_length]; exact hcl, fun j h1 h2 => ?_, H, hle, hs⟩
      rw [Nat.zero_add]
      show (setL c (7 - i) [B _])[j]? = _
      rw [setL_step, setL_nil]
      by_cases e : j = 7 - i
      · subst e
        rw [List.getElem?_set_self (by omega)]
        have : 7 - (7 - i) = i := by omega
        rw [this]
      · rw [List.getElem?_set_ne (Ne.symm e)]
        exact hc j (by simp only at h1; omega) h2
    · simp only; omega
  · have e : i = 8 := by omega
    subst e
    have hcb : c = (be8 v).map B := by
      apply List.ext_getElem?
      intro j
      by_cases hj : j < 8
      · rw [hc j (by omega) hj]
        simp [be8, hj]
      · rw [List.getElem?_eq_none (by omega), List.getElem?_eq_none (by simp [be8]; omega)]
    subst hcb
    refine WC.exit (WX.seq_exit (WX.loop_exit (WX.block_hit (WX.seq (WC.seq (WC.seq (WC.region ?_)))))))
    refine WO.step rfl (OR.move rfl (WO.step rfl (OR.subI rfl rfl (by omega) (by omega) ?_)))
    refine WO.step rfl (OR.sliceArrHi (8 - size) T242.und T5 rfl rfl (by omega) (by omega) ?_)
    refine WO.step rfl (OR.lenSlice T43.und rfl (WO.step rfl (OR.move rfl (WO.done (WX.seq (WC.block ?_))))))
    refine WC.loop (ι := Nat) (fun j => [(0, .slice b1 l.length c1), (2, .int .i64 (size : Int)), (8, ptr g1), (31, .slice (some ⟨g1, 0, none⟩) (8 - size) 8), (32, .int .i64 ((8 - size : Nat) : Int)), (33, .int .i64 (j : Int))]) (fun j w => (j ≤ 8 - size ∧ ∃ H, Hp.le H0 H ∧ HS [] H0 w0 H [(g1, .cells ((be8 v).map B).toArray 242, true)] w)) (fun j => 8 - size - j) 0 ⟨rfl, rfl, rfl, rfl, rfl, rfl,  trivial⟩ ?_ (fun j w hW => ?_)
    · exact ⟨by omega, H, hle, hs⟩
    clear hs hle
    obtain ⟨hj, H, hle, hs⟩ := hW
    refine WC.seq (WC.region (WO.step rfl (OR.lss rfl rfl (WO.done (WX.seq (WC.seq ?_))))))
    refine WC.condD rfl (fun hlt2 => ?_) (fun hlt2 => ?_)
    · have hj' : j < 8 - size := by omega
      have hz : (be8 v)[j]? = some 0 := by
        have h1 : v / 256 ^ (7 - j) = 0 := Nat.div_eq_of_lt (Nat.lt_of_lt_of_le hv (Nat.pow_le_pow_right (by omega) (by omega)))
        simp [be8, show j < 8 by omega, h1]
      refine WC.skip (WX.seq (WC.seq (WC.block (WC.seq (WC.region ?_)))))
      refine WO.step rfl (OR.idx j T43.und T5 rfl rfl rfl hj' ?_)
      refine WO.step rfl (OR.load T5 rfl rfl (hs.cellM (i := 0) (v := B 0) rfl (by rw [nth_eq, Nat.zero_add]; simp [hz])) ?_)
      refine WO.step rfl (OR.assign rfl (WO.done (WX.seq (WC.seq (WC.region (WO.step rfl (OR.move rfl ?_)))))))
      refine WO.step rfl (OR.neq rfl rfl (WO.done (WX.seq ?_)))
      refine WC.no rfl (decide_eq_false (by decide)) ?_
      refine WC.skip (WX.block (WX.seq (WC.region (WO.step rfl (OR.addI rfl rfl (by omega) (by omega) (WO.step rfl (OR.move rfl ?_)))))))
      refine WO.done ?_
      refine WX.again (j + 1) ⟨rfl, rfl, rfl, rfl, rfl, rfl,  trivial⟩ ?_ ?_
      · exact ⟨hj', H, hle, hs⟩
      · omega
    · refine WC.exit (WX.seq_exit (WX.loop_exit (WX.block_hit (WX.seq (WC.seq ?_)))))
      refine WC.draw 5 mixed hs (by kernel_rfl) ?_
      refine ⟨MF.eq _, by intro Mx H w hle hs; refine forVals_nil (ORg.plain (OR.move rfl ?_)); exact ⟨_, [], Hp.le.refl _, hs, rfl, rfl⟩, ?_⟩
      refine ⟨MF.own w0.heap.size 5 1 l.length (l.map B), ?_, ?_⟩
      · intro Mx H w hle2 hs; (try replace hle := hle.trans hle2); (try replace hlb := hlb.trans hle2); refine forVals_eq rfl rfl rfl ?_
        refine forVals_nil (ORg.plain (OR.callX (Mx := []) hs body175 rfl rfl (sclone_ok _ l _ _ hs.toSub (hl.mono hle) (by omega)) rfl rfl ?_))
        have hsz2 := hs.size
        clear hs; rintro v H1 M1 w hs hle1 hnew ⟨rfl, ho⟩
        exact ⟨_, M1, hle1, hs, ho.mono hsz2⟩
      refine ⟨MF.eq _, by intro Mx H w hle hs; refine forVals_nil (ORg.plain (OR.move rfl ?_)); exact ⟨_, [], Hp.le.refl _, hs, rfl, rfl⟩, ?_⟩
      refine ⟨MF.eq _, by intro Mx H w hle hs; refine forVals_eq rfl rfl rfl ?_; refine forVals_nil (ORg.plain (OR.subI rfl rfl (by omega) (by omega) ?_)); exact ⟨_, [], Hp.le.refl _, hs, rfl, rfl⟩, ?_⟩
      refine ⟨MF.eq (.slice (some ⟨g1, (8 - size) * 1, none⟩) (8 - (8 - size)) (8 - (8 - size))), ?_, ?_⟩
      · intro Mx H w hle2 hs; (try replace hle := hle.trans hle2); (try replace hlb := hlb.trans hle2); refine forVals_eq rfl rfl rfl ?_
        refine forVals_nil (ORg.plain (OR.sliceArrLo (8 - size) T242.und T5 rfl rfl (by omega) (by omega) ?_))
        exact ⟨_, [], Hp.le.refl _, hs, rfl, rfl⟩
      intro H w hle2; (try replace hle := hle.trans hle2); (try replace hlb := hlb.trans hle2)
      refine forAllVals_eq rfl ?_
      refine forAllVals_cons rfl ?_; intro v1 M1 h1
      refine forAllVals_eq rfl ?_
      refine forAllVals_eq rfl ?_
      refine forAllVals_eq rfl ?_
      refine forAllVals_nil ?_; (try clear hs); intro hs
      have hgb := (hs.mem g1 _ true (List.mem_append_right _ (List.mem_cons_self ..))).1
      have hbl := beN_len size v hsz.2
      refine WO.step rfl (OR.append (m := 8 - (8 - size)) (news := (beN size v).map B) hs h1 T43.und T5 rfl (by omega) rfl rfl (by rw [List.length_map, hbl]; omega) (fun a ha j u hj => by cases ha; exact cells_at hgb (by rw [beN, List.map_drop] at hj; have := get_drop hj; simpa using this)) (fun h => by cases h) (bytes_one _) (by omega) (by omega) ?_)
      clear hs; intro v' w Mo hs ho hge
      refine WO.step rfl (OR.assign rfl (WO.step rfl (OR.assign rfl (WO.done (WX.seq (WC.ret ?_))))))
      refine WX.ret2 rfl rfl rfl ?_
      have e9 : l.length + (8 - (8 - size)) = l.length + size := by omega
      rw [e9, ← List.map_append] at ho
      have hs2 : HS [] H0 w0 H (Mo ++ []) w := hs.dropMid
      rw [List.append_nil] at hs2
      exact ⟨_, H, Mo, rfl, hs2, ho.tt, _, rfl, ho⟩


def layAll (g s : Nat) (chunk : List UInt8) : List UInt8 := beN 4 chunk.length ++ chunk ++ List.replicate (g * s - 4 - chunk.length) 0
def layF (g s : Nat) (chunk : List UInt8) : List (List UInt8) := (List.range g).map fun i => ((layAll g s chunk).drop (s * i)).take s
theorem layAll_len {g s : Nat} {chunk : List UInt8} (h1 : 4 < g * s) (h : chunk.length ≤ g * s - 4) : (layAll g s chunk).length = g * s := by
  simp [layAll, beN_len 4 _ (by omega)]; omega
theorem Bytes.part3 {H : Hp} {c : Nat} {b : Option Addr} {l : List UInt8} (h : Bytes H (.slice b l.length c) l) (m k : Nat) (h1 : m < k) (h2 : k ≤ l.length) :
    Bytes H (.slice (if k = m then b else b.map (·.add (m * 1))) (k - m) (k - m)) ((l.drop m).take (k - m)) := by
  have h3 := h.part m k (by omega) h2
  have h4 := h.cap_le
  rw [if_neg (by omega)] at h3 ⊢
  have e : ((l.drop m).take (k - m)).length = k - m := by simp; omega
  unfold Bytes at h3 ⊢
  rw [e] at h3 ⊢
  exact Sl.cap h3 (k - m) (Nat.le_refl _) (by omega)

set_option maxRecDepth 20000 in
set_option maxHeartbeats 2000000 in
theorem lay_ok (g s : Nat) (vc : Value) (chunk : List UInt8) (H0 : Hp) (w0 : World) (h0 : Sub H0 w0) (hgs : 1 ≤ g ∧ g ≤ 255 ∧ 1 ≤ s ∧ s ≤ 65535 ∧ 4 < g * s) (hc : Bytes H0 vc chunk) (hl1 : 1 ≤ chunk.length) (hl2 : chunk.length ≤ g * s - 4) :
    Calls Tryz.prog 109 #[vc, .int .i64 (g : Int), .int .i64 (s : Int)] w0 (Pure H0 w0 fun v H' => ∃ r, v = .tuple #[r, .int .i64 0] ∧ BytesL H' r (layF g s chunk)) := by
  have hs := HS.init h0
  have hle := Hp.le.refl H0
  obtain ⟨hg1, hg2, hs1, hs2, hgs4⟩ := hgs
  have hmul : g * s ≤ 255 * 65535 := Nat.mul_le_mul hg2 hs2
  obtain ⟨bc, cc, rfl⟩ := hc.form
  have hal := layAll_len hgs4 hl2
  have hmc : (g : Int) * (s : Int) = ((g * s : Nat) : Int) := by rw [Int.natCast_mul]
  have hb1 : (0 : Int) ≤ (g : Int) * (s : Int) := by rw [hmc]; omega
  have hb2 : (g : Int) * (s : Int) ≤ 16711425 := by rw [hmc]; omega
  refine Calls.enter (args := [.slice bc chunk.length cc, .int .i64 (g : Int), .int .i64 (s : Int)]) Tryz.func109 rfl Tryz.ntmps109 rfl ?_
  refine WC.seq (WC.region (WO.step rfl (OR.assign rfl (WO.step rfl (OR.assign rfl (WO.done (WX.seq ?_)))))))
  refine WC.seq (WC.region (WO.step rfl (OR.move rfl (WO.step rfl (OR.move rfl ?_)))))
  refine WO.step rfl (OR.call hs body62 rfl rfl (room_ok (g : Int) (s : Int) _ _ hs.toSub) ?_)
  clear hs; rintro _ H w hs hle1 rfl; replace hle := hle.trans hle1; (try replace hlb := hlb.trans hle1)
  have hrc : (g : Int) * (s : Int) - 4 = ((g * s - 4 : Nat) : Int) := by rw [hmc]; omega
  rw [if_pos (show 1 ≤ (g : Int) ∧ (g : Int) ≤ 255 ∧ 1 ≤ (s : Int) ∧ (s : Int) ≤ 65535 ∧ 4 < (g : Int) * (s : Int) from ⟨by omega, by omega, by omega, by omega, by rw [hmc]; omega⟩), hrc]
  refine WO.step rfl (OR.move rfl (WO.step rfl (OR.extract rfl rfl (WO.step rfl (OR.extract rfl rfl (WO.step rfl (OR.assign rfl ?_)))))))
  refine WO.step rfl (OR.assign rfl (WO.done (WX.seq (WC.seq (WC.block (WC.seq (WC.region ?_)))))))
  refine WO.step rfl (OR.move rfl (WO.step rfl (OR.neq rfl rfl (WO.step rfl (OR.assign rfl (WO.done (WX.seq ?_)))))))
  refine WC.no rfl (decide_eq_false (by omega)) ?_
  refine WC.seq (WC.region (WO.step rfl (OR.move rfl (WO.step rfl (OR.lenSlice T43.und rfl (WO.step rfl (OR.eql rfl rfl ?_)))))))
  refine WO.step rfl (OR.assign rfl (WO.done (WX.seq ?_)))
  refine WC.no rfl (decide_eq_false (by omega)) ?_
  refine WC.seq (WC.region (WO.step rfl (OR.move rfl (WO.step rfl (OR.lenSlice T43.und rfl (WO.step rfl (OR.move rfl ?_)))))))
  refine WO.step rfl (OR.gtr rfl rfl (WO.step rfl (OR.assign rfl (WO.done (WX.seq ?_)))))
  refine WC.no rfl (decide_eq_false (by omega)) ?_
  refine WC.skip (WX.block (WX.seq (WC.seq (WC.region (WO.step rfl (OR.move rfl (WO.step rfl ?_)))))))
  refine OR.lenSlice T43.und rfl ?_
  refine WO.step rfl (OR.convI T3.und T22.und rfl ?_)
  rw [IntWalk.u64_in (chunk.length : Int) (by omega)]
  have h256 : chunk.length < 256 ^ 4 := Nat.lt_of_le_of_lt (by omega : chunk.length ≤ 16711425) (by decide)
  have hszc := hs.size
  refine WO.step rfl (OR.callX (Mx := []) hs body146 rfl rfl (num_ok (.slice none 0 0) [] chunk.length 4 _ _ hs.toSub (Bytes.nil _) (by simp) h256 (by omega) (by omega)) rfl rfl ?_)
  clear hs; rintro _ H Mo w hs hle1 hnew ⟨v1, rfl, ho⟩; replace hle := hle.trans hle1; (try replace hlb := hlb.trans hle1)
  rw [List.nil_append] at ho
  replace ho := ho.mono hszc
  refine WO.step rfl (OR.move rfl (WO.step rfl (OR.extract rfl rfl (WO.step rfl (OR.extract rfl rfl (WO.step rfl (OR.assign rfl ?_)))))))
  refine WO.step rfl (OR.assign rfl (WO.done (WX.seq (WC.seq (WC.region (WO.step rfl (OR.move rfl ?_)))))))
  refine WO.step rfl (OR.move rfl ?_)
  refine WO.step rfl (OR.append (m := chunk.length) (news := chunk.map B) hs ho T43.und T5 rfl (by omega) rfl rfl (by simp) (Sl.src (hc.mono hle) hs) (Sl.src0 hc) (bytes_one _) (by simp; omega) (by simp; omega) ?_)
  clear hs ho; intro v2 w Mo2 hs ho hge
  refine WO.step rfl (OR.move rfl (WO.step rfl (OR.move rfl (WO.step rfl (OR.lenSlice T43.und rfl (WO.step rfl (OR.subI rfl rfl (by omega) (by omega) ?_)))))))
  have hsubI : ((g * s - 4 : Nat) : Int) - (chunk.length : Int) = ((g * s - 4 - chunk.length : Nat) : Int) := by omega
  rw [hsubI]
  refine WO.step rfl (OR.appendZ (m := g * s - 4 - chunk.length) (Nat.le_refl _) hs ho T43.und T5 rfl T3.und rfl rfl rfl (by simp; omega) (by simp; omega) ?_)
  clear hs ho; intro v3 w Mo3 hs ho
  obtain ⟨H3, hle3, hs, hsl3, _⟩ := HS.pub hs ho
  replace hle := hle.trans hle3
  have hall : Bytes H3 v3 (layAll g s chunk) := by
    unfold Bytes
    rw [hal]
    have e1 : ([] : List UInt8).length + 4 + chunk.length + (g * s - 4 - chunk.length) = g * s := by simp; omega
    have e2 : (layAll g s chunk).map B = (beN 4 chunk.length).map B ++ chunk.map B ++ List.replicate (g * s - 4 - chunk.length) (B 0) := by simp [layAll]
    rw [e1] at hsl3
    rw [e2]
    exact hsl3
  obtain ⟨HB, hHB⟩ : ∃ X, X = H3 := ⟨_, rfl⟩
  subst hHB
  generalize hAL : layAll g s chunk = AL at hall hal
  obtain ⟨b3, c3, rfl⟩ := hall.form
  refine WO.step rfl (OR.assign rfl (WO.done (WX.seq (WC.seq (WC.region (WO.step rfl (OR.assign rfl ?_)))))))
  refine WO.done (WX.seq (WC.seq (WC.seq (WC.region (WO.step rfl (OR.assign rfl (WO.done ?_)))))))
  refine WX.seq (WC.block ?_)
  refine WC.loop (ι := Nat × Value) (fun ix => [(1, .int .i64 (g : Int)), (2, .int .i64 (s : Int)), (10, .slice b3 AL.length c3), (12, ix.2), (13, .int .i64 ((s * ix.1 : Nat) : Int))]) (fun ix w => (ix.1 ≤ g ∧ ∃ H cl Mo, Hp.le H0 H ∧ Hp.le HB H ∧ BLOk H cl ((List.range ix.1).map fun i => (AL.drop (s * i)).take s) ∧ Own w0.heap.size 43 1 ix.2 ix.1 cl Mo ∧ HS [] H0 w0 H (Mo ++ []) w)) (fun ix => g - ix.1) (0, .slice none 0 0) ⟨rfl, rfl, rfl, rfl, rfl,  trivial⟩ ?_ (fun ix w hW => ?_)
  · exact ⟨by omega, HB, [], [], hle, Hp.le.refl _, BLOk.nil _, Own.nil _ _ _, hs⟩
  clear hs hle ho hsl3
  obtain ⟨k, vo⟩ := ix
  obtain ⟨hk, H, cl, Mo, hle, hlb, hok, ho, hs⟩ := hW
  simp only at hk hok ho
  have hskg : s * k ≤ g * s := by rw [Nat.mul_comm g s]; exact Nat.mul_le_mul_left s hk
  refine WC.seq (WC.seq (WC.region (WO.step rfl (OR.move rfl (WO.step rfl (OR.move rfl (WO.step rfl ?_)))))))
  refine OR.move rfl (WO.step rfl (OR.mulI rfl rfl (by omega) (by omega) (WO.step rfl (OR.lss rfl rfl (WO.done (WX.seq ?_))))))
  refine WC.condD rfl (fun hlt => ?_) (fun hlt => ?_)
  · have hlt2 : s * k < s * g := by rw [Nat.mul_comm s g]; rw [hmc] at hlt; exact Int.ofNat_lt.1 hlt
    have hk' : k < g := Nat.lt_of_mul_lt_mul_left hlt2
    have hks : s * k + s ≤ g * s := by
      have := Nat.mul_le_mul_left s (show k + 1 ≤ g from hk')
      rw [Nat.mul_succ] at this
      rw [Nat.mul_comm g s]; exact this
    have hpc := hall.part3 (s * k) (s * k + s) (by omega) (by rw [hal]; exact hks)
    have hksI : ((s * k : Nat) : Int) + (s : Int) = ((s * k + s : Nat) : Int) := rfl
    have hksJ : ((s * k + s : Nat) : Int) ≤ 16711425 := Int.ofNat_le.2 (Nat.le_trans hks hmul)
    have hcap3 : s * k + s ≤ c3 := Nat.le_trans hks (by rw [← hal]; exact hall.cap_le)
    refine WC.skip (WX.seq (WC.seq (WC.block (WC.region (WO.step rfl (OR.move rfl (WO.step rfl ?_)))))))
    refine OR.move rfl (WO.step rfl (OR.move rfl (WO.step rfl (OR.move rfl (WO.step rfl (OR.move rfl (WO.step rfl ?_)))))))
    refine OR.addI rfl rfl (by omega) (by omega) (WO.step rfl (OR.move rfl (WO.step rfl (OR.move rfl (WO.step rfl (OR.addI rfl rfl (by omega) (by omega) ?_))))))
    refine WO.step rfl (OR.slice3G (s * k) (s * k + s) (s * k + s) T43.und T5 rfl rfl rfl rfl hksI rfl hksI (Nat.le_add_right _ _) (Nat.le_refl _) hcap3 ?_)
    refine WO.step rfl (OR.buildSlice (vs := [_]) hs T40.und T43 rfl rfl rfl rfl (by simp) ?_)
    clear hs; intro g3 w hg3 hs
    have hb9 := hs.blk (i := 0) rfl
    replace hs := hs.sink
    refine WO.step rfl (OR.append (m := 1) (news := [_]) hs ho T40.und T43 rfl (by omega) rfl rfl rfl (cells_of hb9) (fun h => by cases h) rfl (by omega) (by omega) ?_)
    clear hs ho; intro vo' w Mo' hs ho hge
    replace hs := hs.dropMid
    refine WO.step rfl (OR.assign rfl (WO.done (WX.block (WX.seq (WC.region (WO.step rfl (OR.move rfl ?_)))))))
    refine WO.step rfl (OR.move rfl (WO.step rfl (OR.addI rfl rfl (by omega) (by omega) (WO.step rfl (OR.assign rfl (WO.done ?_))))))
    refine WX.again ((k + 1, vo')) ⟨rfl, rfl, rfl, rfl, rfl,  trivial⟩ ?_ ?_
    · refine ⟨hk', H, cl ++ [_], Mo', hle, hlb, ?_, ho, hs⟩
      have e9 : s * k + s - s * k = s := by omega
      rw [e9] at hpc ⊢
      rw [List.range_succ, List.map_append, List.map_singleton]
      exact hok.snoc (hpc.mono hlb)
    · simp only; omega
  · have hkg : k = g := by
      rcases Nat.lt_or_ge k g with h | h
      · exfalso
        have := Nat.mul_lt_mul_of_pos_left h (show 0 < s by omega)
        rw [Nat.mul_comm s g] at this
        rw [hmc] at hlt
        exact hlt (Int.ofNat_lt.2 this)
      · omega
    subst hkg
    refine WC.exit (WX.seq_exit (WX.loop_exit (WX.block_hit (WX.seq (WC.seq (WC.region (WO.step rfl ?_)))))))
    refine OR.move rfl (WO.step rfl (OR.assign rfl (WO.step rfl (OR.assign rfl (WO.done (WX.seq (WC.ret ?_)))))))
    refine WX.ret2 rfl rfl rfl ?_
    obtain ⟨H4, hle4, hs4, hsl4, _⟩ := HS.pub hs ho
    refine .mk hs4 ⟨_, rfl, ?_⟩
    rw [layF, hAL]
    exact (hok.mono hle4).bytesL (by simpa using hsl4)

end Go.Bw
namespace Go.Bw
set_option linter.unusedVariables false
set_option linter.unusedSimpArgs false
open Go.Proofs
/-- A source of a stream and cuts. -/
def newD (g s : Nat) (st : List UInt8) (cuts : List Int) (cl : Bool) : SrcD := ⟨g, s, st, cuts, cl, chunksF (g * s - 4) st cuts, openF (g * s - 4) st cuts⟩

set_option maxRecDepth 20000 in
set_option maxHeartbeats 2000000 in
theorem restore_ok (g s : Nat) (vs vc : Value) (st : List UInt8) (cuts : List Int) (cl : Bool) (H0 : Hp) (w0 : World) (h0 : Sub H0 w0) (hgs : goodGS g s) (h1 : Bytes H0 vs st) (h2 : Ints H0 vc cuts) (hl : st.length ≤ 262144) (hl2 : cuts.length ≤ 1000000000) :
    Calls Tryz.prog 82 #[.int .i64 (g : Int), .int .i64 (s : Int), vs, vc, .bool cl] w0 (Ret [] H0 w0 fun v H' M' => if cutsOk st.length 0 cuts = true ∧ (cl = true → openF (g * s - 4) st cuts = []) then
        ∃ b o, v = .tuple #[ptr b, .int .i64 0] ∧ M' = [(b, o, true)] ∧ w0.heap.size ≤ b ∧ SrcIn H' (newD g s st cuts cl) o
      else v = .tuple #[.pointer none, .int .i64 1]) := by
  have hs := HS.init h0
  have hle := Hp.le.refl H0
  obtain ⟨b1, c1, rfl⟩ := h1.form
  obtain ⟨b2, c2, rfl⟩ := h2.form
  refine Calls.enter (args := [.int .i64 (g : Int), .int .i64 (s : Int), .slice b1 st.length c1, .slice b2 cuts.length c2, .bool cl]) Tryz.func82 rfl Tryz.ntmps82 rfl ?_
  refine WC.seq (WC.region (WO.step rfl (OR.assign rfl (WO.step rfl (OR.assign rfl (WO.done (WX.seq ?_)))))))
  refine WC.seq (WC.region (WO.step rfl (OR.move rfl (WO.step rfl (OR.move rfl (WO.step rfl (OR.move rfl ?_)))))))
  refine WO.step rfl (OR.build (cs := #[.int .i64 (g : Int), .int .i64 (s : Int), .slice none 0 0, .slice none 0 0, .bool cl, .slice none 0 0, .slice none 0 0]) rfl (by intro w; kernel_rfl) ?_)
  refine WO.step rfl (OR.box hs rfl ?_)
  clear hs; intro g1 w hg1 hs
  refine WO.step rfl (OR.assign rfl (WO.done (WX.seq (WC.seq (WC.seq (WC.region (WO.step rfl ?_)))))))
  refine OR.move rfl (WO.step rfl (OR.lenSlice T43.und rfl (WO.step rfl (OR.gtr rfl rfl (WO.step rfl (OR.move rfl ?_))))))
  refine WO.guardYes rfl (decide_eq_false (by omega : ¬ ((st.length : Int) > 262144))) rfl rfl (OR.move rfl (WO.guardYes rfl (decide_eq_false (by omega : ¬ ((st.length : Int) > 262144))) rfl rfl (OR.move rfl (WO.guardYes rfl (decide_eq_false (by omega : ¬ ((st.length : Int) > 262144))) rfl rfl (OR.move rfl ?_)))))
  refine WO.guardYes rfl (decide_eq_false (by omega : ¬ ((st.length : Int) > 262144))) rfl rfl (OR.callX (Mx := [(g1, _, true)]) hs body89 rfl rfl (set_ok g1 g s (.slice none 0 0) (.slice none 0 0) (.slice none 0 0) (.slice none 0 0) _ _ cl st cuts _ _ hs.toSub (hs.blk (i := 0) rfl) (hs.mem g1 _ true (List.mem_cons_self ..)).2.1 hgs h1 h2 (by omega) (by omega)) rfl rfl ?_)
  clear hs; rintro _ H M' w hs hle1 hnew hres; replace hle := hle.trans hle1; (try replace hlb := hlb.trans hle1)
  by_cases hT : cutsOk st.length 0 cuts = true
  · rw [if_pos hT] at hres
    obtain ⟨rfl, o, rfl, hsrc⟩ := hres
    refine WO.guardYes rfl (decide_eq_false (by omega : ¬ ((st.length : Int) > 262144))) rfl rfl (OR.neq rfl rfl (WO.step rfl (OR.pickF rfl (decide_eq_false (by omega : ¬ ((st.length : Int) > 262144))) rfl (WO.step rfl (OR.move rfl ?_)))))
    obtain ⟨vs', vc', vch', vop', ho, q1, q2, q3, q4⟩ := hsrc
    have hop := q4
    obtain ⟨b9, c9, e9⟩ := hop.form
    cases cl with
    | false =>
      refine WO.guardYes rfl rfl rfl rfl (OR.move rfl (WO.guardYes rfl rfl rfl rfl (OR.move rfl ?_)))
      refine WO.guardNo rfl rfl rfl rfl (WO.guardNo rfl rfl rfl rfl (WO.guardNo rfl rfl rfl rfl (WO.guardNo rfl rfl rfl rfl (WO.guardNo rfl rfl rfl rfl (WO.guardNo rfl rfl rfl rfl (WO.guardYes rfl rfl rfl rfl (OR.pickF rfl rfl rfl ?_)))))))
      refine WO.step rfl (OR.pickF rfl rfl rfl (WO.done (WX.seq (WC.no rfl rfl (WC.skip (WX.seq (WC.seq ?_)))))))
      refine WC.region (WO.step rfl (OR.move rfl (WO.step rfl (OR.assign rfl (WO.step rfl (OR.assign rfl (WO.done ?_)))))))
      refine WX.seq (WC.ret ?_)
      refine WX.ret2 rfl rfl rfl ?_
      refine ⟨_, H, _, rfl, hs, by simp, ?_⟩
      show ite _ _ _
      rw [if_pos ⟨hT, fun h => by cases h⟩]
      exact ⟨g1, o, rfl, rfl, hg1, _, _, _, _, ho, q1, q2, q3, q4⟩
    | true =>
      subst e9 ho
      refine WO.guardYes rfl rfl rfl rfl (OR.move rfl (WO.guardYes rfl rfl rfl rfl (OR.move rfl ?_)))
      refine WO.guardYes rfl rfl rfl rfl (OR.move rfl (WO.guardYes rfl rfl rfl rfl (OR.nilCheck rfl (WO.guardYes rfl rfl rfl rfl (OR.fieldAddr FA163_6 rfl (WO.guardYes rfl rfl rfl rfl (OR.load T43 rfl rfl (hs.cellM (i := 0) rfl rfl) ?_)))))))
      refine WO.guardYes rfl rfl rfl rfl (OR.lenSlice T43.und rfl (WO.guardYes rfl rfl rfl rfl (OR.gtr rfl rfl (WO.guardYes rfl rfl rfl rfl (OR.pickT rfl rfl rfl (WO.step rfl (OR.pickF rfl rfl rfl ?_)))))))
      refine WO.done (WX.seq ?_)
      refine WC.cond rfl (fun hopn => ?_) (fun hopn => ?_)
      · have hne : ¬ openF (g * s - 4) st cuts = [] := fun e => by simp only at hopn; rw [e] at hopn; cases hopn
        refine WC.seq (WC.region (WO.step rfl (OR.assign rfl (WO.step rfl (OR.assign rfl (WO.done (WX.seq ?_)))))))
        refine WC.ret (WX.seq_ret ?_)
        refine WX.ret2 rfl rfl rfl ?_
        refine ⟨_, H, _, rfl, hs.drop 0, by simp [dropAt], ?_⟩
        show ite _ _ _
        rw [if_neg (fun h => hne (h.2 rfl))]
      · have he : openF (g * s - 4) st cuts = [] := by
          simp only at hopn
          refine List.eq_nil_of_length_eq_zero ?_
          have := of_decide_eq_false hopn
          omega
        refine WC.skip (WX.seq (WC.seq (WC.region (WO.step rfl (OR.move rfl (WO.step rfl (OR.assign rfl ?_)))))))
        refine WO.step rfl (OR.assign rfl (WO.done (WX.seq (WC.ret ?_))))
        refine WX.ret2 rfl rfl rfl ?_
        refine ⟨_, H, _, rfl, hs, by simp, ?_⟩
        show ite _ _ _
        rw [if_pos ⟨hT, fun _ => he⟩]
        exact ⟨g1, _, rfl, rfl, hg1, _, _, _, _, rfl, q1, q2, q3, q4⟩
  · rw [if_neg hT] at hres
    obtain ⟨rfl, rfl⟩ := hres
    refine WO.guardYes rfl (decide_eq_false (by omega : ¬ ((st.length : Int) > 262144))) rfl rfl (OR.neq rfl rfl (WO.step rfl (OR.pickF rfl (decide_eq_false (by omega : ¬ ((st.length : Int) > 262144))) rfl (WO.step rfl (OR.move rfl ?_)))))
    refine WO.guardNo rfl rfl rfl rfl (WO.guardNo rfl rfl rfl rfl (WO.guardGone rfl rfl rfl (WO.guardGone rfl rfl rfl (WO.guardGone rfl rfl rfl (WO.guardGone rfl rfl rfl (WO.guardGone rfl rfl rfl (WO.guardGone rfl rfl rfl ?_)))))))
    refine WO.guardNo rfl rfl rfl rfl (WO.step rfl (OR.pickT rfl rfl rfl (WO.done (WX.seq (WC.yes rfl rfl (WC.seq (WC.region ?_)))))))
    refine WO.step rfl (OR.assign rfl (WO.step rfl (OR.assign rfl (WO.done (WX.seq (WC.ret (WX.seq_ret ?_)))))))
    refine WX.ret2 rfl rfl rfl ?_
    refine ⟨_, H, _, rfl, hs.drop 0, by simp [dropAt], ?_⟩
    show ite _ _ _
    rw [if_neg (fun h => hT h.1)]

end Go.Bw
namespace Go.Bw
set_option linter.unusedVariables false
set_option linter.unusedSimpArgs false
open Go.Proofs
set_option maxRecDepth 20000 in
set_option maxHeartbeats 2000000 in
theorem snew_ok (g s : Nat) (H0 : Hp) (w0 : World) (h0 : Sub H0 w0) (hgs : goodGS g s) :
    Calls Tryz.prog 28 #[.int .i64 (g : Int), .int .i64 (s : Int)] w0 (Ret [] H0 w0 fun v H' M' => ∃ b o, v = .tuple #[ptr b, .int .i64 0] ∧ M' = [(b, o, true)] ∧ w0.heap.size ≤ b ∧ SrcIn H' (newD g s [] [] false) o) := by
  have hs := HS.init h0
  have hle := Hp.le.refl H0
  refine Calls.enter (args := [.int .i64 (g : Int), .int .i64 (s : Int)]) Tryz.func28 rfl Tryz.ntmps28 rfl ?_
  refine WC.seq (WC.region (WO.step rfl (OR.assign rfl (WO.step rfl (OR.assign rfl (WO.done (WX.seq ?_)))))))
  refine WC.seq (WC.region (WO.step rfl (OR.move rfl (WO.step rfl (OR.move rfl ?_)))))
  refine WO.step rfl (OR.callX (Mx := []) hs body82 rfl rfl (restore_ok g s (.slice none 0 0) (.slice none 0 0) [] [] false _ _ hs.toSub hgs (Sl.empty _ _ _) (Sl.empty _ _ _) (by simp) (by simp)) rfl rfl ?_)
  clear hs; rintro _ H M' w hs hle1 hnew hres; replace hle := hle.trans hle1; (try replace hlb := hlb.trans hle1)
  rw [if_pos ⟨rfl, fun h => by cases h⟩] at hres
  obtain ⟨b, o, rfl, rfl, hb, hsrc⟩ := hres
  refine WO.step rfl (OR.extract rfl rfl (WO.step rfl (OR.extract rfl rfl (WO.step rfl (OR.assign rfl (WO.step rfl (OR.assign rfl ?_)))))))
  refine WO.done (WX.seq (WC.ret ?_))
  refine WX.ret2 rfl rfl rfl ?_
  exact ⟨_, H, _, rfl, hs, by simp, b, o, rfl, rfl, hb, hsrc⟩
theorem whole_mem {room a n : Nat} {st : List UInt8} {c : List UInt8} (h : c ∈ wholeL room st a n) (hle : a + n * room ≤ st.length) : c.length = room := by
  simp only [wholeL, List.mem_map, List.mem_range] at h
  obtain ⟨k, hk, rfl⟩ := h
  have : (k + 1) * room ≤ n * room := Nat.mul_le_mul_right _ hk
  rw [Nat.add_mul, Nat.one_mul] at this
  simp
  omega
theorem step_mem {room : Nat} {st : List UInt8} (hr : 1 ≤ room) {p : List (List UInt8) × Nat} {cut : Nat} (hp : ∀ c ∈ p.1, 1 ≤ c.length ∧ c.length ≤ room) (h1 : p.2 ≤ cut) (h2 : cut ≤ st.length) :
    ∀ c ∈ (chunkStep room st p ((cut : Nat) : Int)).1, 1 ≤ c.length ∧ c.length ≤ room := by
  intro c hc
  have hd : (cut - p.2) / room * room ≤ cut - p.2 := Nat.div_mul_le_self _ _
  have hm : (cut - p.2) % room < room := Nat.mod_lt _ (by omega)
  have hdm := Nat.div_add_mod (cut - p.2) room
  rw [Nat.mul_comm] at hdm
  rw [chunkStep, List.mem_append, List.mem_append] at hc
  rcases hc with (hc | hc) | hc
  · exact hp c hc
  · have := whole_mem hc (by rw [Int.toNat_natCast]; omega)
    omega
  · simp only [Int.toNat_natCast, cutPiece] at hc
    split at hc
    · simp only [List.mem_singleton] at hc
      subst hc
      simp
      omega
    · cases hc
theorem chunkP_mem {room : Nat} {st : List UInt8} (hr : 1 ≤ room) : ∀ (cuts : List Int) (p : List (List UInt8) × Nat), (∀ c ∈ p.1, 1 ≤ c.length ∧ c.length ≤ room) → p.2 ≤ st.length → cutsOk st.length (p.2 : Int) cuts = true →
    (∀ c ∈ (cuts.foldl (chunkStep room st) p).1, 1 ≤ c.length ∧ c.length ≤ room) ∧ (cuts.foldl (chunkStep room st) p).2 ≤ st.length
  | [], p, h1, h2, _ => ⟨h1, h2⟩
  | c :: cs, p, h1, h2, h => by
    simp only [cutsOk, Bool.and_eq_true, decide_eq_true_eq] at h
    obtain ⟨⟨h3, h4⟩, h5⟩ := h
    obtain ⟨k, rfl⟩ := Int.eq_ofNat_of_zero_le (show 0 ≤ c by omega)
    have hk : (chunkStep room st p ((k : Nat) : Int)).2 = k := rfl
    exact chunkP_mem hr cs _ (step_mem hr h1 (by omega) (by omega)) (by rw [hk]; omega) (by rw [hk]; exact h5)
theorem chunksF_mem {room : Nat} {st : List UInt8} {cuts : List Int} (hr : 1 ≤ room) (h : cutsOk st.length 0 cuts = true) : ∀ c ∈ chunksF room st cuts, 1 ≤ c.length ∧ c.length ≤ room := by
  have h1 := chunkP_mem (st := st) hr cuts ([], 0) (by simp) (Nat.zero_le _) h
  intro c hc
  rw [chunksF, List.mem_append] at hc
  rcases hc with hc | hc
  · exact h1.1 c hc
  · have h2 : (st.length - (chunkP room st cuts).2) / room * room ≤ st.length - (chunkP room st cuts).2 := Nat.div_mul_le_self _ _
    have h3 : (chunkP room st cuts).2 ≤ st.length := h1.2
    have := whole_mem hc (by omega)
    omega
theorem SrcOk.mem {x : SrcD} (h : SrcOk x) : ∀ c ∈ x.chunks, 1 ≤ c.length ∧ c.length ≤ x.g * x.s - 4 := by
  rw [h.ch]
  exact chunksF_mem h.room h.cuts
theorem SrcOk.nat {x : SrcD} (h : SrcOk x) : 1 ≤ x.g ∧ x.g ≤ 255 ∧ 1 ≤ x.s ∧ x.s ≤ 65535 ∧ 4 < x.g * x.s := by
  have h1 := h.gs
  have h2 : (4 : Int) < (x.g : Int) * (x.s : Int) := h1.2.2.2.2
  rw [← Int.natCast_mul] at h2
  have := h1.1
  have := h1.2.1
  have := h1.2.2.1
  have := h1.2.2.2.1
  omega

/-- Two questions that change nothing. -/
theorem first2 (v1 v2 : Value) (e1 e2 : Int) (gb cap : Nat) (xs : List Nat) (H0 H : Hp) (w0 w : World) (M : Mem) (hs : HS xs H0 w0 H ((gb, .cells #[v1, v2] 70, true) :: M) w)
    (h1 : ∃ f vf vc, v1 = .func (.func f) (List.toArray vf) (List.toArray vc) ∧ Body Tryz.prog f ∧ ∀ H' w', Hp.le H H' → HS xs H0 w0 H' ((gb, .cells #[v1, v2] 70, true) :: M) w' → Calls Tryz.prog f (vf ++ [] ++ vc).toArray w' (Pure H' w' fun v _ => v = .int .i64 e1))
    (h2 : ∃ f vf vc, v2 = .func (.func f) (List.toArray vf) (List.toArray vc) ∧ Body Tryz.prog f ∧ ∀ H' w', Hp.le H H' → HS xs H0 w0 H' ((gb, .cells #[v1, v2] 70, true) :: M) w' → Calls Tryz.prog f (vf ++ [] ++ vc).toArray w' (Pure H' w' fun v _ => v = .int .i64 e2)) :
    Calls Tryz.prog 83 #[.slice (some ⟨gb, 0, none⟩) 2 cap] w (fun e w' => e = .returned (.int .i64 (if e1 = 0 then e2 else e1)) ∧ ∃ H', Hp.le H H' ∧ HS xs H0 w0 H' ((gb, .cells #[v1, v2] 70, true) :: M) w') := by
  obtain ⟨f1, vf1, vc1, rfl, hb1, h1⟩ := h1
  obtain ⟨f2, vf2, vc2, rfl, hb2, h2⟩ := h2
  refine (first_ok [.func (.func f1) vf1.toArray vc1.toArray, .func (.func f2) vf2.toArray vc2.toArray] gb cap
    (fun i w' => (i = 1 → e1 = 0) ∧ (i = 2 → e1 = 0 ∧ e2 = 0) ∧ ∃ H', Hp.le H H' ∧ HS xs H0 w0 H' ((gb, .cells #[.func (.func f1) vf1.toArray vc1.toArray, .func (.func f2) vf2.toArray vc2.toArray] 70, true) :: M) w')
    (fun er w' => er = (if e1 = 0 then e2 else e1) ∧ ∃ H', Hp.le H H' ∧ HS xs H0 w0 H' ((gb, .cells #[.func (.func f1) vf1.toArray vc1.toArray, .func (.func f2) vf2.toArray vc2.toArray] 70, true) :: M) w')
    w ⟨(fun h => by cases h), (fun h => by cases h), H, Hp.le.refl H, hs⟩ (by simp) ?_ ?_ ?_).mono ?_
  · rintro i w' ⟨_, _, H', _, hs'⟩ h
    match i, h with
    | 0, _ => exact hs'.cellM (i := 0) rfl rfl
    | 1, _ => exact hs'.cellM (i := 0) rfl rfl
  · rintro i h w' ⟨q1, _, H', hle', hs'⟩
    match i, h with
    | 0, _ =>
      refine ⟨_, vf1, vc1, rfl, hb1, (h1 H' w' hle' hs').mono fun e w2 hp => ?_⟩
      obtain ⟨v, H2, rfl, hs2, hle2, rfl⟩ := hp.step hs'
      by_cases hz : e1 = 0
      · exact ⟨e1, rfl, .inl ⟨hz, (fun _ => hz), (fun h => by cases h), H2, hle'.trans hle2, hs2⟩⟩
      · exact ⟨e1, rfl, .inr ⟨hz, by rw [if_neg hz], H2, hle'.trans hle2, hs2⟩⟩
    | 1, _ =>
      refine ⟨_, vf2, vc2, rfl, hb2, (h2 H' w' hle' hs').mono fun e w2 hp => ?_⟩
      obtain ⟨v, H2, rfl, hs2, hle2, rfl⟩ := hp.step hs'
      have h10 := q1 rfl
      by_cases hz : e2 = 0
      · exact ⟨e2, rfl, .inl ⟨hz, (fun h => by cases h), (fun _ => ⟨h10, hz⟩), H2, hle'.trans hle2, hs2⟩⟩
      · exact ⟨e2, rfl, .inr ⟨hz, by rw [if_pos h10], H2, hle'.trans hle2, hs2⟩⟩
  · rintro w' ⟨_, q2, H', hle', hs'⟩
    obtain ⟨a, b⟩ := q2 rfl
    exact ⟨by rw [if_pos a, b], H', hle', hs'⟩
  · rintro e w' ⟨er, rfl, rfl, H', hle', hs'⟩
    exact ⟨rfl, H', hle', hs'⟩

set_option maxRecDepth 20000 in
set_option maxHeartbeats 2000000 in
theorem there_ok (b : Nat) (gen : Nat) (H0 : Hp) (w0 : World) (h0 : Sub H0 w0) :
    Calls Tryz.prog 108 #[ptr b, .int .u64 (gen : Int)] w0 (Pure H0 w0 fun v H' => ∃ gg gx, v = .func (.func 145) #[] #[ptr gg, ptr gx] ∧ hcell H' ⟨gg, 0, none⟩ = some (.int .u64 (gen : Int)) ∧ hcell H' ⟨gx, 0, none⟩ = some (ptr b)) := by
  have hs := HS.init h0
  have hle := Hp.le.refl H0
  refine Calls.enter (args := [ptr b, .int .u64 (gen : Int)]) Tryz.func108 rfl Tryz.ntmps108 rfl ?_
  refine WC.seq (WC.region (WO.step rfl (OR.box hs rfl ?_)))
  clear hs; intro g1 w hg1 hs
  refine WO.step rfl (OR.box hs rfl ?_)
  clear hs; intro g2 w hg2 hs
  refine WO.step rfl (OR.assign rfl (WO.done (WX.seq (WC.seq (WC.region (WO.step rfl (OR.makeFunc rfl rfl ?_)))))))
  refine WO.step rfl (OR.assign rfl (WO.done (WX.seq (WC.ret ?_))))
  obtain ⟨H, hle1, hp_g2, hs9⟩ := hs.pub1 hg2; clear hs; have hs := hs9; clear hs9; replace hle := hle.trans hle1; (try replace hlb := hlb.trans hle1)
  obtain ⟨H, hle1, hp_g1, hs9⟩ := hs.pub1 hg1; clear hs; have hs := hs9; clear hs9; replace hle := hle.trans hle1; (try replace hlb := hlb.trans hle1)
  refine WX.ret1 rfl rfl ?_
  exact .mk hs ⟨g2, g1, rfl, hcell_of (hle1 _ _ hp_g2) rfl, hcell_of hp_g1 rfl⟩

set_option maxRecDepth 20000 in
set_option maxHeartbeats 2000000 in
theorem there1_ok (b gg gx : Nat) (gen : Nat) (x : SrcD) (o : Obj) (H0 : Hp) (w0 : World) (h0 : Sub H0 w0) (hb : w0.heap[b]? = some o) (hn : H0 b = none) (hx : SrcIn H0 x o) (hl : x.chunks.length < 9223372036854775807)
    (h1 : hcell H0 ⟨gg, 0, none⟩ = some (.int .u64 (gen : Int))) (h2 : hcell H0 ⟨gx, 0, none⟩ = some (ptr b)) :
    Calls Tryz.prog 145 #[ptr gg, ptr gx] w0 (Pure H0 w0 fun v _ => v = .int .i64 (if gen < x.chunks.length then 0 else 23)) := by
  have hs := HS.startR h0 hb hn
  have hle := Hp.le.refl H0
  refine Calls.enter (args := [ptr gg, ptr gx]) Tryz.func145 rfl Tryz.ntmps145 rfl ?_
  refine WC.seq (WC.region (WO.step rfl (OR.assign rfl (WO.done (WX.seq (WC.seq (WC.seq ?_)))))))
  refine WC.draw 3 mixed hs (by kernel_rfl) ?_
  refine ⟨MF.eq (.int .u64 (gen : Int)), ?_, ?_⟩
  · intro Mx H w hle2 hs; (try replace hle := hle.trans hle2); (try replace hlb := hlb.trans hle2)
    refine forVals_nil (ORg.plain (OR.load T22 rfl rfl (hs.cell (hcell.mono hle h1)) ?_))
    exact ⟨_, [], Hp.le.refl _, hs, rfl, rfl⟩
  refine ⟨MF.eq (ptr b), ?_, ?_⟩
  · intro Mx H w hle2 hs; (try replace hle := hle.trans hle2); (try replace hlb := hlb.trans hle2)
    refine forVals_nil (ORg.plain (OR.load T66 rfl rfl (hs.cell (hcell.mono hle h2)) ?_))
    exact ⟨_, [], Hp.le.refl _, hs, rfl, rfl⟩
  refine ⟨MF.eq (.int .u64 (x.chunks.length : Int)), ?_, ?_⟩
  · intro Mx H w hle2 hs; (try replace hle := hle.trans hle2); (try replace hlb := hlb.trans hle2); refine forVals_eq rfl rfl rfl ?_
    refine forVals_nil (ORg.plain (OR.call hs body31 rfl rfl (gens_ok b x o _ _ hs.toSub (hs.right.blk (i := 0) rfl) (hs.right.mem b _ false (List.mem_cons_self ..)).2.1 (hx.mono hle) hl) ?_))
    clear hs; rintro _ H w hs hle1 rfl
    exact ⟨_, [], hle1, hs, rfl, rfl⟩
  intro H w hle2; (try replace hle := hle.trans hle2); (try replace hlb := hlb.trans hle2)
  refine forAllVals_eq rfl ?_
  refine forAllVals_eq rfl ?_
  refine forAllVals_eq rfl ?_
  refine forAllVals_nil ?_; (try clear hs); intro hs
  refine WO.step rfl (OR.geq rfl rfl (WO.done (WX.seq ?_)))
  refine WC.condD rfl (fun hge => ?_) (fun hge => ?_)
  · refine WC.seq (WC.region (WO.step rfl (OR.assign rfl (WO.done (WX.seq (WC.ret (WX.seq_ret ?_)))))))
    refine WX.ret1 rfl rfl ?_
    exact .mk hs (by rw [if_neg (by omega)])
  · refine WC.skip (WX.seq (WC.seq (WC.region (WO.step rfl (OR.assign rfl (WO.done (WX.seq ?_)))))))
    refine WC.ret ?_
    refine WX.ret1 rfl rfl ?_
    exact .mk hs (by rw [if_pos (by omega)])

/-- A slice of slices of bytes, or a row, with an error. -/
def TupL (H : Hp) (v : Value) (ll : List (List UInt8)) (e : Int) : Prop := ∃ r, v = .tuple #[r, .int .i64 e] ∧ BytesL H r ll
def MF.tupL (ll : List (List UInt8)) (e : Int) : MF := MF.of (fun v H => TupL H v ll e) fun _ _ _ hle ⟨r, h1, h2⟩ => ⟨r, h1, h2.mono hle⟩
def TupR (H : Hp) (v : Value) (x : RowD) (e : Int) : Prop := ∃ r, v = .tuple #[r, .int .i64 e] ∧ RowV H r x
/-- The symbols of a generation. -/
def symF (x : SrcD) (gen : Nat) : List (List UInt8) := match x.chunks[gen]? with
  | some c => layF x.g x.s c
  | none => []
def thereE (x : SrcD) (gen : Nat) : Int := if gen < x.chunks.length then 0 else 23
set_option maxRecDepth 20000 in
set_option maxHeartbeats 2000000 in
theorem symbols_ok (b : Nat) (gen : Nat) (x : SrcD) (o : Obj) (H0 : Hp) (w0 : World) (h0 : Sub H0 w0) (hb : w0.heap[b]? = some o) (hn : H0 b = none) (hx : SrcIn H0 x o) (hok : SrcOk x) :
    Calls Tryz.prog 49 #[ptr b, .int .u64 (gen : Int)] w0 (Pure H0 w0 fun v H' => TupL H' v (symF x gen) (thereE x gen)) := by
  have hs := HS.startR h0 hb hn
  have hle := Hp.le.refl H0
  have hchl := hok.chl
  have hgp : 0 < x.g := by have := hok.gs.1; omega
  have hx0 := hx
  obtain ⟨vs, vc, vch, vop, rfl, hx1, hx2, hx3, hx4⟩ := hx0
  refine Calls.enter (args := [ptr b, .int .u64 (gen : Int)]) Tryz.func49 rfl Tryz.ntmps49 rfl ?_
  refine WC.seq (WC.region (WO.step rfl (OR.assign rfl (WO.step rfl (OR.assign rfl (WO.done (WX.seq ?_)))))))
  refine WC.seq (WC.seq (WC.region (WO.step rfl (OR.move rfl (WO.step rfl (OR.makeFunc rfl rfl (WO.step rfl ?_)))))))
  refine OR.move rfl (WO.step rfl (OR.move rfl ?_))
  refine WO.step rfl (OR.call hs body108 rfl rfl (there_ok b gen _ _ hs.toSub) ?_)
  clear hs; rintro _ H w hs hle1 ⟨gg, gx, rfl, hc1, hc2⟩; replace hle := hle.trans hle1; (try replace hlb := hlb.trans hle1)
  refine WO.step rfl (OR.buildSlice (vs := [_, _]) hs T215.und T70 rfl rfl rfl rfl (by simp) ?_)
  clear hs; intro g4 w hg4 hs
  refine WO.step rfl (OR.callW body83 rfl rfl (first2 _ _ 0 (thereE x gen) g4 2 _ _ _ _ _ _ hs ⟨_, [ptr b], [], rfl, body84, fun H' w' hl' hs' => smade_ok b x.g x.s vs vc vch vop x.cl _ _ hs'.toSub (hs'.blk (i := 1) rfl) (hs'.mem b (srcObj x.g x.s vs vc x.cl vch vop) false (by simp)).2.1 hgp⟩ ⟨_, [], [ptr gg, ptr gx], rfl, body145, fun H' w' hl' hs' => there1_ok b gg gx gen x (srcObj x.g x.s vs vc x.cl vch vop) _ _ hs'.toSub (hs'.blk (i := 1) rfl) (hs'.mem b (srcObj x.g x.s vs vc x.cl vch vop) false (by simp)).2.1 (hx.mono (hle.trans hl')) (by omega) (hcell.mono hl' hc1) (hcell.mono hl' hc2)⟩) ?_)
  clear hs
  rintro e w ⟨rfl, H, hle1, hs⟩
  replace hle := hle.trans hle1
  refine ⟨_, rfl, ?_⟩
  rw [if_pos rfl]
  by_cases hlt : gen < x.chunks.length
  · have hE : thereE x gen = 0 := by rw [thereE, if_pos hlt]
    rw [hE]
    obtain ⟨b3, c3, e3⟩ := hx3.form
    subst e3
    refine WO.step rfl (OR.assign rfl (WO.done (WX.seq (WC.seq (WC.region (WO.step rfl (OR.move rfl ?_)))))))
    refine WO.step rfl (OR.neq rfl rfl (WO.done (WX.seq ?_)))
    refine WC.no rfl (decide_eq_false (by decide)) ?_
    obtain ⟨cs, hsl, hcl, hcs⟩ := hx3
    obtain ⟨ob, oo, rfl, hco⟩ := hsl.pos (by omega)
    have hgc : gen < cs.length := by omega
    have hcell' := hco gen cs[gen] (List.getElem?_eq_getElem hgc)
    have hcb := hcs gen hlt hgc
    have hmem := hok.mem x.chunks[gen] (List.getElem_mem hlt)
    have hsym : symF x gen = layF x.g x.s x.chunks[gen] := by rw [symF, List.getElem?_eq_getElem hlt]
    refine WC.skip (WX.seq (WC.seq ?_))
    refine WC.sub [(0, ptr b), (1, .int .u64 (gen : Int))] ⟨rfl, rfl,  trivial⟩ ?_
    refine WC.draw 19 mixed hs (by kernel_rfl) ?_
    refine ⟨MF.eq _, by intro Mx H w hle hs; refine forVals_nil (ORg.plain (OR.move rfl ?_)); exact ⟨_, [], Hp.le.refl _, hs, rfl, rfl⟩, ?_⟩
    refine ⟨MF.eq _, by intro Mx H w hle hs; refine forVals_eq rfl rfl rfl ?_; refine forVals_nil (ORg.plain (OR.nilCheck rfl ?_)); exact ⟨_, [], Hp.le.refl _, hs, rfl, rfl⟩, ?_⟩
    refine ⟨MF.eq _, by intro Mx H w hle hs; refine forVals_eq rfl rfl rfl ?_; refine forVals_nil (ORg.plain (OR.fieldAddr FA163_5 rfl ?_)); exact ⟨_, [], Hp.le.refl _, hs, rfl, rfl⟩, ?_⟩
    refine ⟨MF.eq _, by intro Mx H w hle hs; refine forVals_eq rfl rfl rfl ?_; refine forVals_nil (ORg.plain (OR.load T40 rfl rfl (hs.right.cellM (i := 1) rfl rfl) ?_)); exact ⟨_, [], Hp.le.refl _, hs, rfl, rfl⟩, ?_⟩
    refine ⟨MF.eq _, by intro Mx H w hle hs; refine forVals_nil (ORg.plain (OR.move rfl ?_)); exact ⟨_, [], Hp.le.refl _, hs, rfl, rfl⟩, ?_⟩
    refine ⟨MF.eq (.pointer (some ⟨ob, oo + gen, none⟩)), ?_, ?_⟩
    · intro Mx H w hle2 hs; (try replace hle := hle.trans hle2); (try replace hlb := hlb.trans hle2); refine forVals_eq rfl rfl rfl ?_; refine forVals_eq rfl rfl rfl ?_
      refine forVals_nil (ORg.plain (OR.idx gen T40.und T43 rfl rfl rfl hlt ?_))
      exact ⟨_, [], Hp.le.refl _, hs, rfl, rfl⟩
    refine ⟨MF.eq cs[gen], ?_, ?_⟩
    · intro Mx H w hle2 hs; (try replace hle := hle.trans hle2); (try replace hlb := hlb.trans hle2); refine forVals_eq rfl rfl rfl ?_
      refine forVals_nil (ORg.plain (OR.load T43 rfl rfl (hs.cell (hcell.mono hle hcell')) ?_))
      exact ⟨_, [], Hp.le.refl _, hs, rfl, rfl⟩
    refine ⟨MF.eq _, by intro Mx H w hle hs; refine forVals_nil (ORg.plain (OR.move rfl ?_)); exact ⟨_, [], Hp.le.refl _, hs, rfl, rfl⟩, ?_⟩
    refine ⟨MF.eq _, by intro Mx H w hle hs; refine forVals_eq rfl rfl rfl ?_; refine forVals_nil (ORg.plain (OR.nilCheck rfl ?_)); exact ⟨_, [], Hp.le.refl _, hs, rfl, rfl⟩, ?_⟩
    refine ⟨MF.eq _, by intro Mx H w hle hs; refine forVals_eq rfl rfl rfl ?_; refine forVals_nil (ORg.plain (OR.fieldAddr FA163_0 rfl ?_)); exact ⟨_, [], Hp.le.refl _, hs, rfl, rfl⟩, ?_⟩
    refine ⟨MF.eq _, by intro Mx H w hle hs; refine forVals_eq rfl rfl rfl ?_; refine forVals_nil (ORg.plain (OR.load T3 rfl rfl (hs.right.cellM (i := 1) rfl rfl) ?_)); exact ⟨_, [], Hp.le.refl _, hs, rfl, rfl⟩, ?_⟩
    refine ⟨MF.eq _, by intro Mx H w hle hs; refine forVals_nil (ORg.plain (OR.move rfl ?_)); exact ⟨_, [], Hp.le.refl _, hs, rfl, rfl⟩, ?_⟩
    refine ⟨MF.eq _, by intro Mx H w hle hs; refine forVals_eq rfl rfl rfl ?_; refine forVals_nil (ORg.plain (OR.nilCheck rfl ?_)); exact ⟨_, [], Hp.le.refl _, hs, rfl, rfl⟩, ?_⟩
    refine ⟨MF.eq _, by intro Mx H w hle hs; refine forVals_eq rfl rfl rfl ?_; refine forVals_nil (ORg.plain (OR.fieldAddr FA163_1 rfl ?_)); exact ⟨_, [], Hp.le.refl _, hs, rfl, rfl⟩, ?_⟩
    refine ⟨MF.eq _, by intro Mx H w hle hs; refine forVals_eq rfl rfl rfl ?_; refine forVals_nil (ORg.plain (OR.load T3 rfl rfl (hs.right.cellM (i := 1) rfl rfl) ?_)); exact ⟨_, [], Hp.le.refl _, hs, rfl, rfl⟩, ?_⟩
    refine ⟨MF.tupL (layF x.g x.s x.chunks[gen]) 0, ?_, ?_⟩
    · intro Mx H w hle2 hs; (try replace hle := hle.trans hle2); (try replace hlb := hlb.trans hle2); refine forVals_eq rfl rfl rfl ?_; refine forVals_eq rfl rfl rfl ?_; refine forVals_eq rfl rfl rfl ?_
      refine forVals_nil (ORg.plain (OR.call hs body109 rfl rfl (lay_ok x.g x.s cs[gen] x.chunks[gen] _ _ hs.toSub hok.nat (hcb.mono hle) hmem.1 hmem.2) ?_))
      clear hs; rintro _ H w hs hle1 ⟨r, rfl, hr⟩
      exact ⟨_, [], hle1, hs, ⟨r, rfl, hr⟩, rfl⟩
    refine ⟨MF.bytesL (layF x.g x.s x.chunks[gen]), ?_, ?_⟩
    · intro Mx H w hle2 hs; (try replace hle := hle.trans hle2); (try replace hlb := hlb.trans hle2); refine forVals_of rfl rfl rfl ?_; intro v15 h15
      obtain ⟨r, rfl, hr⟩ := h15
      refine forVals_nil (ORg.plain (OR.extract rfl rfl ?_))
      exact ⟨_, [], Hp.le.refl _, hs, hr, rfl⟩
    refine ⟨MF.eq (.int .i64 0), ?_, ?_⟩
    · intro Mx H w hle2 hs; (try replace hle := hle.trans hle2); (try replace hlb := hlb.trans hle2); refine forVals_of rfl rfl rfl ?_; intro v15 h15
      obtain ⟨r, rfl, hr⟩ := h15
      refine forVals_nil (ORg.plain (OR.extract rfl rfl ?_))
      exact ⟨_, [], Hp.le.refl _, hs, rfl, rfl⟩
    refine ⟨MF.bytesL (layF x.g x.s x.chunks[gen]), ?_, ?_⟩
    · intro Mx H w hle2 hs; (try replace hle := hle.trans hle2); (try replace hlb := hlb.trans hle2); refine forVals_of rfl rfl rfl ?_; intro v16 h16
      refine forVals_nil (ORg.plain (OR.assign rfl ?_))
      exact ⟨_, [], Hp.le.refl _, hs, h16, rfl⟩
    intro H w hle2; (try replace hle := hle.trans hle2); (try replace hlb := hlb.trans hle2)
    refine forAllVals_eq rfl ?_
    refine forAllVals_eq rfl ?_
    refine forAllVals_eq rfl ?_
    refine forAllVals_eq rfl ?_
    refine forAllVals_eq rfl ?_
    refine forAllVals_eq rfl ?_
    refine forAllVals_eq rfl ?_
    refine forAllVals_eq rfl ?_
    refine forAllVals_eq rfl ?_
    refine forAllVals_eq rfl ?_
    refine forAllVals_eq rfl ?_
    refine forAllVals_eq rfl ?_
    refine forAllVals_eq rfl ?_
    refine forAllVals_eq rfl ?_
    refine forAllVals_eq rfl ?_
    refine forAllVals_of rfl ?_; intro v15 h15
    refine forAllVals_of rfl ?_; intro v16 h16
    refine forAllVals_eq rfl ?_
    refine forAllVals_of rfl ?_; intro v18 h18
    refine forAllVals_nil ?_; (try clear hs); intro hs
    refine WO.step rfl (OR.assign rfl (WO.done (WX.seq (WC.ret ?_))))
    refine WX.ret2 rfl rfl rfl ?_
    rw [hsym]
    exact .mk (hs.drop 0) ⟨_, rfl, h18⟩
  · have hE : thereE x gen = 23 := by rw [thereE, if_neg hlt]
    rw [hE]
    refine WO.step rfl (OR.assign rfl (WO.done (WX.seq (WC.seq (WC.region (WO.step rfl (OR.move rfl ?_)))))))
    refine WO.step rfl (OR.neq rfl rfl (WO.done (WX.seq ?_)))
    refine WC.yes rfl (decide_eq_true (by decide)) ?_
    refine WC.seq (WC.region (WO.step rfl (OR.move rfl (WO.step rfl (OR.assign rfl (WO.step rfl (OR.assign rfl ?_)))))))
    refine WO.done (WX.seq (WC.ret (WX.seq_ret ?_)))
    refine WX.ret2 rfl rfl rfl ?_
    exact .mk (hs.drop 0) ⟨_, rfl, by rw [symF, List.getElem?_eq_none (by omega)]; exact ⟨[], Sl.empty _ _ _, rfl, fun i h => by simp at h⟩⟩

theorem symF_len {x : SrcD} (hok : SrcOk x) {gen : Nat} (h : gen < x.chunks.length) : (symF x gen).length = x.g := by
  rw [symF, List.getElem?_eq_getElem h]
  simp [layF]
theorem symF_row {x : SrcD} (hok : SrcOk x) {gen : Nat} (h : gen < x.chunks.length) : ∀ r ∈ symF x gen, r.length = x.s := by
  rw [symF, List.getElem?_eq_getElem h]
  intro r hr
  simp only [layF, List.mem_map, List.mem_range] at hr
  obtain ⟨i, hi, rfl⟩ := hr
  have hmem := hok.mem x.chunks[gen] (List.getElem_mem h)
  have hal := layAll_len (g := x.g) (s := x.s) (chunk := x.chunks[gen]) hok.nat.2.2.2.2 hmem.2
  have : x.s * (i + 1) ≤ x.g * x.s := by rw [Nat.mul_comm x.g]; exact Nat.mul_le_mul_left _ hi
  rw [Nat.mul_add, Nat.mul_one] at this
  simp [hal]
  omega

def rowE (x : SrcD) (gen : Nat) (c : List UInt8) : Int := if gen < x.chunks.length then (if c.length = x.g then 0 else 21) else 23
def rowF (x : SrcD) (gen : Nat) (c : List UInt8) : RowD := if gen < x.chunks.length ∧ c.length = x.g then (c, comb x.s (symF x gen) c) else ([], [])
set_option maxRecDepth 20000 in
set_option maxHeartbeats 2000000 in
theorem srow_ok (b : Nat) (gen : Nat) (vd : Value) (c : List UInt8) (x : SrcD) (o : Obj) (H0 : Hp) (w0 : World) (h0 : Sub H0 w0) (hb : w0.heap[b]? = some o) (hn : H0 b = none) (hx : SrcIn H0 x o) (hok : SrcOk x) (hc : Bytes H0 vd c) (hl : c.length ≤ 140737488355328) :
    Calls Tryz.prog 32 #[ptr b, .int .u64 (gen : Int), vd] w0 (Pure H0 w0 fun v H' => TupR H' v (rowF x gen c) (rowE x gen c)) := by
  have hs := HS.startR h0 hb hn
  have hle := Hp.le.refl H0
  have hx0 := hx
  obtain ⟨hn1, hn2, hn3, hn4, hn5⟩ := hok.nat
  obtain ⟨b1, c1, rfl⟩ := hc.form
  obtain ⟨vs, vc, vch, vop, rfl, hx1, hx2, hx3, hx4⟩ := hx0
  have hz : RowV H0 (.agg #[.slice none 0 0, .slice none 0 0]) ([], []) := ⟨_, _, rfl, Sl.empty _ _ _, Sl.empty _ _ _⟩
  refine Calls.enter (args := [ptr b, .int .u64 (gen : Int), .slice b1 c.length c1]) Tryz.func32 rfl Tryz.ntmps32 rfl ?_
  refine WC.seq (WC.region (WO.step rfl (OR.alloc hs T45 ?_)))
  clear hs; intro g1 w hg1 hs
  refine WO.step rfl (OR.assign rfl (WO.done (WX.seq (WC.seq (WC.region (WO.step rfl (OR.move rfl ?_)))))))
  refine WO.step rfl (OR.move rfl ?_)
  refine WO.step rfl (OR.call hs body49 rfl rfl (symbols_ok b gen x _ _ _ hs.toSub (hs.blk (i := 1) rfl) (hs.mem b (srcObj x.g x.s vs vc x.cl vch vop) false (by simp)).2.1 (hx.mono hle) hok) ?_)
  clear hs; rintro _ H w hs hle1 ⟨r, rfl, hr⟩; replace hle := hle.trans hle1; (try replace hlb := hlb.trans hle1)
  obtain ⟨b2, c2, rfl⟩ := hr.form
  by_cases hlt : gen < x.chunks.length
  · have hE : thereE x gen = 0 := by rw [thereE, if_pos hlt]
    rw [hE]
    refine WO.step rfl (OR.move rfl (WO.step rfl (OR.extract rfl rfl (WO.step rfl (OR.extract rfl rfl (WO.step rfl (OR.assign rfl ?_)))))))
    refine WO.step rfl (OR.assign rfl (WO.done (WX.seq (WC.seq (WC.block (WC.seq (WC.region ?_)))))))
    refine WO.step rfl (OR.move rfl (WO.step rfl (OR.neq rfl rfl (WO.step rfl (OR.assign rfl (WO.done (WX.seq ?_)))))))
    refine WC.no rfl (decide_eq_false (by decide)) ?_
    refine WC.seq (WC.region (WO.step rfl (OR.move rfl (WO.step rfl (OR.lenSlice T43.und rfl (WO.step rfl (OR.move rfl ?_)))))))
    refine WO.step rfl (OR.nilCheck rfl (WO.step rfl (OR.fieldAddr FA163_0 rfl (WO.step rfl (OR.load T3 rfl rfl (hs.cellM (i := 1) rfl rfl) (WO.step rfl (OR.neq rfl rfl ?_)))))))
    refine WO.step rfl (OR.assign rfl (WO.done (WX.seq ?_)))
    refine WC.condD rfl (fun hne => ?_) (fun hne => ?_)
    · refine WC.seq (WC.region (WO.step rfl (OR.buildZero T45 PL45 (WO.stepN (OR.storeAll hs T45 rfl rfl rfl rfl rfl ?_)))))
      clear hs; intro w hs
      refine WO.step rfl (OR.assign rfl (WO.done (WX.seq (WC.ret (WX.block_ret (WX.seq_ret ?_))))))
      refine WX.retCT T45 rfl rfl rfl rfl rfl (hs.blk (i := 0) rfl) ?_
      have e1 : rowE x gen c = 21 := by rw [rowE, if_pos hlt, if_neg (by omega)]
      have e2 : rowF x gen c = ([], []) := by rw [rowF, if_neg (by omega)]
      rw [e1, e2]
      exact .mk (hs.drop 0) ⟨_, rfl, hz.mono hle⟩
    · have hcl : c.length = x.g := by omega
      have hsl := symF_len hok hlt
      refine WC.skip (WX.block (WX.seq (WC.seq (WC.region (WO.step rfl (OR.move rfl (WO.step rfl ?_)))))))
      refine OR.move rfl ?_
      refine WO.step rfl (OR.call hs body91 rfl rfl (combine_ok _ _ (symF x gen) c x.s _ _ hs.toSub hr (hc.mono hle) (by omega) (symF_row hok hlt) (by omega) (by omega)) ?_)
      clear hs; rintro _ H w hs hle1 ⟨r2, rfl, hr2⟩; replace hle := hle.trans hle1; (try replace hlb := hlb.trans hle1)
      rw [if_pos (by omega)] at hr2
      rw [if_pos (by omega)]
      refine WO.step rfl (OR.move rfl (WO.step rfl (OR.extract rfl rfl (WO.step rfl (OR.extract rfl rfl (WO.step rfl (OR.assign rfl ?_)))))))
      refine WO.step rfl (OR.assign rfl (WO.done (WX.seq (WC.seq (WC.region (WO.step rfl (OR.move rfl ?_)))))))
      refine WO.step rfl (OR.call hs body87 rfl rfl (clone_pure _ _ _ _ hs.toSub (hc.mono hle) hl) ?_)
      clear hs; rintro _ H w hs hle1 hr3; replace hle := hle.trans hle1; (try replace hlb := hlb.trans hle1)
      obtain ⟨b4, c4, rfl⟩ := hr2.form
      obtain ⟨b5, c5, rfl⟩ := hr3.form
      refine WO.step rfl (OR.move rfl (WO.step rfl (OR.buildAll T45 rfl rfl PL45 rfl rfl (WO.stepN (OR.storeAll hs T45 rfl rfl rfl rfl rfl ?_)))))
      clear hs; intro w hs
      refine WO.step rfl (OR.assign rfl (WO.done (WX.seq (WC.ret ?_))))
      refine WX.retCT T45 rfl rfl rfl rfl rfl (hs.blk (i := 0) rfl) ?_
      have e1 : rowE x gen c = 0 := by rw [rowE, if_pos hlt, if_pos hcl]
      have e2 : rowF x gen c = (c, comb x.s (symF x gen) c) := by rw [rowF, if_pos ⟨hlt, hcl⟩]
      rw [e1, e2]
      exact .mk (hs.drop 0) ⟨_, rfl, _, _, rfl, hr3, hr2.mono hle1⟩
  · have hE : thereE x gen = 23 := by rw [thereE, if_neg hlt]
    rw [hE]
    refine WO.step rfl (OR.move rfl (WO.step rfl (OR.extract rfl rfl (WO.step rfl (OR.extract rfl rfl (WO.step rfl (OR.assign rfl ?_)))))))
    refine WO.step rfl (OR.assign rfl (WO.done (WX.seq (WC.seq (WC.block (WC.seq (WC.region ?_)))))))
    refine WO.step rfl (OR.move rfl (WO.step rfl (OR.neq rfl rfl (WO.step rfl (OR.assign rfl (WO.done (WX.seq ?_)))))))
    refine WC.yes rfl (decide_eq_true (by decide)) ?_
    refine WC.seq (WC.region (WO.step rfl (OR.buildZero T45 PL45 (WO.step rfl (OR.move rfl (WO.stepN (OR.storeAll hs T45 rfl rfl rfl rfl rfl ?_)))))))
    clear hs; intro w hs
    refine WO.step rfl (OR.assign rfl (WO.done (WX.seq (WC.ret (WX.block_ret (WX.seq_ret ?_))))))
    refine WX.retCT T45 rfl rfl rfl rfl rfl (hs.blk (i := 0) rfl) ?_
    have e1 : rowE x gen c = 23 := by rw [rowE, if_neg hlt]
    have e2 : rowF x gen c = ([], []) := by rw [rowF, if_neg (by omega)]
    rw [e1, e2]
    exact .mk (hs.drop 0) ⟨_, rfl, hz.mono hle⟩

def sendC (x : SrcD) (sent : Nat) (l : List UInt8) : List UInt8 := coefF x.g (sent % x.g) (if sent < x.g then [] else l)
set_option maxRecDepth 20000 in
set_option maxHeartbeats 2000000 in
theorem ssend_ok (b : Nat) (gen sent : Nat) (vd : Value) (l : List UInt8) (x : SrcD) (o : Obj) (H0 : Hp) (w0 : World) (h0 : Sub H0 w0) (hb : w0.heap[b]? = some o) (hn : H0 b = none) (hx : SrcIn H0 x o) (hok : SrcOk x) (hl : Bytes H0 vd l) (hst : sent < 18446744073709551616) :
    Calls Tryz.prog 212 #[ptr b, .int .u64 (gen : Int), .int .u64 (sent : Int), vd] w0 (Pure H0 w0 fun v H' => TupR H' v (rowF x gen (sendC x sent l)) (thereE x gen)) := by
  have hs := HS.startR h0 hb hn
  have hle := Hp.le.refl H0
  have hx0 := hx
  have hchl := hok.chl
  obtain ⟨hn1, hn2, hn3, hn4, hn5⟩ := hok.nat
  have hz : RowV H0 (.agg #[.slice none 0 0, .slice none 0 0]) ([], []) := ⟨_, _, rfl, Sl.empty _ _ _, Sl.empty _ _ _⟩
  obtain ⟨b1, c1, rfl⟩ := hl.form
  obtain ⟨vs, vc, vch, vop, rfl, hx1, hx2, hx3, hx4⟩ := hx0
  have hsc : (sendC x sent l).length = x.g := coefF_len _ _ _
  refine Calls.enter (args := [ptr b, .int .u64 (gen : Int), .int .u64 (sent : Int), .slice b1 l.length c1]) Tryz.func212 rfl Tryz.ntmps212 rfl ?_
  refine WC.seq (WC.region (WO.step rfl (OR.alloc hs T45 ?_)))
  clear hs; intro g1 w hg1 hs
  refine WO.step rfl (OR.assign rfl (WO.done (WX.seq (WC.seq (WC.seq (WC.region (WO.step rfl ?_)))))))
  refine OR.move rfl (WO.step rfl (OR.makeFunc rfl rfl (WO.step rfl (OR.move rfl (WO.step rfl (OR.move rfl ?_))))))
  refine WO.step rfl (OR.call hs body108 rfl rfl (there_ok b gen _ _ hs.toSub) ?_)
  clear hs; rintro _ H w hs hle1 ⟨gg, gx, rfl, hc1, hc2⟩; replace hle := hle.trans hle1; (try replace hlb := hlb.trans hle1)
  refine WO.step rfl (OR.buildSlice (vs := [_, _]) hs T215.und T70 rfl rfl rfl rfl (by simp) ?_)
  clear hs; intro g4 w hg4 hs
  refine WO.step rfl (OR.callW body83 rfl rfl (first2 _ _ 0 (thereE x gen) g4 2 _ _ _ _ _ _ hs ⟨_, [ptr b], [], rfl, body84, fun H' w' hl' hs' => smade_ok b x.g x.s vs vc vch vop x.cl _ _ hs'.toSub (hs'.blk (i := 2) rfl) (hs'.mem b (srcObj x.g x.s vs vc x.cl vch vop) false (by simp)).2.1 hn1⟩ ⟨_, [], [ptr gg, ptr gx], rfl, body145, fun H' w' hl' hs' => there1_ok b gg gx gen x (srcObj x.g x.s vs vc x.cl vch vop) _ _ hs'.toSub (hs'.blk (i := 2) rfl) (hs'.mem b (srcObj x.g x.s vs vc x.cl vch vop) false (by simp)).2.1 (hx.mono (hle.trans hl')) (by omega) (hcell.mono hl' hc1) (hcell.mono hl' hc2)⟩) ?_)
  clear hs
  rintro e w ⟨rfl, H, hle1, hs⟩
  replace hle := hle.trans hle1
  refine ⟨_, rfl, ?_⟩
  rw [if_pos rfl]
  by_cases hlt : gen < x.chunks.length
  · have hE : thereE x gen = 0 := by rw [thereE, if_pos hlt]
    rw [hE]
    refine WO.step rfl (OR.assign rfl (WO.done (WX.seq (WC.seq (WC.region (WO.step rfl (OR.move rfl ?_)))))))
    refine WO.step rfl (OR.neq rfl rfl (WO.done (WX.seq ?_)))
    refine WC.no rfl (decide_eq_false (by decide)) ?_
    refine WC.skip (WX.seq (WC.seq (WC.seq (WC.region (WO.step rfl (OR.move rfl (WO.step rfl ?_)))))))
    refine OR.move rfl (WO.step rfl (OR.nilCheck rfl (WO.step rfl (OR.fieldAddr FA163_0 rfl (WO.step rfl (OR.load T3 rfl rfl (hs.cellM (i := 2) rfl rfl) ?_))))))
    refine WO.step rfl (OR.convI T3.und T22.und rfl ?_)
    rw [u64_wrap _ (by omega)]
    refine WO.step rfl (OR.lss rfl rfl (WO.step rfl (OR.move rfl ?_)))
    replace hs := hs.drop (i := 0)
    by_cases hsg : sent < x.g
    · have hsc' : sendC x sent l = coefF x.g (sent % x.g) [] := by rw [sendC, if_pos hsg]
      refine WO.guardYes rfl (decide_eq_true (by omega : (sent : Int) < (x.g : Int))) rfl rfl (OR.move rfl ?_)
      refine WO.guardYes rfl (decide_eq_true (by omega : (sent : Int) < (x.g : Int))) rfl rfl (OR.convI T22.und T3.und rfl ?_)
      rw [IntWalk.i64_in (sent : Int) (by omega)]
      refine WO.guardYes rfl (decide_eq_true (by omega : (sent : Int) < (x.g : Int))) rfl rfl (OR.move rfl (WO.guardYes rfl (decide_eq_true (by omega : (sent : Int) < (x.g : Int))) rfl rfl (OR.nilCheck rfl (WO.guardYes rfl (decide_eq_true (by omega : (sent : Int) < (x.g : Int))) rfl rfl (OR.fieldAddr FA163_0 rfl (WO.guardYes rfl (decide_eq_true (by omega : (sent : Int) < (x.g : Int))) rfl rfl (OR.load T3 rfl rfl (hs.cellM (i := 1) rfl rfl) ?_)))))))
      refine WO.guardYes rfl (decide_eq_true (by omega : (sent : Int) < (x.g : Int))) rfl rfl (OR.call hs body213 rfl rfl (syst_ok (sent : Int) (x.g : Int) _ _ hs.toSub) ?_)
      clear hs; rintro _ H w hs hle1 rfl; replace hle := hle.trans hle1; (try replace hlb := hlb.trans hle1)
      rw [decide_eq_true (by omega : (0 : Int) ≤ (sent : Int) ∧ (sent : Int) < (x.g : Int))]
      refine WO.step rfl (OR.pickT rfl (decide_eq_true (by omega : (sent : Int) < (x.g : Int))) rfl (WO.done (WX.seq ?_)))
      refine WC.yes rfl rfl ?_
      refine WC.region (WO.step rfl (OR.assign rfl (WO.done (WX.seq (WC.seq (WC.region (WO.step rfl ?_)))))))
      refine OR.move rfl (WO.step rfl (OR.move rfl (WO.step rfl (OR.nilCheck rfl (WO.step rfl (OR.fieldAddr FA163_0 rfl (WO.step rfl ?_)))))))
      refine OR.load T3 rfl rfl (hs.cellM (i := 1) rfl rfl) ?_
      refine WO.step rfl (OR.call hs body202 rfl rfl (turn_ok sent x.g _ _ hs.toSub ⟨hn1, hn2⟩ hst) ?_)
      clear hs; rintro _ H w hs hle1 rfl; replace hle := hle.trans hle1; (try replace hlb := hlb.trans hle1)
      refine WO.step rfl (OR.move rfl (WO.step rfl (OR.extract rfl rfl (WO.step rfl (OR.extract rfl rfl (WO.step rfl (OR.assign rfl ?_)))))))
      refine WO.step rfl (OR.assign rfl (WO.done (WX.seq (WC.seq (WC.region (WO.step rfl (OR.move rfl ?_)))))))
      refine WO.step rfl (OR.move rfl (WO.step rfl (OR.nilCheck rfl (WO.step rfl (OR.fieldAddr FA163_0 rfl (WO.step rfl (OR.load T3 rfl rfl (hs.cellM (i := 1) rfl rfl) ?_)))))))
      refine WO.step rfl (OR.move rfl ?_)
      refine WO.step rfl (OR.call hs body203 rfl rfl (coefs_ok _ [] x.g (sent % x.g) _ _ hs.toSub (Sl.empty _ _ _) ⟨hn1, hn2⟩ (Nat.mod_lt _ hn1)) ?_)
      clear hs; rintro _ H w hs hle1 ⟨r, rfl, hr⟩; replace hle := hle.trans hle1; (try replace hlb := hlb.trans hle1)
      rw [← hsc'] at hr
      refine WO.step rfl (OR.move rfl (WO.step rfl (OR.extract rfl rfl (WO.step rfl (OR.extract rfl rfl (WO.step rfl (OR.assign rfl ?_)))))))
      refine WO.step rfl (OR.assign rfl (WO.done (WX.seq (WC.seq (WC.region (WO.step rfl (OR.move rfl ?_)))))))
      refine WO.step rfl (OR.move rfl (WO.step rfl (OR.move rfl ?_)))
      refine WO.step rfl (OR.call hs body32 rfl rfl (srow_ok b gen _ (sendC x sent l) x (srcObj x.g x.s vs vc x.cl vch vop) _ _ hs.toSub (hs.blk (i := 1) rfl) (hs.mem b (srcObj x.g x.s vs vc x.cl vch vop) false (by simp)).2.1 (hx.mono hle) hok hr (by omega)) ?_)
      clear hs; rintro _ H w hs hle1 ⟨r2, rfl, hr2⟩; replace hle := hle.trans hle1; (try replace hlb := hlb.trans hle1)
      have e1 : rowE x gen (sendC x sent l) = 0 := by rw [rowE, if_pos hlt, if_pos hsc]
      rw [e1]
      obtain ⟨y1, y2, rfl, hy1, hy2⟩ := hr2
      obtain ⟨b4, c4, rfl⟩ := hy1.form
      obtain ⟨b5, c5, rfl⟩ := hy2.form
      refine WO.step rfl (OR.extract rfl rfl (WO.step rfl (OR.extract rfl rfl (WO.stepN (OR.storeAll hs T45 rfl rfl rfl rfl rfl ?_)))))
      clear hs; intro w hs
      refine WO.step rfl (OR.assign rfl (WO.done (WX.seq (WC.ret ?_))))
      refine WX.retCT T45 rfl rfl rfl rfl rfl (hs.blk (i := 0) rfl) ?_
      exact .mk (hs.drop 0) ⟨_, rfl, _, _, rfl, hy1, hy2⟩
    · have hsc' : sendC x sent l = coefF x.g (sent % x.g) l := by rw [sendC, if_neg hsg]
      refine WO.guardNo rfl (decide_eq_false (by omega : ¬ (sent : Int) < (x.g : Int))) rfl rfl (WO.guardNo rfl (decide_eq_false (by omega : ¬ (sent : Int) < (x.g : Int))) rfl rfl (WO.guardNo rfl (decide_eq_false (by omega : ¬ (sent : Int) < (x.g : Int))) rfl rfl (WO.guardNo rfl (decide_eq_false (by omega : ¬ (sent : Int) < (x.g : Int))) rfl rfl (WO.guardNo rfl (decide_eq_false (by omega : ¬ (sent : Int) < (x.g : Int))) rfl rfl (WO.guardNo rfl (decide_eq_false (by omega : ¬ (sent : Int) < (x.g : Int))) rfl rfl (WO.guardNo rfl (decide_eq_false (by omega : ¬ (sent : Int) < (x.g : Int))) rfl rfl (WO.step rfl ?_)))))))
      refine OR.pickF rfl (decide_eq_false (by omega : ¬ (sent : Int) < (x.g : Int))) rfl (WO.done (WX.seq (WC.no rfl rfl (WC.skip (WX.seq (WC.seq (WC.region ?_)))))))
      refine WO.step rfl (OR.move rfl (WO.step rfl (OR.move rfl (WO.step rfl (OR.nilCheck rfl (WO.step rfl (OR.fieldAddr FA163_0 rfl ?_)))))))
      refine WO.step rfl (OR.load T3 rfl rfl (hs.cellM (i := 1) rfl rfl) ?_)
      refine WO.step rfl (OR.call hs body202 rfl rfl (turn_ok sent x.g _ _ hs.toSub ⟨hn1, hn2⟩ hst) ?_)
      clear hs; rintro _ H w hs hle1 rfl; replace hle := hle.trans hle1; (try replace hlb := hlb.trans hle1)
      refine WO.step rfl (OR.move rfl (WO.step rfl (OR.extract rfl rfl (WO.step rfl (OR.extract rfl rfl (WO.step rfl (OR.assign rfl ?_)))))))
      refine WO.step rfl (OR.assign rfl (WO.done (WX.seq (WC.seq (WC.region (WO.step rfl (OR.move rfl ?_)))))))
      refine WO.step rfl (OR.move rfl (WO.step rfl (OR.nilCheck rfl (WO.step rfl (OR.fieldAddr FA163_0 rfl (WO.step rfl (OR.load T3 rfl rfl (hs.cellM (i := 1) rfl rfl) ?_)))))))
      refine WO.step rfl (OR.move rfl ?_)
      refine WO.step rfl (OR.call hs body203 rfl rfl (coefs_ok _ l x.g (sent % x.g) _ _ hs.toSub (hl.mono hle) ⟨hn1, hn2⟩ (Nat.mod_lt _ hn1)) ?_)
      clear hs; rintro _ H w hs hle1 ⟨r, rfl, hr⟩; replace hle := hle.trans hle1; (try replace hlb := hlb.trans hle1)
      rw [← hsc'] at hr
      refine WO.step rfl (OR.move rfl (WO.step rfl (OR.extract rfl rfl (WO.step rfl (OR.extract rfl rfl (WO.step rfl (OR.assign rfl ?_)))))))
      refine WO.step rfl (OR.assign rfl (WO.done (WX.seq (WC.seq (WC.region (WO.step rfl (OR.move rfl ?_)))))))
      refine WO.step rfl (OR.move rfl (WO.step rfl (OR.move rfl ?_)))
      refine WO.step rfl (OR.call hs body32 rfl rfl (srow_ok b gen _ (sendC x sent l) x (srcObj x.g x.s vs vc x.cl vch vop) _ _ hs.toSub (hs.blk (i := 1) rfl) (hs.mem b (srcObj x.g x.s vs vc x.cl vch vop) false (by simp)).2.1 (hx.mono hle) hok hr (by omega)) ?_)
      clear hs; rintro _ H w hs hle1 ⟨r2, rfl, hr2⟩; replace hle := hle.trans hle1; (try replace hlb := hlb.trans hle1)
      have e1 : rowE x gen (sendC x sent l) = 0 := by rw [rowE, if_pos hlt, if_pos hsc]
      rw [e1]
      obtain ⟨y1, y2, rfl, hy1, hy2⟩ := hr2
      obtain ⟨b4, c4, rfl⟩ := hy1.form
      obtain ⟨b5, c5, rfl⟩ := hy2.form
      refine WO.step rfl (OR.extract rfl rfl (WO.step rfl (OR.extract rfl rfl (WO.stepN (OR.storeAll hs T45 rfl rfl rfl rfl rfl ?_)))))
      clear hs; intro w hs
      refine WO.step rfl (OR.assign rfl (WO.done (WX.seq (WC.ret ?_))))
      refine WX.retCT T45 rfl rfl rfl rfl rfl (hs.blk (i := 0) rfl) ?_
      exact .mk (hs.drop 0) ⟨_, rfl, _, _, rfl, hy1, hy2⟩
  · have hE : thereE x gen = 23 := by rw [thereE, if_neg hlt]
    rw [hE]
    refine WO.step rfl (OR.assign rfl (WO.done (WX.seq (WC.seq (WC.region (WO.step rfl (OR.move rfl ?_)))))))
    refine WO.step rfl (OR.neq rfl rfl (WO.done (WX.seq ?_)))
    refine WC.yes rfl (decide_eq_true (by decide)) ?_
    refine WC.seq (WC.region (WO.step rfl (OR.buildZero T45 PL45 (WO.step rfl (OR.move rfl ?_)))))
    replace hs := hs.front (i := 1) rfl
    refine WO.stepN (OR.storeAll hs T45 rfl rfl rfl rfl rfl ?_)
    clear hs; intro w hs
    refine WO.step rfl (OR.assign rfl (WO.done (WX.seq (WC.ret (WX.seq_ret ?_)))))
    refine WX.retCT T45 rfl rfl rfl rfl rfl (hs.blk (i := 0) rfl) ?_
    have e2 : rowF x gen (sendC x sent l) = ([], []) := by rw [rowF, if_neg (by omega)]
    rw [e2]
    exact .mk ((hs.drop 0).drop 0) ⟨_, rfl, hz.mono hle⟩

end Go.Bw
