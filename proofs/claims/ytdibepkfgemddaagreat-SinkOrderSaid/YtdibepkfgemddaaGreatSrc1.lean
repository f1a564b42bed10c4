/- A source: what is small. -/
import Derived.Test.YtdibepkfgemddaaGreatBasis2
import Derived.Test.YtdibepkfgemddaaGreatOps3
import Derived.Test.YtdibepkfgemddaaGreatOps4
import Derived.Test.YtdibepkfgemddaaGreatSmall
import Derived.Test.YtdibepkfgemddaaGreatOps5
namespace Go.Bw
set_option linter.unusedVariables false
set_option linter.unusedSimpArgs false
open Go.Proofs

/-- A source in memory. -/
def srcObj (g s : Int) (vs vc : Value) (cl : Bool) (vch vop : Value) : Obj := .cells #[.int .i64 g, .int .i64 s, vs, vc, .bool cl, vch, vop] 163
structure SrcD where
  g : Nat
  s : Nat
  st : List UInt8
  cuts : List Int
  cl : Bool
  chunks : List (List UInt8)
  opn : List UInt8
def SrcIn (H : Hp) (x : SrcD) (o : Obj) : Prop := ∃ vs vc vch vop, o = srcObj x.g x.s vs vc x.cl vch vop ∧ Bytes H vs x.st ∧ Ints H vc x.cuts ∧ BytesL H vch x.chunks ∧ Bytes H vop x.opn
theorem SrcIn.mono {H H' : Hp} {x : SrcD} {o : Obj} (h : SrcIn H x o) (hle : Hp.le H H') : SrcIn H' x o := by
  obtain ⟨vs, vc, vch, vop, h1, h2, h3, h4, h5⟩ := h
  exact ⟨vs, vc, vch, vop, h1, h2.mono hle, h3.mono hle, h4.mono hle, h5.mono hle⟩

set_option maxRecDepth 20000 in
set_option maxHeartbeats 2000000 in
theorem cloneInts_ok (v : Value) (l : List Int) (H0 : Hp) (w0 : World) (h0 : Sub H0 w0) (hv : Ints H0 v l) (hl : l.length ≤ 1000000000000) :
    Calls Tryz.prog 97 #[v] w0 (Ret [] H0 w0 fun v H' M' => H' = H0 ∧ Own w0.heap.size 3 1 v l.length (l.map fun i => .int .i64 i) M') := by
  have hs := HS.init h0
  obtain ⟨base, cp, rfl⟩ := hv.form
  refine Calls.enter (args := [.slice base l.length cp]) Tryz.func97 rfl Tryz.ntmps97 rfl ?_
  refine WC.seq (WC.region (WO.step rfl (OR.assign rfl (WO.done (WX.seq (WC.seq (WC.seq ?_)))))))
  refine WC.region (WO.step rfl (OR.move rfl (WO.step rfl (OR.eqlNil T76.und rfl rfl (WO.done (WX.seq ?_))))))
  refine WC.cond rfl (fun hb => ?_) (fun hb => ?_)
  · refine WC.seq (WC.region (WO.step rfl (OR.assign rfl (WO.done (WX.seq (WC.ret (WX.seq_ret ?_)))))))
    refine WX.ret1 rfl rfl ?_
    have hb' : base = none := by cases base with | none => rfl | some a => cases hb
    subst hb'
    have h2 := Sl.src0 hv rfl
    refine ⟨_, H0, [], rfl, hs, by simp, rfl, ?_⟩
    have : l = [] := List.eq_nil_of_length_eq_zero h2
    subst this
    exact Own.nil _ _ _
  · refine WC.skip (WX.seq (WC.seq (WC.region ?_)))
    refine WO.step rfl (OR.buildSlice (vs := []) hs T76.und T3 rfl rfl rfl rfl (by simp) ?_)
    clear hs; intro g1 w hg1 hs
    refine WO.step rfl (OR.move rfl ?_)
    refine WO.step rfl (OR.append (n := 0) (cs := []) (news := l.map fun i => .int .i64 i) (Mo := [_]) (M := []) hs (Own.block (cap := 0) (by omega) rfl rfl hg1) T76.und T3 rfl (by omega) rfl rfl (by simp) (Sl.src hv hs) (Sl.src0 hv) (ints_one l) (by omega) (by omega) ?_)
    clear hs; intro v' w Mo hs ho hge
    refine WO.step rfl (OR.assign rfl (WO.done (WX.seq (WC.ret ?_))))
    refine WX.ret1 rfl rfl ?_
    rw [Nat.zero_add, List.nil_append] at ho
    refine ⟨_, H0, Mo, rfl, by simpa using hs, ?_, rfl, ho⟩
    rcases ho.2 with ⟨rfl, _⟩ | ⟨g, c, cap, rfl, _⟩ <;> simp
theorem cloneInts_pure (v : Value) (l : List Int) (H0 : Hp) (w0 : World) (h0 : Sub H0 w0) (hv : Ints H0 v l) (hl : l.length ≤ 1000000000000) :
    Calls Tryz.prog 97 #[v] w0 (Pure H0 w0 fun v H' => Ints H' v l) :=
  (cloneInts_ok v l H0 w0 h0 hv hl).mono fun _ _ h => own_pure h fun _ _ _ h => h

set_option maxRecDepth 20000 in
set_option maxHeartbeats 2000000 in
/-- The first error of some questions: what holds ahead of each, and at the end. -/
theorem first_ok (fs : List Value) (gb cap : Nat) (I : Nat → World → Prop) (Q : Int → World → Prop) (w0 : World) (h0 : I 0 w0) (hn : fs.length ≤ 1000)
    (hread : ∀ i w, I i w → ∀ h : i < fs.length, w.cell? ⟨gb, i, none⟩ = some fs[i])
    (hask : ∀ i (h : i < fs.length) w, I i w → ∃ f vf vc, fs[i] = .func (.func f) (List.toArray vf) (List.toArray vc) ∧ Body Tryz.prog f ∧ Calls Tryz.prog f (vf ++ [] ++ vc).toArray w (fun e w' => ∃ er : Int, e = .returned (.int .i64 er) ∧ ((er = 0 ∧ I (i + 1) w') ∨ (er ≠ 0 ∧ Q er w'))))
    (hend : ∀ w, I fs.length w → Q 0 w) :
    Calls Tryz.prog 83 #[.slice (some ⟨gb, 0, none⟩) fs.length cap] w0 (fun e w' => ∃ er : Int, e = .returned (.int .i64 er) ∧ Q er w') := by
  refine Calls.enter (args := [.slice (some ⟨gb, 0, none⟩) fs.length cap]) Tryz.func83 rfl Tryz.ntmps83 rfl ?_
  refine WC.seq (WC.region (WO.step rfl (OR.assign rfl (WO.done (WX.seq (WC.seq (WC.seq ?_)))))))
  refine WC.region (WO.step rfl (OR.move rfl (WO.step rfl (OR.lenSlice T215.und rfl (WO.step rfl (OR.move rfl (WO.done ?_)))))))
  refine WX.seq (WC.block ?_)
  refine WC.loop (ι := Nat) (fun i => [(6, .slice (some ⟨gb, 0, none⟩) fs.length cap), (7, .int .i64 (fs.length : Int)), (8, .int .i64 (i : Int))]) (fun i w => (i ≤ fs.length ∧ I i w)) (fun i => fs.length - i) 0 ⟨rfl, rfl, rfl,  trivial⟩ ?_ (fun i w hW => ?_)
  · exact ⟨by omega, h0⟩
  obtain ⟨hi, hI⟩ := hW
  refine WC.seq (WC.region (WO.step rfl (OR.lss rfl rfl (WO.done (WX.seq (WC.seq ?_))))))
  refine WC.condD rfl (fun hlt => ?_) (fun hlt => ?_)
  · have hi' : i < fs.length := by omega
    have hc := hread i w hI hi'
    obtain ⟨f, vf, vc, hf, hbf, hcall⟩ := hask i hi' w hI
    rw [hf] at hc
    refine WC.skip (WX.seq (WC.seq (WC.block (WC.seq (WC.region ?_)))))
    refine WO.step rfl (OR.idx i T215.und T70 rfl rfl rfl hi' ?_)
    refine WO.step rfl (OR.load T70 rfl rfl (by rw [Nat.zero_add]; exact hc) ?_)
    refine WO.step rfl (OR.assign rfl (WO.done (WX.seq (WC.seq (WC.region (WO.step rfl (OR.move rfl ?_)))))))
    refine WO.step rfl (OR.callW hbf rfl rfl hcall ?_)
    rintro e w' ⟨er, rfl, hcase⟩
    refine ⟨_, rfl, ?_⟩
    refine WO.step rfl (OR.assign rfl (WO.done (WX.seq (WC.seq (WC.region (WO.step rfl (OR.move rfl ?_)))))))
    refine WO.step rfl (OR.neq rfl rfl (WO.done (WX.seq ?_)))
    refine WC.condD rfl (fun hne => ?_) (fun hne => ?_)
    · refine WC.seq (WC.region (WO.step rfl (OR.move rfl (WO.step rfl (OR.assign rfl (WO.done (WX.seq ?_)))))))
      refine WC.ret (WX.block_ret (WX.seq_ret (WX.loop_ret (WX.block_ret (WX.seq_ret ?_)))))
      refine WX.ret1 rfl rfl ?_
      rcases hcase with ⟨h, _⟩ | ⟨_, h⟩
      · exact absurd h hne
      · exact ⟨er, rfl, h⟩
    · refine WC.skip (WX.block (WX.seq (WC.region (WO.step rfl (OR.addI rfl rfl (by omega) (by omega) (WO.step rfl (OR.move rfl ?_)))))))
      refine WO.done ?_
      refine WX.again (i + 1) ⟨rfl, rfl, rfl,  trivial⟩ ?_ ?_
      · refine ⟨hi', ?_⟩
        rcases hcase with ⟨_, h⟩ | ⟨h, _⟩
        · exact h
        · exact absurd h hne
      · omega
  · have e : i = fs.length := by omega
    subst e
    refine WC.exit (WX.seq_exit (WX.loop_exit (WX.block_hit (WX.seq (WC.seq (WC.region (WO.step rfl ?_)))))))
    refine OR.assign rfl (WO.done (WX.seq (WC.ret ?_)))
    refine WX.ret1 rfl rfl ?_
    exact ⟨0, rfl, hend w hI⟩

section
variable (b g s : Nat) (vs vc vch vop : Value) (cl : Bool) (H0 : Hp) (w0 : World)
set_option maxRecDepth 20000 in
set_option maxHeartbeats 2000000 in
theorem smade_nil (h0 : Sub H0 w0) : Calls Tryz.prog 84 #[.pointer none] w0 (Pure H0 w0 fun v _ => v = .int .i64 2) := by
  have hs := HS.init h0
  refine Calls.enter (args := [.pointer none]) Tryz.func84 rfl Tryz.ntmps84 rfl ?_
  refine WC.seq (WC.region (WO.step rfl (OR.assign rfl (WO.done (WX.seq (WC.seq (WC.seq ?_)))))))
  refine WC.region (WO.step rfl (OR.move rfl (WO.step rfl (OR.eqlNilP T66.und rfl rfl (WO.step rfl (OR.move rfl ?_))))))
  refine WO.guardNo rfl rfl rfl rfl (WO.guardNo rfl rfl rfl rfl (WO.guardNo rfl rfl rfl rfl (WO.guardNo rfl rfl rfl rfl (WO.guardNo rfl rfl rfl rfl (WO.step rfl (OR.pickT rfl rfl rfl (WO.done ?_)))))))
  refine WX.seq (WC.yes rfl rfl (WC.seq (WC.region (WO.step rfl (OR.assign rfl (WO.done (WX.seq ?_)))))))
  refine WC.ret (WX.seq_ret ?_)
  refine WX.ret1 rfl rfl ?_
  exact .mk hs rfl
set_option maxRecDepth 20000 in
set_option maxHeartbeats 2000000 in
theorem smade_ok (h0 : Sub H0 w0) (hb : w0.heap[b]? = some (srcObj g s vs vc cl vch vop)) (hn : H0 b = none) (hg : 0 < g) : Calls Tryz.prog 84 #[ptr b] w0 (Pure H0 w0 fun v _ => v = .int .i64 0) := by
  have hs := HS.startR h0 hb hn
  refine Calls.enter (args := [ptr b]) Tryz.func84 rfl Tryz.ntmps84 rfl ?_
  refine WC.seq (WC.region (WO.step rfl (OR.assign rfl (WO.done (WX.seq (WC.seq (WC.seq ?_)))))))
  refine WC.region (WO.step rfl (OR.move rfl (WO.step rfl (OR.eqlNilP T66.und rfl rfl (WO.step rfl (OR.move rfl (WO.guardYes rfl rfl rfl rfl ?_)))))))
  refine OR.move rfl (WO.guardYes rfl rfl rfl rfl (OR.nilCheck rfl (WO.guardYes rfl rfl rfl rfl (OR.fieldAddr FA163_0 rfl (WO.guardYes rfl rfl rfl rfl (OR.load T3 rfl rfl (hs.cellM (i := 0) rfl rfl) (WO.guardYes rfl rfl rfl rfl ?_)))))))
  refine OR.eql rfl rfl (WO.step rfl (OR.pickF rfl rfl rfl (WO.done (WX.seq ?_))))
  refine WC.no rfl (decide_eq_false (by omega)) ?_
  refine WC.skip (WX.seq (WC.seq (WC.region (WO.step rfl (OR.assign rfl (WO.done (WX.seq ?_)))))))
  refine WC.ret ?_
  refine WX.ret1 rfl rfl ?_
  exact .mk hs rfl
set_option maxRecDepth 20000 in
set_option maxHeartbeats 2000000 in
theorem sfree_ok (h0 : Sub H0 w0) (hb : w0.heap[b]? = some (srcObj g s vs vc cl vch vop)) (hn : H0 b = none) : Calls Tryz.prog 85 #[ptr b] w0 (Pure H0 w0 fun v _ => v = .int .i64 (if cl = true then 27 else 0)) := by
  have hs := HS.startR h0 hb hn
  refine Calls.enter (args := [ptr b]) Tryz.func85 rfl Tryz.ntmps85 rfl ?_
  refine WC.seq (WC.region (WO.step rfl (OR.assign rfl (WO.done (WX.seq (WC.seq (WC.seq ?_)))))))
  refine WC.region (WO.step rfl (OR.move rfl (WO.step rfl (OR.nilCheck rfl (WO.step rfl (OR.fieldAddr FA163_4 rfl (WO.step rfl ?_)))))))
  refine OR.load T4 rfl rfl (hs.cellM (i := 0) rfl rfl) (WO.done (WX.seq ?_))
  refine WC.cond rfl (fun hc => ?_) (fun hc => ?_)
  · refine WC.seq (WC.region (WO.step rfl (OR.assign rfl (WO.done (WX.seq (WC.ret (WX.seq_ret ?_)))))))
    refine WX.ret1 rfl rfl ?_
    exact .mk hs (by rw [if_pos hc])
  · refine WC.skip (WX.seq (WC.seq (WC.region (WO.step rfl (OR.assign rfl (WO.done (WX.seq ?_)))))))
    refine WC.ret ?_
    refine WX.ret1 rfl rfl ?_
    exact .mk hs (by rw [if_neg (by rw [hc]; decide)])
set_option maxRecDepth 20000 in
set_option maxHeartbeats 2000000 in
theorem sclosed_nil (h0 : Sub H0 w0) : Calls Tryz.prog 114 #[.pointer none] w0 (Pure H0 w0 fun v _ => v = .bool false) := by
  have hs := HS.init h0
  refine Calls.enter (args := [.pointer none]) Tryz.func114 rfl Tryz.ntmps114 rfl ?_
  refine WC.seq (WC.region (WO.step rfl (OR.assign rfl (WO.done (WX.seq (WC.seq (WC.region ?_)))))))
  refine WO.step rfl (OR.move rfl (WO.step rfl (OR.neqNilP T66.und rfl rfl (WO.step rfl (OR.move rfl ?_)))))
  refine WO.guardNo rfl rfl rfl rfl (WO.guardNo rfl rfl rfl rfl (WO.guardNo rfl rfl rfl rfl (WO.guardNo rfl rfl rfl rfl (WO.step rfl (OR.pickF rfl rfl rfl (WO.step rfl (OR.assign rfl ?_)))))))
  refine WO.done (WX.seq (WC.ret ?_))
  refine WX.ret1 rfl rfl ?_
  exact .mk hs rfl
set_option maxRecDepth 20000 in
set_option maxHeartbeats 2000000 in
theorem sclosed_ok (h0 : Sub H0 w0) (hb : w0.heap[b]? = some (srcObj g s vs vc cl vch vop)) (hn : H0 b = none) : Calls Tryz.prog 114 #[ptr b] w0 (Pure H0 w0 fun v _ => v = .bool cl) := by
  have hs := HS.startR h0 hb hn
  refine Calls.enter (args := [ptr b]) Tryz.func114 rfl Tryz.ntmps114 rfl ?_
  refine WC.seq (WC.region (WO.step rfl (OR.assign rfl (WO.done (WX.seq (WC.seq (WC.region ?_)))))))
  refine WO.step rfl (OR.move rfl (WO.step rfl (OR.neqNilP T66.und rfl rfl (WO.step rfl (OR.move rfl (WO.guardYes rfl rfl rfl rfl (OR.move rfl ?_)))))))
  refine WO.guardYes rfl rfl rfl rfl (OR.nilCheck rfl (WO.guardYes rfl rfl rfl rfl (OR.fieldAddr FA163_4 rfl (WO.guardYes rfl rfl rfl rfl (OR.load T4 rfl rfl (hs.cellM (i := 0) rfl rfl) (WO.step rfl (OR.pickT rfl rfl rfl ?_)))))))
  refine WO.step rfl (OR.assign rfl (WO.done (WX.seq (WC.ret ?_))))
  refine WX.ret1 rfl rfl ?_
  exact .mk hs rfl
end


set_option maxRecDepth 20000 in
set_option maxHeartbeats 2000000 in
theorem gens_nil (H0 : Hp) (w0 : World) (h0 : Sub H0 w0) : Calls Tryz.prog 31 #[.pointer none] w0 (Pure H0 w0 fun v _ => v = .int .u64 0) := by
  have hs := HS.init h0
  refine Calls.enter (args := [.pointer none]) Tryz.func31 rfl Tryz.ntmps31 rfl ?_
  refine WC.seq (WC.region (WO.step rfl (OR.assign rfl (WO.done (WX.seq (WC.seq (WC.seq ?_)))))))
  refine WC.region (WO.step rfl (OR.move rfl (WO.step rfl (OR.eqlNilP T66.und rfl rfl (WO.done (WX.seq ?_))))))
  refine WC.yes rfl rfl ?_
  refine WC.seq (WC.region (WO.step rfl (OR.assign rfl (WO.done (WX.seq (WC.ret (WX.seq_ret ?_)))))))
  refine WX.ret1 rfl rfl ?_
  exact .mk hs rfl
set_option maxRecDepth 20000 in
set_option maxHeartbeats 2000000 in
theorem gens_ok (b : Nat) (x : SrcD) (o : Obj) (H0 : Hp) (w0 : World) (h0 : Sub H0 w0) (hb : w0.heap[b]? = some o) (hn : H0 b = none) (hx : SrcIn H0 x o) (hl : x.chunks.length < 9223372036854775807) :
    Calls Tryz.prog 31 #[ptr b] w0 (Pure H0 w0 fun v _ => v = .int .u64 (x.chunks.length : Int)) := by
  obtain ⟨vs, vc, vch, vop, rfl, h1, h2, h3, h4⟩ := hx
  have hs := HS.startR h0 hb hn
  obtain ⟨b1, c1, rfl⟩ := h3.form
  refine Calls.enter (args := [ptr b]) Tryz.func31 rfl Tryz.ntmps31 rfl ?_
  refine WC.seq (WC.region (WO.step rfl (OR.assign rfl (WO.done (WX.seq (WC.seq (WC.seq ?_)))))))
  refine WC.region (WO.step rfl (OR.move rfl (WO.step rfl (OR.eqlNilP T66.und rfl rfl (WO.done (WX.seq (WC.no rfl rfl ?_)))))))
  refine WC.skip (WX.seq (WC.seq (WC.region (WO.step rfl (OR.move rfl (WO.step rfl (OR.nilCheck rfl ?_)))))))
  refine WO.step rfl (OR.fieldAddr FA163_5 rfl (WO.step rfl (OR.load T40 rfl rfl (hs.cellM (i := 0) rfl rfl) (WO.step rfl (OR.lenSlice T40.und rfl ?_)))))
  refine WO.step rfl (OR.convI T3.und T22.und rfl ?_)
  rw [u64_wrap _ (by omega)]
  refine WO.step rfl (OR.assign rfl (WO.done (WX.seq (WC.ret ?_))))
  refine WX.ret1 rfl rfl ?_
  exact .mk hs rfl
-- left out, for this seat has no (*braidwork/source.Source).Stream: theorem stream_nil (H0
-- left out, for this seat has no (*braidwork/source.Source).Stream: theorem stream_ok (b
-- left out, for this seat has no (*braidwork/source.Source).Cuts: theorem cuts_nil (H0
-- left out, for this seat has no (*braidwork/source.Source).Cuts: theorem cuts_ok (b
end Go.Bw
namespace Go.Bw
set_option linter.unusedVariables false
set_option linter.unusedSimpArgs false
open Go.Proofs

/-- n whole pieces from a place on. -/
def wholeL (room : Nat) (st : List UInt8) (a n : Nat) : List (List UInt8) := (List.range n).map fun k => (st.drop (a + k * room)).take room
theorem wholeL_succ (room : Nat) (st : List UInt8) (a n : Nat) : wholeL room st a (n + 1) = wholeL room st a n ++ [(st.drop (a + n * room)).take room] := by
  simp [wholeL, List.range_succ]
def cutPiece (st : List UInt8) (a cut : Nat) : List (List UInt8) := if a < cut then [(st.drop a).take (cut - a)] else []
/-- What a cut makes of the pieces, and of the place. -/
def chunkStep (room : Nat) (st : List UInt8) (p : List (List UInt8) × Nat) (cut : Int) : List (List UInt8) × Nat :=
  (p.1 ++ wholeL room st p.2 ((cut.toNat - p.2) / room) ++ cutPiece st (p.2 + (cut.toNat - p.2) / room * room) cut.toNat, cut.toNat)
def cutsOk (n : Nat) : Int → List Int → Bool
  | _, [] => true
  | last, c :: cs => decide (last ≤ c) && decide (c ≤ (n : Int)) && cutsOk n c cs
def chunkP (room : Nat) (st : List UInt8) (cuts : List Int) : List (List UInt8) × Nat := cuts.foldl (chunkStep room st) ([], 0)
def chunksF (room : Nat) (st : List UInt8) (cuts : List Int) : List (List UInt8) :=
  (chunkP room st cuts).1 ++ wholeL room st (chunkP room st cuts).2 ((st.length - (chunkP room st cuts).2) / room)
def openF (room : Nat) (st : List UInt8) (cuts : List Int) : List UInt8 :=
  st.drop ((chunkP room st cuts).2 + (st.length - (chunkP room st cuts).2) / room * room)

set_option maxRecDepth 20000 in
set_option maxHeartbeats 2000000 in
theorem hand_ok (gout gst gat : Nat) (ov sv : Value) (cl : List Value) (chs : List (List UInt8)) (st : List UInt8) (a to : Nat) (Mo : Mem) (N : Nat) (H0 : Hp) (w0 : World)
    (hs : HS (gout :: gat :: Mem.keys Mo) H0 w0 H0 ((gout, .cells #[ov] 40, true) :: (gat, .cells #[.int .i64 (a : Int)] 3, true) :: (gst, .cells #[sv] 43, false) :: Mo) w0)
    (hst : Bytes H0 sv st) (ho : Own N 43 1 ov chs.length cl Mo) (hN : N ≤ w0.heap.size) (hok : BLOk H0 cl chs) (hat : a ≤ to) (hto : to ≤ st.length) (hlen : st.length ≤ 1000000000000) (hchs : chs.length ≤ 1000000000000) :
    Calls Tryz.prog 137 #[.int .i64 (to : Int), ptr gout, ptr gst, ptr gat] w0 (Ret (gout :: gat :: Mem.keys Mo) H0 w0 fun v H' M' => v = .tuple #[] ∧ ∃ Mo' ov' cl',
      M' = (gout, .cells #[ov'] 40, true) :: (gat, .cells #[.int .i64 (to : Int)] 3, true) :: Mo' ∧ Own N 43 1 ov' (chs.length + 1) cl' Mo' ∧ BLOk H' cl' (chs ++ [(st.drop a).take (to - a)])) := by
  have hle := Hp.le.refl H0
  obtain ⟨b1, c1, rfl⟩ := hst.form
  obtain ⟨b2, c2, rfl⟩ := ho.form
  have hcap := hst.cap_le
  refine Calls.enter (args := [.int .i64 (to : Int), ptr gout, ptr gst, ptr gat]) Tryz.func137 rfl Tryz.ntmps137 rfl ?_
  have hpart := hst.part a to hat hto
  refine WC.seq ?_
  refine WC.draw 7 mixed hs (by kernel_rfl) ?_
  refine ⟨MF.eq _, by intro Mx H w hle hs; refine forVals_nil (ORg.plain (OR.load T40 rfl rfl (hs.right.cellM (i := 0) rfl rfl) ?_)); exact ⟨_, [], Hp.le.refl _, hs, rfl, rfl⟩, ?_⟩
  refine ⟨MF.eq _, by intro Mx H w hle hs; refine forVals_nil (ORg.plain (OR.load T43 rfl rfl (hs.right.cellM (i := 2) rfl rfl) ?_)); exact ⟨_, [], Hp.le.refl _, hs, rfl, rfl⟩, ?_⟩
  refine ⟨MF.eq _, by intro Mx H w hle hs; refine forVals_nil (ORg.plain (OR.load T3 rfl rfl (hs.right.cellM (i := 1) rfl rfl) ?_)); exact ⟨_, [], Hp.le.refl _, hs, rfl, rfl⟩, ?_⟩
  refine ⟨MF.eq _, by intro Mx H w hle hs; refine forVals_nil (ORg.plain (OR.move rfl ?_)); exact ⟨_, [], Hp.le.refl _, hs, rfl, rfl⟩, ?_⟩
  refine ⟨MF.eq (.slice (if c1 = a then b1 else b1.map (·.add (a * 1))) (to - a) (c1 - a)), ?_, ?_⟩
  · intro Mx H w hle2 hs; (try replace hle := hle.trans hle2); (try replace hlb := hlb.trans hle2); refine forVals_eq rfl rfl rfl ?_; refine forVals_eq rfl rfl rfl ?_; refine forVals_eq rfl rfl rfl ?_
    refine forVals_nil (ORg.plain (OR.slice2G a to T43.und T5 rfl rfl rfl rfl rfl hat (by omega) ?_))
    exact ⟨_, [], Hp.le.refl _, hs, rfl, rfl⟩
  refine ⟨MF.bytes ((st.drop a).take (to - a)), ?_, ?_⟩
  · intro Mx H w hle2 hs; (try replace hle := hle.trans hle2); (try replace hlb := hlb.trans hle2); refine forVals_eq rfl rfl rfl ?_
    refine forVals_nil (ORg.plain (OR.call hs body87 rfl rfl (clone_pure _ _ _ _ hs.toSub (hpart.mono hle) (by simp; omega)) ?_))
    clear hs; rintro _ H w hs hle1 hb
    exact ⟨_, [], hle1, hs, hb, rfl⟩
  refine ⟨MF.bytesL [(st.drop a).take (to - a)], ?_, ?_⟩
  · intro Mx H w hle2 hs; (try replace hle := hle.trans hle2); (try replace hlb := hlb.trans hle2); refine forVals_of rfl rfl rfl ?_; intro v5 h5
    obtain ⟨b5, c5, rfl⟩ := h5.form
    refine forVals_nil (ORg.plain (OR.buildSlice (vs := [_]) hs T40.und T43 rfl rfl rfl rfl (by simp) ?_))
    intro gn w hgn hs
    obtain ⟨H, hle1, hp, hs⟩ := hs.pub1 hgn
    exact ⟨_, [], hle1, hs, (BytesL.single (Sl.block hp rfl rfl (by simp)) (h5.mono hle1)), rfl⟩
  intro H w hle2; (try replace hle := hle.trans hle2); (try replace hlb := hlb.trans hle2)
  refine forAllVals_eq rfl ?_
  refine forAllVals_eq rfl ?_
  refine forAllVals_eq rfl ?_
  refine forAllVals_eq rfl ?_
  refine forAllVals_eq rfl ?_
  refine forAllVals_of rfl ?_; intro v5 h5
  refine forAllVals_of rfl ?_; intro v6 h6
  refine forAllVals_nil ?_; (try clear hs); intro hs
  obtain ⟨cs6, hsl6, hl6, hb6⟩ := h6
  obtain ⟨b6, c6, q6⟩ := hsl6.form
  subst q6
  have hone6 : cs6.all (·.oneCell') = true := by
    rw [List.all_eq_true]
    intro u hu
    obtain ⟨i, hi, rfl⟩ := List.mem_iff_getElem.1 hu
    obtain ⟨b7, c7, e7⟩ := (hb6 i (by omega) hi).form
    rw [e7]; rfl
  replace hs := hs.perm (List.perm_append_comm (l₁ := Mo) (l₂ := [_, _, _]))
  refine WO.step rfl (OR.appendN (m := 1) (news := cs6) hN hs ho T40.und T43 rfl (by omega) rfl rfl (by simpa using hl6) (Sl.src hsl6 hs) (Sl.src0 hsl6) hone6 (by omega) (by omega) ?_)
  clear hs ho; intro vo' w Mo' hs ho hge
  replace hs := hs.perm (List.perm_append_comm (l₁ := [_, _, _]) (l₂ := Mo'))
  obtain ⟨b8, c8, rfl⟩ := ho.form
  refine WO.stepN (OR.storeAll hs T40 rfl rfl rfl rfl rfl ?_)
  clear hs; intro w hs
  refine WO.done (WX.seq (WC.region (WO.step rfl (OR.move rfl ?_))))
  replace hs := hs.front (i := 1) rfl
  refine WO.stepN (OR.storeAll hs T3 rfl rfl rfl rfl rfl ?_)
  clear hs; intro w hs
  refine WO.done ?_
  replace hs := hs.front (i := 1) rfl
  replace hs := hs.drop 2
  refine WX.end0 rfl ?_
  refine ⟨_, _, _, rfl, hs, ?_, rfl, Mo', _, cl ++ cs6, rfl, ho, ?_⟩
  · intro p hp
    rcases List.mem_cons.1 hp with rfl | hp
    · rfl
    · rcases List.mem_cons.1 hp with rfl | hp
      · rfl
      · exact ho.tt p hp
  · have h9 := hok.mono hle
    refine ⟨by simp [h9.1, hl6], fun i h1 h2 => ?_⟩
    have e1 := h9.1
    by_cases e : i < chs.length
    · simp only [List.getElem_append_left e, List.getElem_append_left (show i < cl.length by omega)]
      exact h9.2 i e (by omega)
    · simp only [List.length_append] at h1 h2
      simp only [List.getElem_append_right (show chs.length ≤ i by omega), List.getElem_append_right (show cl.length ≤ i by omega), e1]
      exact hb6 (i - chs.length) (by simp at h1 ⊢; omega) (by omega)


/-- The value of hand. -/
abbrev handV (gout gst gat : Nat) : Value := .func (.func 137) #[] #[ptr gout, ptr gst, ptr gat]
set_option maxRecDepth 20000 in
set_option maxHeartbeats 2000000 in
theorem whole_ok (gout gst gat groom ghand : Nat) (room : Nat) (ov sv : Value) (cl : List Value) (chs : List (List UInt8)) (st : List UInt8) (a to : Nat) (Mo : Mem) (N : Nat) (H0 : Hp) (w0 : World)
    (hs : HS (gout :: gat :: Mem.keys Mo) H0 w0 H0 ((gout, .cells #[ov] 40, true) :: (gat, .cells #[.int .i64 (a : Int)] 3, true) :: (gst, .cells #[sv] 43, false) ::
      (groom, .cells #[.int .i64 (room : Int)] 3, false) :: (ghand, .cells #[handV gout gst gat] 216, false) :: Mo) w0)
    (hst : Bytes H0 sv st) (ho : Own N 43 1 ov chs.length cl Mo) (hN : N ≤ w0.heap.size) (hok : BLOk H0 cl chs) (hat : a ≤ to) (hto : to ≤ st.length) (hlen : st.length ≤ 100000000000) (hchs : chs.length ≤ 100000000000) (hroom : 1 ≤ room) (hroom2 : room ≤ 100000000000) :
    Calls Tryz.prog 138 #[.int .i64 (to : Int), ptr gat, ptr groom, ptr ghand] w0 (Ret (gout :: gat :: Mem.keys Mo) H0 w0 fun v H' M' => v = .tuple #[] ∧ ∃ Mo' ov' cl',
      M' = (gout, .cells #[ov'] 40, true) :: (gat, .cells #[.int .i64 ((a + (to - a) / room * room : Nat) : Int)] 3, true) :: Mo' ∧ Own N 43 1 ov' (chs.length + (to - a) / room) cl' Mo' ∧
      BLOk H' cl' (chs ++ wholeL room st a ((to - a) / room))) := by
  have hle := Hp.le.refl H0
  obtain ⟨n, hn⟩ : ∃ n, n = (to - a) / room := ⟨_, rfl⟩
  rw [← hn]
  have hnl : n * room ≤ to - a := by rw [hn]; exact Nat.div_mul_le_self _ _
  have hn1 : ∀ k, (k + 1) * room ≤ to - a → k + 1 ≤ n := fun k h => by rw [hn]; exact (Nat.le_div_iff_mul_le hroom).2 h
  have hn2 : ∀ k, k + 1 ≤ n → (k + 1) * room ≤ to - a := fun k h => Nat.le_trans (Nat.mul_le_mul_right room h) hnl
  have hnto : n ≤ to - a := Nat.le_trans (Nat.le_mul_of_pos_right n hroom) hnl
  clear hn
  refine Calls.enter (args := [.int .i64 (to : Int), ptr gat, ptr groom, ptr ghand]) Tryz.func138 rfl Tryz.ntmps138 rfl ?_
  refine WC.block ?_
  refine WC.loop (ι := Nat) (fun k => [(0, .int .i64 (to : Int)), (1, ptr gat), (2, ptr groom), (3, ptr ghand)]) (fun k w => (k ≤ n ∧ ∃ H Mo' ov' cl', Hp.le H0 H ∧ Own N 43 1 ov' (chs.length + k) cl' Mo' ∧ BLOk H cl' (chs ++ wholeL room st a k) ∧ HS (gout :: gat :: Mem.keys Mo) H0 w0 H ((gout, .cells #[ov'] 40, true) :: (gat, .cells #[.int .i64 ((a + k * room : Nat) : Int)] 3, true) :: (gst, .cells #[sv] 43, false) :: (groom, .cells #[.int .i64 (room : Int)] 3, false) :: (ghand, .cells #[handV gout gst gat] 216, false) :: Mo') w)) (fun k => n - k) 0 ⟨rfl, rfl, rfl, rfl,  trivial⟩ ?_ (fun k w hW => ?_)
  · exact ⟨by omega, H0, Mo, ov, cl, hle, ho, by simpa [wholeL] using hok, by simpa using hs⟩
  clear hs hle ho hok
  obtain ⟨hk, H, Mo1, ov1, cl1, hle, ho, hok, hs⟩ := hW
  have hkr : k * room ≤ to - a := Nat.le_trans (Nat.mul_le_mul_right room hk) hnl
  have hk1 : (k + 1) * room = k * room + room := Nat.succ_mul k room
  refine WC.seq (WC.seq (WC.region (WO.step rfl (OR.move rfl (WO.step rfl (OR.load T3 rfl rfl (hs.cellM (i := 1) rfl rfl) (WO.step rfl ?_)))))))
  refine OR.subI rfl rfl (by omega) (by omega) (WO.step rfl (OR.load T3 rfl rfl (hs.cellM (i := 3) rfl rfl) (WO.step rfl (OR.geq rfl rfl (WO.done (WX.seq ?_))))))
  refine WC.condD rfl (fun hge => ?_) (fun hge => ?_)
  · have hk2 := hn1 k (by omega)
    have hwl : (chs ++ wholeL room st a k).length = chs.length + k := by simp [wholeL]
    refine WC.skip (WX.seq (WC.block (WC.region (WO.step rfl (OR.load T216 rfl rfl (hs.cellM (i := 4) rfl rfl) (WO.step rfl (OR.load T3 rfl rfl (hs.cellM (i := 1) rfl rfl) ?_)))))))
    refine WO.step rfl (OR.load T3 rfl rfl (hs.cellM (i := 3) rfl rfl) (WO.step rfl (OR.addI rfl rfl (by omega) (by omega) ?_)))
    have hs2 := ((hs.drop 3).drop 3).beginR (Mr := [_, _, _]) (Mo := Mo1) [true, true, false]
    replace hs := hs.perm (((((List.perm_append_comm (l₁ := Mo1) (l₂ := [_, _, _])).cons _).cons _)) : List.Perm (_ :: _ :: (Mo1 ++ [_, _, _])) _)
    refine WO.step rfl (OR.callX (Mx := _ :: _ :: Mo1) (Mr := [_, _, _]) hs body137 rfl rfl (hand_ok gout gst gat ov1 sv cl1 (chs ++ wholeL room st a k) st (a + k * room) (a + k * room + room) Mo1 N H _ hs2 (hst.mono hle) (by rw [hwl]; exact ho) (Nat.le_trans hN hs.size) hok (by omega) (by omega) (by omega) (by rw [hwl]; omega)) rfl (by simpa using ho.tt) ?_)
    clear hs hs2 ho hok; rintro v H2 M2 w hs hle1 hnew ⟨rfl, Mo2, ov2, cl2, rfl, ho, hok⟩
    replace hle := hle.trans hle1
    replace hs := hs.perm (((((List.perm_append_comm (l₁ := [_, _, _]) (l₂ := Mo2)).cons _).cons _)) : List.Perm (_ :: _ :: ([_, _, _] ++ Mo2)) _)
    rw [hwl] at ho
    have e9 : a + k * room + room - (a + k * room) = room := by omega
    rw [e9, List.append_assoc, ← wholeL_succ] at hok
    refine WO.done (WX.block ?_)
    refine WX.again (k + 1) ⟨rfl, rfl, rfl, rfl,  trivial⟩ ?_ ?_
    · refine ⟨hk2, H2, Mo2, ov2, cl2, hle, ho, hok, ?_⟩
      have e8 : a + (k + 1) * room = a + k * room + room := by omega
      rw [e8]
      exact hs
    · omega
  · have e : k = n := by
      rcases Nat.lt_or_ge k n with h | h
      · have := hn2 k h; omega
      · omega
    subst e
    refine WC.exit (WX.seq_exit (WX.loop_exit (WX.block_hit ?_)))
    replace hs := ((hs.drop 2).drop 2).drop 2
    refine WX.end0 rfl ?_
    refine ⟨_, _, _, rfl, hs, ?_, rfl, Mo1, ov1, cl1, rfl, ho, hok⟩
    intro p hp
    rcases List.mem_cons.1 hp with rfl | hp
    · rfl
    · rcases List.mem_cons.1 hp with rfl | hp
      · rfl
      · exact ho.tt p hp


set_option maxRecDepth 20000 in
set_option maxHeartbeats 2000000 in
theorem chunks_bad (g s : Int) (v1 v2 : Value) (H0 : Hp) (w0 : World) (h0 : Sub H0 w0) (hgs : ¬ (1 ≤ g ∧ g ≤ 255 ∧ 1 ≤ s ∧ s ≤ 65535 ∧ 4 < g * s)) (h1 : v1.oneCell' = true) :
    Calls Tryz.prog 88 #[v1, v2, .int .i64 g, .int .i64 s] w0 (Pure H0 w0 fun v _ => v = .tuple #[.slice none 0 0, .slice none 0 0, .int .i64 1]) := by
  have hs := HS.init h0
  have hle := Hp.le.refl H0
  refine Calls.enter (args := [v1, v2, .int .i64 g, .int .i64 s]) Tryz.func88 rfl Tryz.ntmps88 rfl ?_
  refine WC.seq (WC.region (WO.step rfl (OR.box hs rfl ?_)))
  clear hs; intro g1 w hg1 hs
  refine WO.step rfl (OR.assign rfl (WO.step rfl (OR.assign rfl (WO.step rfl (OR.assign rfl (WO.done (WX.seq ?_)))))))
  refine WC.seq (WC.region (WO.step rfl (OR.move rfl (WO.step rfl (OR.move rfl ?_)))))
  refine WO.step rfl (OR.call hs body62 rfl rfl (room_ok g s _ _ hs.toSub) ?_)
  clear hs; rintro _ H w hs hle1 rfl; replace hle := hle.trans hle1; (try replace hlb := hlb.trans hle1)
  rw [if_neg hgs]
  refine WO.step rfl (OR.move rfl (WO.step rfl (OR.extract rfl rfl (WO.step rfl (OR.extract rfl rfl (WO.step rfl (OR.alloc hs T3 ?_)))))))
  clear hs; intro g2 w hg2 hs
  refine WO.stepN (OR.storeAll hs T3 rfl rfl rfl rfl rfl ?_)
  clear hs; intro w hs
  refine WO.step rfl (OR.assign rfl (WO.done (WX.seq (WC.seq (WC.seq (WC.region (WO.step rfl ?_)))))))
  refine OR.move rfl (WO.step rfl (OR.neq rfl rfl (WO.done (WX.seq ?_))))
  refine WC.yes rfl (decide_eq_true (by omega)) ?_
  refine WC.seq (WC.region (WO.step rfl (OR.move rfl (WO.step rfl (OR.assign rfl (WO.step rfl (OR.assign rfl ?_)))))))
  refine WO.step rfl (OR.assign rfl (WO.done (WX.seq (WC.ret (WX.seq_ret ?_)))))
  refine WX.ret3 rfl rfl rfl rfl ?_
  exact .mk hs rfl

theorem chunkStep_len {room : Nat} {st : List UInt8} {p : List (List UInt8) × Nat} {cut : Int} (h : p.1.length ≤ p.2) (hc : p.2 ≤ cut.toNat) (hr : 1 ≤ room) : (chunkStep room st p cut).1.length ≤ (chunkStep room st p cut).2 := by
  simp only [chunkStep, List.length_append]
  have h1 : (wholeL room st p.2 ((cut.toNat - p.2) / room)).length = (cut.toNat - p.2) / room := by simp [wholeL]
  rw [h1]
  have h2 : (cut.toNat - p.2) / room ≤ (cut.toNat - p.2) / room * room := Nat.le_mul_of_pos_right _ hr
  have h3 : (cut.toNat - p.2) / room * room ≤ cut.toNat - p.2 := Nat.div_mul_le_self _ _
  unfold cutPiece
  split
  · simp only [List.length_singleton]; omega
  · simp only [List.length_nil]; omega
theorem chunkP_succ (room : Nat) (st : List UInt8) (cuts : List Int) (k : Nat) (h : k < cuts.length) : chunkP room st (cuts.take (k + 1)) = chunkStep room st (chunkP room st (cuts.take k)) cuts[k] := by
  unfold chunkP
  rw [List.take_succ_eq_append_getElem h, List.foldl_append]
  rfl

set_option maxRecDepth 20000 in
set_option maxHeartbeats 2000000 in
theorem chunks_ok (g s : Nat) (vs vc : Value) (st : List UInt8) (cuts : List Int) (H0 : Hp) (w0 : World) (h0 : Sub H0 w0) (hgs : 1 ≤ g ∧ g ≤ 255 ∧ 1 ≤ s ∧ s ≤ 65535 ∧ 4 < g * s) (hst : Bytes H0 vs st) (hcu : Ints H0 vc cuts)
    (hlen : st.length ≤ 10000000000) (hcl : cuts.length ≤ 10000000000) :
    Calls Tryz.prog 88 #[vs, vc, .int .i64 (g : Int), .int .i64 (s : Int)] w0 (Pure H0 w0 fun v H' => ∃ r1 r2, v = .tuple #[r1, r2, .int .i64 (if cutsOk st.length 0 cuts = true then 0 else 1)] ∧
      BytesL H' r1 (if cutsOk st.length 0 cuts = true then chunksF (g * s - 4) st cuts else []) ∧ Bytes H' r2 (if cutsOk st.length 0 cuts = true then openF (g * s - 4) st cuts else [])) := by
  have hs := HS.init h0
  have hle := Hp.le.refl H0
  obtain ⟨hg1, hg2, hs1, hs2, hgs4⟩ := hgs
  have hmul : g * s ≤ 255 * 65535 := Nat.mul_le_mul hg2 hs2
  obtain ⟨bs, cs, rfl⟩ := hst.form
  obtain ⟨bc, cc, rfl⟩ := hcu.form
  have hcap := hst.cap_le
  refine Calls.enter (args := [.slice bs st.length cs, .slice bc cuts.length cc, .int .i64 (g : Int), .int .i64 (s : Int)]) Tryz.func88 rfl Tryz.ntmps88 rfl ?_
  refine WC.seq (WC.region (WO.step rfl (OR.box hs rfl ?_)))
  clear hs; intro g1 w hg1 hs
  refine WO.step rfl (OR.assign rfl (WO.step rfl (OR.assign rfl (WO.step rfl (OR.assign rfl (WO.done (WX.seq ?_)))))))
  refine WC.seq (WC.region (WO.step rfl (OR.move rfl (WO.step rfl (OR.move rfl ?_)))))
  refine WO.step rfl (OR.call hs body62 rfl rfl (room_ok (g : Int) (s : Int) _ _ hs.toSub) ?_)
  clear hs; rintro _ H w hs hle1 rfl; replace hle := hle.trans hle1; (try replace hlb := hlb.trans hle1)
  have hmc : (g : Int) * (s : Int) = ((g * s : Nat) : Int) := by rw [Int.natCast_mul]
  have hrc : (g : Int) * (s : Int) - 4 = ((g * s - 4 : Nat) : Int) := by rw [hmc]; omega
  rw [if_pos (show 1 ≤ (g : Int) ∧ (g : Int) ≤ 255 ∧ 1 ≤ (s : Int) ∧ (s : Int) ≤ 65535 ∧ 4 < (g : Int) * (s : Int) from ⟨by omega, by omega, by omega, by omega, by rw [hmc]; omega⟩), hrc]
  obtain ⟨room, hroom⟩ : ∃ r, r = g * s - 4 := ⟨_, rfl⟩
  rw [← hroom]
  have hr1 : 1 ≤ room := by omega
  have hr2 : room ≤ 100000000000 := by omega
  clear hrc hmc hroom hgs4 hmul hg1 hg2 hs1 hs2
  refine WO.step rfl (OR.move rfl (WO.step rfl (OR.extract rfl rfl (WO.step rfl (OR.extract rfl rfl (WO.step rfl (OR.alloc hs T3 ?_)))))))
  clear hs; intro g2 w hg2 hs
  refine WO.stepN (OR.storeAll hs T3 rfl rfl rfl rfl rfl ?_)
  clear hs; intro w hs
  refine WO.step rfl (OR.assign rfl (WO.done (WX.seq (WC.seq (WC.seq (WC.region (WO.step rfl ?_)))))))
  refine OR.move rfl (WO.step rfl (OR.neq rfl rfl (WO.done (WX.seq ?_))))
  refine WC.no rfl (decide_eq_false (by omega)) ?_
  refine WC.skip (WX.seq (WC.seq (WC.region (WO.step rfl (OR.alloc hs T40 ?_)))))
  clear hs; intro g3 w hg3 hs
  refine WO.done (WX.seq (WC.seq (WC.region (WO.step rfl (OR.alloc hs T3 ?_)))))
  clear hs; intro g4 w hg4 hs
  refine WO.stepN (OR.storeAll hs T3 rfl rfl rfl rfl rfl ?_)
  clear hs; intro w hs
  refine WO.done (WX.seq (WC.seq (WC.region (WO.step rfl (OR.makeFunc rfl rfl (WO.step rfl (OR.alloc hs T216 ?_)))))))
  clear hs; intro g5 w hg5 hs
  refine WO.stepN (OR.storeAll hs T216 rfl rfl rfl rfl rfl ?_)
  clear hs; intro w hs
  refine WO.done (WX.seq (WC.seq (WC.region (WO.step rfl (OR.makeFunc rfl rfl (WO.step rfl (OR.assign rfl ?_)))))))
  refine WO.done (WX.seq (WC.seq (WC.region (WO.step rfl (OR.assign rfl (WO.done (WX.seq ?_)))))))
  refine WC.seq (WC.seq (WC.region (WO.step rfl (OR.move rfl (WO.step rfl (OR.lenSlice T76.und rfl (WO.step rfl ?_)))))))
  refine OR.move rfl (WO.done (WX.seq (WC.block ?_)))
  replace hs := hs.front (i := 0) rfl
  replace hs := hs.front (i := 3) rfl
  replace hs := hs.front (i := 4) rfl
  replace hs := hs.front (i := 3) rfl
  replace hs := hs.front (i := 4) rfl
  refine WC.loop (ι := Nat) (fun k => [(4, ptr g1), (11, ptr g2), (13, ptr g3), (14, ptr g4), (15, ptr g5), (16, .func (.func 138) #[] #[ptr g4, ptr g2, ptr g5]), (17, .int .i64 ((chunkP room st (cuts.take k)).2 : Int)), (31, .slice bc cuts.length cc), (32, .int .i64 (cuts.length : Int)), (33, .int .i64 (k : Int))]) (fun k w => (k ≤ cuts.length ∧ cutsOk st.length 0 cuts = cutsOk st.length ((chunkP room st (cuts.take k)).2 : Int) (cuts.drop k) ∧ (chunkP room st (cuts.take k)).2 ≤ st.length ∧ (chunkP room st (cuts.take k)).1.length ≤ (chunkP room st (cuts.take k)).2 ∧ ∃ H Mo ov cl, Hp.le H0 H ∧ Own w0.heap.size 43 1 ov (chunkP room st (cuts.take k)).1.length cl Mo ∧ BLOk H cl (chunkP room st (cuts.take k)).1 ∧ HS [] H0 w0 H ([(g3, .cells #[ov] 40, true), (g4, .cells #[.int .i64 ((chunkP room st (cuts.take k)).2 : Int)] 3, true), (g1, .cells #[.slice bs st.length cs] 43, true), (g2, .cells #[.int .i64 (room : Int)] 3, true), (g5, .cells #[handV g3 g1 g4] 216, true)] ++ Mo) w)) (fun k => cuts.length - k) 0 ⟨rfl, rfl, rfl, rfl, rfl, rfl, rfl, rfl, rfl, rfl,  trivial⟩ ?_ (fun k w hW => ?_)
  · exact ⟨by omega, rfl, Nat.zero_le _, Nat.zero_le _, H, [], .slice none 0 0, [], hle, Own.nil _ _ _, BLOk.nil _, hs⟩
  clear hs hle
  obtain ⟨hk, hok0, hP2, hPl, H, Mo, ov, cl, hle, ho, hok, hs⟩ := hW
  have hPs : ∀ h : k < cuts.length, chunkP room st (cuts.take (k + 1)) = chunkStep room st (chunkP room st (cuts.take k)) cuts[k] := fun h => chunkP_succ room st cuts k h
  generalize hPg : chunkP room st (cuts.take k) = P at *
  obtain ⟨chs, a⟩ := P
  simp only at hok0 hP2 hPl ho hok hs hPs
  refine WC.seq (WC.region (WO.step rfl (OR.lss rfl rfl (WO.done (WX.seq (WC.seq ?_))))))
  refine WC.condD rfl (fun hlt => ?_) (fun hlt => ?_)
  · have hk' : k < cuts.length := by omega
    obtain ⟨xb, xo, rfl, hcc⟩ := hcu.pos (by omega)
    have hdr : cuts.drop k = cuts[k] :: cuts.drop (k + 1) := List.drop_eq_getElem_cons hk'
    rw [hdr, cutsOk] at hok0
    refine WC.skip (WX.seq (WC.seq (WC.block (WC.seq (WC.region ?_)))))
    refine WO.step rfl (OR.idx k T76.und T3 rfl rfl rfl hk' ?_)
    refine WO.step rfl (OR.load T3 rfl rfl (hs.cell (hcell.mono hle (hcc k hk'))) ?_)
    refine WO.step rfl (OR.assign rfl (WO.done (WX.seq (WC.seq (WC.seq (WC.region (WO.step rfl ?_)))))))
    refine OR.move rfl (WO.step rfl (OR.move rfl (WO.step rfl (OR.lss rfl rfl (WO.step rfl (OR.move rfl ?_))))))
    refine WO.guardSplit (j := 3) rfl (fun q1 => ?_) (fun q1 => ?_)
    · refine WO.guardNo rfl (decide_eq_true q1) rfl rfl (WO.guardNo rfl (decide_eq_true q1) rfl rfl (WO.guardNo rfl (decide_eq_true q1) rfl rfl (WO.guardNo rfl (decide_eq_true q1) rfl rfl (WO.step rfl (OR.pickT rfl (decide_eq_true q1) rfl (WO.done (WX.seq ?_)))))))
      refine WC.yes rfl rfl (WC.seq (WC.region (WO.step rfl (OR.assign rfl (WO.step rfl (OR.assign rfl (WO.step rfl ?_)))))))
      refine OR.assign rfl (WO.done (WX.seq (WC.ret (WX.seq_ret (WX.block_ret (WX.seq_ret (WX.loop_ret ?_)))))))
      refine WX.block_ret (WX.seq_ret ?_)
      refine WX.ret3 rfl rfl rfl rfl ?_
      have hf : cutsOk st.length 0 cuts = false := by rw [hok0, decide_eq_false (by omega)]; rfl
      exact .mk hs ⟨_, _, by rw [hf]; rfl, by rw [hf]; exact ⟨[], Sl.nil _ _, rfl, fun i h => by simp at h⟩, by rw [hf]; exact Bytes.nil _⟩
    · refine WO.guardYes rfl (decide_eq_false q1) rfl rfl (OR.move rfl (WO.guardYes rfl (decide_eq_false q1) rfl rfl (OR.load T43 rfl rfl (hs.cellM (i := 2) rfl rfl) (WO.guardYes rfl (decide_eq_false q1) rfl rfl (OR.lenSlice T43.und rfl (WO.guardYes rfl (decide_eq_false q1) rfl rfl (OR.gtr rfl rfl ?_)))))))
      refine WO.step rfl (OR.pickF rfl (decide_eq_false q1) rfl (WO.done (WX.seq ?_)))
      refine WC.condD rfl (fun q2 => ?_) (fun q2 => ?_)
      · refine WC.seq (WC.region (WO.step rfl (OR.assign rfl (WO.step rfl (OR.assign rfl (WO.step rfl (OR.assign rfl ?_)))))))
        refine WO.done (WX.seq (WC.ret (WX.seq_ret (WX.block_ret (WX.seq_ret (WX.loop_ret (WX.block_ret ?_)))))))
        refine WX.seq_ret ?_
        refine WX.ret3 rfl rfl rfl rfl ?_
        have hf : cutsOk st.length 0 cuts = false := by rw [hok0, decide_eq_false (show ¬ cuts[k] ≤ (st.length : Int) by omega), Bool.and_false]; rfl
        exact .mk hs ⟨_, _, by rw [hf]; rfl, by rw [hf]; exact ⟨[], Sl.nil _ _, rfl, fun i h => by simp at h⟩, by rw [hf]; exact Bytes.nil _⟩
      · obtain ⟨c, hc⟩ := Int.eq_ofNat_of_zero_le (show 0 ≤ cuts[k] by omega)
        have hok1 : cutsOk st.length 0 cuts = cutsOk st.length (c : Int) (cuts.drop (k + 1)) := by
          rw [hok0, decide_eq_true (show (a : Int) ≤ cuts[k] by omega), decide_eq_true (show cuts[k] ≤ (st.length : Int) by omega), hc]; rfl
        have hac : a ≤ c := by omega
        have hcn : c ≤ st.length := by omega
        have hPs1 := hPs hk'
        rw [hc] at hPs1
        have hstep := chunkStep_len (room := room) (st := st) (p := (chs, a)) (cut := (c : Int)) hPl hac hr1
        have hct : ((c : Int)).toNat = c := rfl
        rw [hc]
        refine WC.skip (WX.seq (WC.seq (WC.region (WO.step rfl (OR.move rfl (WO.step rfl (OR.assign rfl ?_)))))))
        refine WO.done (WX.seq (WC.seq (WC.region (WO.step rfl (OR.move rfl (WO.step rfl (OR.move rfl ?_)))))))
        have hs2 := hs.beginR (Mr := [_, _, _, _, _]) (Mo := Mo) [true, true, false, false, false]
        replace hs := hs.perm (((((List.perm_append_comm (l₁ := Mo) (l₂ := [_, _, _])).cons _).cons _)) : List.Perm (_ :: _ :: (Mo ++ [_, _, _])) _)
        refine WO.step rfl (OR.callX (Mx := _ :: _ :: Mo) (Mr := [_, _, _]) hs body138 rfl rfl (whole_ok g3 g1 g4 g2 g5 room ov (.slice bs st.length cs) cl chs st a c Mo w0.heap.size H _ hs2 (hst.mono hle) ho hs.size hok hac hcn (by omega) (by omega) hr1 hr2) rfl (by simpa using ho.tt) ?_)
        clear hs hs2 ho hok; rintro v H2 Mo2 w hs hle1 hnew ⟨rfl, Mo2, ov2, cl2, rfl, ho, hok⟩
        replace hle := hle.trans hle1
        replace hs := hs.perm (((((List.perm_append_comm (l₁ := [_, _, _]) (l₂ := Mo2)).cons _).cons _)) : List.Perm (_ :: _ :: ([_, _, _] ++ Mo2)) _)
        have hnl : (c - a) / room * room ≤ c - a := Nat.div_mul_le_self _ _
        have hnn : (c - a) / room ≤ (c - a) / room * room := Nat.le_mul_of_pos_right _ hr1
        have hwl : (chs ++ wholeL room st a ((c - a) / room)).length = chs.length + (c - a) / room := by simp [wholeL]
        refine WO.done (WX.seq (WC.seq (WC.region (WO.step rfl (OR.load T3 rfl rfl (hs.cellM (i := 1) rfl rfl) (WO.step rfl (OR.move rfl ?_)))))))
        refine WO.step rfl (OR.lss rfl rfl (WO.done (WX.seq ?_)))
        refine WC.condD rfl (fun q3 => ?_) (fun q3 => ?_)
        · refine WC.region (WO.step rfl (OR.load T216 rfl rfl (hs.cellM (i := 4) rfl rfl) (WO.step rfl (OR.move rfl ?_))))
          have hs2 := ((hs.drop 3).drop 3).beginR (Mr := [_, _, _]) (Mo := Mo2) [true, true, false]
          replace hs := hs.perm (((((List.perm_append_comm (l₁ := Mo2) (l₂ := [_, _, _])).cons _).cons _)) : List.Perm (_ :: _ :: (Mo2 ++ [_, _, _])) _)
          refine WO.step rfl (OR.callX (Mx := _ :: _ :: Mo2) (Mr := [_, _, _]) hs body137 rfl rfl (hand_ok g3 g1 g4 ov2 (.slice bs st.length cs) cl2 (chs ++ wholeL room st a ((c - a) / room)) st (a + (c - a) / room * room) c Mo2 w0.heap.size H2 _ hs2 (hst.mono hle) (by rw [hwl]; exact ho) hs.size hok (by omega) hcn (by omega) (by rw [hwl]; omega)) rfl (by simpa using ho.tt) ?_)
          clear hs hs2 ho hok; rintro v H3 M3 w hs hle1 hnew ⟨rfl, Mo3, ov3, cl3, rfl, ho, hok⟩
          replace hle := hle.trans hle1
          replace hs := hs.perm (((((List.perm_append_comm (l₁ := [_, _, _]) (l₂ := Mo3)).cons _).cons _)) : List.Perm (_ :: _ :: ([_, _, _] ++ Mo3)) _)
          have hst2 : chunkStep room st (chs, a) (c : Int) = (chs ++ wholeL room st a ((c - a) / room) ++ [(st.drop (a + (c - a) / room * room)).take (c - (a + (c - a) / room * room))], c) := by
            simp only [chunkStep, hct, cutPiece]
            rw [if_pos (by omega)]
          rw [hst2] at hPs1 hstep
          have hfin : (chunkP room st (cuts.take (k + 1))).2 = c := by rw [hPs1]
          have hfin1 : (chunkP room st (cuts.take (k + 1))).1 = chs ++ wholeL room st a ((c - a) / room) ++ [(st.drop (a + (c - a) / room * room)).take (c - (a + (c - a) / room * room))] := by rw [hPs1]
          rw [← hfin1] at hok
          rw [← hfin]
          refine WO.done (WX.block (WX.seq (WC.region (WO.step rfl (OR.addI rfl rfl (by omega) (by omega) (WO.step rfl (OR.move rfl ?_)))))))
          refine WO.done ?_
          refine WX.again (k + 1) ⟨rfl, rfl, rfl, rfl, rfl, rfl, rfl, rfl, rfl, rfl,  trivial⟩ ?_ ?_
          · refine ⟨hk', by rw [hok1, hfin], by rw [hfin]; exact hcn, by rw [hfin1, hfin]; exact hstep, H3, Mo3, ov3, cl3, hle, ?_, hok, ?_⟩
            · have : (chunkP room st (cuts.take (k + 1))).1.length = (chs ++ wholeL room st a ((c - a) / room)).length + 1 := by rw [hfin1, List.length_append, List.length_singleton]
              rw [this]; exact ho
            · rw [hfin]; exact hs
          · omega
        · have hae : a + (c - a) / room * room = c := by omega
          have hst2 : chunkStep room st (chs, a) (c : Int) = (chs ++ wholeL room st a ((c - a) / room), c) := by
            simp only [chunkStep, hct, cutPiece]
            rw [if_neg (by omega), List.append_nil]
          rw [hst2] at hPs1 hstep
          rw [hae] at hs
          have hfin : (chunkP room st (cuts.take (k + 1))).2 = c := by rw [hPs1]
          have hfin1 : (chunkP room st (cuts.take (k + 1))).1 = chs ++ wholeL room st a ((c - a) / room) := by rw [hPs1]
          rw [← hfin1] at hok
          rw [← hfin]
          refine WC.skip (WX.block (WX.seq (WC.region (WO.step rfl (OR.addI rfl rfl (by omega) (by omega) (WO.step rfl (OR.move rfl ?_)))))))
          refine WO.done ?_
          refine WX.again (k + 1) ⟨rfl, rfl, rfl, rfl, rfl, rfl, rfl, rfl, rfl, rfl,  trivial⟩ ?_ ?_
          · refine ⟨hk', by rw [hok1, hfin], by rw [hfin]; exact hcn, by rw [hfin1, hfin]; exact hstep, H2, Mo2, ov2, cl2, hle, ?_, hok, ?_⟩
            · rw [hfin1, hwl]; exact ho
            · rw [hfin]; exact hs
          · omega
  · have e : k = cuts.length := by omega
    subst e
    rw [List.take_length] at hPg
    rw [List.drop_length] at hok0
    have hT : cutsOk st.length 0 cuts = true := hok0
    refine WC.exit (WX.seq_exit (WX.loop_exit (WX.block_hit (WX.seq (WC.seq (WC.region (WO.step rfl ?_)))))))
    refine OR.move rfl (WO.step rfl (OR.load T43 rfl rfl (hs.cellM (i := 2) rfl rfl) (WO.step rfl (OR.lenSlice T43.und rfl ?_))))
    have hs2 := hs.beginR (Mr := [_, _, _, _, _]) (Mo := Mo) [true, true, false, false, false]
    replace hs := hs.perm (((((List.perm_append_comm (l₁ := Mo) (l₂ := [_, _, _])).cons _).cons _)) : List.Perm (_ :: _ :: (Mo ++ [_, _, _])) _)
    refine WO.step rfl (OR.callX (Mx := _ :: _ :: Mo) (Mr := [_, _, _]) hs body138 rfl rfl (whole_ok g3 g1 g4 g2 g5 room ov (.slice bs st.length cs) cl chs st a st.length Mo w0.heap.size H _ hs2 (hst.mono hle) ho hs.size hok hP2 (Nat.le_refl _) (by omega) (by omega) hr1 hr2) rfl (by simpa using ho.tt) ?_)
    clear hs hs2 ho hok; rintro v H2 Mo2 w hs hle1 hnew ⟨rfl, Mo2, ov2, cl2, rfl, ho, hok⟩
    replace hle := hle.trans hle1
    replace hs := hs.perm (((((List.perm_append_comm (l₁ := [_, _, _]) (l₂ := Mo2)).cons _).cons _)) : List.Perm (_ :: _ :: ([_, _, _] ++ Mo2)) _)
    have hnl : (st.length - a) / room * room ≤ st.length - a := Nat.div_mul_le_self _ _
    have hwl : (chs ++ wholeL room st a ((st.length - a) / room)).length = chs.length + (st.length - a) / room := by simp [wholeL]
    have hsl := Sl.dropS hst (a + (st.length - a) / room * room) (by omega)
    obtain ⟨bo, co, rfl⟩ := ho.form
    have hopn : openF room st cuts = st.drop (a + (st.length - a) / room * room) := by rw [openF, hPg]
    have hchf : chunksF room st cuts = chs ++ wholeL room st a ((st.length - a) / room) := by rw [chunksF, hPg]
    have hpart : Bytes H0 (.slice (if cs = a + (st.length - a) / room * room then bs else bs.map (·.add ((a + (st.length - a) / room * room) * 1))) (st.length - (a + (st.length - a) / room * room)) (cs - (a + (st.length - a) / room * room))) (openF room st cuts) := by
      unfold Bytes
      rw [hopn, List.length_drop, List.map_drop]
      rw [Nat.mul_one] at hsl ⊢
      exact hsl
    obtain ⟨OF, hOF⟩ : ∃ OF, OF = openF room st cuts := ⟨_, rfl⟩
    rw [← hOF] at hpart hopn
    have hol : OF.length ≤ st.length := by rw [hopn, List.length_drop]; omega
    refine WO.done (WX.seq (WC.seq ?_))
    refine WC.draw 5 mixed hs (by kernel_rfl) ?_
    refine ⟨MF.eq _, by intro Mx H w hle hs; refine forVals_nil (ORg.plain (OR.load T40 rfl rfl (hs.right.cellM (i := 0) rfl rfl) ?_)); exact ⟨_, [], Hp.le.refl _, hs, rfl, rfl⟩, ?_⟩
    refine ⟨MF.eq _, by intro Mx H w hle hs; refine forVals_nil (ORg.plain (OR.load T43 rfl rfl (hs.right.cellM (i := 2) rfl rfl) ?_)); exact ⟨_, [], Hp.le.refl _, hs, rfl, rfl⟩, ?_⟩
    refine ⟨MF.eq _, by intro Mx H w hle hs; refine forVals_nil (ORg.plain (OR.load T3 rfl rfl (hs.right.cellM (i := 1) rfl rfl) ?_)); exact ⟨_, [], Hp.le.refl _, hs, rfl, rfl⟩, ?_⟩
    refine ⟨MF.eq (.slice (if cs = a + (st.length - a) / room * room then bs else bs.map (·.add ((a + (st.length - a) / room * room) * 1))) (st.length - (a + (st.length - a) / room * room)) (cs - (a + (st.length - a) / room * room))), ?_, ?_⟩
    · intro Mx H w hle2 hs; (try replace hle := hle.trans hle2); (try replace hlb := hlb.trans hle2); refine forVals_eq rfl rfl rfl ?_; refine forVals_eq rfl rfl rfl ?_
      refine forVals_nil (ORg.plain (OR.sliceLoG (a + (st.length - a) / room * room) T43.und T5 rfl rfl rfl (by omega) ?_))
      exact ⟨_, [], Hp.le.refl _, hs, rfl, rfl⟩
    refine ⟨MF.bytes OF, ?_, ?_⟩
    · intro Mx H w hle2 hs; (try replace hle := hle.trans hle2); (try replace hlb := hlb.trans hle2); refine forVals_eq rfl rfl rfl ?_
      refine forVals_nil (ORg.plain (OR.call hs body87 rfl rfl (clone_pure _ _ _ _ hs.toSub (hpart.mono hle) (by omega)) ?_))
      clear hs; rintro _ H w hs hle1 hb
      exact ⟨_, [], hle1, hs, hb, rfl⟩
    intro H w hle2; (try replace hle := hle.trans hle2); (try replace hlb := hlb.trans hle2)
    refine forAllVals_eq rfl ?_
    refine forAllVals_eq rfl ?_
    refine forAllVals_eq rfl ?_
    refine forAllVals_eq rfl ?_
    refine forAllVals_of rfl ?_; intro v4 h4
    refine forAllVals_nil ?_; (try clear hs); intro hs
    refine WO.step rfl (OR.assign rfl (WO.step rfl (OR.assign rfl (WO.step rfl (OR.assign rfl (WO.done (WX.seq ?_)))))))
    refine WC.ret ?_
    refine WX.ret3 rfl rfl rfl rfl ?_
    replace hs := (((((hs.drop 0).drop 0).drop 0).drop 0).drop 0)
    have hs3 : HS [] H0 w0 H (Mo2 ++ []) w := by rw [List.append_nil]; exact hs
    obtain ⟨H4, hle4, hs4, hsl4, _⟩ := HS.pub hs3 ho
    refine .mk hs4 ⟨_, _, by rw [hT]; rfl, ?_, ?_⟩
    · rw [hT, if_pos rfl, hchf]
      exact (hok.mono (hle2.trans hle4)).bytesL (by rw [hwl]; exact hsl4)
    · rw [hT, if_pos rfl, ← hOF]
      exact h4.mono hle4

end Go.Bw
namespace Go.Bw
set_option linter.unusedVariables false
set_option linter.unusedSimpArgs false
open Go.Proofs

def Tup3 (H : Hp) (v : Value) (ll : List (List UInt8)) (l : List UInt8) (e : Int) : Prop := ∃ r1 r2, v = .tuple #[r1, r2, .int .i64 e] ∧ BytesL H r1 ll ∧ Bytes H r2 l
def MF.tup3 (ll : List (List UInt8)) (l : List UInt8) (e : Int) : MF := MF.of (fun v H => Tup3 H v ll l e) fun _ _ _ hle ⟨r1, r2, h1, h2, h3⟩ => ⟨r1, r2, h1, h2.mono hle, h3.mono hle⟩

def goodGS (g s : Int) : Prop := 1 ≤ g ∧ g ≤ 255 ∧ 1 ≤ s ∧ s ≤ 65535 ∧ 4 < g * s
instance (g s : Int) : Decidable (goodGS g s) := inferInstanceAs (Decidable (_ ∧ _))

set_option maxRecDepth 20000 in
set_option maxHeartbeats 2000000 in
theorem set_bad (b : Nat) (g s : Int) (vs vc vch vop v1 v2 : Value) (cl : Bool) (H0 : Hp) (w0 : World) (h0 : Sub H0 w0) (hb : w0.heap[b]? = some (srcObj g s vs vc cl vch vop)) (hn : H0 b = none) (hgs : ¬ goodGS g s) (h1 : v1.oneCell' = true) (h2 : v2.oneCell' = true) :
    Calls Tryz.prog 89 #[ptr b, v1, v2] w0 (Pure H0 w0 fun v _ => v = .int .i64 1) := by
  have hs := HS.startR h0 hb hn
  have hle := Hp.le.refl H0
  refine Calls.enter (args := [ptr b, v1, v2]) Tryz.func89 rfl Tryz.ntmps89 rfl ?_
  refine WC.seq (WC.region (WO.step rfl (OR.assign rfl (WO.done (WX.seq (WC.seq ?_))))))
  refine WC.draw 17 mixed hs (by kernel_rfl) ?_
  refine ⟨MF.eq _, by intro Mx H w hle hs; refine forVals_nil (ORg.plain (OR.move rfl ?_)); exact ⟨_, [], Hp.le.refl _, hs, rfl, rfl⟩, ?_⟩
  refine ⟨MF.eq _, by intro Mx H w hle hs; refine forVals_nil (ORg.plain (OR.move rfl ?_)); exact ⟨_, [], Hp.le.refl _, hs, rfl, rfl⟩, ?_⟩
  refine ⟨MF.eq _, by intro Mx H w hle hs; refine forVals_nil (ORg.plain (OR.move rfl ?_)); exact ⟨_, [], Hp.le.refl _, hs, rfl, rfl⟩, ?_⟩
  refine ⟨MF.eq _, by intro Mx H w hle hs; refine forVals_eq rfl rfl rfl ?_; refine forVals_nil (ORg.plain (OR.nilCheck rfl ?_)); exact ⟨_, [], Hp.le.refl _, hs, rfl, rfl⟩, ?_⟩
  refine ⟨MF.eq _, by intro Mx H w hle hs; refine forVals_eq rfl rfl rfl ?_; refine forVals_nil (ORg.plain (OR.fieldAddr FA163_0 rfl ?_)); exact ⟨_, [], Hp.le.refl _, hs, rfl, rfl⟩, ?_⟩
  refine ⟨MF.eq _, by intro Mx H w hle hs; refine forVals_eq rfl rfl rfl ?_; refine forVals_nil (ORg.plain (OR.load T3 rfl rfl (hs.right.cellM (i := 0) rfl rfl) ?_)); exact ⟨_, [], Hp.le.refl _, hs, rfl, rfl⟩, ?_⟩
  refine ⟨MF.eq _, by intro Mx H w hle hs; refine forVals_nil (ORg.plain (OR.move rfl ?_)); exact ⟨_, [], Hp.le.refl _, hs, rfl, rfl⟩, ?_⟩
  refine ⟨MF.eq _, by intro Mx H w hle hs; refine forVals_eq rfl rfl rfl ?_; refine forVals_nil (ORg.plain (OR.nilCheck rfl ?_)); exact ⟨_, [], Hp.le.refl _, hs, rfl, rfl⟩, ?_⟩
  refine ⟨MF.eq _, by intro Mx H w hle hs; refine forVals_eq rfl rfl rfl ?_; refine forVals_nil (ORg.plain (OR.fieldAddr FA163_1 rfl ?_)); exact ⟨_, [], Hp.le.refl _, hs, rfl, rfl⟩, ?_⟩
  refine ⟨MF.eq _, by intro Mx H w hle hs; refine forVals_eq rfl rfl rfl ?_; refine forVals_nil (ORg.plain (OR.load T3 rfl rfl (hs.right.cellM (i := 0) rfl rfl) ?_)); exact ⟨_, [], Hp.le.refl _, hs, rfl, rfl⟩, ?_⟩
  refine ⟨MF.eq (.tuple #[.slice none 0 0, .slice none 0 0, .int .i64 1]), ?_, ?_⟩
  · intro Mx H w hle2 hs; (try replace hle := hle.trans hle2); (try replace hlb := hlb.trans hle2); refine forVals_eq rfl rfl rfl ?_; refine forVals_eq rfl rfl rfl ?_; refine forVals_eq rfl rfl rfl ?_; refine forVals_eq rfl rfl rfl ?_
    refine forVals_nil (ORg.plain (OR.call hs body88 rfl rfl (chunks_bad g s v1 v2 _ _ hs.toSub hgs h1) ?_))
    clear hs; rintro _ H w hs hle1 rfl
    exact ⟨_, [], hle1, hs, rfl, rfl⟩
  refine ⟨MF.eq _, by intro Mx H w hle hs; refine forVals_eq rfl rfl rfl ?_; refine forVals_nil (ORg.plain (OR.move rfl ?_)); exact ⟨_, [], Hp.le.refl _, hs, rfl, rfl⟩, ?_⟩
  refine ⟨MF.eq _, by intro Mx H w hle hs; refine forVals_eq rfl rfl rfl ?_; refine forVals_nil (ORg.plain (OR.extract rfl rfl ?_)); exact ⟨_, [], Hp.le.refl _, hs, rfl, rfl⟩, ?_⟩
  refine ⟨MF.eq _, by intro Mx H w hle hs; refine forVals_eq rfl rfl rfl ?_; refine forVals_nil (ORg.plain (OR.extract rfl rfl ?_)); exact ⟨_, [], Hp.le.refl _, hs, rfl, rfl⟩, ?_⟩
  refine ⟨MF.eq _, by intro Mx H w hle hs; refine forVals_eq rfl rfl rfl ?_; refine forVals_nil (ORg.plain (OR.extract rfl rfl ?_)); exact ⟨_, [], Hp.le.refl _, hs, rfl, rfl⟩, ?_⟩
  refine ⟨MF.eq _, by intro Mx H w hle hs; refine forVals_eq rfl rfl rfl ?_; refine forVals_nil (ORg.plain (OR.assign rfl ?_)); exact ⟨_, [], Hp.le.refl _, hs, rfl, rfl⟩, ?_⟩
  refine ⟨MF.eq _, by intro Mx H w hle hs; refine forVals_eq rfl rfl rfl ?_; refine forVals_nil (ORg.plain (OR.assign rfl ?_)); exact ⟨_, [], Hp.le.refl _, hs, rfl, rfl⟩, ?_⟩
  intro H w hle2; (try replace hle := hle.trans hle2); (try replace hlb := hlb.trans hle2)
  refine forAllVals_eq rfl ?_
  refine forAllVals_eq rfl ?_
  refine forAllVals_eq rfl ?_
  refine forAllVals_eq rfl ?_
  refine forAllVals_eq rfl ?_
  refine forAllVals_eq rfl ?_
  refine forAllVals_eq rfl ?_
  refine forAllVals_eq rfl ?_
  refine forAllVals_eq rfl ?_
  refine forAllVals_eq rfl ?_
  refine forAllVals_eq rfl ?_
  refine forAllVals_eq rfl ?_
  refine forAllVals_eq rfl ?_
  refine forAllVals_eq rfl ?_
  refine forAllVals_eq rfl ?_
  refine forAllVals_eq rfl ?_
  refine forAllVals_eq rfl ?_
  refine forAllVals_nil ?_; (try clear hs); intro hs
  refine WO.step rfl (OR.assign rfl (WO.done (WX.seq (WC.seq (WC.seq (WC.region (WO.step rfl ?_)))))))
  refine OR.move rfl (WO.step rfl (OR.eql rfl rfl (WO.done (WX.seq ?_))))
  refine WC.no rfl (decide_eq_false (by omega)) ?_
  refine WC.skip (WX.seq (WC.seq (WC.region (WO.step rfl (OR.move rfl (WO.step rfl (OR.assign rfl ?_)))))))
  refine WO.done (WX.seq (WC.ret ?_))
  refine WX.ret1 rfl rfl ?_
  exact .mk hs rfl

set_option maxRecDepth 20000 in
set_option maxHeartbeats 2000000 in
theorem set_ok (b : Nat) (g s : Nat) (vs vc vch vop v1 v2 : Value) (cl : Bool) (st : List UInt8) (cuts : List Int) (H0 : Hp) (w0 : World) (h0 : Sub H0 w0) (hb : w0.heap[b]? = some (srcObj g s vs vc cl vch vop)) (hn : H0 b = none) (hgs : goodGS g s)
    (h1 : Bytes H0 v1 st) (h2 : Ints H0 v2 cuts) (hl1 : st.length ≤ 10000000000) (hl2 : cuts.length ≤ 10000000000) :
    Calls Tryz.prog 89 #[ptr b, v1, v2] w0 (Ret [b] H0 w0 fun v H' M' => if cutsOk st.length 0 cuts = true then
        v = .int .i64 0 ∧ ∃ o, M' = [(b, o, true)] ∧ SrcIn H' ⟨g, s, st, cuts, cl, chunksF (g * s - 4) st cuts, openF (g * s - 4) st cuts⟩ o
      else v = .int .i64 1 ∧ M' = [(b, srcObj g s vs vc cl vch vop, true)]) := by
  have hs := HS.start1 h0 hb hn
  have hle := Hp.le.refl H0
  obtain ⟨b1, c1, rfl⟩ := h1.form
  obtain ⟨b2, c2, rfl⟩ := h2.form
  obtain ⟨g1, g2, g3, g4, g5⟩ := hgs
  have hgs' : 1 ≤ g ∧ g ≤ 255 ∧ 1 ≤ s ∧ s ≤ 65535 ∧ 4 < g * s := ⟨by omega, by omega, by omega, by omega, by rw [← Int.natCast_mul] at g5; omega⟩
  refine Calls.enter (args := [ptr b, .slice b1 st.length c1, .slice b2 cuts.length c2]) Tryz.func89 rfl Tryz.ntmps89 rfl ?_
  obtain ⟨CF, hCF⟩ : ∃ X, X = (if cutsOk st.length 0 cuts = true then chunksF (g * s - 4) st cuts else []) := ⟨_, rfl⟩
  obtain ⟨OF, hOF⟩ : ∃ X, X = (if cutsOk st.length 0 cuts = true then openF (g * s - 4) st cuts else []) := ⟨_, rfl⟩
  obtain ⟨E, hE⟩ : ∃ X : Int, X = (if cutsOk st.length 0 cuts = true then 0 else 1) := ⟨_, rfl⟩
  refine WC.seq (WC.region (WO.step rfl (OR.assign rfl (WO.done (WX.seq (WC.seq ?_))))))
  refine WC.draw 17 mixed hs (by kernel_rfl) ?_
  refine ⟨MF.eq _, by intro Mx H w hle hs; refine forVals_nil (ORg.plain (OR.move rfl ?_)); exact ⟨_, [], Hp.le.refl _, hs, rfl, rfl⟩, ?_⟩
  refine ⟨MF.eq _, by intro Mx H w hle hs; refine forVals_nil (ORg.plain (OR.move rfl ?_)); exact ⟨_, [], Hp.le.refl _, hs, rfl, rfl⟩, ?_⟩
  refine ⟨MF.eq _, by intro Mx H w hle hs; refine forVals_nil (ORg.plain (OR.move rfl ?_)); exact ⟨_, [], Hp.le.refl _, hs, rfl, rfl⟩, ?_⟩
  refine ⟨MF.eq _, by intro Mx H w hle hs; refine forVals_eq rfl rfl rfl ?_; refine forVals_nil (ORg.plain (OR.nilCheck rfl ?_)); exact ⟨_, [], Hp.le.refl _, hs, rfl, rfl⟩, ?_⟩
  refine ⟨MF.eq _, by intro Mx H w hle hs; refine forVals_eq rfl rfl rfl ?_; refine forVals_nil (ORg.plain (OR.fieldAddr FA163_0 rfl ?_)); exact ⟨_, [], Hp.le.refl _, hs, rfl, rfl⟩, ?_⟩
  refine ⟨MF.eq _, by intro Mx H w hle hs; refine forVals_eq rfl rfl rfl ?_; refine forVals_nil (ORg.plain (OR.load T3 rfl rfl (hs.right.cellM (i := 0) rfl rfl) ?_)); exact ⟨_, [], Hp.le.refl _, hs, rfl, rfl⟩, ?_⟩
  refine ⟨MF.eq _, by intro Mx H w hle hs; refine forVals_nil (ORg.plain (OR.move rfl ?_)); exact ⟨_, [], Hp.le.refl _, hs, rfl, rfl⟩, ?_⟩
  refine ⟨MF.eq _, by intro Mx H w hle hs; refine forVals_eq rfl rfl rfl ?_; refine forVals_nil (ORg.plain (OR.nilCheck rfl ?_)); exact ⟨_, [], Hp.le.refl _, hs, rfl, rfl⟩, ?_⟩
  refine ⟨MF.eq _, by intro Mx H w hle hs; refine forVals_eq rfl rfl rfl ?_; refine forVals_nil (ORg.plain (OR.fieldAddr FA163_1 rfl ?_)); exact ⟨_, [], Hp.le.refl _, hs, rfl, rfl⟩, ?_⟩
  refine ⟨MF.eq _, by intro Mx H w hle hs; refine forVals_eq rfl rfl rfl ?_; refine forVals_nil (ORg.plain (OR.load T3 rfl rfl (hs.right.cellM (i := 0) rfl rfl) ?_)); exact ⟨_, [], Hp.le.refl _, hs, rfl, rfl⟩, ?_⟩
  refine ⟨MF.tup3 CF OF E, ?_, ?_⟩
  · intro Mx H w hle2 hs; (try replace hle := hle.trans hle2); (try replace hlb := hlb.trans hle2); refine forVals_eq rfl rfl rfl ?_; refine forVals_eq rfl rfl rfl ?_; refine forVals_eq rfl rfl rfl ?_; refine forVals_eq rfl rfl rfl ?_
    refine forVals_nil (ORg.plain (OR.call hs body88 rfl rfl (chunks_ok g s _ _ st cuts _ _ hs.toSub hgs' (h1.mono hle) (h2.mono hle) hl1 hl2) ?_))
    clear hs; rintro _ H w hs hle1 ⟨r1, r2, rfl, hr1, hr2⟩
    exact ⟨_, [], hle1, hs, ⟨_, _, by rw [hE], by rw [hCF]; exact hr1, by rw [hOF]; exact hr2⟩, rfl⟩
  refine ⟨MF.tup3 CF OF E, ?_, ?_⟩
  · intro Mx H w hle2 hs; (try replace hle := hle.trans hle2); (try replace hlb := hlb.trans hle2); refine forVals_of rfl rfl rfl ?_; intro v10 h10
    obtain ⟨r1, r2, rfl, hr1, hr2⟩ := h10
    refine forVals_nil (ORg.plain (OR.move rfl ?_))
    exact ⟨_, [], Hp.le.refl _, hs, ⟨_, _, rfl, hr1, hr2⟩, rfl⟩
  refine ⟨MF.bytesL CF, ?_, ?_⟩
  · intro Mx H w hle2 hs; (try replace hle := hle.trans hle2); (try replace hlb := hlb.trans hle2); refine forVals_of rfl rfl rfl ?_; intro v11 h11
    obtain ⟨r1, r2, rfl, hr1, hr2⟩ := h11
    refine forVals_nil (ORg.plain (OR.extract rfl rfl ?_))
    exact ⟨_, [], Hp.le.refl _, hs, hr1, rfl⟩
  refine ⟨MF.bytes OF, ?_, ?_⟩
  · intro Mx H w hle2 hs; (try replace hle := hle.trans hle2); (try replace hlb := hlb.trans hle2); refine forVals_of rfl rfl rfl ?_; intro v11 h11
    obtain ⟨r1, r2, rfl, hr1, hr2⟩ := h11
    refine forVals_nil (ORg.plain (OR.extract rfl rfl ?_))
    exact ⟨_, [], Hp.le.refl _, hs, hr2, rfl⟩
  refine ⟨MF.eq (.int .i64 E), ?_, ?_⟩
  · intro Mx H w hle2 hs; (try replace hle := hle.trans hle2); (try replace hlb := hlb.trans hle2); refine forVals_of rfl rfl rfl ?_; intro v11 h11
    obtain ⟨r1, r2, rfl, hr1, hr2⟩ := h11
    refine forVals_nil (ORg.plain (OR.extract rfl rfl ?_))
    exact ⟨_, [], Hp.le.refl _, hs, rfl, rfl⟩
  refine ⟨MF.bytesL CF, ?_, ?_⟩
  · intro Mx H w hle2 hs; (try replace hle := hle.trans hle2); (try replace hlb := hlb.trans hle2); refine forVals_of rfl rfl rfl ?_; intro v12 h12
    refine forVals_nil (ORg.plain (OR.assign rfl ?_))
    exact ⟨_, [], Hp.le.refl _, hs, h12, rfl⟩
  refine ⟨MF.bytes OF, ?_, ?_⟩
  · intro Mx H w hle2 hs; (try replace hle := hle.trans hle2); (try replace hlb := hlb.trans hle2); refine forVals_of rfl rfl rfl ?_; intro v13 h13
    refine forVals_nil (ORg.plain (OR.assign rfl ?_))
    exact ⟨_, [], Hp.le.refl _, hs, h13, rfl⟩
  intro H w hle2; (try replace hle := hle.trans hle2); (try replace hlb := hlb.trans hle2)
  refine forAllVals_eq rfl ?_
  refine forAllVals_eq rfl ?_
  refine forAllVals_eq rfl ?_
  refine forAllVals_eq rfl ?_
  refine forAllVals_eq rfl ?_
  refine forAllVals_eq rfl ?_
  refine forAllVals_eq rfl ?_
  refine forAllVals_eq rfl ?_
  refine forAllVals_eq rfl ?_
  refine forAllVals_eq rfl ?_
  refine forAllVals_of rfl ?_; intro v10 h10
  refine forAllVals_of rfl ?_; intro v11 h11
  refine forAllVals_of rfl ?_; intro v12 h12
  refine forAllVals_of rfl ?_; intro v13 h13
  refine forAllVals_eq rfl ?_
  refine forAllVals_of rfl ?_; intro v15 h15
  refine forAllVals_of rfl ?_; intro v16 h16
  refine forAllVals_nil ?_; (try clear hs); intro hs
  obtain ⟨b3, c3, rfl⟩ := h15.form
  obtain ⟨b4, c4, rfl⟩ := h16.form
  have hlb := Hp.le.refl H
  by_cases hT : cutsOk st.length 0 cuts = true
  · rw [if_pos hT] at hCF hOF hE
    subst hE
    refine WO.step rfl (OR.assign rfl (WO.done (WX.seq (WC.seq (WC.seq (WC.region (WO.step rfl ?_)))))))
    refine OR.move rfl (WO.step rfl (OR.eql rfl rfl (WO.done (WX.seq ?_))))
    refine WC.yes rfl (decide_eq_true rfl) ?_
    refine WC.region (WO.step rfl (OR.move rfl (WO.step rfl (OR.move rfl (WO.step rfl (OR.move rfl (WO.step rfl ?_)))))))
    refine OR.move rfl (WO.step rfl (OR.move rfl ?_))
    refine WO.step rfl (OR.call hs body87 rfl rfl (clone_pure _ _ _ _ hs.toSub (h1.mono hle) (by omega)) ?_)
    clear hs; rintro _ H w hs hle1 hr3; replace hle := hle.trans hle1; (try replace hlb := hlb.trans hle1)
    refine WO.step rfl (OR.move rfl ?_)
    refine WO.step rfl (OR.call hs body97 rfl rfl (cloneInts_pure _ _ _ _ hs.toSub (h2.mono hle) (by omega)) ?_)
    clear hs; rintro _ H w hs hle1 hr4; replace hle := hle.trans hle1; (try replace hlb := hlb.trans hle1)
    obtain ⟨b5, c5, rfl⟩ := hr3.form
    obtain ⟨b6, c6, rfl⟩ := hr4.form
    replace hr3 := hr3.mono hle1
    refine WO.step rfl (OR.move rfl (WO.step rfl (OR.move rfl (WO.step rfl (OR.nilCheck rfl (WO.step rfl (OR.fieldAddr FA163_2 rfl ?_)))))))
    refine WO.stepN (OR.store hs T43 rfl rfl rfl (Nat.le_of_ble_eq_true rfl) rfl ?_)
    clear hs; intro w hs
    refine WO.step rfl (OR.nilCheck rfl (WO.step rfl (OR.fieldAddr FA163_3 rfl (WO.stepN (OR.store hs T76 rfl rfl rfl (Nat.le_of_ble_eq_true rfl) rfl ?_)))))
    clear hs; intro w hs
    refine WO.step rfl (OR.nilCheck rfl (WO.step rfl (OR.fieldAddr FA163_5 rfl (WO.stepN (OR.store hs T40 rfl rfl rfl (Nat.le_of_ble_eq_true rfl) rfl ?_)))))
    clear hs; intro w hs
    refine WO.step rfl (OR.nilCheck rfl (WO.step rfl (OR.fieldAddr FA163_6 rfl (WO.stepN (OR.store hs T43 rfl rfl rfl (Nat.le_of_ble_eq_true rfl) rfl ?_)))))
    clear hs; intro w hs
    refine WO.done (WX.seq (WC.seq (WC.region (WO.step rfl (OR.move rfl (WO.step rfl (OR.assign rfl ?_)))))))
    refine WO.done (WX.seq (WC.ret ?_))
    refine WX.ret1 rfl rfl ?_
    refine ⟨_, H, _, rfl, hs, by simp, ?_⟩
    show ite _ _ _; rw [if_pos hT]
    exact ⟨rfl, _, rfl, _, _, _, _, rfl, hr3, hr4, by rw [← hCF]; exact h15.mono hlb, by rw [← hOF]; exact h16.mono hlb⟩
  · rw [if_neg hT] at hCF hOF hE
    subst hE
    refine WO.step rfl (OR.assign rfl (WO.done (WX.seq (WC.seq (WC.seq (WC.region (WO.step rfl ?_)))))))
    refine OR.move rfl (WO.step rfl (OR.eql rfl rfl (WO.done (WX.seq ?_))))
    refine WC.no rfl (decide_eq_false (by omega)) ?_
    refine WC.skip (WX.seq (WC.seq (WC.region (WO.step rfl (OR.move rfl (WO.step rfl (OR.assign rfl ?_)))))))
    refine WO.done (WX.seq (WC.ret ?_))
    refine WX.ret1 rfl rfl ?_
    refine ⟨_, H, _, rfl, hs, by simp, ?_⟩
    show ite _ _ _; rw [if_neg hT]
    exact ⟨rfl, rfl⟩


theorem cutsOk_snoc (n : Nat) : ∀ (cuts : List Int) (last : Int), last ≤ (n : Int) → cutsOk n last cuts = true → cutsOk n last (cuts ++ [(n : Int)]) = true
  | [], last, hl, _ => by simp [cutsOk, hl]
  | c :: cs, last, hl, h => by
    simp only [cutsOk, Bool.and_eq_true, decide_eq_true_eq] at h
    rw [List.cons_append, cutsOk, decide_eq_true h.1.1, decide_eq_true h.1.2, cutsOk_snoc n cs c h.1.2 h.2]
    rfl
/-- What a cut at the end makes. -/
def cutD (x : SrcD) : SrcD := if x.opn = [] then x else { x with cuts := x.cuts ++ [(x.st.length : Int)], chunks := chunksF (x.g * x.s - 4) x.st (x.cuts ++ [(x.st.length : Int)]), opn := openF (x.g * x.s - 4) x.st (x.cuts ++ [(x.st.length : Int)]) }

set_option maxRecDepth 20000 in
set_option maxHeartbeats 2000000 in
theorem cut_ok (b : Nat) (x : SrcD) (o : Obj) (H0 : Hp) (w0 : World) (h0 : Sub H0 w0) (hb : w0.heap[b]? = some o) (hn : H0 b = none) (hx : SrcIn H0 x o) (hgs : goodGS x.g x.s) (hc : cutsOk x.st.length 0 x.cuts = true)
    (hl1 : x.st.length ≤ 1000000000) (hl2 : x.cuts.length ≤ 1000000000) (hl3 : x.opn.length ≤ 1000000000) :
    Calls Tryz.prog 90 #[ptr b] w0 (Ret [b] H0 w0 fun v H' M' => v = .int .i64 0 ∧ ∃ o', M' = [(b, o', true)] ∧ SrcIn H' (cutD x) o') := by
  obtain ⟨g, s, st, cuts, cl, chunks, opn⟩ := x
  simp only at hgs hc hl1 hl2 hl3
  obtain ⟨vs, vc, vch, vop, rfl, h1, h2, h3, h4⟩ := hx
  simp only at h1 h2 h3 h4 hb
  have hs := HS.start1 h0 hb hn
  have hle := Hp.le.refl H0
  obtain ⟨b1, c1, rfl⟩ := h1.form
  obtain ⟨b2, c2, rfl⟩ := h2.form
  obtain ⟨b4, c4, rfl⟩ := h4.form
  refine Calls.enter (args := [ptr b]) Tryz.func90 rfl Tryz.ntmps90 rfl ?_
  refine WC.seq (WC.region (WO.step rfl (OR.assign rfl (WO.done (WX.seq (WC.seq (WC.seq ?_)))))))
  refine WC.region (WO.step rfl (OR.move rfl (WO.step rfl (OR.nilCheck rfl (WO.step rfl (OR.fieldAddr FA163_6 rfl (WO.step rfl ?_)))))))
  refine OR.load T43 rfl rfl (hs.cellM (i := 0) rfl rfl) (WO.step rfl (OR.lenSlice T43.und rfl (WO.step rfl (OR.eql rfl rfl (WO.done (WX.seq ?_))))))
  refine WC.condD rfl (fun ho => ?_) (fun ho => ?_)
  · have h0' : opn = [] := List.eq_nil_of_length_eq_zero (by omega)
    refine WC.seq (WC.region (WO.step rfl (OR.assign rfl (WO.done (WX.seq (WC.ret (WX.seq_ret ?_)))))))
    refine WX.ret1 rfl rfl ?_
    refine ⟨_, H0, _, rfl, hs, by simp, rfl, _, rfl, ?_⟩
    rw [cutD, if_pos h0']
    exact ⟨_, _, _, _, rfl, h1, h2, h3, h4⟩
  · have h0' : ¬ opn = [] := fun e => ho (by rw [e]; rfl)
    refine WC.skip (WX.seq (WC.seq ?_))
    refine WC.drawT 17 16 9 mixed hs (by kernel_rfl) ?_
    refine ⟨MF.eq _, by intro Mx H w hle hs; refine forVals_nil (ORg.plain (OR.move rfl ?_)); exact ⟨_, [], Hp.le.refl _, hs, rfl, rfl⟩, ?_⟩
    refine ⟨MF.eq _, by intro Mx H w hle hs; refine forVals_nil (ORg.plain (OR.move rfl ?_)); exact ⟨_, [], Hp.le.refl _, hs, rfl, rfl⟩, ?_⟩
    refine ⟨MF.eq _, by intro Mx H w hle hs; refine forVals_eq rfl rfl rfl ?_; refine forVals_nil (ORg.plain (OR.nilCheck rfl ?_)); exact ⟨_, [], Hp.le.refl _, hs, rfl, rfl⟩, ?_⟩
    refine ⟨MF.eq _, by intro Mx H w hle hs; refine forVals_eq rfl rfl rfl ?_; refine forVals_nil (ORg.plain (OR.fieldAddr FA163_2 rfl ?_)); exact ⟨_, [], Hp.le.refl _, hs, rfl, rfl⟩, ?_⟩
    refine ⟨MF.eq _, by intro Mx H w hle hs; refine forVals_eq rfl rfl rfl ?_; refine forVals_nil (ORg.plain (OR.load T43 rfl rfl (hs.right.cellM (i := 0) rfl rfl) ?_)); exact ⟨_, [], Hp.le.refl _, hs, rfl, rfl⟩, ?_⟩
    refine ⟨MF.eq _, by intro Mx H w hle hs; refine forVals_nil (ORg.plain (OR.move rfl ?_)); exact ⟨_, [], Hp.le.refl _, hs, rfl, rfl⟩, ?_⟩
    refine ⟨MF.eq _, by intro Mx H w hle hs; refine forVals_eq rfl rfl rfl ?_; refine forVals_nil (ORg.plain (OR.nilCheck rfl ?_)); exact ⟨_, [], Hp.le.refl _, hs, rfl, rfl⟩, ?_⟩
    refine ⟨MF.eq _, by intro Mx H w hle hs; refine forVals_eq rfl rfl rfl ?_; refine forVals_nil (ORg.plain (OR.fieldAddr FA163_3 rfl ?_)); exact ⟨_, [], Hp.le.refl _, hs, rfl, rfl⟩, ?_⟩
    refine ⟨MF.eq _, by intro Mx H w hle hs; refine forVals_eq rfl rfl rfl ?_; refine forVals_nil (ORg.plain (OR.load T76 rfl rfl (hs.right.cellM (i := 0) rfl rfl) ?_)); exact ⟨_, [], Hp.le.refl _, hs, rfl, rfl⟩, ?_⟩
    refine ⟨MF.own w0.heap.size 3 1 cuts.length (cuts.map fun i => .int .i64 i), ?_, ?_⟩
    · intro Mx H w hle2 hs; (try replace hle := hle.trans hle2); (try replace hlb := hlb.trans hle2); refine forVals_eq rfl rfl rfl ?_
      have hN := hs.size
      refine forVals_nil (ORg.plain (OR.callX (Mx := []) hs body97 rfl rfl (cloneInts_ok _ cuts _ _ hs.toSub (h2.mono hle) (by omega)) rfl rfl ?_))
      have hsz := hs.size
      clear hs; rintro v H1 M1 w hs hle1 hnew ⟨rfl, ho⟩
      exact ⟨_, M1, hle1, hs, ho.mono hsz⟩
    refine ⟨MF.eq _, by intro Mx H w hle hs; refine forVals_nil (ORg.plain (OR.move rfl ?_)); exact ⟨_, [], Hp.le.refl _, hs, rfl, rfl⟩, ?_⟩
    refine ⟨MF.eq _, by intro Mx H w hle hs; refine forVals_eq rfl rfl rfl ?_; refine forVals_nil (ORg.plain (OR.nilCheck rfl ?_)); exact ⟨_, [], Hp.le.refl _, hs, rfl, rfl⟩, ?_⟩
    refine ⟨MF.eq _, by intro Mx H w hle hs; refine forVals_eq rfl rfl rfl ?_; refine forVals_nil (ORg.plain (OR.fieldAddr FA163_2 rfl ?_)); exact ⟨_, [], Hp.le.refl _, hs, rfl, rfl⟩, ?_⟩
    refine ⟨MF.eq _, by intro Mx H w hle hs; refine forVals_eq rfl rfl rfl ?_; refine forVals_nil (ORg.plain (OR.load T43 rfl rfl (hs.right.cellM (i := 0) rfl rfl) ?_)); exact ⟨_, [], Hp.le.refl _, hs, rfl, rfl⟩, ?_⟩
    refine ⟨MF.eq _, by intro Mx H w hle hs; refine forVals_eq rfl rfl rfl ?_; refine forVals_nil (ORg.plain (OR.lenSlice T43.und rfl ?_)); exact ⟨_, [], Hp.le.refl _, hs, rfl, rfl⟩, ?_⟩
    refine ⟨MF.ints [(st.length : Int)], ?_, ?_⟩
    · intro Mx H w hle2 hs; (try replace hle := hle.trans hle2); (try replace hlb := hlb.trans hle2); refine forVals_eq rfl rfl rfl ?_
      refine forVals_nil (ORg.plain (OR.buildSlice (vs := [_]) hs T76.und T3 rfl rfl rfl rfl (by simp) ?_))
      intro gn w hgn hs
      obtain ⟨H, hle1, hp, hs⟩ := hs.pub1 hgn
      exact ⟨_, [], hle1, hs, (Sl.block hp rfl rfl (by simp)), rfl⟩
    refine ⟨MF.own w0.heap.size 3 1 (cuts.length + 1) ((cuts ++ [(st.length : Int)]).map fun i => .int .i64 i), _, rfl, ⟨_, rfl, ?_⟩, ?_⟩
    · intro vj Mj Mx H w hle2 hs hFj; (try replace hle := hle.trans hle2); (try replace hlb := hlb.trans hle2); refine forVals_eq rfl rfl rfl ?_; refine forVals_of rfl rfl rfl ?_; intro v15 h15
      obtain ⟨b15, c15, rfl⟩ := h15.form
      refine forVals_nil (ORg.plain (OR.append (m := 1) (news := [_]) (Mo := Mj) hs hFj T76.und T3 rfl (by omega) rfl rfl rfl (Sl.src h15 hs) (Sl.src0 h15) rfl (by omega) (by omega) ?_))
      clear hs; intro v' w Mo' hs ho' hge
      exact ⟨_, Mo', Hp.le.refl _, hs, (by rw [List.map_append]; exact ho')⟩
    intro H w hle2; (try replace hle := hle.trans hle2); (try replace hlb := hlb.trans hle2)
    refine forAllVals_eq rfl ?_
    refine forAllVals_eq rfl ?_
    refine forAllVals_eq rfl ?_
    refine forAllVals_eq rfl ?_
    refine forAllVals_eq rfl ?_
    refine forAllVals_eq rfl ?_
    refine forAllVals_eq rfl ?_
    refine forAllVals_eq rfl ?_
    refine forAllVals_eq rfl ?_
    refine forAllVals_gone rfl ?_; intro v9
    refine forAllVals_eq rfl ?_
    refine forAllVals_eq rfl ?_
    refine forAllVals_eq rfl ?_
    refine forAllVals_eq rfl ?_
    refine forAllVals_eq rfl ?_
    refine forAllVals_of rfl ?_; intro v15 h15
    refine forAllVals_cons rfl ?_; intro v16 M16 h16
    refine forAllVals_nil ?_; (try clear hs); intro hs
    obtain ⟨H3, hle3, hs, hsl3, _⟩ := HS.pub hs h16
    replace hle := hle.trans hle3
    have hv3 : Ints H3 v16 (cuts ++ [(st.length : Int)]) := by unfold Ints; rw [List.length_append, List.length_singleton]; exact hsl3
    have hc3 := cutsOk_snoc st.length cuts 0 (by omega) hc
    refine WO.step rfl (OR.callX (Mx := [(b, _, true)]) hs body89 rfl rfl (set_ok b g s _ _ _ _ _ _ cl st (cuts ++ [(st.length : Int)]) _ _ hs.toSub (hs.blk (i := 0) rfl) (hs.mem b _ true (List.mem_cons_self ..)).2.1 hgs (h1.mono hle) hv3 (by omega) (by simp; omega)) rfl rfl ?_)
    clear hs; rintro _ H4 M' w hs hle1 hnew hres; replace hle := hle.trans hle1; (try replace hlb := hlb.trans hle1)
    rw [if_pos hc3] at hres
    obtain ⟨rfl, o', rfl, hsrc⟩ := hres
    refine WO.step rfl (OR.assign rfl (WO.done (WX.seq (WC.ret ?_))))
    refine WX.ret1 rfl rfl ?_
    refine ⟨_, H4, _, rfl, hs, by simp, rfl, _, rfl, ?_⟩
    rw [cutD, if_neg h0']
    exact hsrc

end Go.Bw
namespace Go.Bw
set_option linter.unusedVariables false
set_option linter.unusedSimpArgs false
open Go.Proofs

theorem chunkP_bound {room n : Nat} {st : List UInt8} (hr : 1 ≤ room) : ∀ (cuts : List Int) (p : List (List UInt8) × Nat), p.1.length ≤ p.2 → p.2 ≤ n → cutsOk n (p.2 : Int) cuts = true →
    (cuts.foldl (chunkStep room st) p).1.length ≤ (cuts.foldl (chunkStep room st) p).2 ∧ (cuts.foldl (chunkStep room st) p).2 ≤ n
  | [], p, h1, h2, _ => ⟨h1, h2⟩
  | c :: cs, p, h1, h2, h => by
    simp only [cutsOk, Bool.and_eq_true, decide_eq_true_eq] at h
    obtain ⟨⟨h3, h4⟩, h5⟩ := h
    obtain ⟨k, rfl⟩ := Int.eq_ofNat_of_zero_le (show 0 ≤ c by omega)
    have hk : (chunkStep room st p ((k : Nat) : Int)).2 = k := rfl
    have h6 := chunkStep_len (room := room) (st := st) (p := p) (cut := ((k : Nat) : Int)) h1 (show p.2 ≤ k by omega) hr
    exact chunkP_bound hr cs _ h6 (by rw [hk]; omega) (by rw [hk]; exact h5)
theorem chunksF_len {room : Nat} {st : List UInt8} {cuts : List Int} (hr : 1 ≤ room) (h : cutsOk st.length 0 cuts = true) : (chunksF room st cuts).length ≤ st.length := by
  have h1 := chunkP_bound (st := st) hr cuts ([], 0) (Nat.le_refl _) (Nat.zero_le _) h
  have h2 : (chunkP room st cuts).1.length ≤ (chunkP room st cuts).2 := h1.1
  have h3 : (chunkP room st cuts).2 ≤ st.length := h1.2
  have h4 : (st.length - (chunkP room st cuts).2) / room ≤ st.length - (chunkP room st cuts).2 := Nat.div_le_self _ _
  have h5 : (wholeL room st (chunkP room st cuts).2 ((st.length - (chunkP room st cuts).2) / room)).length = (st.length - (chunkP room st cuts).2) / room := by simp [wholeL]
  rw [chunksF, List.length_append, h5]
  omega
theorem openF_len (room : Nat) (st : List UInt8) (cuts : List Int) : (openF room st cuts).length ≤ st.length := by rw [openF, List.length_drop]; omega
theorem cutsOk_mono {n m : Nat} (h : n ≤ m) : ∀ (cuts : List Int) (last : Int), cutsOk n last cuts = true → cutsOk m last cuts = true
  | [], _, _ => rfl
  | c :: cs, last, hk => by
    simp only [cutsOk, Bool.and_eq_true, decide_eq_true_eq] at hk ⊢
    exact ⟨⟨hk.1.1, by omega⟩, cutsOk_mono h cs c hk.2⟩

structure SrcOk (x : SrcD) : Prop where
  gs : goodGS x.g x.s
  cuts : cutsOk x.st.length 0 x.cuts = true
  ch : x.chunks = chunksF (x.g * x.s - 4) x.st x.cuts
  op : x.opn = openF (x.g * x.s - 4) x.st x.cuts
  len : x.st.length ≤ 262144
theorem SrcOk.room {x : SrcD} (h : SrcOk x) : 1 ≤ x.g * x.s - 4 := by
  have h1 : (4 : Int) < (x.g : Int) * (x.s : Int) := h.gs.2.2.2.2
  rw [← Int.natCast_mul] at h1
  omega
theorem SrcOk.chl {x : SrcD} (h : SrcOk x) : x.chunks.length ≤ 262144 := by
  rw [h.ch]
  exact Nat.le_trans (chunksF_len h.room h.cuts) h.len
theorem SrcOk.opl {x : SrcD} (h : SrcOk x) : x.opn.length ≤ 262144 := by
  rw [h.op]
  exact Nat.le_trans (openF_len _ _ _) h.len
theorem SrcOk.cut {x : SrcD} (h : SrcOk x) : SrcOk (cutD x) := by
  unfold cutD
  split
  · exact h
  · exact ⟨h.gs, cutsOk_snoc _ _ _ (by omega) h.cuts, rfl, rfl, h.len⟩

/-- What a Submit would make, and how many generations that needs. -/
def longD (x : SrcD) (l : List UInt8) : SrcD := { x with st := x.st ++ l, chunks := chunksF (x.g * x.s - 4) (x.st ++ l) x.cuts, opn := openF (x.g * x.s - 4) (x.st ++ l) x.cuts }
def needs (x : SrcD) : Nat := x.chunks.length + (if x.opn = [] then 0 else 1)
def subFits (x : SrcD) (l : List UInt8) (most : Nat) : Prop := x.st.length + l.length ≤ 262144 ∧ needs (longD x l) ≤ most
instance (x : SrcD) (l : List UInt8) (most : Nat) : Decidable (subFits x l most) := inferInstanceAs (Decidable (_ ∧ _))
theorem SrcOk.long {x : SrcD} {l : List UInt8} (h : SrcOk x) (hl : x.st.length + l.length ≤ 262144) : SrcOk (longD x l) :=
  ⟨h.gs, cutsOk_mono (by simp [longD]) _ _ h.cuts, rfl, rfl, by simp [longD]; exact hl⟩

set_option maxRecDepth 20000 in
set_option maxHeartbeats 2000000 in
theorem submit1_ok (b gb gx gm : Nat) (x : SrcD) (o : Obj) (bv : Value) (l : List UInt8) (most : Nat) (H0 : Hp) (w0 : World)
    (hs : HS [b] H0 w0 H0 [(b, o, true), (gb, .cells #[bv] 43, false), (gx, .cells #[ptr b] 66, false), (gm, .cells #[.int .u64 (most : Int)] 22, false)] w0)
    (hx : SrcIn H0 x o) (hok : SrcOk x) (hl : Bytes H0 bv l) (hll : l.length ≤ 9223372036854775807) (hcl : x.cuts.length ≤ 1000000000) :
    Calls Tryz.prog 86 #[ptr gb, ptr gx, ptr gm] w0 (Ret [b] H0 w0 fun v H' M' => v = .int .i64 (if subFits x l most then 0 else 7) ∧ ∃ o', M' = [(b, o', true)] ∧ SrcIn H' (if subFits x l most then longD x l else x) o') := by
  have hxl := hok.len
  have hok0 := hok
  obtain ⟨g, s, st, cuts, cl, chunks, opn⟩ := x
  obtain ⟨vs, vc, vch, vop, rfl, hst, hcu, hch, hop⟩ := hx
  simp only at hst hcu hch hop hs hxl hcl
  have hle := Hp.le.refl H0
  have hgs := hok0.gs
  simp only at hgs
  obtain ⟨b1, c1, rfl⟩ := hst.form
  obtain ⟨b2, c2, rfl⟩ := hcu.form
  obtain ⟨b3, c3, rfl⟩ := hch.form
  obtain ⟨b4, c4, rfl⟩ := hop.form
  obtain ⟨b5, c5, rfl⟩ := hl.form
  refine Calls.enter (args := [ptr gb, ptr gx, ptr gm]) Tryz.func86 rfl Tryz.ntmps86 rfl ?_
  refine WC.seq (WC.region (WO.step rfl (OR.assign rfl (WO.done (WX.seq (WC.seq (WC.seq ?_)))))))
  refine WC.draw 9 mixed hs (by kernel_rfl) ?_
  refine ⟨MF.eq _, by intro Mx H w hle hs; refine forVals_nil (ORg.plain (OR.load T43 rfl rfl (hs.right.cellM (i := 1) rfl rfl) ?_)); exact ⟨_, [], Hp.le.refl _, hs, rfl, rfl⟩, ?_⟩
  refine ⟨MF.eq _, by intro Mx H w hle hs; refine forVals_eq rfl rfl rfl ?_; refine forVals_nil (ORg.plain (OR.lenSlice T43.und rfl ?_)); exact ⟨_, [], Hp.le.refl _, hs, rfl, rfl⟩, ?_⟩
  refine ⟨MF.eq _, by intro Mx H w hle hs; refine forVals_nil (ORg.plain (OR.load T66 rfl rfl (hs.right.cellM (i := 2) rfl rfl) ?_)); exact ⟨_, [], Hp.le.refl _, hs, rfl, rfl⟩, ?_⟩
  refine ⟨MF.eq _, by intro Mx H w hle hs; refine forVals_eq rfl rfl rfl ?_; refine forVals_nil (ORg.plain (OR.nilCheck rfl ?_)); exact ⟨_, [], Hp.le.refl _, hs, rfl, rfl⟩, ?_⟩
  refine ⟨MF.eq _, by intro Mx H w hle hs; refine forVals_eq rfl rfl rfl ?_; refine forVals_nil (ORg.plain (OR.fieldAddr FA163_2 rfl ?_)); exact ⟨_, [], Hp.le.refl _, hs, rfl, rfl⟩, ?_⟩
  refine ⟨MF.eq _, by intro Mx H w hle hs; refine forVals_eq rfl rfl rfl ?_; refine forVals_nil (ORg.plain (OR.load T43 rfl rfl (hs.right.cellM (i := 0) rfl rfl) ?_)); exact ⟨_, [], Hp.le.refl _, hs, rfl, rfl⟩, ?_⟩
  refine ⟨MF.eq _, by intro Mx H w hle hs; refine forVals_eq rfl rfl rfl ?_; refine forVals_nil (ORg.plain (OR.lenSlice T43.und rfl ?_)); exact ⟨_, [], Hp.le.refl _, hs, rfl, rfl⟩, ?_⟩
  refine ⟨MF.eq _, by intro Mx H w hle hs; refine forVals_eq rfl rfl rfl ?_; refine forVals_nil (ORg.plain (OR.subI rfl rfl (by omega) (by omega) ?_)); exact ⟨_, [], Hp.le.refl _, hs, rfl, rfl⟩, ?_⟩
  refine ⟨MF.eq _, by intro Mx H w hle hs; refine forVals_eq rfl rfl rfl ?_; refine forVals_eq rfl rfl rfl ?_; refine forVals_nil (ORg.plain (OR.gtr rfl rfl ?_)); exact ⟨_, [], Hp.le.refl _, hs, rfl, rfl⟩, ?_⟩
  intro H w hle2; (try replace hle := hle.trans hle2); (try replace hlb := hlb.trans hle2)
  refine forAllVals_eq rfl ?_
  refine forAllVals_eq rfl ?_
  refine forAllVals_eq rfl ?_
  refine forAllVals_eq rfl ?_
  refine forAllVals_eq rfl ?_
  refine forAllVals_eq rfl ?_
  refine forAllVals_eq rfl ?_
  refine forAllVals_eq rfl ?_
  refine forAllVals_eq rfl ?_
  refine forAllVals_nil ?_; (try clear hs); intro hs
  refine WO.done (WX.seq ?_)
  refine WC.condD rfl (fun hbig => ?_) (fun hbig => ?_)
  · have hnf : ¬ subFits ⟨g, s, st, cuts, cl, chunks, opn⟩ l most := fun h => by have := h.1; simp only at this; omega
    refine WC.seq (WC.region (WO.step rfl (OR.assign rfl (WO.done (WX.seq (WC.ret (WX.seq_ret ?_)))))))
    refine WX.ret1 rfl rfl ?_
    refine ⟨_, _, _, rfl, ((hs.drop 1).drop 1).drop 1, by simp [dropAt], by rw [if_neg hnf], _, rfl, ?_⟩
    rw [if_neg hnf]
    exact ⟨_, _, _, _, rfl, hst.mono hle, hcu.mono hle, hch.mono hle, hop.mono hle⟩
  · have hfit : st.length + l.length ≤ 262144 := by omega
    have hok2 := hok0.long (l := l) hfit
    obtain ⟨LD, hLD⟩ : ∃ LD, LD = longD ⟨g, s, st, cuts, cl, chunks, opn⟩ l := ⟨_, rfl⟩
    rw [← hLD] at hok2
    have hc2 := hok2.cuts
    have hchl := hok2.chl
    have hopl := hok2.opl
    have hsub : subFits ⟨g, s, st, cuts, cl, chunks, opn⟩ l most ↔ needs LD ≤ most := by rw [subFits, ← hLD]; exact ⟨fun h => h.2, fun h => ⟨hfit, h⟩⟩
    have hLs : LD.st = st ++ l := by rw [hLD]; rfl
    have hLc : LD.cuts = cuts := by rw [hLD]; rfl
    have hLch : LD.chunks = chunksF (g * s - 4) (st ++ l) cuts := by rw [hLD]; rfl
    have hLop : LD.opn = openF (g * s - 4) (st ++ l) cuts := by rw [hLD]; rfl
    have hgs' : 1 ≤ g ∧ g ≤ 255 ∧ 1 ≤ s ∧ s ≤ 65535 ∧ 4 < g * s := by
      obtain ⟨g1, g2, g3, g4, g5⟩ := hgs
      exact ⟨by omega, by omega, by omega, by omega, by rw [← Int.natCast_mul] at g5; omega⟩
    rw [hLs, hLc] at hc2
    have hlen2 : (st ++ l).length = st.length + l.length := List.length_append
    refine WC.skip (WX.seq (WC.seq ?_))
    refine WC.draw 6 mixed hs (by kernel_rfl) ?_
    refine ⟨MF.eq _, by intro Mx H w hle hs; refine forVals_nil (ORg.plain (OR.load T66 rfl rfl (hs.right.cellM (i := 2) rfl rfl) ?_)); exact ⟨_, [], Hp.le.refl _, hs, rfl, rfl⟩, ?_⟩
    refine ⟨MF.eq _, by intro Mx H w hle hs; refine forVals_eq rfl rfl rfl ?_; refine forVals_nil (ORg.plain (OR.nilCheck rfl ?_)); exact ⟨_, [], Hp.le.refl _, hs, rfl, rfl⟩, ?_⟩
    refine ⟨MF.eq _, by intro Mx H w hle hs; refine forVals_eq rfl rfl rfl ?_; refine forVals_nil (ORg.plain (OR.fieldAddr FA163_2 rfl ?_)); exact ⟨_, [], Hp.le.refl _, hs, rfl, rfl⟩, ?_⟩
    refine ⟨MF.eq _, by intro Mx H w hle hs; refine forVals_eq rfl rfl rfl ?_; refine forVals_nil (ORg.plain (OR.load T43 rfl rfl (hs.right.cellM (i := 0) rfl rfl) ?_)); exact ⟨_, [], Hp.le.refl _, hs, rfl, rfl⟩, ?_⟩
    refine ⟨MF.own w0.heap.size 5 1 st.length (st.map B), ?_, ?_⟩
    · intro Mx H w hle2 hs; (try replace hle := hle.trans hle2); (try replace hlb := hlb.trans hle2); refine forVals_eq rfl rfl rfl ?_
      refine forVals_nil (ORg.plain (OR.callX (Mx := []) hs body87 rfl rfl (clone_ok _ st _ _ hs.toSub (hst.mono hle) (by omega)) rfl rfl ?_))
      have hsz := hs.size
      clear hs; rintro v H1 M1 w hs hle1 hnew ⟨rfl, ho⟩
      exact ⟨_, M1, hle1, hs, ho.mono hsz⟩
    refine ⟨MF.eq _, by intro Mx H w hle hs; refine forVals_nil (ORg.plain (OR.load T43 rfl rfl (hs.right.cellM (i := 1) rfl rfl) ?_)); exact ⟨_, [], Hp.le.refl _, hs, rfl, rfl⟩, ?_⟩
    intro H w hle2; (try replace hle := hle.trans hle2); (try replace hlb := hlb.trans hle2)
    refine forAllVals_eq rfl ?_
    refine forAllVals_eq rfl ?_
    refine forAllVals_eq rfl ?_
    refine forAllVals_eq rfl ?_
    refine forAllVals_cons rfl ?_; intro v4 M4 h4
    refine forAllVals_eq rfl ?_
    refine forAllVals_nil ?_; (try clear hs); intro hs
    refine WO.step rfl (OR.append (m := l.length) (news := l.map B) hs h4 T43.und T5 rfl (by omega) rfl rfl (by simp) (Sl.src (hl.mono hle) hs) (Sl.src0 hl) (bytes_one l) (by omega) (by omega) ?_)
    clear hs; intro vl w Mo hs ho hge
    obtain ⟨H3, hle3, hs, hsl3, _⟩ := HS.pub hs ho
    replace hle := hle.trans hle3
    have hlong : Bytes H3 vl (st ++ l) := by unfold Bytes; rw [hlen2, List.map_append]; exact hsl3
    obtain ⟨b6, c6, rfl⟩ := hlong.form
    clear ho hsl3 hle3
    have hlb := Hp.le.refl H3
    obtain ⟨HB, hHB⟩ : ∃ X, X = H3 := ⟨_, rfl⟩
    subst hHB
    have hcu1 := hcu.mono hle
    refine WO.step rfl (OR.assign rfl (WO.done (WX.seq (WC.seq ?_))))
    refine WC.draw 20 mixed hs (by kernel_rfl) ?_
    refine ⟨MF.eq _, by intro Mx H w hle hs; refine forVals_nil (ORg.plain (OR.move rfl ?_)); exact ⟨_, [], Hp.le.refl _, hs, rfl, rfl⟩, ?_⟩
    refine ⟨MF.eq _, by intro Mx H w hle hs; refine forVals_nil (ORg.plain (OR.load T66 rfl rfl (hs.right.cellM (i := 2) rfl rfl) ?_)); exact ⟨_, [], Hp.le.refl _, hs, rfl, rfl⟩, ?_⟩
    refine ⟨MF.eq _, by intro Mx H w hle hs; refine forVals_eq rfl rfl rfl ?_; refine forVals_nil (ORg.plain (OR.nilCheck rfl ?_)); exact ⟨_, [], Hp.le.refl _, hs, rfl, rfl⟩, ?_⟩
    refine ⟨MF.eq _, by intro Mx H w hle hs; refine forVals_eq rfl rfl rfl ?_; refine forVals_nil (ORg.plain (OR.fieldAddr FA163_3 rfl ?_)); exact ⟨_, [], Hp.le.refl _, hs, rfl, rfl⟩, ?_⟩
    refine ⟨MF.eq _, by intro Mx H w hle hs; refine forVals_eq rfl rfl rfl ?_; refine forVals_nil (ORg.plain (OR.load T76 rfl rfl (hs.right.cellM (i := 0) rfl rfl) ?_)); exact ⟨_, [], Hp.le.refl _, hs, rfl, rfl⟩, ?_⟩
    refine ⟨MF.eq _, by intro Mx H w hle hs; refine forVals_nil (ORg.plain (OR.load T66 rfl rfl (hs.right.cellM (i := 2) rfl rfl) ?_)); exact ⟨_, [], Hp.le.refl _, hs, rfl, rfl⟩, ?_⟩
    refine ⟨MF.eq _, by intro Mx H w hle hs; refine forVals_eq rfl rfl rfl ?_; refine forVals_nil (ORg.plain (OR.nilCheck rfl ?_)); exact ⟨_, [], Hp.le.refl _, hs, rfl, rfl⟩, ?_⟩
    refine ⟨MF.eq _, by intro Mx H w hle hs; refine forVals_eq rfl rfl rfl ?_; refine forVals_nil (ORg.plain (OR.fieldAddr FA163_0 rfl ?_)); exact ⟨_, [], Hp.le.refl _, hs, rfl, rfl⟩, ?_⟩
    refine ⟨MF.eq _, by intro Mx H w hle hs; refine forVals_eq rfl rfl rfl ?_; refine forVals_nil (ORg.plain (OR.load T3 rfl rfl (hs.right.cellM (i := 0) rfl rfl) ?_)); exact ⟨_, [], Hp.le.refl _, hs, rfl, rfl⟩, ?_⟩
    refine ⟨MF.eq _, by intro Mx H w hle hs; refine forVals_nil (ORg.plain (OR.load T66 rfl rfl (hs.right.cellM (i := 2) rfl rfl) ?_)); exact ⟨_, [], Hp.le.refl _, hs, rfl, rfl⟩, ?_⟩
    refine ⟨MF.eq _, by intro Mx H w hle hs; refine forVals_eq rfl rfl rfl ?_; refine forVals_nil (ORg.plain (OR.nilCheck rfl ?_)); exact ⟨_, [], Hp.le.refl _, hs, rfl, rfl⟩, ?_⟩
    refine ⟨MF.eq _, by intro Mx H w hle hs; refine forVals_eq rfl rfl rfl ?_; refine forVals_nil (ORg.plain (OR.fieldAddr FA163_1 rfl ?_)); exact ⟨_, [], Hp.le.refl _, hs, rfl, rfl⟩, ?_⟩
    refine ⟨MF.eq _, by intro Mx H w hle hs; refine forVals_eq rfl rfl rfl ?_; refine forVals_nil (ORg.plain (OR.load T3 rfl rfl (hs.right.cellM (i := 0) rfl rfl) ?_)); exact ⟨_, [], Hp.le.refl _, hs, rfl, rfl⟩, ?_⟩
    refine ⟨MF.tup3 LD.chunks LD.opn 0, ?_, ?_⟩
    · intro Mx H w hle2 hs; (try replace hle := hle.trans hle2); (try replace hlb := hlb.trans hle2); refine forVals_eq rfl rfl rfl ?_; refine forVals_eq rfl rfl rfl ?_; refine forVals_eq rfl rfl rfl ?_; refine forVals_eq rfl rfl rfl ?_
      refine forVals_nil (ORg.plain (OR.call hs body88 rfl rfl (chunks_ok g s _ _ (st ++ l) cuts _ _ hs.toSub hgs' (hlong.mono hlb) (hcu1.mono hlb) (by omega) (by omega)) ?_))
      clear hs; rintro _ H w hs hle1 ⟨r1, r2, rfl, hr1, hr2⟩
      exact ⟨_, [], hle1, hs, ⟨_, _, by rw [if_pos hc2], by rw [hLch]; rw [if_pos hc2] at hr1; exact hr1, by rw [hLop]; rw [if_pos hc2] at hr2; exact hr2⟩, rfl⟩
    refine ⟨MF.tup3 LD.chunks LD.opn 0, ?_, ?_⟩
    · intro Mx H w hle2 hs; (try replace hle := hle.trans hle2); (try replace hlb := hlb.trans hle2); refine forVals_of rfl rfl rfl ?_; intro v13 h13
      obtain ⟨r1, r2, rfl, hr1, hr2⟩ := h13
      refine forVals_nil (ORg.plain (OR.move rfl ?_))
      exact ⟨_, [], Hp.le.refl _, hs, ⟨_, _, rfl, hr1, hr2⟩, rfl⟩
    refine ⟨MF.bytesL LD.chunks, ?_, ?_⟩
    · intro Mx H w hle2 hs; (try replace hle := hle.trans hle2); (try replace hlb := hlb.trans hle2); refine forVals_of rfl rfl rfl ?_; intro v14 h14
      obtain ⟨r1, r2, rfl, hr1, hr2⟩ := h14
      refine forVals_nil (ORg.plain (OR.extract rfl rfl ?_))
      exact ⟨_, [], Hp.le.refl _, hs, hr1, rfl⟩
    refine ⟨MF.bytes LD.opn, ?_, ?_⟩
    · intro Mx H w hle2 hs; (try replace hle := hle.trans hle2); (try replace hlb := hlb.trans hle2); refine forVals_of rfl rfl rfl ?_; intro v14 h14
      obtain ⟨r1, r2, rfl, hr1, hr2⟩ := h14
      refine forVals_nil (ORg.plain (OR.extract rfl rfl ?_))
      exact ⟨_, [], Hp.le.refl _, hs, hr2, rfl⟩
    refine ⟨MF.eq (.int .i64 0), ?_, ?_⟩
    · intro Mx H w hle2 hs; (try replace hle := hle.trans hle2); (try replace hlb := hlb.trans hle2); refine forVals_of rfl rfl rfl ?_; intro v14 h14
      obtain ⟨r1, r2, rfl, hr1, hr2⟩ := h14
      refine forVals_nil (ORg.plain (OR.extract rfl rfl ?_))
      exact ⟨_, [], Hp.le.refl _, hs, rfl, rfl⟩
    refine ⟨MF.bytesL LD.chunks, ?_, ?_⟩
    · intro Mx H w hle2 hs; (try replace hle := hle.trans hle2); (try replace hlb := hlb.trans hle2); refine forVals_of rfl rfl rfl ?_; intro v15 h15
      refine forVals_nil (ORg.plain (OR.assign rfl ?_))
      exact ⟨_, [], Hp.le.refl _, hs, h15, rfl⟩
    refine ⟨MF.bytes LD.opn, ?_, ?_⟩
    · intro Mx H w hle2 hs; (try replace hle := hle.trans hle2); (try replace hlb := hlb.trans hle2); refine forVals_of rfl rfl rfl ?_; intro v16 h16
      refine forVals_nil (ORg.plain (OR.assign rfl ?_))
      exact ⟨_, [], Hp.le.refl _, hs, h16, rfl⟩
    intro H w hle2; (try replace hle := hle.trans hle2); (try replace hlb := hlb.trans hle2)
    refine forAllVals_eq rfl ?_
    refine forAllVals_eq rfl ?_
    refine forAllVals_eq rfl ?_
    refine forAllVals_eq rfl ?_
    refine forAllVals_eq rfl ?_
    refine forAllVals_eq rfl ?_
    refine forAllVals_eq rfl ?_
    refine forAllVals_eq rfl ?_
    refine forAllVals_eq rfl ?_
    refine forAllVals_eq rfl ?_
    refine forAllVals_eq rfl ?_
    refine forAllVals_eq rfl ?_
    refine forAllVals_eq rfl ?_
    refine forAllVals_of rfl ?_; intro v13 h13
    refine forAllVals_of rfl ?_; intro v14 h14
    refine forAllVals_of rfl ?_; intro v15 h15
    refine forAllVals_of rfl ?_; intro v16 h16
    refine forAllVals_eq rfl ?_
    refine forAllVals_of rfl ?_; intro v18 h18
    refine forAllVals_of rfl ?_; intro v19 h19
    refine forAllVals_nil ?_; (try clear hs); intro hs
    obtain ⟨b7, c7, rfl⟩ := h18.form
    obtain ⟨b8, c8, rfl⟩ := h19.form
    refine WO.step rfl (OR.assign rfl (WO.done (WX.seq (WC.seq (WC.region (WO.step rfl (OR.move rfl ?_)))))))
    refine WO.step rfl (OR.lenSlice T40.und rfl ?_)
    refine WO.step rfl (OR.convI T3.und T22.und rfl ?_)
    rw [u64_wrap _ (by omega)]
    refine WO.step rfl (OR.assign rfl (WO.done (WX.seq (WC.seq (WC.seq (WC.region (WO.step rfl ?_)))))))
    refine OR.move rfl (WO.step rfl (OR.lenSlice T43.und rfl (WO.step rfl (OR.gtr rfl rfl (WO.done (WX.seq ?_))))))
    refine WC.joinK (ι := Unit) (fun ix => [(0, ptr gb), (1, ptr gx), (2, ptr gm), (4, .slice b6 (st ++ l).length c6), (8, .int .u64 (needs LD : Int))]) (fun ix w => (HS [b] H0 w0 H [(b, srcObj g s (.slice b1 st.length c1) (.slice b2 cuts.length c2) cl (.slice b3 chunks.length c3) (.slice b4 opn.length c4), true), (gb, .cells #[.slice b5 l.length c5] 43, false), (gx, .cells #[ptr b] 66, false), (gm, .cells #[.int .u64 (most : Int)] 22, false)] w)) ?_ (fun ix w hW => ?_)
    · refine WC.condD rfl (fun hopn => ?_) (fun hopn => ?_)
      · refine WC.region (WO.step rfl (OR.move rfl ?_))
        refine WO.step rfl (OR.add rfl rfl ?_)
        have hne : ¬ LD.opn = [] := fun e => by rw [e] at hopn; exact absurd hopn (by decide)
        have hnd : IntKind.u64.wrap ((LD.chunks.length : Int) + 1) = (needs LD : Int) := by
          have := u64_wrap (LD.chunks.length + 1) (by omega)
          rw [needs, if_neg hne, ← this]; rfl
        rw [hnd]
        refine WO.step rfl (OR.assign rfl (WO.done ?_))
        refine WX.arrive (()) ⟨rfl, rfl, rfl, rfl, rfl,  trivial⟩ ?_
        · exact hs
      · have he : LD.opn = [] := List.eq_nil_of_length_eq_zero (by omega)
        have hnd : (LD.chunks.length : Int) = (needs LD : Int) := by rw [needs, if_pos he, Nat.add_zero]
        rw [hnd]
        refine WC.skip ?_
        refine WX.arrive (()) ⟨rfl, rfl, rfl, rfl, rfl,  trivial⟩ ?_
        · exact hs
    · clear hs
      have hs := hW
      clear hW
      refine WC.seq (WC.seq (WC.region (WO.step rfl (OR.move rfl (WO.step rfl (OR.load T22 rfl rfl (hs.cellM (i := 3) rfl rfl) (WO.step rfl ?_)))))))
      refine OR.gtr rfl rfl (WO.done (WX.seq ?_))
      refine WC.condD rfl (fun hmost => ?_) (fun hmost => ?_)
      · have hnf : ¬ subFits ⟨g, s, st, cuts, cl, chunks, opn⟩ l most := fun h => by have := hsub.1 h; omega
        refine WC.seq (WC.region (WO.step rfl (OR.assign rfl (WO.done (WX.seq (WC.ret (WX.seq_ret ?_)))))))
        refine WX.ret1 rfl rfl ?_
        refine ⟨_, _, _, rfl, ((hs.drop 1).drop 1).drop 1, by simp [dropAt], by rw [if_neg hnf], _, rfl, ?_⟩
        rw [if_neg hnf]
        exact ⟨_, _, _, _, rfl, hst.mono hle, hcu.mono hle, hch.mono hle, hop.mono hle⟩
      · have hf : subFits ⟨g, s, st, cuts, cl, chunks, opn⟩ l most := hsub.2 (by omega)
        refine WC.skip (WX.seq (WC.seq ?_))
        refine WC.draw 6 mixed hs (by kernel_rfl) ?_
        refine ⟨MF.eq _, by intro Mx H w hle hs; refine forVals_nil (ORg.plain (OR.load T66 rfl rfl (hs.right.cellM (i := 2) rfl rfl) ?_)); exact ⟨_, [], Hp.le.refl _, hs, rfl, rfl⟩, ?_⟩
        refine ⟨MF.eq _, by intro Mx H w hle hs; refine forVals_nil (ORg.plain (OR.move rfl ?_)); exact ⟨_, [], Hp.le.refl _, hs, rfl, rfl⟩, ?_⟩
        refine ⟨MF.eq _, by intro Mx H w hle hs; refine forVals_nil (ORg.plain (OR.load T66 rfl rfl (hs.right.cellM (i := 2) rfl rfl) ?_)); exact ⟨_, [], Hp.le.refl _, hs, rfl, rfl⟩, ?_⟩
        refine ⟨MF.eq _, by intro Mx H w hle hs; refine forVals_eq rfl rfl rfl ?_; refine forVals_nil (ORg.plain (OR.nilCheck rfl ?_)); exact ⟨_, [], Hp.le.refl _, hs, rfl, rfl⟩, ?_⟩
        refine ⟨MF.eq _, by intro Mx H w hle hs; refine forVals_eq rfl rfl rfl ?_; refine forVals_nil (ORg.plain (OR.fieldAddr FA163_3 rfl ?_)); exact ⟨_, [], Hp.le.refl _, hs, rfl, rfl⟩, ?_⟩
        refine ⟨MF.eq _, by intro Mx H w hle hs; refine forVals_eq rfl rfl rfl ?_; refine forVals_nil (ORg.plain (OR.load T76 rfl rfl (hs.right.cellM (i := 0) rfl rfl) ?_)); exact ⟨_, [], Hp.le.refl _, hs, rfl, rfl⟩, ?_⟩
        intro H w hle2; (try replace hle := hle.trans hle2); (try replace hlb := hlb.trans hle2)
        refine forAllVals_eq rfl ?_
        refine forAllVals_eq rfl ?_
        refine forAllVals_eq rfl ?_
        refine forAllVals_eq rfl ?_
        refine forAllVals_eq rfl ?_
        refine forAllVals_eq rfl ?_
        refine forAllVals_nil ?_; (try clear hs); intro hs
        refine WO.step rfl (OR.callX (Mx := [(b, _, true)]) hs body89 rfl rfl (set_ok b g s _ _ _ _ _ _ cl (st ++ l) cuts _ _ hs.toSub (hs.blk (i := 0) rfl) (hs.mem b _ true (List.mem_cons_self ..)).2.1 hgs (hlong.mono hlb) (hcu.mono hle) (by omega) (by omega)) rfl rfl ?_)
        clear hs; rintro _ H4 M' w hs hle1 hnew hres; replace hle := hle.trans hle1; (try replace hlb := hlb.trans hle1)
        rw [if_pos hc2] at hres
        obtain ⟨rfl, o', rfl, hsrc⟩ := hres
        refine WO.step rfl (OR.assign rfl (WO.done (WX.seq (WC.ret ?_))))
        refine WX.ret1 rfl rfl ?_
        refine ⟨_, H4, _, rfl, ((hs.drop 1).drop 1).drop 1, by simp [dropAt], by rw [if_pos hf], _, rfl, ?_⟩
        rw [if_pos hf]
        exact hsrc

end Go.Bw
namespace Go.Bw
set_option linter.unusedVariables false
set_option linter.unusedSimpArgs false
open Go.Proofs

def subE (x : SrcD) (l : List UInt8) (most : Nat) : Int := if x.cl = true then 27 else if subFits x l most then 0 else 7
def subD (x : SrcD) (l : List UInt8) (most : Nat) : SrcD := if x.cl = true then x else if subFits x l most then longD x l else x

abbrev madeV (p : Value) : Value := .func (.func 84) #[p] #[]
abbrev freeV (p : Value) : Value := .func (.func 85) #[p] #[]
abbrev cutV (p : Value) : Value := .func (.func 90) #[p] #[]
/-- No source: the first question says so. -/
theorem first_nil (rest : List Value) (gb cap k : Nat) (hk : k = rest.length + 1) (H : Hp) (w : World) (h0 : Sub H w) (hb : w.heap[gb]? = some (.cells (madeV (.pointer none) :: rest).toArray 70)) (hl : k ≤ 1000) :
    Calls Tryz.prog 83 #[.slice (some ⟨gb, 0, none⟩) k cap] w (Pure H w fun v _ => v = .int .i64 2) := by
  subst hk
  refine (first_ok (madeV (.pointer none) :: rest) gb cap (fun i w' => i = 0 ∧ w' = w) (fun er w' => er = 2 ∧ ∃ H', HS [] H w H' [] w') w ⟨rfl, rfl⟩ (by simpa using hl) ?_ ?_ ?_).mono ?_
  · rintro i w' ⟨rfl, rfl⟩ h
    simp [World.cell?, hb]
  · rintro i h w' ⟨rfl, rfl⟩
    refine ⟨_, [.pointer none], [], rfl, body84, (smade_nil H w' h0).mono fun e w2 hp => ?_⟩
    obtain ⟨v, H', M', rfl, hs, _, rfl, rfl⟩ := hp
    exact ⟨2, rfl, .inr ⟨by decide, rfl, H', hs⟩⟩
  · rintro w' ⟨h, _⟩
    simp at h
  · rintro e w' ⟨er, rfl, rfl, H', hs⟩
    exact .mk hs rfl
set_option maxRecDepth 20000 in
set_option maxHeartbeats 2000000 in
theorem ssub_nil (b5 : Option Addr) (n5 c5 : Nat) (most : Int) (H0 : Hp) (w0 : World) (h0 : Sub H0 w0) :
    Calls Tryz.prog 29 #[.pointer none, .slice b5 n5 c5, .int .u64 most] w0 (Pure H0 w0 fun v _ => v = .int .i64 2) := by
  have hs := HS.init h0
  have hle := Hp.le.refl H0
  refine Calls.enter (args := [.pointer none, .slice b5 n5 c5, .int .u64 most]) Tryz.func29 rfl Tryz.ntmps29 rfl ?_
  refine WC.seq (WC.region (WO.step rfl (OR.box hs rfl ?_)))
  clear hs; intro g1 w hg1 hs
  refine WO.step rfl (OR.box hs rfl ?_)
  clear hs; intro g2 w hg2 hs
  refine WO.step rfl (OR.box hs rfl ?_)
  clear hs; intro g3 w hg3 hs
  refine WO.step rfl (OR.assign rfl (WO.done (WX.seq (WC.seq (WC.region (WO.step rfl (OR.load T66 rfl rfl (hs.cellM (i := 2) rfl rfl) ?_)))))))
  refine WO.step rfl (OR.makeFunc rfl rfl (WO.step rfl (OR.load T66 rfl rfl (hs.cellM (i := 2) rfl rfl) (WO.step rfl (OR.makeFunc rfl rfl (WO.step rfl (OR.makeFunc rfl rfl ?_)))))))
  refine WO.step rfl (OR.buildSlice (vs := [_, _, _]) hs T215.und T70 rfl rfl rfl rfl (by simp) ?_)
  clear hs; intro g4 w hg4 hs
  refine WO.step rfl (OR.call hs body83 rfl rfl (first_nil [_, _] g4 3 3 rfl _ _ hs.toSub (hs.blk (i := 0) rfl) (by omega)) ?_)
  clear hs; rintro _ H w hs hle1 rfl; replace hle := hle.trans hle1; (try replace hlb := hlb.trans hle1)
  refine WO.step rfl (OR.assign rfl (WO.done (WX.seq (WC.ret ?_))))
  refine WX.ret1 rfl rfl ?_
  exact .mk hs rfl
set_option maxRecDepth 20000 in
set_option maxHeartbeats 2000000 in
theorem sflush_nil (H0 : Hp) (w0 : World) (h0 : Sub H0 w0) : Calls Tryz.prog 30 #[.pointer none] w0 (Pure H0 w0 fun v _ => v = .int .i64 2) := by
  have hs := HS.init h0
  have hle := Hp.le.refl H0
  refine Calls.enter (args := [.pointer none]) Tryz.func30 rfl Tryz.ntmps30 rfl ?_
  refine WC.seq (WC.region (WO.step rfl (OR.assign rfl (WO.done (WX.seq (WC.seq (WC.region ?_)))))))
  refine WO.step rfl (OR.move rfl (WO.step rfl (OR.makeFunc rfl rfl (WO.step rfl (OR.move rfl (WO.step rfl (OR.makeFunc rfl rfl ?_)))))))
  refine WO.step rfl (OR.move rfl (WO.step rfl (OR.makeFunc rfl rfl ?_)))
  refine WO.step rfl (OR.buildSlice (vs := [_, _, _]) hs T215.und T70 rfl rfl rfl rfl (by simp) ?_)
  clear hs; intro g4 w hg4 hs
  refine WO.step rfl (OR.call hs body83 rfl rfl (first_nil [_, _] g4 3 3 rfl _ _ hs.toSub (hs.blk (i := 0) rfl) (by omega)) ?_)
  clear hs; rintro _ H w hs hle1 rfl; replace hle := hle.trans hle1; (try replace hlb := hlb.trans hle1)
  refine WO.step rfl (OR.assign rfl (WO.done (WX.seq (WC.ret ?_))))
  refine WX.ret1 rfl rfl ?_
  exact .mk hs rfl
set_option maxRecDepth 20000 in
set_option maxHeartbeats 2000000 in
theorem sclose_nil (H0 : Hp) (w0 : World) (h0 : Sub H0 w0) : Calls Tryz.prog 113 #[.pointer none] w0 (Pure H0 w0 fun v _ => v = .int .i64 2) := by
  have hs := HS.init h0
  have hle := Hp.le.refl H0
  refine Calls.enter (args := [.pointer none]) Tryz.func113 rfl Tryz.ntmps113 rfl ?_
  refine WC.seq (WC.region (WO.step rfl (OR.box hs rfl ?_)))
  clear hs; intro g1 w hg1 hs
  refine WO.step rfl (OR.assign rfl (WO.done (WX.seq (WC.seq (WC.region (WO.step rfl (OR.load T66 rfl rfl (hs.cellM (i := 0) rfl rfl) ?_)))))))
  refine WO.step rfl (OR.makeFunc rfl rfl (WO.step rfl (OR.load T66 rfl rfl (hs.cellM (i := 0) rfl rfl) (WO.step rfl (OR.makeFunc rfl rfl (WO.step rfl (OR.load T66 rfl rfl (hs.cellM (i := 0) rfl rfl) ?_)))))))
  refine WO.step rfl (OR.makeFunc rfl rfl (WO.step rfl (OR.makeFunc rfl rfl ?_)))
  refine WO.step rfl (OR.buildSlice (vs := [_, _, _, _]) hs T215.und T70 rfl rfl rfl rfl (by simp) ?_)
  clear hs; intro g4 w hg4 hs
  refine WO.step rfl (OR.call hs body83 rfl rfl (first_nil [_, _, _] g4 4 4 rfl _ _ hs.toSub (hs.blk (i := 0) rfl) (by omega)) ?_)
  clear hs; rintro _ H w hs hle1 rfl; replace hle := hle.trans hle1; (try replace hlb := hlb.trans hle1)
  refine WO.step rfl (OR.assign rfl (WO.done (WX.seq (WC.ret ?_))))
  refine WX.ret1 rfl rfl ?_
  exact .mk hs rfl

set_option maxRecDepth 20000 in
set_option maxHeartbeats 2000000 in
theorem submit_ok (b : Nat) (x : SrcD) (o : Obj) (bv : Value) (l : List UInt8) (most : Nat) (H0 : Hp) (w0 : World) (h0 : Sub H0 w0) (hb : w0.heap[b]? = some o) (hn : H0 b = none)
    (hx : SrcIn H0 x o) (hok : SrcOk x) (hl : Bytes H0 bv l) (hll : l.length ≤ 9223372036854775807) (hcl : x.cuts.length ≤ 1000000000) :
    Calls Tryz.prog 29 #[ptr b, bv, .int .u64 (most : Int)] w0 (Ret [b] H0 w0 fun v H' M' => v = .int .i64 (subE x l most) ∧ ∃ o', M' = [(b, o', true)] ∧ SrcIn H' (subD x l most) o') := by
  have hs := HS.start1 h0 hb hn
  have hle := Hp.le.refl H0
  have hx0 := hx
  have hgp : 0 < x.g := by have := hok.gs.1; omega
  obtain ⟨vs, vc, vch, vop, ho, _⟩ := hx0
  obtain ⟨b5, c5, rfl⟩ := hl.form
  refine Calls.enter (args := [ptr b, .slice b5 l.length c5, .int .u64 (most : Int)]) Tryz.func29 rfl Tryz.ntmps29 rfl ?_
  refine WC.seq (WC.region (WO.step rfl (OR.box hs rfl ?_)))
  clear hs; intro g1 w hg1 hs
  refine WO.step rfl (OR.box hs rfl ?_)
  clear hs; intro g2 w hg2 hs
  refine WO.step rfl (OR.box hs rfl ?_)
  clear hs; intro g3 w hg3 hs
  refine WO.step rfl (OR.assign rfl (WO.done (WX.seq (WC.seq (WC.region (WO.step rfl (OR.load T66 rfl rfl (hs.cellM (i := 2) rfl rfl) ?_)))))))
  refine WO.step rfl (OR.makeFunc rfl rfl (WO.step rfl (OR.load T66 rfl rfl (hs.cellM (i := 2) rfl rfl) (WO.step rfl (OR.makeFunc rfl rfl (WO.step rfl (OR.makeFunc rfl rfl ?_)))))))
  refine WO.step rfl (OR.buildSlice (vs := [_, _, _]) hs T215.und T70 rfl rfl rfl rfl (by simp) ?_)
  clear hs; intro g4 w hg4 hs
  refine WO.step rfl (OR.callW body83 rfl rfl (first_ok [.func (.func 84) #[ptr b] #[], .func (.func 85) #[ptr b] #[], .func (.func 86) #[] #[ptr g2, ptr g1, ptr g3]] g4 3 (fun i w => (i ≤ 2 ∧ (i = 2 → x.cl = false) ∧ ∃ H, Hp.le H0 H ∧ HS [b] H0 w0 H [(g4, .cells #[.func (.func 84) #[ptr b] #[], .func (.func 85) #[ptr b] #[], .func (.func 86) #[] #[ptr g2, ptr g1, ptr g3]] 70, true), (g3, .cells #[.int .u64 (most : Int)] 22, true), (g2, .cells #[.slice b5 l.length c5] 43, true), (g1, .cells #[ptr b] 66, true), (b, o, true)] w) ∨ (i = 3 ∧ subE x l most = 0 ∧ ∃ H o', HS [b] H0 w0 H [(b, o', true)] w ∧ SrcIn H (subD x l most) o')) (fun er w => er = subE x l most ∧ ∃ H o', HS [b] H0 w0 H [(b, o', true)] w ∧ SrcIn H (subD x l most) o') _ (.inl ⟨by omega, (fun h => by cases h), H0, hle, hs⟩) (by simp) ?_ ?_ ?_) ?_)
  · rintro i w (⟨hi, _, H, _, hs⟩ | ⟨rfl, _⟩) h
    · match i, hi with
      | 0, _ => exact hs.cellM (i := 0) rfl rfl
      | 1, _ => exact hs.cellM (i := 0) rfl rfl
      | 2, _ => exact hs.cellM (i := 0) rfl rfl
    · simp at h
  · rintro i h w (⟨hi, hc2, H, hle, hs⟩ | ⟨rfl, _⟩)
    · match i, hi with
      | 0, _ =>
        refine ⟨_, [ptr b], [], rfl, body84, (smade_ok b x.g x.s vs vc vch vop x.cl _ _ hs.toSub (by rw [← ho]; exact hs.blk (i := 4) rfl) (hs.mem b o true (by simp)).2.1 hgp).mono fun e w' hp => ?_⟩
        obtain ⟨v, H', rfl, hs', hle', rfl⟩ := hp.step hs
        exact ⟨0, rfl, .inl ⟨rfl, .inl ⟨by omega, (fun h => by cases h), H', hle.trans hle', hs'⟩⟩⟩
      | 1, _ =>
        refine ⟨_, [ptr b], [], rfl, body85, (sfree_ok b x.g x.s vs vc vch vop x.cl _ _ hs.toSub (by rw [← ho]; exact hs.blk (i := 4) rfl) (hs.mem b o true (by simp)).2.1).mono fun e w' hp => ?_⟩
        obtain ⟨v, H', rfl, hs', hle', rfl⟩ := hp.step hs
        by_cases hc : x.cl = true
        · exact ⟨27, by rw [if_pos hc], .inr ⟨by decide, by rw [subE, if_pos hc], H', o, (((hs'.drop 0).drop 0).drop 0).drop 0, by rw [subD, if_pos hc]; exact hx.mono (hle.trans hle')⟩⟩
        · exact ⟨0, by rw [if_neg hc], .inl ⟨rfl, .inl ⟨by omega, (fun _ => by simpa using hc), H', hle.trans hle', hs'⟩⟩⟩
      | 2, _ =>
        have hc := hc2 rfl
        have hs3 : HS [b] H0 w0 H ([(b, o, true)] ++ [(g2, .cells #[.slice b5 l.length c5] 43, true), (g1, .cells #[ptr b] 66, true), (g3, .cells #[.int .u64 (most : Int)] 22, true)]) w := ((((hs.drop 0).front (i := 0) rfl).front (i := 2) rfl).front (i := 2) rfl).front (i := 3) rfl
        refine ⟨_, [], [ptr g2, ptr g1, ptr g3], rfl, body86, (submit1_ok b g2 g1 g3 x o _ l most H w (hs3.begin [true, false, false, false]) (hx.mono hle) hok (hl.mono hle) hll hcl).mono fun e w' hp => ?_⟩
        obtain ⟨v, H', M', rfl, hs', hle', rfl, o', rfl, hsrc⟩ := hp.step hs3 rfl rfl
        have hE : subE x l most = if subFits x l most then 0 else 7 := by rw [subE, if_neg (by rw [hc]; decide)]
        have hD : subD x l most = if subFits x l most then longD x l else x := by rw [subD, if_neg (by rw [hc]; decide)]
        rw [← hD] at hsrc
        rw [← hE]
        have hs4 : HS [b] H0 w0 H' [(b, o', true)] w' := ((hs'.drop 1).drop 1).drop 1
        by_cases hz : subE x l most = 0
        · exact ⟨_, rfl, .inl ⟨hz, .inr ⟨rfl, hz, H', o', hs4, hsrc⟩⟩⟩
        · exact ⟨_, rfl, .inr ⟨hz, rfl, H', o', hs4, hsrc⟩⟩
    · simp at h
  · rintro w (⟨h, _⟩ | ⟨_, hz, H, o', hs, hsrc⟩)
    · simp at h
    · exact ⟨hz.symm, H, o', hs, hsrc⟩
  rintro e w ⟨er, rfl, rfl, H, o', hs, hsrc⟩
  refine ⟨_, rfl, ?_⟩
  refine WO.step rfl (OR.assign rfl (WO.done (WX.seq (WC.ret ?_))))
  refine WX.ret1 rfl rfl ?_
  exact ⟨_, H, _, rfl, hs, by simp, rfl, o', rfl, hsrc⟩


def flushD (x : SrcD) : SrcD := if x.cl = true then x else cutD x
def closeD (x : SrcD) : SrcD := if x.cl = true then x else { cutD x with cl := true }
set_option maxRecDepth 20000 in
set_option maxHeartbeats 2000000 in
theorem close1_ok (b gx : Nat) (x : SrcD) (o : Obj) (H0 : Hp) (w0 : World) (hs : HS [b] H0 w0 H0 [(b, o, true), (gx, .cells #[ptr b] 66, false)] w0) (hx : SrcIn H0 x o) :
    Calls Tryz.prog 150 #[ptr gx] w0 (Ret [b] H0 w0 fun v H' M' => v = .int .i64 0 ∧ ∃ o', M' = [(b, o', true)] ∧ SrcIn H' { x with cl := true } o') := by
  have hle := Hp.le.refl H0
  obtain ⟨vs, vc, vch, vop, rfl, h1, h2, h3, h4⟩ := hx
  refine Calls.enter (args := [ptr gx]) Tryz.func150 rfl Tryz.ntmps150 rfl ?_
  refine WC.seq (WC.region (WO.step rfl (OR.assign rfl (WO.done (WX.seq (WC.seq (WC.region ?_)))))))
  refine WO.step rfl (OR.load T66 rfl rfl (hs.cellM (i := 1) rfl rfl) (WO.step rfl (OR.nilCheck rfl (WO.step rfl (OR.fieldAddr FA163_4 rfl (WO.stepN (OR.store hs T4 rfl rfl rfl (Nat.le_of_ble_eq_true rfl) rfl ?_)))))))
  clear hs; intro w hs
  refine WO.done (WX.seq (WC.seq (WC.region (WO.step rfl (OR.assign rfl (WO.done (WX.seq ?_)))))))
  refine WC.ret ?_
  refine WX.ret1 rfl rfl ?_
  exact ⟨_, H0, _, rfl, hs.drop 1, by simp [dropAt], rfl, _, rfl, _, _, _, _, rfl, h1, h2, h3, h4⟩

set_option maxRecDepth 20000 in
set_option maxHeartbeats 2000000 in
theorem flush_ok (b : Nat) (x : SrcD) (o : Obj) (H0 : Hp) (w0 : World) (h0 : Sub H0 w0) (hb : w0.heap[b]? = some o) (hn : H0 b = none) (hx : SrcIn H0 x o) (hok : SrcOk x) (hcl : x.cuts.length ≤ 1000000000) :
    Calls Tryz.prog 30 #[ptr b] w0 (Ret [b] H0 w0 fun v H' M' => v = .int .i64 (if x.cl = true then 27 else 0) ∧ ∃ o', M' = [(b, o', true)] ∧ SrcIn H' (flushD x) o') := by
  have hs := HS.start1 h0 hb hn
  have hle := Hp.le.refl H0
  have hx0 := hx
  have hgp : 0 < x.g := by have := hok.gs.1; omega
  have hlen := hok.len
  have hopl := hok.opl
  obtain ⟨vs, vc, vch, vop, ho, _⟩ := hx0
  refine Calls.enter (args := [ptr b]) Tryz.func30 rfl Tryz.ntmps30 rfl ?_
  refine WC.seq (WC.region (WO.step rfl (OR.assign rfl (WO.done (WX.seq (WC.seq (WC.region ?_)))))))
  refine WO.step rfl (OR.move rfl (WO.step rfl (OR.makeFunc rfl rfl (WO.step rfl (OR.move rfl (WO.step rfl (OR.makeFunc rfl rfl ?_)))))))
  refine WO.step rfl (OR.move rfl (WO.step rfl (OR.makeFunc rfl rfl ?_)))
  refine WO.step rfl (OR.buildSlice (vs := [_, _, _]) hs T215.und T70 rfl rfl rfl rfl (by simp) ?_)
  clear hs; intro g4 w hg4 hs
  refine WO.step rfl (OR.callW body83 rfl rfl (first_ok [madeV (ptr b), freeV (ptr b), cutV (ptr b)] g4 3 (fun i w => (i ≤ 2 ∧ (i = 2 → x.cl = false) ∧ ∃ H, Hp.le H0 H ∧ HS [b] H0 w0 H [(g4, .cells #[madeV (ptr b), freeV (ptr b), cutV (ptr b)] 70, true), (b, o, true)] w) ∨ (i = 3 ∧ x.cl = false ∧ ∃ H o', HS [b] H0 w0 H [(b, o', true)] w ∧ SrcIn H (flushD x) o')) (fun er w => er = (if x.cl = true then 27 else 0) ∧ ∃ H o', HS [b] H0 w0 H [(b, o', true)] w ∧ SrcIn H (flushD x) o') _ (.inl ⟨by omega, (fun h => by cases h), H0, hle, hs⟩) (by simp) ?_ ?_ ?_) ?_)
  · rintro i w (⟨hi, _, H, _, hs⟩ | ⟨rfl, _⟩) h
    · match i, hi with
      | 0, _ => exact hs.cellM (i := 0) rfl rfl
      | 1, _ => exact hs.cellM (i := 0) rfl rfl
      | 2, _ => exact hs.cellM (i := 0) rfl rfl
    · simp at h
  · rintro i h w (⟨hi, hc2, H, hle, hs⟩ | ⟨rfl, _⟩)
    · match i, hi with
      | 0, _ =>
        refine ⟨_, [ptr b], [], rfl, body84, (smade_ok b x.g x.s vs vc vch vop x.cl _ _ hs.toSub (by rw [← ho]; exact hs.blk (i := 1) rfl) (hs.mem b o true (by simp)).2.1 hgp).mono fun e w' hp => ?_⟩
        obtain ⟨v, H', rfl, hs', hle', rfl⟩ := hp.step hs
        exact ⟨0, rfl, .inl ⟨rfl, .inl ⟨by omega, (fun h => by cases h), H', hle.trans hle', hs'⟩⟩⟩
      | 1, _ =>
        refine ⟨_, [ptr b], [], rfl, body85, (sfree_ok b x.g x.s vs vc vch vop x.cl _ _ hs.toSub (by rw [← ho]; exact hs.blk (i := 1) rfl) (hs.mem b o true (by simp)).2.1).mono fun e w' hp => ?_⟩
        obtain ⟨v, H', rfl, hs', hle', rfl⟩ := hp.step hs
        by_cases hc : x.cl = true
        · exact ⟨27, by rw [if_pos hc], .inr ⟨by decide, by rw [if_pos hc], H', o, hs'.drop 0, by rw [flushD, if_pos hc]; exact hx.mono (hle.trans hle')⟩⟩
        · exact ⟨0, by rw [if_neg hc], .inl ⟨rfl, .inl ⟨by omega, (fun _ => by simpa using hc), H', hle.trans hle', hs'⟩⟩⟩
      | 2, _ =>
        have hc := hc2 rfl
        have hs3 : HS [b] H0 w0 H ([(b, o, true)] ++ []) w := hs.drop 0
        refine ⟨_, [ptr b], [], rfl, body90, (cut_ok b x o H w hs.toSub (hs.blk (i := 1) rfl) (hs.mem b o true (by simp)).2.1 (hx.mono hle) hok.gs hok.cuts (by omega) hcl (by omega)).mono fun e w' hp => ?_⟩
        obtain ⟨v, H', M', rfl, hs', hle', rfl, o', rfl, hsrc⟩ := hp.step hs3 rfl rfl
        have hD : flushD x = cutD x := by rw [flushD, if_neg (by rw [hc]; decide)]
        rw [← hD] at hsrc
        exact ⟨0, rfl, .inl ⟨rfl, .inr ⟨rfl, hc, H', o', hs', hsrc⟩⟩⟩
    · simp at h
  · rintro w (⟨h, _⟩ | ⟨_, hz, H, o', hs, hsrc⟩)
    · simp at h
    · exact ⟨by rw [if_neg (by rw [hz]; decide)], H, o', hs, hsrc⟩
  rintro e w ⟨er, rfl, rfl, H, o', hs, hsrc⟩
  refine ⟨_, rfl, ?_⟩
  refine WO.step rfl (OR.assign rfl (WO.done (WX.seq (WC.ret ?_))))
  refine WX.ret1 rfl rfl ?_
  exact ⟨_, H, _, rfl, hs, by simp, rfl, o', rfl, hsrc⟩

set_option maxRecDepth 20000 in
set_option maxHeartbeats 2000000 in
theorem close_ok (b : Nat) (x : SrcD) (o : Obj) (H0 : Hp) (w0 : World) (h0 : Sub H0 w0) (hb : w0.heap[b]? = some o) (hn : H0 b = none) (hx : SrcIn H0 x o) (hok : SrcOk x) (hcl : x.cuts.length ≤ 1000000000) :
    Calls Tryz.prog 113 #[ptr b] w0 (Ret [b] H0 w0 fun v H' M' => v = .int .i64 (if x.cl = true then 27 else 0) ∧ ∃ o', M' = [(b, o', true)] ∧ SrcIn H' (closeD x) o') := by
  have hs := HS.start1 h0 hb hn
  have hle := Hp.le.refl H0
  have hx0 := hx
  have hgp : 0 < x.g := by have := hok.gs.1; omega
  have hlen := hok.len
  have hopl := hok.opl
  obtain ⟨vs, vc, vch, vop, ho, _⟩ := hx0
  refine Calls.enter (args := [ptr b]) Tryz.func113 rfl Tryz.ntmps113 rfl ?_
  refine WC.seq (WC.region (WO.step rfl (OR.box hs rfl ?_)))
  clear hs; intro g1 w hg1 hs
  refine WO.step rfl (OR.assign rfl (WO.done (WX.seq (WC.seq (WC.region (WO.step rfl (OR.load T66 rfl rfl (hs.cellM (i := 0) rfl rfl) ?_)))))))
  refine WO.step rfl (OR.makeFunc rfl rfl (WO.step rfl (OR.load T66 rfl rfl (hs.cellM (i := 0) rfl rfl) (WO.step rfl (OR.makeFunc rfl rfl (WO.step rfl (OR.load T66 rfl rfl (hs.cellM (i := 0) rfl rfl) ?_)))))))
  refine WO.step rfl (OR.makeFunc rfl rfl (WO.step rfl (OR.makeFunc rfl rfl ?_)))
  refine WO.step rfl (OR.buildSlice (vs := [_, _, _, _]) hs T215.und T70 rfl rfl rfl rfl (by simp) ?_)
  clear hs; intro g4 w hg4 hs
  refine WO.step rfl (OR.callW body83 rfl rfl (first_ok [madeV (ptr b), freeV (ptr b), cutV (ptr b), .func (.func 150) #[] #[ptr g1]] g4 4 (fun i w => (i ≤ 2 ∧ (i = 2 → x.cl = false) ∧ ∃ H, Hp.le H0 H ∧ HS [b] H0 w0 H [(g4, .cells #[madeV (ptr b), freeV (ptr b), cutV (ptr b), .func (.func 150) #[] #[ptr g1]] 70, true), (g1, .cells #[ptr b] 66, true), (b, o, true)] w) ∨ (i = 3 ∧ x.cl = false ∧ ∃ H o', HS [b] H0 w0 H [(b, o', true), (g4, .cells #[madeV (ptr b), freeV (ptr b), cutV (ptr b), .func (.func 150) #[] #[ptr g1]] 70, true), (g1, .cells #[ptr b] 66, true)] w ∧ SrcIn H (cutD x) o') ∨ (i = 4 ∧ x.cl = false ∧ ∃ H o', HS [b] H0 w0 H [(b, o', true)] w ∧ SrcIn H (closeD x) o')) (fun er w => er = (if x.cl = true then 27 else 0) ∧ ∃ H o', HS [b] H0 w0 H [(b, o', true)] w ∧ SrcIn H (closeD x) o') _ (.inl ⟨by omega, (fun h => by cases h), H0, hle, hs⟩) (by simp) ?_ ?_ ?_) ?_)
  · rintro i w (⟨hi, _, H, _, hs⟩ | ⟨rfl, _, H, o', hs, _⟩ | ⟨rfl, _⟩) h
    · match i, hi with
      | 0, _ => exact hs.cellM (i := 0) rfl rfl
      | 1, _ => exact hs.cellM (i := 0) rfl rfl
      | 2, _ => exact hs.cellM (i := 0) rfl rfl
    · exact hs.cellM (i := 1) rfl rfl
    · simp at h
  · rintro i h w (⟨hi, hc2, H, hle, hs⟩ | ⟨rfl, hc, H, o', hs, hsrc⟩ | ⟨rfl, _⟩)
    · match i, hi with
      | 0, _ =>
        refine ⟨_, [ptr b], [], rfl, body84, (smade_ok b x.g x.s vs vc vch vop x.cl _ _ hs.toSub (by rw [← ho]; exact hs.blk (i := 2) rfl) (hs.mem b o true (by simp)).2.1 hgp).mono fun e w' hp => ?_⟩
        obtain ⟨v, H', rfl, hs', hle', rfl⟩ := hp.step hs
        exact ⟨0, rfl, .inl ⟨rfl, .inl ⟨by omega, (fun h => by cases h), H', hle.trans hle', hs'⟩⟩⟩
      | 1, _ =>
        refine ⟨_, [ptr b], [], rfl, body85, (sfree_ok b x.g x.s vs vc vch vop x.cl _ _ hs.toSub (by rw [← ho]; exact hs.blk (i := 2) rfl) (hs.mem b o true (by simp)).2.1).mono fun e w' hp => ?_⟩
        obtain ⟨v, H', rfl, hs', hle', rfl⟩ := hp.step hs
        by_cases hc : x.cl = true
        · exact ⟨27, by rw [if_pos hc], .inr ⟨by decide, by rw [if_pos hc], H', o, (hs'.drop 0).drop 0, by rw [closeD, if_pos hc]; exact hx.mono (hle.trans hle')⟩⟩
        · exact ⟨0, by rw [if_neg hc], .inl ⟨rfl, .inl ⟨by omega, (fun _ => by simpa using hc), H', hle.trans hle', hs'⟩⟩⟩
      | 2, _ =>
        have hc := hc2 rfl
        have hs3 : HS [b] H0 w0 H ([(b, o, true)] ++ [(g4, .cells #[madeV (ptr b), freeV (ptr b), cutV (ptr b), .func (.func 150) #[] #[ptr g1]] 70, true), (g1, .cells #[ptr b] 66, true)]) w := hs.front (i := 2) rfl
        refine ⟨_, [ptr b], [], rfl, body90, (cut_ok b x o H w hs.toSub (hs.blk (i := 2) rfl) (hs.mem b o true (by simp)).2.1 (hx.mono hle) hok.gs hok.cuts (by omega) hcl (by omega)).mono fun e w' hp => ?_⟩
        obtain ⟨v, H', M', rfl, hs', hle', rfl, o', rfl, hsrc⟩ := hp.step hs3 rfl rfl
        exact ⟨0, rfl, .inl ⟨rfl, .inr (.inl ⟨rfl, hc, H', o', hs', hsrc⟩)⟩⟩
    · have hs3 : HS [b] H0 w0 H ([(b, o', true)] ++ [(g1, .cells #[ptr b] 66, true)]) w := hs.drop 1
      refine ⟨_, [], [ptr g1], rfl, body150, (close1_ok b g1 (cutD x) o' H w (hs3.begin [true, false]) hsrc).mono fun e w' hp => ?_⟩
      obtain ⟨v, H', M', rfl, hs', hle', rfl, o2, rfl, hsrc2⟩ := hp.step hs3 rfl rfl
      have hD : closeD x = { cutD x with cl := true } := by rw [closeD, if_neg (by rw [hc]; decide)]
      rw [← hD] at hsrc2
      exact ⟨0, rfl, .inl ⟨rfl, .inr (.inr ⟨rfl, hc, H', o2, hs'.drop 1, hsrc2⟩)⟩⟩
    · simp at h
  · rintro w (⟨h, _⟩ | ⟨h, _⟩ | ⟨_, hz, H, o', hs, hsrc⟩)
    · simp at h
    · simp at h
    · exact ⟨by rw [if_neg (by rw [hz]; decide)], H, o', hs, hsrc⟩
  rintro e w ⟨er, rfl, rfl, H, o', hs, hsrc⟩
  refine ⟨_, rfl, ?_⟩
  refine WO.step rfl (OR.assign rfl (WO.done (WX.seq (WC.ret ?_))))
  refine WX.ret1 rfl rfl ?_
  exact ⟨_, H, _, rfl, hs, by simp, rfl, o', rfl, hsrc⟩

end Go.Bw
