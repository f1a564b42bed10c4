/- A source: what is small. -/
import Derived.Test.YtbgdgmilcojlbaaBasis2
import Derived.Test.YtbgdgmilcojlbaaOps3
import Derived.Test.YtbgdgmilcojlbaaOps4
namespace Go.Bw
set_option linter.unusedVariables false
set_option linter.unusedSimpArgs false
open Go.Proofs

/-- A source in memory. -/
def srcObj (g s : Int) (vs vc : Value) (cl : Bool) (vch vop : Value) : Obj := .cells #[.int .i64 g, .int .i64 s, vs, vc, .bool cl, vch, vop] 151
structure SrcD where
  g : Nat
  s : Nat
  st : List UInt8
  cuts : List Int
  cl : Bool
  chunks : List (List UInt8)
  opn : List UInt8
def SrcIn (H : Hp) (x : SrcD) (o : Obj) : Prop := ∃ vs vc vch vop, o = srcObj x.g x.s vs vc x.cl vch vop ∧ Bytes H vs x.st ∧ Ints H vc x.cuts ∧ BytesL H vch x.chunks ∧ Bytes H vop x.opn
theorem SrcIn.mono {H H' : Hp} {x : SrcD} {o : Obj} (h : SrcIn H x o) (hle : Hp.le H H') : SrcIn H' x o := by
  obtain ⟨vs, vc, vch, vop, h1, h2, h3, h4, h5⟩ := h
  exact ⟨vs, vc, vch, vop, h1, h2.mono hle, h3.mono hle, h4.mono hle, h5.mono hle⟩

set_option maxRecDepth 20000 in
set_option maxHeartbeats 2000000 in
theorem cloneInts_ok (v : Value) (l : List Int) (H0 : Hp) (w0 : World) (h0 : Sub H0 w0) (hv : Ints H0 v l) (hl : l.length ≤ 1000000000000) :
    Calls Try.prog 117 #[v] w0 (Ret [] H0 w0 fun v H' M' => H' = H0 ∧ Own w0.heap.size 3 1 v l.length (l.map fun i => .int .i64 i) M') := by
  have hs := HS.init h0
  obtain ⟨base, cp, rfl⟩ := hv.form
  refine Calls.enter (args := [.slice base l.length cp]) Try.func117 rfl Try.ntmps117 rfl ?_
  refine WC.seq (WC.region (WO.step rfl (OR.assign rfl (WO.done (WX.seq (WC.seq (WC.seq ?_)))))))
  refine WC.region (WO.step rfl (OR.move rfl (WO.step rfl (OR.eqlNil T87.und rfl rfl (WO.done (WX.seq ?_))))))
  refine WC.cond rfl (fun hb => ?_) (fun hb => ?_)
  · refine WC.seq (WC.region (WO.step rfl (OR.assign rfl (WO.done (WX.seq (WC.ret (WX.seq_ret ?_)))))))
    refine WX.ret1 rfl rfl ?_
    have hb' : base = none := by cases base with | none => rfl | some a => cases hb
    subst hb'
    have h2 := Sl.src0 hv rfl
    refine ⟨_, H0, [], rfl, hs, by simp, rfl, ?_⟩
    have : l = [] := List.eq_nil_of_length_eq_zero h2
    subst this
    exact Own.nil _ _ _
  · refine WC.skip (WX.seq (WC.seq (WC.region ?_)))
    refine WO.step rfl (OR.buildSlice (vs := []) hs T87.und T3 rfl rfl rfl rfl (by simp) ?_)
    clear hs; intro g1 w hg1 hs
    refine WO.step rfl (OR.move rfl ?_)
    refine WO.step rfl (OR.append (n := 0) (cs := []) (news := l.map fun i => .int .i64 i) (Mo := [_]) (M := []) hs (Own.block (cap := 0) (by omega) rfl rfl hg1) T87.und T3 rfl (by omega) rfl rfl (by simp) (Sl.src hv hs) (Sl.src0 hv) (ints_one l) (by omega) (by omega) ?_)
    clear hs; intro v' w Mo hs ho hge
    refine WO.step rfl (OR.assign rfl (WO.done (WX.seq (WC.ret ?_))))
    refine WX.ret1 rfl rfl ?_
    rw [Nat.zero_add, List.nil_append] at ho
    refine ⟨_, H0, Mo, rfl, by simpa using hs, ?_, rfl, ho⟩
    rcases ho.2 with ⟨rfl, _⟩ | ⟨g, c, cap, rfl, _⟩ <;> simp
theorem cloneInts_pure (v : Value) (l : List Int) (H0 : Hp) (w0 : World) (h0 : Sub H0 w0) (hv : Ints H0 v l) (hl : l.length ≤ 1000000000000) :
    Calls Try.prog 117 #[v] w0 (Pure H0 w0 fun v H' => Ints H' v l) :=
  (cloneInts_ok v l H0 w0 h0 hv hl).mono fun _ _ h => own_pure h fun _ _ _ h => h

set_option maxRecDepth 20000 in
set_option maxHeartbeats 2000000 in
/-- The first error of some questions: what holds ahead of each, and at the end. -/
theorem first_ok (fs : List Value) (gb cap : Nat) (I : Nat → World → Prop) (Q : Int → World → Prop) (w0 : World) (h0 : I 0 w0) (hn : fs.length ≤ 1000)
    (hread : ∀ i w, I i w → ∀ h : i < fs.length, w.cell? ⟨gb, i, none⟩ = some fs[i])
    (hask : ∀ i (h : i < fs.length) w, I i w → ∃ f vf vc, fs[i] = .func (.func f) (List.toArray vf) (List.toArray vc) ∧ Body Try.prog f ∧ Calls Try.prog f (vf ++ [] ++ vc).toArray w (fun e w' => ∃ er : Int, e = .returned (.int .i64 er) ∧ ((er = 0 ∧ I (i + 1) w') ∨ (er ≠ 0 ∧ Q er w'))))
    (hend : ∀ w, I fs.length w → Q 0 w) :
    Calls Try.prog 94 #[.slice (some ⟨gb, 0, none⟩) fs.length cap] w0 (fun e w' => ∃ er : Int, e = .returned (.int .i64 er) ∧ Q er w') := by
  refine Calls.enter (args := [.slice (some ⟨gb, 0, none⟩) fs.length cap]) Try.func94 rfl Try.ntmps94 rfl ?_
  refine WC.seq (WC.region (WO.step rfl (OR.assign rfl (WO.done (WX.seq (WC.seq (WC.seq ?_)))))))
  refine WC.region (WO.step rfl (OR.move rfl (WO.step rfl (OR.lenSlice T219.und rfl (WO.step rfl (OR.move rfl (WO.done ?_)))))))
  refine WX.seq (WC.block ?_)
  refine WC.loop (ι := Nat) (fun i => [(6, .slice (some ⟨gb, 0, none⟩) fs.length cap), (7, .int .i64 (fs.length : Int)), (8, .int .i64 (i : Int))]) (fun i w => (i ≤ fs.length ∧ I i w)) (fun i => fs.length - i) 0 ⟨rfl, rfl, rfl,  trivial⟩ ?_ (fun i w hW => ?_)
  · exact ⟨by omega, h0⟩
  obtain ⟨hi, hI⟩ := hW
  refine WC.seq (WC.region (WO.step rfl (OR.lss rfl rfl (WO.done (WX.seq (WC.seq ?_))))))
  refine WC.condD rfl (fun hlt => ?_) (fun hlt => ?_)
  · have hi' : i < fs.length := by omega
    have hc := hread i w hI hi'
    obtain ⟨f, vf, vc, hf, hbf, hcall⟩ := hask i hi' w hI
    rw [hf] at hc
    refine WC.skip (WX.seq (WC.seq (WC.block (WC.seq (WC.region ?_)))))
    refine WO.step rfl (OR.idx i T219.und T59 rfl rfl rfl hi' ?_)
    refine WO.step rfl (OR.load T59 rfl rfl (by rw [Nat.zero_add]; exact hc) ?_)
    refine WO.step rfl (OR.assign rfl (WO.done (WX.seq (WC.seq (WC.region (WO.step rfl (OR.move rfl ?_)))))))
    refine WO.step rfl (OR.callW hbf rfl rfl hcall ?_)
    rintro e w' ⟨er, rfl, hcase⟩
    refine ⟨_, rfl, ?_⟩
    refine WO.step rfl (OR.assign rfl (WO.done (WX.seq (WC.seq (WC.region (WO.step rfl (OR.move rfl ?_)))))))
    refine WO.step rfl (OR.neq rfl rfl (WO.done (WX.seq ?_)))
    refine WC.condD rfl (fun hne => ?_) (fun hne => ?_)
    · refine WC.seq (WC.region (WO.step rfl (OR.move rfl (WO.step rfl (OR.assign rfl (WO.done (WX.seq ?_)))))))
      refine WC.ret (WX.block_ret (WX.seq_ret (WX.loop_ret (WX.block_ret (WX.seq_ret ?_)))))
      refine WX.ret1 rfl rfl ?_
      rcases hcase with ⟨h, _⟩ | ⟨_, h⟩
      · exact absurd h hne
      · exact ⟨er, rfl, h⟩
    · refine WC.skip (WX.block (WX.seq (WC.region (WO.step rfl (OR.addI rfl rfl (by omega) (by omega) (WO.step rfl (OR.move rfl ?_)))))))
      refine WO.done ?_
      refine WX.again (i + 1) ⟨rfl, rfl, rfl,  trivial⟩ ?_ ?_
      · refine ⟨hi', ?_⟩
        rcases hcase with ⟨_, h⟩ | ⟨h, _⟩
        · exact h
        · exact absurd h hne
      · omega
  · have e : i = fs.length := by omega
    subst e
    refine WC.exit (WX.seq_exit (WX.loop_exit (WX.block_hit (WX.seq (WC.seq (WC.region (WO.step rfl ?_)))))))
    refine OR.assign rfl (WO.done (WX.seq (WC.ret ?_)))
    refine WX.ret1 rfl rfl ?_
    exact ⟨0, rfl, hend w hI⟩

section
variable (b g s : Nat) (vs vc vch vop : Value) (cl : Bool) (H0 : Hp) (w0 : World)
set_option maxRecDepth 20000 in
set_option maxHeartbeats 2000000 in
theorem smade_nil (h0 : Sub H0 w0) : Calls Try.prog 95 #[.pointer none] w0 (Pure H0 w0 fun v _ => v = .int .i64 2) := by
  have hs := HS.init h0
  refine Calls.enter (args := [.pointer none]) Try.func95 rfl Try.ntmps95 rfl ?_
  refine WC.seq (WC.region (WO.step rfl (OR.assign rfl (WO.done (WX.seq (WC.seq (WC.seq ?_)))))))
  refine WC.region (WO.step rfl (OR.move rfl (WO.step rfl (OR.eqlNilP T54.und rfl rfl (WO.step rfl (OR.move rfl ?_))))))
  refine WO.guardNo rfl rfl rfl rfl (WO.guardNo rfl rfl rfl rfl (WO.guardNo rfl rfl rfl rfl (WO.guardNo rfl rfl rfl rfl (WO.guardNo rfl rfl rfl rfl (WO.step rfl (OR.pickT rfl rfl rfl (WO.done ?_)))))))
  refine WX.seq (WC.yes rfl rfl (WC.seq (WC.region (WO.step rfl (OR.assign rfl (WO.done (WX.seq ?_)))))))
  refine WC.ret (WX.seq_ret ?_)
  refine WX.ret1 rfl rfl ?_
  exact .mk hs rfl
set_option maxRecDepth 20000 in
set_option maxHeartbeats 2000000 in
theorem smade_ok (h0 : Sub H0 w0) (hb : w0.heap[b]? = some (srcObj g s vs vc cl vch vop)) (hn : H0 b = none) (hg : 0 < g) : Calls Try.prog 95 #[ptr b] w0 (Pure H0 w0 fun v _ => v = .int .i64 0) := by
  have hs := HS.startR h0 hb hn
  refine Calls.enter (args := [ptr b]) Try.func95 rfl Try.ntmps95 rfl ?_
  refine WC.seq (WC.region (WO.step rfl (OR.assign rfl (WO.done (WX.seq (WC.seq (WC.seq ?_)))))))
  refine WC.region (WO.step rfl (OR.move rfl (WO.step rfl (OR.eqlNilP T54.und rfl rfl (WO.step rfl (OR.move rfl (WO.guardYes rfl rfl rfl rfl ?_)))))))
  refine OR.move rfl (WO.guardYes rfl rfl rfl rfl (OR.nilCheck rfl (WO.guardYes rfl rfl rfl rfl (OR.fieldAddr FA151_0 rfl (WO.guardYes rfl rfl rfl rfl (OR.load T3 rfl rfl (hs.cellM (i := 0) rfl rfl) (WO.guardYes rfl rfl rfl rfl ?_)))))))
  refine OR.eql rfl rfl (WO.step rfl (OR.pickF rfl rfl rfl (WO.done (WX.seq ?_))))
  refine WC.no rfl (decide_eq_false (by omega)) ?_
  refine WC.skip (WX.seq (WC.seq (WC.region (WO.step rfl (OR.assign rfl (WO.done (WX.seq ?_)))))))
  refine WC.ret ?_
  refine WX.ret1 rfl rfl ?_
  exact .mk hs rfl
set_option maxRecDepth 20000 in
set_option maxHeartbeats 2000000 in
theorem sfree_ok (h0 : Sub H0 w0) (hb : w0.heap[b]? = some (srcObj g s vs vc cl vch vop)) (hn : H0 b = none) : Calls Try.prog 96 #[ptr b] w0 (Pure H0 w0 fun v _ => v = .int .i64 (if cl = true then 27 else 0)) := by
  have hs := HS.startR h0 hb hn
  refine Calls.enter (args := [ptr b]) Try.func96 rfl Try.ntmps96 rfl ?_
  refine WC.seq (WC.region (WO.step rfl (OR.assign rfl (WO.done (WX.seq (WC.seq (WC.seq ?_)))))))
  refine WC.region (WO.step rfl (OR.move rfl (WO.step rfl (OR.nilCheck rfl (WO.step rfl (OR.fieldAddr FA151_4 rfl (WO.step rfl ?_)))))))
  refine OR.load T4 rfl rfl (hs.cellM (i := 0) rfl rfl) (WO.done (WX.seq ?_))
  refine WC.cond rfl (fun hc => ?_) (fun hc => ?_)
  · refine WC.seq (WC.region (WO.step rfl (OR.assign rfl (WO.done (WX.seq (WC.ret (WX.seq_ret ?_)))))))
    refine WX.ret1 rfl rfl ?_
    exact .mk hs (by rw [if_pos hc])
  · refine WC.skip (WX.seq (WC.seq (WC.region (WO.step rfl (OR.assign rfl (WO.done (WX.seq ?_)))))))
    refine WC.ret ?_
    refine WX.ret1 rfl rfl ?_
    exact .mk hs (by rw [if_neg (by rw [hc]; decide)])
set_option maxRecDepth 20000 in
set_option maxHeartbeats 2000000 in
theorem sclosed_nil (h0 : Sub H0 w0) : Calls Try.prog 51 #[.pointer none] w0 (Pure H0 w0 fun v _ => v = .bool false) := by
  have hs := HS.init h0
  refine Calls.enter (args := [.pointer none]) Try.func51 rfl Try.ntmps51 rfl ?_
  refine WC.seq (WC.region (WO.step rfl (OR.assign rfl (WO.done (WX.seq (WC.seq (WC.region ?_)))))))
  refine WO.step rfl (OR.move rfl (WO.step rfl (OR.neqNilP T54.und rfl rfl (WO.step rfl (OR.move rfl ?_)))))
  refine WO.guardNo rfl rfl rfl rfl (WO.guardNo rfl rfl rfl rfl (WO.guardNo rfl rfl rfl rfl (WO.guardNo rfl rfl rfl rfl (WO.step rfl (OR.pickF rfl rfl rfl (WO.step rfl (OR.assign rfl ?_)))))))
  refine WO.done (WX.seq (WC.ret ?_))
  refine WX.ret1 rfl rfl ?_
  exact .mk hs rfl
set_option maxRecDepth 20000 in
set_option maxHeartbeats 2000000 in
theorem sclosed_ok (h0 : Sub H0 w0) (hb : w0.heap[b]? = some (srcObj g s vs vc cl vch vop)) (hn : H0 b = none) : Calls Try.prog 51 #[ptr b] w0 (Pure H0 w0 fun v _ => v = .bool cl) := by
  have hs := HS.startR h0 hb hn
  refine Calls.enter (args := [ptr b]) Try.func51 rfl Try.ntmps51 rfl ?_
  refine WC.seq (WC.region (WO.step rfl (OR.assign rfl (WO.done (WX.seq (WC.seq (WC.region ?_)))))))
  refine WO.step rfl (OR.move rfl (WO.step rfl (OR.neqNilP T54.und rfl rfl (WO.step rfl (OR.move rfl (WO.guardYes rfl rfl rfl rfl (OR.move rfl ?_)))))))
  refine WO.guardYes rfl rfl rfl rfl (OR.nilCheck rfl (WO.guardYes rfl rfl rfl rfl (OR.fieldAddr FA151_4 rfl (WO.guardYes rfl rfl rfl rfl (OR.load T4 rfl rfl (hs.cellM (i := 0) rfl rfl) (WO.step rfl (OR.pickT rfl rfl rfl ?_)))))))
  refine WO.step rfl (OR.assign rfl (WO.done (WX.seq (WC.ret ?_))))
  refine WX.ret1 rfl rfl ?_
  exact .mk hs rfl
end

theorem u64_wrap (n : Nat) (h : n < 18446744073709551616) : IntKind.u64.wrap (n : Int) = (n : Int) := IntWalk.u64_in _ (by omega)

set_option maxRecDepth 20000 in
set_option maxHeartbeats 2000000 in
theorem gens_nil (H0 : Hp) (w0 : World) (h0 : Sub H0 w0) : Calls Try.prog 31 #[.pointer none] w0 (Pure H0 w0 fun v _ => v = .int .u64 0) := by
  have hs := HS.init h0
  refine Calls.enter (args := [.pointer none]) Try.func31 rfl Try.ntmps31 rfl ?_
  refine WC.seq (WC.region (WO.step rfl (OR.assign rfl (WO.done (WX.seq (WC.seq (WC.seq ?_)))))))
  refine WC.region (WO.step rfl (OR.move rfl (WO.step rfl (OR.eqlNilP T54.und rfl rfl (WO.done (WX.seq ?_))))))
  refine WC.yes rfl rfl ?_
  refine WC.seq (WC.region (WO.step rfl (OR.assign rfl (WO.done (WX.seq (WC.ret (WX.seq_ret ?_)))))))
  refine WX.ret1 rfl rfl ?_
  exact .mk hs rfl
set_option maxRecDepth 20000 in
set_option maxHeartbeats 2000000 in
theorem gens_ok (b : Nat) (x : SrcD) (o : Obj) (H0 : Hp) (w0 : World) (h0 : Sub H0 w0) (hb : w0.heap[b]? = some o) (hn : H0 b = none) (hx : SrcIn H0 x o) (hl : x.chunks.length < 9223372036854775807) :
    Calls Try.prog 31 #[ptr b] w0 (Pure H0 w0 fun v _ => v = .int .u64 (x.chunks.length : Int)) := by
  obtain ⟨vs, vc, vch, vop, rfl, h1, h2, h3, h4⟩ := hx
  have hs := HS.startR h0 hb hn
  obtain ⟨b1, c1, rfl⟩ := h3.form
  refine Calls.enter (args := [ptr b]) Try.func31 rfl Try.ntmps31 rfl ?_
  refine WC.seq (WC.region (WO.step rfl (OR.assign rfl (WO.done (WX.seq (WC.seq (WC.seq ?_)))))))
  refine WC.region (WO.step rfl (OR.move rfl (WO.step rfl (OR.eqlNilP T54.und rfl rfl (WO.done (WX.seq (WC.no rfl rfl ?_)))))))
  refine WC.skip (WX.seq (WC.seq (WC.region (WO.step rfl (OR.move rfl (WO.step rfl (OR.nilCheck rfl ?_)))))))
  refine WO.step rfl (OR.fieldAddr FA151_5 rfl (WO.step rfl (OR.load T22 rfl rfl (hs.cellM (i := 0) rfl rfl) (WO.step rfl (OR.lenSlice T22.und rfl ?_)))))
  refine WO.step rfl (OR.convI T3.und T58.und rfl ?_)
  rw [u64_wrap _ (by omega)]
  refine WO.step rfl (OR.assign rfl (WO.done (WX.seq (WC.ret ?_))))
  refine WX.ret1 rfl rfl ?_
  exact .mk hs rfl
set_option maxRecDepth 20000 in
set_option maxHeartbeats 2000000 in
theorem stream_nil (H0 : Hp) (w0 : World) (h0 : Sub H0 w0) : Calls Try.prog 52 #[.pointer none] w0 (Pure H0 w0 fun v _ => v = .slice none 0 0) := by
  have hs := HS.init h0
  refine Calls.enter (args := [.pointer none]) Try.func52 rfl Try.ntmps52 rfl ?_
  refine WC.seq (WC.region (WO.step rfl (OR.assign rfl (WO.done (WX.seq (WC.seq (WC.seq ?_)))))))
  refine WC.region (WO.step rfl (OR.move rfl (WO.step rfl (OR.eqlNilP T54.und rfl rfl (WO.done (WX.seq ?_))))))
  refine WC.yes rfl rfl ?_
  refine WC.seq (WC.region (WO.step rfl (OR.assign rfl (WO.done (WX.seq (WC.ret (WX.seq_ret ?_)))))))
  refine WX.ret1 rfl rfl ?_
  exact .mk hs rfl
set_option maxRecDepth 20000 in
set_option maxHeartbeats 2000000 in
theorem stream_ok (b : Nat) (x : SrcD) (o : Obj) (H0 : Hp) (w0 : World) (h0 : Sub H0 w0) (hb : w0.heap[b]? = some o) (hn : H0 b = none) (hx : SrcIn H0 x o) (hl : x.st.length ≤ 140737488355328) :
    Calls Try.prog 52 #[ptr b] w0 (Pure H0 w0 fun v H' => Bytes H' v x.st) := by
  obtain ⟨vs, vc, vch, vop, rfl, h1, h2, h3, h4⟩ := hx
  have hs := HS.startR h0 hb hn
  have hle := Hp.le.refl H0
  obtain ⟨b1, c1, rfl⟩ := h1.form
  refine Calls.enter (args := [ptr b]) Try.func52 rfl Try.ntmps52 rfl ?_
  refine WC.seq (WC.region (WO.step rfl (OR.assign rfl (WO.done (WX.seq (WC.seq (WC.seq ?_)))))))
  refine WC.region (WO.step rfl (OR.move rfl (WO.step rfl (OR.eqlNilP T54.und rfl rfl (WO.done (WX.seq (WC.no rfl rfl ?_)))))))
  refine WC.skip (WX.seq (WC.seq (WC.region (WO.step rfl (OR.move rfl (WO.step rfl (OR.nilCheck rfl ?_)))))))
  refine WO.step rfl (OR.fieldAddr FA151_2 rfl (WO.step rfl (OR.load T23 rfl rfl (hs.cellM (i := 0) rfl rfl) ?_)))
  refine WO.step rfl (OR.call hs body57 rfl rfl (clone_pure _ _ _ _ hs.toSub h1 hl) ?_)
  clear hs; rintro _ H w hs hle1 hr; replace hle := hle.trans hle1; (try replace hlb := hlb.trans hle1)
  refine WO.step rfl (OR.assign rfl (WO.done (WX.seq (WC.ret ?_))))
  refine WX.ret1 rfl rfl ?_
  exact .mk hs hr
set_option maxRecDepth 20000 in
set_option maxHeartbeats 2000000 in
theorem cuts_nil (H0 : Hp) (w0 : World) (h0 : Sub H0 w0) : Calls Try.prog 53 #[.pointer none] w0 (Pure H0 w0 fun v _ => v = .slice none 0 0) := by
  have hs := HS.init h0
  refine Calls.enter (args := [.pointer none]) Try.func53 rfl Try.ntmps53 rfl ?_
  refine WC.seq (WC.region (WO.step rfl (OR.assign rfl (WO.done (WX.seq (WC.seq (WC.seq ?_)))))))
  refine WC.region (WO.step rfl (OR.move rfl (WO.step rfl (OR.eqlNilP T54.und rfl rfl (WO.done (WX.seq ?_))))))
  refine WC.yes rfl rfl ?_
  refine WC.seq (WC.region (WO.step rfl (OR.assign rfl (WO.done (WX.seq (WC.ret (WX.seq_ret ?_)))))))
  refine WX.ret1 rfl rfl ?_
  exact .mk hs rfl
set_option maxRecDepth 20000 in
set_option maxHeartbeats 2000000 in
theorem cuts_ok (b : Nat) (x : SrcD) (o : Obj) (H0 : Hp) (w0 : World) (h0 : Sub H0 w0) (hb : w0.heap[b]? = some o) (hn : H0 b = none) (hx : SrcIn H0 x o) (hl : x.cuts.length ≤ 1000000000000) :
    Calls Try.prog 53 #[ptr b] w0 (Pure H0 w0 fun v H' => Ints H' v x.cuts) := by
  obtain ⟨vs, vc, vch, vop, rfl, h1, h2, h3, h4⟩ := hx
  have hs := HS.startR h0 hb hn
  have hle := Hp.le.refl H0
  obtain ⟨b1, c1, rfl⟩ := h2.form
  refine Calls.enter (args := [ptr b]) Try.func53 rfl Try.ntmps53 rfl ?_
  refine WC.seq (WC.region (WO.step rfl (OR.assign rfl (WO.done (WX.seq (WC.seq (WC.seq ?_)))))))
  refine WC.region (WO.step rfl (OR.move rfl (WO.step rfl (OR.eqlNilP T54.und rfl rfl (WO.done (WX.seq (WC.no rfl rfl ?_)))))))
  refine WC.skip (WX.seq (WC.seq (WC.region (WO.step rfl (OR.move rfl (WO.step rfl (OR.nilCheck rfl ?_)))))))
  refine WO.step rfl (OR.fieldAddr FA151_3 rfl (WO.step rfl (OR.load T87 rfl rfl (hs.cellM (i := 0) rfl rfl) ?_)))
  refine WO.step rfl (OR.call hs body117 rfl rfl (cloneInts_pure _ _ _ _ hs.toSub h2 hl) ?_)
  clear hs; rintro _ H w hs hle1 hr; replace hle := hle.trans hle1; (try replace hlb := hlb.trans hle1)
  refine WO.step rfl (OR.assign rfl (WO.done (WX.seq (WC.ret ?_))))
  refine WX.ret1 rfl rfl ?_
  exact .mk hs hr

end Go.Bw
