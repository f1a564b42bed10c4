/- Plain law of relays: spans of lists of rows; what is sent. -/
import Derived.Test.YtdibepkfgemddaaBeside
import Derived.Test.YtdibepkfgemddaaOnes
import Derived.Test.YtdibepkfgemddaaRel14
import Derived.Test.YtdibepkfgemddaaConts
namespace Go.Bw
set_option linter.unusedVariables false
set_option linter.unusedSimpArgs false
open Go.Proofs

theorem gauss_nil (cols : Nat) : gauss cols [] = [] := by
  obtain ⟨L, _, h⟩ := gAll_ok (cols := cols) (R := []) (by simp) cols (Nat.le_refl _)
  have h1 : (gAll cols []).1 = [] := List.eq_nil_of_length_eq_zero h
  rw [gauss, h1, List.take_nil]
abbrev p0 (c : List UInt8) : RowD := (c, [])
theorem gauss_idem {cols : Nat} {L : List (List UInt8)} (h : Red cols 0 (L.map p0)) : gauss cols L = L := by
  have hl : ∀ r ∈ L, r.length = cols := fun r hr => (h.gs (p0 r) (List.mem_map.2 ⟨r, hr, rfl⟩)).1
  have h1 := gauss_eq hl
  have hR : ∀ r ∈ L.map p0, Tr [] r ∧ RowGS cols 0 r := by
    intro r hr
    obtain ⟨c, hc, rfl⟩ := List.mem_map.1 hr
    exact ⟨fun j => by simp [T], hl c hc, rfl⟩
  have hB := insAll_good (g := cols) (s := 0) (ys := []) _ hR
  have hin := insAll_in (g := cols) (s := 0) (ys := []) _ hR
  have h2 : insAll cols 0 (L.map p0) = L.map p0 := Red.unique hB.red h (fun x hx => (insAll_sub (g := cols) (s := 0) (L.map p0) [] (by simp) (fun r hr => ⟨h.gs r hr, InS.own h hr⟩) x hx).2) hin
  have h3 : (gauss cols L).map p0 = L.map p0 := h1.trans h2
  have h4 := congrArg (List.map (fun r : RowD => r.1)) h3
  rw [List.map_map, List.map_map] at h4
  simpa [Function.comp_def] using h4
theorem Red.pr {g s : Nat} {A : List RowD} (h : Red g s A) : Red g 0 (A.map Bw.pr) := by
  refine ⟨?_, ?_, ?_, ?_, ?_⟩
  · intro x hx
    obtain ⟨y, hy, rfl⟩ := List.mem_map.1 hx
    exact ⟨(h.gs y hy).1, rfl⟩
  · intro x hx
    obtain ⟨y, hy, rfl⟩ := List.mem_map.1 hx
    exact h.ld y hy
  · rw [List.pairwise_map]
    exact h.asc
  · intro x hx
    obtain ⟨y, hy, rfl⟩ := List.mem_map.1 hx
    exact h.one y hy
  · intro x hx y hy hne
    obtain ⟨x2, hx2, rfl⟩ := List.mem_map.1 hx
    obtain ⟨y2, hy2, rfl⟩ := List.mem_map.1 hy
    exact h.zero x2 hx2 y2 hy2 hne
theorem S_pr (f : RowD → UInt8) (k : RowD → UInt8) (j : Nat) : ∀ (A : List RowD), (∀ x ∈ A, f x = k (pr x)) → S (A.map pr) k (.inl j) = S A f (.inl j)
  | [], _ => rfl
  | x :: A, h => by
    rw [List.map_cons, S, S, S_pr f k j A (fun y hy => h y (List.mem_cons_of_mem _ hy)), h x (List.mem_cons_self ..)]
    rfl
theorem InS.pr {A : List RowD} {v : RowD} (h : InS A (fun _ => True) v) : InS (A.map Bw.pr) (fun _ => True) (Bw.pr v) := by
  intro i _
  cases i with
  | inl j =>
    rw [S_pr (fun x => ent v (.inl (ldp x))) _ j A (fun x _ => rfl)]
    exact h (.inl j) trivial
  | inr j =>
    have e : ent (Bw.pr v) (.inr j) = 0 := by simp [ent, Bw.pr]
    rw [e, S_zero]
    intro x hx
    obtain ⟨y, _, rfl⟩ := List.mem_map.1 hx
    exact .inr (by simp [ent, Bw.pr])
/-- Whether a vector is left nothing of by the reduced rows of a list. -/
def hasV (cols : Nat) (l : List (List UInt8)) (v : List UInt8) : Bool := decide (lead (redR ((gauss cols l).map p0) (p0 v)).1 < 0)
theorem gauss_fst {g s : Nat} {A : List RowD} (h : Red g s A) : gauss g (A.map (·.1)) = A.map (·.1) := by
  refine gauss_idem ?_
  rw [List.map_map]
  exact h.pr
theorem has_red {g s : Nat} {A : List RowD} (h : Red g s A) {v : RowD} (hv : RowGS g s v) (hin : InS A (fun _ => True) v) : hasV g (A.map (·.1)) v.1 = true := by
  unfold hasV
  rw [gauss_fst h, List.map_map]
  refine decide_eq_true ?_
  rw [lead_none]
  intro j
  exact (InS.red h.pr (g := g) (s := 0) (v := Bw.pr v) ⟨hv.1, rfl⟩).1 hin.pr (.inl j) trivial
/-- A combination's coefficients stand at the leads. -/
theorem combR_at {g s : Nat} {A : List RowD} (h : Red g s A) (c : List UInt8) (hc : c.length = A.length) (j : Nat) (hj : j < A.length) : ent (combR g s A c) (.inl (ldp A[j])) = c[j]'(by omega) := by
  have key : ∀ k, k ≤ A.length → RowGS g s (combR g s (A.take k) (c.take k)) ∧ ent (combR g s (A.take k) (c.take k)) (.inl (ldp A[j])) = if j < k then c[j]'(by omega) else 0 := by
    intro k
    induction k with
    | zero =>
      intro _
      rw [if_neg (by omega)]
      exact ⟨zero_gs g s, zero_ent g s _⟩
    | succ k ih =>
      intro hk
      obtain ⟨h1, h2⟩ := ih (by omega)
      rw [combR_step g s A c k (by omega) (by omega)]
      refine ⟨plusR_gs h1 (h.gs _ (List.getElem_mem _)) _, ?_⟩
      rw [plus_ent h1 (h.gs _ (List.getElem_mem _)), h2]
      by_cases e : k = j
      · subst e
        rw [if_neg (by omega), if_pos (by omega), h.one _ (List.getElem_mem _), one_mul, zero_xor8]
      · rw [h.zero _ (List.getElem_mem _) _ (List.getElem_mem _) (h.asc_ne (by omega) hj e), zero_mul, xor_zero8]
        by_cases e2 : j < k
        · rw [if_pos e2, if_pos (by omega)]
        · rw [if_neg e2, if_neg (by omega)]
  have := (key A.length (Nat.le_refl _)).2
  rw [List.take_length, ← hc, List.take_length, if_pos (by omega)] at this
  exact this
theorem coefF_some (n turn : Nat) (l : List UInt8) (ht : turn < n) : ∃ j, ∃ h : j < n, (coefF n turn l)[j]'(by rw [coefF_len]; exact h) ≠ 0 := by
  have hl : (padTo n l).length = n := padTo_length _ _
  by_cases hz : lead (padTo n l) < 0
  · refine ⟨turn, ht, ?_⟩
    have e : coefF n turn l = (padTo n l).set turn 1 := by rw [coefF, if_pos hz]
    simp only [e, List.getElem_set_self]
    decide
  · have e : coefF n turn l = padTo n l := by rw [coefF, if_neg hz]
    have hx : ¬ ∀ j, (padTo n l).getD j 0 = 0 := fun h => hz (lead_none.2 h)
    obtain ⟨j, hj⟩ := Classical.not_forall.1 hx
    have hjn : j < n := by
      rcases Nat.lt_or_ge j n with h | h
      · exact h
      · exact absurd (by rw [List.getD_eq_getElem?_getD, List.getElem?_eq_none (by omega)]; rfl) hj
    refine ⟨j, hjn, ?_⟩
    simp only [e]
    rw [List.getD_eq_getElem?_getD, List.getElem?_eq_getElem (by omega)] at hj
    exact hj
section
variable {g s : Nat} {ys : List (List UInt8)} {A : List RowD}
theorem snd_eq (sent : Nat) (by_ : List UInt8) (hA : A.length ≠ 0) : sndR g s A sent by_ = combR g s A (coefF A.length (sent % A.length) by_) := by rw [sndR, if_neg hA]
theorem snd_gs (h : Red g s A) (sent : Nat) (by_ : List UInt8) (hA : A.length ≠ 0) : RowGS g s (sndR g s A sent by_) := by rw [snd_eq _ _ hA]; exact combR_gs _ _ _ _ h.gs
theorem snd_in (h : Red g s A) (sent : Nat) (by_ : List UInt8) (hA : A.length ≠ 0) : InS A (fun _ => True) (sndR g s A sent by_) := by rw [snd_eq _ _ hA]; exact InS.combAny h _
theorem snd_tr (h : Good g s ys A) (sent : Nat) (by_ : List UInt8) (hA : A.length ≠ 0) : Tr ys (sndR g s A sent by_) := by rw [snd_eq _ _ hA]; exact Tr.comb h _
theorem snd_some (h : Red g s A) (sent : Nat) (by_ : List UInt8) (hA : A.length ≠ 0) : ¬ lead (sndR g s A sent by_).1 < 0 := by
  rw [snd_eq _ _ hA]
  intro hl
  obtain ⟨j, hj, hn⟩ := coefF_some A.length (sent % A.length) by_ (Nat.mod_lt _ (by omega))
  apply hn
  rw [← combR_at h _ (coefF_len _ _ _) j hj]
  exact lead_none.1 hl _
theorem Tr.pay {r : RowD} (ht : Tr ys r) (hg : RowGS g s r) (hs : ∀ y ∈ ys, y.length = s) : r.2 = Bw.comb s ys r.1 :=
  list_ext (hg.2.trans (comb_length _ _ _ hs).symm) fun j => by rw [ht j, comb_T ys r.1 hs j]
end
end Go.Bw
namespace Go.Bw
set_option linter.unusedVariables false
set_option linter.unusedSimpArgs false
open Go.Proofs

set_option maxRecDepth 20000 in
set_option maxHeartbeats 2000000 in
theorem msize0_ok (v : Value) (H0 : Hp) (w0 : World) (h0 : Sub H0 w0) (hv : BytesL H0 v []) :
    Calls Try.prog 81 #[v] w0 (Pure H0 w0 fun v _ => v = .tuple #[.int .i64 0, .int .i64 0, .int .i64 0]) := by
  have hs := HS.init h0
  have hle := Hp.le.refl H0
  obtain ⟨b1, c1, rfl⟩ := hv.form
  refine Calls.enter (args := [.slice b1 ([] : List (List UInt8)).length c1]) Try.func81 rfl Try.ntmps81 rfl ?_
  refine WC.seq (WC.region (WO.step rfl (OR.assign rfl (WO.step rfl (OR.assign rfl (WO.step rfl (OR.assign rfl ?_)))))))
  refine WO.done (WX.seq (WC.seq (WC.seq (WC.region (WO.step rfl (OR.move rfl (WO.step rfl ?_)))))))
  refine OR.lenSlice T31.und rfl (WO.step rfl (OR.eql rfl rfl (WO.done (WX.seq ?_))))
  refine WC.yes rfl rfl ?_
  refine WC.seq (WC.region (WO.step rfl (OR.assign rfl (WO.step rfl (OR.assign rfl (WO.step rfl (OR.assign rfl ?_)))))))
  refine WO.done (WX.seq (WC.ret (WX.seq_ret ?_)))
  refine WX.ret3 rfl rfl rfl rfl ?_
  exact .mk hs rfl
def wObj0 (b : Option Addr) (cap : Nat) : Obj := .cells #[.slice b 0 cap, .int .i64 0] 129
set_option maxRecDepth 20000 in
set_option maxHeartbeats 2000000 in
theorem reduced0_ok (b : Nat) (bs : Option Addr) (cap : Nat) (H0 : Hp) (w0 : World) (h0 : Sub H0 w0) (hb : w0.heap[b]? = some (wObj0 bs cap)) (hn : H0 b = none) :
    Calls Try.prog 83 #[ptr b, .int .i64 0] w0 (Pure H0 w0 fun v _ => v = .int .i64 0) := by
  have hs := HS.startR h0 hb hn
  have hle := Hp.le.refl H0
  refine Calls.enter (args := [ptr b, .int .i64 0]) Try.func83 rfl Try.ntmps83 rfl ?_
  refine WC.seq (WC.region (WO.step rfl (OR.assign rfl (WO.done (WX.seq (WC.scope (WC.seq ?_)))))))
  refine WC.region (WO.step rfl (OR.move rfl (WO.step rfl (OR.makeFunc rfl rfl (WO.step rfl (OR.assign rfl (WO.done ?_)))))))
  refine WX.seq (WC.seq (WC.label (WX.seq (WC.seq (WC.seq (WC.region (WO.step rfl ?_)))))))
  refine OR.move rfl (WO.step rfl (OR.move rfl (WO.done (WX.seq (WC.block ?_)))))
  refine WC.loop (ι := Nat) (fun k => [(0, ptr b), (1, .int .i64 0), (5, .func (.func 110) #[ptr b] #[]), (13, .int .i64 0), (14, .int .i64 0)]) (fun k w => (HS [] H0 w0 H0 [(b, wObj0 bs cap, false)] w)) (fun k => 0) 0 ⟨rfl, rfl, rfl, rfl, rfl,  trivial⟩ ?_ (fun k w hW => ?_)
  · exact hs
  clear hs
  have hs := hW
  refine WC.seq (WC.region (WO.step rfl (OR.lss rfl rfl (WO.done (WX.seq (WC.seq ?_))))))
  refine WC.no rfl (decide_eq_false (by omega)) ?_
  refine WC.exit (WX.seq_exit (WX.loop_exit (WX.block_hit (WX.seq (WC.seq (WC.region (WO.step rfl ?_)))))))
  refine OR.move rfl (WO.step rfl (OR.nilCheck rfl (WO.step rfl (OR.fieldAddr FA129_1 rfl (WO.step rfl (OR.load T3 rfl rfl (hs.cellM (i := 0) rfl rfl) (WO.step rfl ?_)))))))
  refine OR.assign rfl (WO.done (WX.seq (WC.ret (WX.scope_ret ?_))))
  refine WX.ret1 rfl rfl ?_
  exact .mk (hs.drop 0) rfl
theorem gauss0 (cols : Nat) : gauss cols [] = [] := gauss_nil cols
set_option maxRecDepth 20000 in
set_option maxHeartbeats 2000000 in
theorem reduce0_ok (v : Value) (cols : Nat) (H0 : Hp) (w0 : World) (h0 : Sub H0 w0) (hv : BytesL H0 v []) :
    Calls Try.prog 56 #[v] w0 (Pure H0 w0 fun v H' => ∃ r, v = .tuple #[r, .int .i64 0] ∧ BytesL H' r (gauss cols [])) := by
  have hs := HS.init h0
  have hle := Hp.le.refl H0
  have hv0 := hv
  obtain ⟨cs, hsl, hcl, hcs⟩ := hv
  have hc0 : cs = [] := List.eq_nil_of_length_eq_zero hcl
  subst hc0
  obtain ⟨b1, c1, rfl⟩ := hv0.form
  refine Calls.enter (args := [.slice b1 ([] : List (List UInt8)).length c1]) Try.func56 rfl Try.ntmps56 rfl ?_
  refine WC.seq (WC.region (WO.step rfl (OR.assign rfl (WO.step rfl (OR.assign rfl (WO.done (WX.seq ?_)))))))
  refine WC.seq (WC.region (WO.step rfl (OR.move rfl ?_)))
  refine WO.step rfl (OR.call hs body81 rfl rfl (msize0_ok _ _ _ hs.toSub hv0) ?_)
  clear hs; rintro _ H w hs hle1 rfl; replace hle := hle.trans hle1; (try replace hlb := hlb.trans hle1)
  refine WO.step rfl (OR.move rfl (WO.step rfl (OR.extract rfl rfl (WO.step rfl (OR.extract rfl rfl (WO.step rfl (OR.extract rfl rfl ?_)))))))
  refine WO.step rfl (OR.assign rfl (WO.step rfl (OR.assign rfl (WO.step rfl (OR.assign rfl (WO.done (WX.seq ?_)))))))
  refine WC.seq (WC.seq (WC.region (WO.step rfl (OR.move rfl (WO.step rfl (OR.neq rfl rfl (WO.done ?_)))))))
  refine WX.seq ?_
  refine WC.no rfl rfl ?_
  refine WC.skip (WX.seq (WC.seq (WC.region (WO.step rfl (OR.move rfl ?_)))))
  refine WO.step rfl (OR.callX (Mx := []) hs body82 rfl rfl (cloneL_ok _ 0 [] _ _ hs.toSub (hsl.mono hle) rfl (by omega)) rfl rfl ?_)
  clear hs; rintro _ H M' w hs hle1 hnew ⟨rfl, ho⟩; replace hle := hle.trans hle1; (try replace hlb := hlb.trans hle1)
  obtain ⟨bo, co, rfl⟩ := ho.form
  replace hs : HS [] H0 w0 H [] w := hs.sublist (List.nil_sublist _)
  have hbo : bo = none → co = 0 := by
    rcases ho.2 with ⟨_, ⟨b, h⟩, _⟩ | ⟨g, c, cap, _, h, _⟩
    · cases h; exact fun _ => rfl
    · cases h; exact fun h => by cases h
  clear ho
  refine WO.step rfl (OR.build (cs := #[.slice bo 0 co, .int .i64 0]) rfl (by intro w; exact build_work _ _ _ w) ?_)
  refine WO.step rfl (OR.box hs rfl ?_)
  clear hs; intro g1 w hg1 hs
  refine WO.step rfl (OR.assign rfl (WO.done (WX.seq (WC.seq (WC.region (WO.step rfl (OR.move rfl ?_)))))))
  refine WO.step rfl (OR.move rfl ?_)
  refine WO.step rfl (OR.call hs body83 rfl rfl (reduced0_ok _ bo co _ _ hs.toSub (hs.blk (i := 0) rfl) (hs.nh (i := 0) rfl)) ?_)
  clear hs; rintro _ H w hs hle1 rfl; replace hle := hle.trans hle1; (try replace hlb := hlb.trans hle1)
  refine WO.step rfl (OR.assign rfl (WO.done (WX.seq (WC.seq (WC.region (WO.step rfl (OR.move rfl ?_)))))))
  refine WO.step rfl (OR.nilCheck rfl (WO.step rfl (OR.fieldAddr FA129_0 rfl (WO.step rfl (OR.load T31 rfl rfl (hs.cellM (i := 0) rfl rfl) (WO.step rfl (OR.move rfl ?_)))))))
  refine WO.step rfl (OR.sliceHiG 0 T31.und T37 rfl rfl rfl (by omega) ?_)
  refine WO.step rfl (OR.call hs body84 rfl rfl (copiedM_ok _ [] _ _ hs.toSub ⟨[], ⟨rfl, bo, co, rfl, Nat.zero_le _, fun h => ⟨rfl, hbo h⟩, fun a _ => ⟨fun h => absurd h (by simp), fun i u hi => by simp at hi⟩⟩, rfl, fun i h => by simp at h⟩ (by simp) (fun r h => by cases h)) ?_)
  clear hs; rintro _ H w hs hle1 hr; replace hle := hle.trans hle1; (try replace hlb := hlb.trans hle1)
  refine WO.step rfl (OR.assign rfl (WO.step rfl (OR.assign rfl (WO.done (WX.seq (WC.ret ?_))))))
  replace hs := hs.drop (i := 0)
  refine WX.ret2 rfl rfl rfl ?_
  rw [gauss_nil]
  exact .mk hs ⟨_, rfl, hr⟩
/-- Any list. -/
theorem reduceAny_ok (v : Value) (R : List (List UInt8)) (cols : Nat) (H0 : Hp) (w0 : World) (h0 : Sub H0 w0) (hv : BytesL H0 v R) (h2 : R.length ≤ 1000000) (hR : ∀ r ∈ R, r.length = cols) (hcols : cols ≤ 255) :
    Calls Try.prog 56 #[v] w0 (Pure H0 w0 fun v H' => ∃ r, v = .tuple #[r, .int .i64 0] ∧ BytesL H' r (gauss cols R)) := by
  cases R with
  | nil => exact reduce0_ok v cols H0 w0 h0 hv
  | cons r R => exact reduceM_ok v _ cols H0 w0 h0 hv (by simp) h2 hR hcols
set_option maxRecDepth 20000 in
set_option maxHeartbeats 2000000 in
theorem besideAny_ok (v va vb : Value) (a b : List (List UInt8)) (cols : Nat) (H0 : Hp) (w0 : World) (h0 : Sub H0 w0) (hv : Sl H0 1 v 2 [va, vb]) (ha : BytesL H0 va a) (hb : BytesL H0 vb b) (h2 : (a ++ b).length ≤ 1000000) (hR : ∀ r ∈ a ++ b, r.length = cols) (hcols : cols ≤ 255) :
    Calls Try.prog 55 #[v] w0 (Pure H0 w0 fun v H' => ∃ r, v = .tuple #[r, .int .i64 0] ∧ BytesL H' r (gauss cols (a ++ b))) := by
  by_cases h1 : 0 < (a ++ b).length
  · exact beside_ok v va vb a b cols H0 w0 h0 hv ha hb h1 h2 hR hcols
  · have e : a = [] ∧ b = [] := by
      rw [List.length_append] at h1
      exact ⟨List.eq_nil_of_length_eq_zero (by omega), List.eq_nil_of_length_eq_zero (by omega)⟩
    obtain ⟨rfl, rfl⟩ := e
    have hs := HS.init h0
    have hle := Hp.le.refl H0
    obtain ⟨ca, ha1, ha2, ha3⟩ := ha
    obtain ⟨cb, hb1, hb2, hb3⟩ := hb
    have hca : ca = [] := List.eq_nil_of_length_eq_zero ha2
    have hcb : cb = [] := List.eq_nil_of_length_eq_zero hb2
    subst hca hcb
    have hvl : ValsL H0 v [[], []] := ⟨[va, vb], hv, rfl, fun i hi hi' => by
      match i, hi with
      | 0, _ => exact ha1
      | 1, _ => exact hb1⟩
    obtain ⟨b1, c1, rfl⟩ := hv.form
    refine Calls.enter (args := [.slice b1 2 c1]) Try.func55 rfl Try.ntmps55 rfl ?_
    refine WC.seq (WC.region (WO.step rfl (OR.assign rfl (WO.step rfl (OR.assign rfl (WO.done (WX.seq ?_)))))))
    refine WC.seq (WC.region (WO.step rfl (OR.move rfl ?_)))
    refine WO.step rfl (OR.call hs body80 rfl rfl (concatL_ok _ [[], []] _ _ hs.toSub hvl (by simp) (by simp) (by simp)) ?_)
    clear hs; rintro vr H w hs hle1 hr
    have hrl : BytesL H vr [] := ⟨[], hr, rfl, fun i h => by simp at h⟩
    replace hle := hle.trans hle1
    refine WO.step rfl (OR.call hs body56 rfl rfl (reduce0_ok vr cols _ _ hs.toSub hrl) ?_)
    clear hs; rintro _ H w hs hle1 ⟨r, rfl, hr2⟩
    refine WO.step rfl (OR.extract rfl rfl (WO.step rfl (OR.extract rfl rfl (WO.step rfl (OR.assign rfl (WO.step rfl (OR.assign rfl ?_)))))))
    refine WO.done (WX.seq (WC.ret ?_))
    refine WX.ret2 rfl rfl rfl ?_
    exact .mk hs ⟨r, rfl, hr2⟩
end Go.Bw
namespace Go.Bw
set_option linter.unusedVariables false
set_option linter.unusedSimpArgs false
open Go.Proofs

def redV (rows : List (List UInt8)) (v : List UInt8) : List UInt8 := rows.foldl (fun a x => addS (a.getD (lead x).toNat 0) a x) v
theorem redV_eq : ∀ (rows : List (List UInt8)) (v : List UInt8), redR (rows.map p0) (p0 v) = p0 (redV rows v)
  | [], v => rfl
  | x :: rows, v => redV_eq rows (addS (v.getD (lead x).toNat 0) v x)
theorem hasV_eq (cols : Nat) (l : List (List UInt8)) (v : List UInt8) : hasV cols l v = decide (lead (redV (gauss cols l) v) < 0) := by
  unfold hasV
  rw [redV_eq]
theorem redV_succ (rows : List (List UInt8)) (v : List UInt8) (k : Nat) (h : k < rows.length) : redV (rows.take (k + 1)) v = addS ((redV (rows.take k) v).getD (lead rows[k]).toNat 0) (redV (rows.take k) v) rows[k] := by
  unfold redV
  rw [List.take_succ_eq_append_getElem h, List.foldl_append]
  rfl
theorem gauss_rows {cols : Nat} {R : List (List UInt8)} (h : ∀ r ∈ R, r.length = cols) : ∀ x ∈ gauss cols R, x.length = cols ∧ 0 ≤ lead x := by
  intro x hx
  have h1 := gauss_red (cols := cols) (R := R) (fun a ha => by rw [List.getD_eq_getElem?_getD, List.getElem?_eq_getElem ha]; exact h _ (List.getElem_mem ha))
  exact ⟨(h1.gs (p0 x) (List.mem_map.2 ⟨x, hx, rfl⟩)).1, h1.ld (p0 x) (List.mem_map.2 ⟨x, hx, rfl⟩)⟩
theorem gauss_len (cols : Nat) (R : List (List UInt8)) : (gauss cols R).length ≤ R.length := by
  unfold gauss
  rw [List.length_take]
  have : (gAll cols R).1.length = R.length := by
    unfold gAll
    have key : ∀ (l : List Nat) (p : List (List UInt8) × Nat), (l.foldl gStep p).1.length = p.1.length := by
      intro l
      induction l with
      | nil => intro p; rfl
      | cons k l ih => intro p; rw [List.foldl_cons, ih, gStep_len]
    exact key _ _
  omega
theorem redV_len {cols : Nat} : ∀ (rows : List (List UInt8)) (v : List UInt8), v.length = cols → (∀ x ∈ rows, x.length = cols) → (redV rows v).length = cols
  | [], v, hv, _ => hv
  | x :: rows, v, hv, h => redV_len rows _ (by rw [addS_length _ _ _ (by rw [hv, h x (by simp)])]; exact hv) (fun y hy => h y (by simp [hy]))

set_option maxRecDepth 20000 in
set_option maxHeartbeats 2000000 in
theorem has_ok (vl vv : Value) (l : List (List UInt8)) (v : List UInt8) (cols : Nat) (H0 : Hp) (w0 : World) (h0 : Sub H0 w0) (hl : BytesL H0 vl l) (hv : Bytes H0 vv v) (hlen : l.length ≤ 1000) (hR : ∀ r ∈ l, r.length = cols) (hvl : v.length = cols) (hcols : cols ≤ 255) :
    Calls Try.prog 27 #[vl, vv] w0 (Pure H0 w0 fun u _ => u = .tuple #[.bool (hasV cols l v), .int .i64 0]) := by
  have hs := HS.init h0
  have hle := Hp.le.refl H0
  have hl0 := hl
  have hv0 := hv
  obtain ⟨b1, c1, rfl⟩ := hl.form
  obtain ⟨b2, c2, rfl⟩ := hv.form
  refine Calls.enter (args := [.slice b1 l.length c1, .slice b2 v.length c2]) Try.func27 rfl Try.ntmps27 rfl ?_
  refine WC.seq (WC.region (WO.step rfl (OR.assign rfl (WO.step rfl (OR.assign rfl (WO.done (WX.seq ?_)))))))
  refine WC.seq (WC.seq (WC.region (WO.step rfl (OR.move rfl (WO.step rfl (OR.move rfl ?_))))))
  refine WO.step rfl (OR.buildSlice (vs := [_]) hs T31.und T37 rfl rfl rfl rfl (by simp) ?_)
  clear hs; intro q1 w hq1 hs
  obtain ⟨H, hle1, hp_q1, hs9⟩ := hs.pub1 hq1; clear hs; have hs := hs9; clear hs9; replace hle := hle.trans hle1; (try replace hlb := hlb.trans hle1)
  have hone : BytesL H (.slice (some ⟨q1, 0, none⟩) 1 1) [v] := BytesL.single (Sl.block hp_q1 rfl rfl (by simp)) (hv.mono hle)
  refine WO.step rfl (OR.buildSlice (vs := [_, _]) hs T122.und T31 rfl rfl rfl rfl (by simp) ?_)
  clear hs; intro q2 w hq2 hs
  obtain ⟨H, hle1, hp_q2, hs9⟩ := hs.pub1 hq2; clear hs; have hs := hs9; clear hs9; replace hle := hle.trans hle1; (try replace hlb := hlb.trans hle1)
  have htwo : Sl H 1 (.slice (some ⟨q2, 0, none⟩) 2 2) 2 [.slice b1 l.length c1, .slice (some ⟨q1, 0, none⟩) 1 1] := Sl.block hp_q2 rfl rfl (by simp)
  have hab : ∀ r ∈ l ++ [v], r.length = cols := by
    intro r hr
    rcases List.mem_append.1 hr with hr | hr
    · exact hR r hr
    · rw [List.mem_singleton.1 hr]; exact hvl
  refine WO.step rfl (OR.call hs body55 rfl rfl (besideAny_ok _ _ _ l [v] cols _ _ hs.toSub htwo (hl.mono hle) (hone.mono hle1) (by rw [List.length_append]; simp; omega) hab hcols) ?_)
  clear hs; rintro _ H w hs hle1 ⟨r0, rfl, hr0⟩; replace hle := hle.trans hle1; (try replace hlb := hlb.trans hle1)
  obtain ⟨b3, c3, rfl⟩ := hr0.form
  refine WO.step rfl (OR.move rfl (WO.step rfl (OR.extract rfl rfl (WO.step rfl (OR.extract rfl rfl (WO.step rfl (OR.assign rfl ?_)))))))
  refine WO.step rfl (OR.assign rfl (WO.done (WX.seq (WC.seq (WC.region (WO.step rfl (OR.move rfl ?_)))))))
  refine WO.step rfl (OR.neq rfl rfl (WO.done (WX.seq ?_)))
  refine WC.no rfl rfl ?_
  refine WC.skip (WX.seq (WC.seq (WC.region (WO.step rfl (OR.move rfl ?_)))))
  refine WO.step rfl (OR.call hs body56 rfl rfl (reduceAny_ok _ l cols _ _ hs.toSub (hl.mono hle) (by omega) hR hcols) ?_)
  clear hs; rintro _ H w hs hle1 ⟨r1, rfl, hr1⟩; replace hle := hle.trans hle1; (try replace hlb := hlb.trans hle1)
  obtain ⟨b4, c4, rfl⟩ := hr1.form
  have hGr := gauss_rows hR
  have hGl := gauss_len cols l
  have hE := hasV_eq cols l v
  generalize gauss cols l = G at *
  rw [hE]
  refine WO.step rfl (OR.move rfl (WO.step rfl (OR.extract rfl rfl (WO.step rfl (OR.extract rfl rfl (WO.step rfl (OR.assign rfl ?_)))))))
  refine WO.step rfl (OR.assign rfl (WO.done (WX.seq (WC.seq (WC.seq (WC.region (WO.step rfl ?_)))))))
  refine OR.move rfl (WO.step rfl (OR.lenSlice T31.und rfl (WO.step rfl (OR.move rfl (WO.done (WX.seq (WC.block ?_)))))))
  refine WC.loop (ι := Nat × Value) (fun ix => [(1, ix.2), (28, .slice b4 G.length c4), (29, .int .i64 (G.length : Int)), (30, .int .i64 (ix.1 : Int))]) (fun ix w => (ix.1 ≤ G.length ∧ ∃ H2, Hp.le H0 H2 ∧ Hp.le H H2 ∧ Bytes H2 ix.2 (redV (G.take ix.1) v) ∧ HS [] H0 w0 H2 [] w)) (fun ix => G.length - ix.1) (0, .slice b2 v.length c2) ⟨rfl, rfl, rfl, rfl,  trivial⟩ ?_ (fun ix w hW => ?_)
  · exact ⟨by omega, H, hle, Hp.le.refl _, hv.mono hle, hs⟩
  clear hs hle hle1
  obtain ⟨k, va⟩ := ix
  obtain ⟨hk, H2, hle, hlb, hva, hs⟩ := hW
  simp only at hk hva
  obtain ⟨b5, c5, rfl⟩ := hva.form
  have hrl : (redV (G.take k) v).length = cols := redV_len _ _ hvl (fun x hx => (hGr x (List.mem_of_mem_take hx)).1)
  refine WC.seq (WC.region (WO.step rfl (OR.lss rfl rfl (WO.done (WX.seq (WC.seq ?_))))))
  refine WC.condD rfl (fun hlt => ?_) (fun hlt => ?_)
  · have hk' : k < G.length := by omega
    obtain ⟨hg1, hg2⟩ := hGr _ (List.getElem_mem hk')
    have hld := lead_lt hg2
    obtain ⟨xb, xo, rfl, hcr⟩ := hr1.pos (by omega)
    obtain ⟨e1, he1, hb1⟩ := hcr k hk'
    obtain ⟨b6, c6, rfl⟩ := hb1.form
    refine WC.skip (WX.seq (WC.seq (WC.block (WC.seq (WC.region ?_)))))
    refine WO.step rfl (OR.idx k T31.und T37 rfl rfl rfl hk' ?_)
    refine WO.step rfl (OR.load T37 rfl rfl (hs.cell (hcell.mono hlb he1)) ?_)
    refine WO.step rfl (OR.assign rfl (WO.done (WX.seq (WC.region (WO.step rfl (OR.move rfl (WO.step rfl ?_)))))))
    refine OR.move rfl (WO.step rfl (OR.move rfl (WO.step rfl (OR.move rfl ?_))))
    refine WO.step rfl (OR.call hs body58 rfl rfl (lead_ok _ _ _ _ hs.toSub (hb1.mono hlb) (by omega)) ?_)
    clear hs; rintro _ H w hs hle1 rfl; replace hle := hle.trans hle1; (try replace hlb := hlb.trans hle1)
    obtain ⟨yb, yo, rfl, hcy⟩ := hva.pos (by omega)
    have hcy2 := hcy (lead G[k]).toNat (by omega)
    rw [show lead G[k] = (((lead G[k]).toNat : Nat) : Int) by omega]
    refine WO.step rfl (OR.idx (lead G[k]).toNat T37.und T5 rfl rfl rfl (by omega) ?_)
    refine WO.step rfl (OR.load T5 rfl rfl (hs.cell (hcell.mono hle1 hcy2)) ?_)
    have hlc := hle1
    refine WO.step rfl (OR.call hs body57 rfl rfl (addScaled_ok _ _ (redV (G.take k) v) G[k] _ _ _ hs.toSub (hva.mono hlc) (hb1.mono hlb) (by omega)) ?_)
    clear hs; rintro _ H w hs hle1 ⟨r9, rfl, hr9⟩; replace hle := hle.trans hle1; (try replace hlb := hlb.trans hle1)
    obtain ⟨b9, c9, hf9⟩ := hr9.form
    subst hf9
    refine WO.step rfl (OR.move rfl (WO.step rfl (OR.extract rfl rfl (WO.step rfl (OR.extract rfl rfl (WO.step rfl (OR.assign rfl ?_)))))))
    refine WO.done (WX.block (WX.seq (WC.region (WO.step rfl (OR.addI rfl rfl (by omega) (by omega) (WO.step rfl (OR.move rfl ?_)))))))
    refine WO.done ?_
    refine WX.again ((k + 1, .slice b9 _ c9)) ⟨rfl, rfl, rfl, rfl,  trivial⟩ ?_ ?_
    · refine ⟨hk', H, hle, hlb, ?_, hs⟩
      simp only
      rw [redV_succ _ _ _ hk', List.getD_eq_getElem?_getD, List.getElem?_eq_getElem (by omega)]
      exact hr9
    · simp only; omega
  · have e : k = G.length := by omega
    subst e
    refine WC.exit (WX.seq_exit (WX.loop_exit (WX.block_hit (WX.seq (WC.seq (WC.region (WO.step rfl ?_)))))))
    refine OR.move rfl ?_
    refine WO.step rfl (OR.call hs body28 rfl rfl (isZero_ok _ (redV (G.take G.length) v) _ _ hs.toSub hva (by omega)) ?_)
    clear hs; rintro _ H w hs hle1 rfl; replace hle := hle.trans hle1; (try replace hlb := hlb.trans hle1)
    refine WO.step rfl (OR.assign rfl (WO.step rfl (OR.assign rfl (WO.done (WX.seq (WC.ret ?_))))))
    refine WX.ret2 rfl rfl rfl ?_
    rw [List.take_length]
    exact .mk hs rfl

set_option maxRecDepth 20000 in
set_option maxHeartbeats 2000000 in
theorem out1_ok (q : Nat) (vl vv : Value) (l : List (List UInt8)) (v : List UInt8) (cols : Nat) (H0 : Hp) (w0 : World) (h0 : Sub H0 w0) (hq : hcell H0 ⟨q, 0, none⟩ = some vl) (hl : BytesL H0 vl l) (hv : Bytes H0 vv v) (hlen : l.length ≤ 1000) (hR : ∀ r ∈ l, r.length = cols) (hvl : v.length = cols) (hcols : cols ≤ 255) (hin : hasV cols l v = true) :
    Calls Try.prog 75 #[vv, ptr q] w0 (Pure H0 w0 fun u _ => u = .bool false) := by
  have hs := HS.init h0
  have hle := Hp.le.refl H0
  obtain ⟨b1, c1, rfl⟩ := hl.form
  obtain ⟨b2, c2, rfl⟩ := hv.form
  refine Calls.enter (args := [.slice b2 v.length c2, ptr q]) Try.func75 rfl Try.ntmps75 rfl ?_
  refine WC.seq (WC.region (WO.step rfl (OR.assign rfl (WO.done (WX.seq (WC.seq (WC.region ?_)))))))
  refine WO.step rfl (OR.load T31 rfl rfl (hs.cell hq) ?_)
  refine WO.step rfl (OR.move rfl ?_)
  refine WO.step rfl (OR.call hs body27 rfl rfl (has_ok _ _ l v cols _ _ hs.toSub hl hv hlen hR hvl hcols) ?_)
  clear hs; rintro _ H w hs hle1 rfl; replace hle := hle.trans hle1; (try replace hlb := hlb.trans hle1)
  rw [hin]
  refine WO.step rfl (OR.move rfl (WO.step rfl (OR.extract rfl rfl (WO.step rfl (OR.extract rfl rfl (WO.step rfl (OR.assign rfl ?_)))))))
  refine WO.step rfl (OR.assign rfl (WO.done (WX.seq (WC.seq (WC.region (WO.step rfl (OR.move rfl ?_)))))))
  refine WO.step rfl (OR.not rfl (WO.step rfl (OR.assign rfl (WO.done (WX.seq (WC.ret ?_))))))
  refine WX.ret1 rfl rfl ?_
  exact .mk hs rfl
/-- Each row of b lies in the span of a. -/
def InL (cols : Nat) (a b : List (List UInt8)) : Prop := ∀ v ∈ b, hasV cols (gauss cols a) v = true
set_option maxRecDepth 20000 in
set_option maxHeartbeats 2000000 in
theorem out_ok (vb va : Value) (a b : List (List UInt8)) (cols : Nat) (H0 : Hp) (w0 : World) (h0 : Sub H0 w0) (ha : BytesL H0 va a) (hb : BytesL H0 vb b) (hla : a.length ≤ 1000) (hlb : b.length ≤ 1000) (hRa : ∀ r ∈ a, r.length = cols) (hRb : ∀ r ∈ b, r.length = cols) (hcols : cols ≤ 255) (hin : InL cols a b) :
    Calls Try.prog 47 #[vb, va] w0 (Pure H0 w0 fun u _ => u = .tuple #[.int .i64 (-1), .int .i64 0]) := by
  have hs := HS.init h0
  have hle := Hp.le.refl H0
  obtain ⟨b1, c1, hf1⟩ := ha.form
  obtain ⟨b2, c2, hf2⟩ := hb.form
  subst hf1 hf2
  refine Calls.enter (args := [.slice b2 b.length c2, .slice b1 a.length c1]) Try.func47 rfl Try.ntmps47 rfl ?_
  refine WC.seq (WC.region (WO.step rfl (OR.assign rfl (WO.step rfl (OR.assign rfl (WO.done (WX.seq ?_)))))))
  refine WC.seq (WC.seq (WC.region (WO.step rfl (OR.move rfl (WO.step rfl (OR.move rfl ?_))))))
  refine WO.step rfl (OR.buildSlice (vs := [_, _]) hs T122.und T31 rfl rfl rfl rfl (by simp) ?_)
  clear hs; intro q2 w hq2 hs
  obtain ⟨H, hle1, hp_q2, hs9⟩ := hs.pub1 hq2; clear hs; have hs := hs9; clear hs9; replace hle := hle.trans hle1; (try replace hlb := hlb.trans hle1)
  have htwo : Sl H 1 (.slice (some ⟨q2, 0, none⟩) 2 2) 2 [.slice b2 b.length c2, .slice b1 a.length c1] := Sl.block hp_q2 rfl rfl (by simp)
  have hab : ∀ r ∈ b ++ a, r.length = cols := by
    intro r hr
    rcases List.mem_append.1 hr with hr | hr
    · exact hRb r hr
    · exact hRa r hr
  refine WO.step rfl (OR.call hs body55 rfl rfl (besideAny_ok _ _ _ b a cols _ _ hs.toSub htwo (hb.mono hle) (ha.mono hle) (by rw [List.length_append]; omega) hab hcols) ?_)
  clear hs; rintro _ H w hs hle1 ⟨r0, rfl, hr0⟩; replace hle := hle.trans hle1; (try replace hlb := hlb.trans hle1)
  obtain ⟨b3, c3, rfl⟩ := hr0.form
  refine WO.step rfl (OR.move rfl (WO.step rfl (OR.extract rfl rfl (WO.step rfl (OR.extract rfl rfl (WO.step rfl (OR.assign rfl ?_)))))))
  refine WO.step rfl (OR.assign rfl (WO.done (WX.seq (WC.seq (WC.region (WO.step rfl (OR.move rfl ?_)))))))
  refine WO.step rfl (OR.neq rfl rfl (WO.done (WX.seq ?_)))
  refine WC.no rfl rfl ?_
  refine WC.skip (WX.seq (WC.seq (WC.region (WO.step rfl (OR.move rfl ?_)))))
  refine WO.step rfl (OR.call hs body56 rfl rfl (reduceAny_ok _ a cols _ _ hs.toSub (ha.mono hle) (by omega) hRa hcols) ?_)
  clear hs; rintro _ H w hs hle1 ⟨r1, rfl, hr1⟩; replace hle := hle.trans hle1; (try replace hlb := hlb.trans hle1)
  obtain ⟨b4, c4, rfl⟩ := hr1.form
  refine WO.step rfl (OR.move rfl (WO.step rfl (OR.extract rfl rfl (WO.step rfl (OR.extract rfl rfl (WO.step rfl (OR.alloc hs T31 ?_)))))))
  clear hs; intro g1 w hg1 hs
  refine WO.stepN (OR.storeAll hs T31 rfl rfl rfl rfl rfl ?_)
  clear hs; intro w hs
  refine WO.step rfl (OR.assign rfl (WO.done (WX.seq (WC.seq (WC.region (WO.step rfl (OR.move rfl ?_)))))))
  refine WO.step rfl (OR.makeFunc rfl rfl ?_)
  have hpre := hle
  have hpre1 := Hp.le.refl H
  obtain ⟨H, hle1, hp_g1, hs9⟩ := hs.pub1 hg1; clear hs; have hs := hs9; clear hs9; replace hle := hle.trans hle1; (try replace hlb := hlb.trans hle1)
  have hq : hcell H ⟨g1, 0, none⟩ = some (.slice b4 (gauss cols a).length c4) := hcell_of hp_g1 rfl
  have hr2 : BytesL H (.slice b4 (gauss cols a).length c4) (gauss cols a) := hr1.mono hle1
  have hGr := gauss_rows hRa
  have hGl := gauss_len cols a
  refine WO.step rfl (OR.call hs body74 rfl rfl (indexL_ok _ b 75 [ptr g1] _ _ hs.toSub (hb.mono hle) (by omega) body75 (fun i h vx H' w' hl' hH hbx => out1_ok g1 _ vx (gauss cols a) b[i] cols H' w' hH (hcell.mono hl' hq) (hr2.mono hl') hbx (by omega) (fun r hr => (hGr r hr).1) (hRb _ (List.getElem_mem _)) hcols (hin _ (List.getElem_mem _)))) ?_)
  clear hs; rintro _ H w hs hle1 rfl; replace hle := hle.trans hle1; (try replace hlb := hlb.trans hle1)
  refine WO.step rfl (OR.assign rfl (WO.step rfl (OR.assign rfl (WO.done (WX.seq (WC.ret ?_))))))
  refine WX.ret2 rfl rfl rfl ?_
  exact .mk (hs.sublist (List.nil_sublist _)) rfl
set_option maxRecDepth 20000 in
set_option maxHeartbeats 2000000 in
theorem contains8_ok (va vb : Value) (a b : List (List UInt8)) (cols : Nat) (H0 : Hp) (w0 : World) (h0 : Sub H0 w0) (ha : BytesL H0 va a) (hb : BytesL H0 vb b) (hla : a.length ≤ 1000) (hlb : b.length ≤ 1000) (hRa : ∀ r ∈ a, r.length = cols) (hRb : ∀ r ∈ b, r.length = cols) (hcols : cols ≤ 255) (hin : InL cols a b) :
    Calls Try.prog 22 #[va, vb] w0 (Pure H0 w0 fun u _ => u = .tuple #[.bool true, .int .i64 0]) := by
  have hs := HS.init h0
  have hle := Hp.le.refl H0
  obtain ⟨b1, c1, hf1⟩ := ha.form
  obtain ⟨b2, c2, hf2⟩ := hb.form
  subst hf1 hf2
  refine Calls.enter (args := [.slice b1 a.length c1, .slice b2 b.length c2]) Try.func22 rfl Try.ntmps22 rfl ?_
  refine WC.seq (WC.region (WO.step rfl (OR.assign rfl (WO.step rfl (OR.assign rfl (WO.done (WX.seq ?_)))))))
  refine WC.seq (WC.region (WO.step rfl (OR.move rfl (WO.step rfl (OR.move rfl ?_)))))
  refine WO.step rfl (OR.call hs body47 rfl rfl (out_ok _ _ a b cols _ _ hs.toSub ha hb hla hlb hRa hRb hcols hin) ?_)
  clear hs; rintro _ H w hs hle1 rfl; replace hle := hle.trans hle1; (try replace hlb := hlb.trans hle1)
  refine WO.step rfl (OR.move rfl (WO.step rfl (OR.extract rfl rfl (WO.step rfl (OR.extract rfl rfl (WO.step rfl (OR.assign rfl ?_)))))))
  refine WO.step rfl (OR.assign rfl (WO.done (WX.seq (WC.seq (WC.region (WO.step rfl (OR.move rfl ?_)))))))
  refine WO.step rfl (OR.eql rfl rfl (WO.step rfl (OR.move rfl ?_)))
  refine WO.guardYes rfl rfl rfl rfl (OR.move rfl (WO.guardYes rfl rfl rfl rfl (OR.lss rfl rfl (WO.step rfl (OR.pickT rfl rfl rfl (WO.step rfl (OR.move rfl ?_)))))))
  refine WO.step rfl (OR.assign rfl (WO.step rfl (OR.assign rfl (WO.done (WX.seq (WC.ret ?_))))))
  refine WX.ret2 rfl rfl rfl ?_
  exact .mk hs rfl
set_option maxRecDepth 20000 in
set_option maxHeartbeats 2000000 in
theorem same8_ok (va vb : Value) (a b : List (List UInt8)) (cols : Nat) (H0 : Hp) (w0 : World) (h0 : Sub H0 w0) (ha : BytesL H0 va a) (hb : BytesL H0 vb b) (hla : a.length ≤ 1000) (hlb : b.length ≤ 1000) (hRa : ∀ r ∈ a, r.length = cols) (hRb : ∀ r ∈ b, r.length = cols) (hcols : cols ≤ 255) (hin : InL cols a b) (hin2 : InL cols b a) :
    Calls Try.prog 26 #[va, vb] w0 (Pure H0 w0 fun u _ => ∃ e : Int, u = .tuple #[.bool true, .int .i64 e]) := by
  have hs := HS.init h0
  have hle := Hp.le.refl H0
  obtain ⟨b1, c1, hf1⟩ := ha.form
  obtain ⟨b2, c2, hf2⟩ := hb.form
  subst hf1 hf2
  refine Calls.enter (args := [.slice b1 a.length c1, .slice b2 b.length c2]) Try.func26 rfl Try.ntmps26 rfl ?_
  refine WC.seq (WC.region (WO.step rfl (OR.assign rfl (WO.step rfl (OR.assign rfl (WO.done (WX.seq ?_)))))))
  refine WC.seq (WC.region (WO.step rfl (OR.move rfl (WO.step rfl (OR.move rfl ?_)))))
  refine WO.step rfl (OR.call hs body22 rfl rfl (contains8_ok _ _ a b cols _ _ hs.toSub ha hb hla hlb hRa hRb hcols hin) ?_)
  clear hs; rintro _ H w hs hle1 rfl; replace hle := hle.trans hle1; (try replace hlb := hlb.trans hle1)
  refine WO.step rfl (OR.move rfl (WO.step rfl (OR.extract rfl rfl (WO.step rfl (OR.extract rfl rfl (WO.step rfl (OR.assign rfl ?_)))))))
  refine WO.step rfl (OR.assign rfl (WO.done (WX.seq (WC.seq (WC.region (WO.step rfl (OR.move rfl ?_)))))))
  refine WO.step rfl (OR.move rfl ?_)
  refine WO.step rfl (OR.call hs body22 rfl rfl (contains8_ok _ _ b a cols _ _ hs.toSub (hb.mono hle) (ha.mono hle) hlb hla hRb hRa hcols hin2) ?_)
  clear hs; rintro _ H w hs hle1 rfl; replace hle := hle.trans hle1; (try replace hlb := hlb.trans hle1)
  refine WO.step rfl (OR.move rfl (WO.step rfl (OR.extract rfl rfl (WO.step rfl (OR.extract rfl rfl (WO.step rfl (OR.assign rfl ?_)))))))
  refine WO.step rfl (OR.assign rfl (WO.done (WX.seq (WC.seq (WC.region (WO.step rfl (OR.move rfl ?_)))))))
  refine WO.step rfl (OR.move rfl ?_)
  refine WO.guardYes rfl rfl rfl rfl (OR.move rfl (WO.step rfl (OR.pickT rfl rfl rfl (WO.step rfl (OR.move rfl (WO.step rfl (OR.assign rfl ?_)))))))
  refine WO.step rfl (OR.assign rfl (WO.done (WX.seq (WC.ret ?_))))
  refine WX.ret2 rfl rfl rfl ?_
  exact .mk hs ⟨0, rfl⟩
end Go.Bw
namespace Go.Bw
set_option linter.unusedVariables false
set_option linter.unusedSimpArgs false
open Go.Proofs

def relT (g s width gen : Nat) (A : List RowD) : RelD := ⟨g, s, 0, width, fun i => if i = gen % width then A else []⟩
theorem relT_new (g s width gen : Nat) : newR g s width = relT g s width gen [] := by
  simp [relT, newR]
theorem relT_ok {g s width gen : Nat} {A : List RowD} (h : 1 ≤ g ∧ g ≤ 255 ∧ 1 ≤ s ∧ s ≤ 65535) (hw : 1 ≤ width ∧ width ≤ 16) (hA : Red g s A) : RelOk (relT g s width gen A) :=
  ⟨h.1, h.2.1, h.2.2.1, h.2.2.2, hw.1, hw.2, Nat.zero_le _, fun i => by
    show Red g s (if i = gen % width then A else [])
    split
    · exact hA
    · exact Red.nil _ _⟩
section
variable {g s width gen : Nat} {A : List RowD} (hin : inWin 0 width gen)
theorem relT_rows : (relT g s width gen A).rows (gen % width) = A := if_pos rfl
include hin
theorem relT_take (r : RowD) : (relT g s width gen A).take gen r = relT g s width gen (insR g s A r).2 := by
  unfold RelD.take
  rw [if_pos (show inWin (relT g s width gen A).base (relT g s width gen A).width gen from hin)]
  show RelD.mk g s 0 width _ = RelD.mk g s 0 width _
  congr 1
  funext i
  show (if i = gen % width then (insR g s ((relT g s width gen A).rows (gen % width)) r).2 else (if i = gen % width then A else [])) = if i = gen % width then (insR g s A r).2 else []
  rw [relT_rows]
  split
  · rfl
  · rfl
theorem relT_takeI (r : RowD) : (relT g s width gen A).takeI gen r = (insR g s A r).1 := by
  unfold RelD.takeI
  rw [decide_eq_true (show inWin (relT g s width gen A).base (relT g s width gen A).width gen from hin), Bool.true_and]
  show (insR g s ((relT g s width gen A).rows (gen % width)) r).1 = _
  rw [relT_rows]
theorem relT_takeE (r : RowD) (hr : RowGS g s r) : (relT g s width gen A).takeE gen r = 0 := by
  unfold RelD.takeE
  rw [if_pos (show inWin (relT g s width gen A).base (relT g s width gen A).width gen from hin), if_pos (show r.1.length = (relT g s width gen A).g ∧ r.2.length = (relT g s width gen A).s from hr)]
theorem relT_rk : (relT g s width gen A).rk gen = A := by
  unfold RelD.rk
  rw [if_pos (show inWin (relT g s width gen A).base (relT g s width gen A).width gen from hin)]
  exact relT_rows
theorem relT_sndE : (relT g s width gen A).sndE gen = if A.length = 0 then 6 else 0 := by
  unfold RelD.sndE
  rw [if_pos (show inWin (relT g s width gen A).base (relT g s width gen A).width gen from hin)]
  show (if ((relT g s width gen A).rows (gen % width)).length = 0 then (6 : Int) else 0) = _
  rw [relT_rows]
theorem relT_sndF (sent : Nat) (by_ : List UInt8) : (relT g s width gen A).sndF gen sent by_ = sndR g s A sent by_ := by
  unfold RelD.sndF
  rw [if_pos (show inWin (relT g s width gen A).base (relT g s width gen A).width gen from hin)]
  show sndR g s ((relT g s width gen A).rows (gen % width)) sent by_ = _
  rw [relT_rows]
theorem relT_solE : (relT g s width gen A).solE gen = if A.length < g then 24 else 0 := by
  unfold RelD.solE
  rw [if_pos (show inWin (relT g s width gen A).base (relT g s width gen A).width gen from hin)]
  show (if ((relT g s width gen A).rows (gen % width)).length < g then (24 : Int) else 0) = _
  rw [relT_rows]
theorem relT_solF : (relT g s width gen A).solF gen = if A.length < g then [] else A.map (·.2) := by
  unfold RelD.solF
  rw [if_pos (show inWin (relT g s width gen A).base (relT g s width gen A).width gen from hin)]
  show (if ((relT g s width gen A).rows (gen % width)).length < g then [] else ((relT g s width gen A).rows (gen % width)).map (·.2)) = _
  rw [relT_rows]
end
section
variable {g s : Nat} {ys : List (List UInt8)} {R : List RowD}
theorem hops_gauss (h : ∀ r ∈ R, Tr ys r ∧ RowGS g s r) : gauss g (R.map (·.1)) = (insAll g s R).map (·.1) := by
  have h1 := gauss_eq (cols := g) (R := R.map (·.1)) (by
    intro c hc
    obtain ⟨r, hr, rfl⟩ := List.mem_map.1 hc
    exact (h r hr).2.1)
  rw [List.map_map] at h1
  have h2 := pr_insAll (g := g) (s := s) R (fun r hr => (h r hr).2)
  have e : ((fun c => ((c, []) : RowD)) ∘ fun r : RowD => r.1) = pr := rfl
  rw [e, h2] at h1
  have h3 := congrArg (List.map (fun r : RowD => r.1)) h1
  rw [List.map_map, List.map_map] at h3
  simpa [Function.comp_def, pr] using h3
/-- What was taken lies in the span of the rows. -/
theorem took_in (h : ∀ r ∈ R, Tr ys r ∧ RowGS g s r) : InL g ((insAll g s R).map (·.1)) (R.map (·.1)) := by
  intro v hv
  obtain ⟨r, hr, rfl⟩ := List.mem_map.1 hv
  have hgd := insAll_good (g := g) (s := s) (ys := ys) R h
  rw [gauss_fst hgd.red]
  exact has_red hgd.red (h r hr).2 (insAll_in R h r hr)
/-- The rows lie in the span of what was taken. -/
theorem rows_in (h : ∀ r ∈ R, Tr ys r ∧ RowGS g s r) : InL g (R.map (·.1)) ((insAll g s R).map (·.1)) := by
  intro v hv
  obtain ⟨r, hr, rfl⟩ := List.mem_map.1 hv
  have hgd := insAll_good (g := g) (s := s) (ys := ys) R h
  rw [hops_gauss h]
  exact has_red hgd.red (hgd.red.gs r hr) (InS.own hgd.red hr)
/-- Rows of the span of a relay's rows. -/
theorem sub_in {A C : List RowD} (hA : Red g s A) (hC : ∀ x ∈ C, RowGS g s x ∧ InS A (fun _ => True) x) : InL g (A.map (·.1)) (C.map (·.1)) := by
  intro v hv
  obtain ⟨r, hr, rfl⟩ := List.mem_map.1 hv
  rw [gauss_fst hA]
  exact has_red hA (hC r hr).1 (hC r hr).2
end
end Go.Bw
