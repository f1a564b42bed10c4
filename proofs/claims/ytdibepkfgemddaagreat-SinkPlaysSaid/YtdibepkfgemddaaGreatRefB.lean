/- The document's own basis, told by leads: plain laws. -/
import Derived.Test.YtdibepkfgemddaaGreatSpan
import Derived.Test.YtdibepkfgemddaaGreatInsert
import Derived.Test.YtdibepkfgemddaaGreatLaid
import Derived.Test.YtdibepkfgemddaaGreatOps4
import Derived.Test.YtdibepkfgemddaaGreatMatrix
import Derived.Test.YtdibepkfgemddaaGreatFresh
namespace Go.Bw
set_option linter.unusedVariables false
set_option linter.unusedSimpArgs false

/-- The rows that there are, by rising leads. -/
def upto (f : Nat → Option RowD) (n : Nat) : List RowD := (List.range n).filterMap f
theorem upto_some {f : Nat → Option RowD} {n : Nat} {r : RowD} (h : f n = some r) : upto f (n + 1) = upto f n ++ [r] := by
  unfold upto
  rw [List.range_succ, List.filterMap_append]
  simp [h]
theorem upto_none {f : Nat → Option RowD} {n : Nat} (h : f n = none) : upto f (n + 1) = upto f n := by
  unfold upto
  rw [List.range_succ, List.filterMap_append]
  simp [h]
/-- Each row has the lead that it is told by. -/
def Leads (g s : Nat) (f : Nat → Option RowD) : Prop := ∀ i r, f i = some r → i < g ∧ lead r.1 = (i : Int) ∧ RowGS g s r
theorem redR_app (a b : List RowD) (r : RowD) : redR (a ++ b) r = redR b (redR a r) := List.foldl_append ..
theorem mem_upto {f : Nat → Option RowD} {n : Nat} {x : RowD} : x ∈ upto f n ↔ ∃ i, i < n ∧ f i = some x := by
  unfold upto
  simp [List.mem_filterMap]
theorem Leads.step {g s : Nat} {f : Nat → Option RowD} (h : Leads g s f) {i : Nat} {r : RowD} (hf : f i = some r) (q : RowD) : redR (upto f (i + 1)) q = plusR (redR (upto f i) q) r ((redR (upto f i) q).1.getD i 0) := by
  rw [upto_some hf, redR_app]
  show stepR _ r = _
  unfold stepR
  rw [(h i r hf).2.1]
  rfl
theorem filterMap_same {α β : Type} {f g : α → Option β} : ∀ {l : List α}, (∀ x ∈ l, f x = g x) → l.filterMap f = l.filterMap g
  | [], _ => rfl
  | x :: l, h => by
    rw [List.filterMap_cons, List.filterMap_cons, h x (by simp), filterMap_same (fun y hy => h y (by simp [hy]))]
theorem range_split {L g : Nat} (h : L < g) : List.range g = List.range L ++ L :: (List.range (g - L - 1)).map (fun i => L + 1 + i) := by
  apply List.ext_getElem
  · simp; omega
  · intro i h1 h2
    simp only [List.length_range] at h1
    rw [List.getElem_range]
    rcases Nat.lt_trichotomy i L with h3 | h3 | h3
    · rw [List.getElem_append_left (by simpa using h3), List.getElem_range]
    · subst h3
      rw [List.getElem_append_right (by simp)]
      simp
    · rw [List.getElem_append_right (by simp; omega)]
      have e : i - (List.range L).length = (i - L - 1) + 1 := by simp; omega
      simp only [e, List.getElem_cons_succ, List.getElem_map, List.getElem_range]
      omega
/-- The rows behind a lead. -/
def behind (f : Nat → Option RowD) (L g : Nat) : List RowD := ((List.range (g - L - 1)).map (fun i => L + 1 + i)).filterMap f
theorem upto_split {f : Nat → Option RowD} {L g : Nat} (h : L < g) : upto f g = upto f L ++ ((f L).toList ++ behind f L g) := by
  unfold upto behind
  rw [range_split h, List.filterMap_append, List.filterMap_cons]
  congr 1
  cases f L <;> simp
theorem placeOf_app {a b : List RowD} {L : Int} (ha : ∀ x ∈ a, ¬ lead x.1 > L) : placeOf (a ++ b) L = a.length + placeOf b L := by
  induction a with
  | nil => simp
  | cons x a ih =>
    rw [List.cons_append, placeOf, if_neg (ha x (by simp)), ih (fun y hy => ha y (by simp [hy]))]
    simp only [List.length_cons]
    omega
theorem placeOf_none {b : List RowD} {L : Int} (hb : ∀ x ∈ b, lead x.1 > L) : placeOf b L = 0 := by
  cases b with
  | nil => rfl
  | cons x b => rw [placeOf, if_pos (hb x (by simp))]
theorem Leads.place {g s : Nat} {f : Nat → Option RowD} (h : Leads g s f) {L : Nat} (hL : L < g) (hf : f L = none) : placeOf (upto f g) (L : Int) = (upto f L).length := by
  rw [upto_split hL, hf]
  simp only [Option.toList_none, List.nil_append]
  rw [placeOf_app, placeOf_none]
  · rfl
  · intro x hx
    unfold behind at hx
    simp only [List.mem_filterMap, List.mem_map, List.mem_range] at hx
    obtain ⟨i, ⟨j, _, rfl⟩, hi⟩ := hx
    have := (h _ _ hi).2.1
    omega
  · intro x hx
    obtain ⟨i, hi, hfi⟩ := mem_upto.1 hx
    have := (h _ _ hfi).2.1
    omega
/-- What an Insert makes of them. -/
def insF (q : RowD) (L : Nat) (f : Nat → Option RowD) (i : Nat) : Option RowD := if i = L then some (normR q) else (f i).map (freeR q)
theorem Leads.ins {g s : Nat} {f : Nat → Option RowD} (h : Leads g s f) {L : Nat} (hL : L < g) (hf : f L = none) (q : RowD) :
    upto (insF q L f) g = insAt ((upto f g).map (freeR q)) (placeOf (upto f g) (L : Int)) (normR q) := by
  rw [h.place hL hf, upto_split (f := insF q L f) hL, upto_split (f := f) hL, hf]
  have e1 : upto (insF q L f) L = (upto f L).map (freeR q) := by
    unfold upto
    rw [List.map_filterMap]
    apply filterMap_same
    intro i hi
    rw [List.mem_range] at hi
    unfold insF
    rw [if_neg (by omega)]
  have e2 : behind (insF q L f) L g = (behind f L g).map (freeR q) := by
    unfold behind
    rw [List.map_filterMap]
    apply filterMap_same
    intro i hi
    simp only [List.mem_map, List.mem_range] at hi
    obtain ⟨j, _, rfl⟩ := hi
    unfold insF
    rw [if_neg (by omega)]
  have e3 : insF q L f L = some (normR q) := by unfold insF; rw [if_pos rfl]
  rw [e1, e2, e3]
  unfold insAt
  have hl : ((upto f L).map (freeR q)).length = (upto f L).length := List.length_map ..
  simp only [Option.toList_none, Option.toList_some, List.nil_append, List.map_append, List.singleton_append]
  rw [← hl, List.take_left, List.drop_left, List.append_assoc]
  rfl
/-- Where the rest has its lead there is no row yet. -/
theorem Leads.free {g s : Nat} {f : Nat → Option RowD} (h : Leads g s f) (hR : Red g s (upto f g)) {r : RowD} (hr : RowGS g s r) {L : Nat} (hL : lead (redR (upto f g) r).1 = (L : Int)) : f L = none := by
  cases hf : f L with
  | none => rfl
  | some x =>
    exfalso
    obtain ⟨h1, h2, h3⟩ := h L x hf
    have hx : x ∈ upto f g := mem_upto.2 ⟨L, h1, hf⟩
    have h4 := redR_at hR r hr hx
    have h5 : ldp x = L := by unfold ldp; omega
    rw [h5] at h4
    have h6 := (lead_ent (x := redR (upto f g) r) (by omega)).1
    have h7 : ldp (redR (upto f g) r) = L := by unfold ldp; omega
    rw [h7] at h6
    exact h6 h4
theorem upto_insR {g s : Nat} {f : Nat → Option RowD} (h : Leads g s f) (hR : Red g s (upto f g)) {r : RowD} (hr : RowGS g s r) {L : Nat} (hLg : L < g) (hL : lead (redR (upto f g) r).1 = (L : Int)) :
    insR g s (upto f g) r = (true, upto (insF (redR (upto f g) r) L f) g) := by
  rw [insR_in hr (by omega), h.ins hLg (h.free hR hr hL), hL]
/-- The rows after it have their leads. -/
theorem insF_leads {g s : Nat} {f : Nat → Option RowD} (h : Leads g s f) (hR : Red g s (upto f g)) {r : RowD} (hr : RowGS g s r) {L : Nat} (hLg : L < g) (hL : lead (redR (upto f g) r).1 = (L : Int)) : Leads g s (insF (redR (upto f g) r) L f) := by
  have hq := redR_gs (upto f g) r hr (fun x hx => hR.gs x hx)
  have hi := Red.ins hR hq (by omega) (fun x hx => redR_at hR r hr hx)
  have hnl := norm_lead (q := redR (upto f g) r) (by omega)
  intro i x hx
  unfold insF at hx
  by_cases e : i = L
  · rw [if_pos e] at hx
    cases hx
    exact ⟨by omega, by rw [hnl.1, hL, e], norm_gs hq⟩
  · rw [if_neg e] at hx
    cases hf : f i with
    | none => rw [hf] at hx; cases hx
    | some y =>
      rw [hf] at hx
      cases hx
      obtain ⟨h1, h2, h3⟩ := h i y hf
      have hym : y ∈ upto f g := mem_upto.2 ⟨i, h1, hf⟩
      refine ⟨h1, ?_, plusR_gs h3 (norm_gs hq) _⟩
      exact (free_lead hR hq (by omega) (fun x hx => redR_at hR r hr hx) hym).trans h2
end Go.Bw
namespace Go.Bw
set_option linter.unusedVariables false
set_option linter.unusedSimpArgs false
open Go.Proofs

def refObj (g s gi gr : Nat) : Obj := .cells #[.int .i64 (g : Int), .int .i64 (s : Int), .slice (some ⟨gi, 0, none⟩) g g, .slice (some ⟨gr, 0, none⟩) g g] 198
/-- The cells of its two slices. -/
def RefC (H : Hp) (g : Nat) (f : Nat → Option RowD) (ci cr : Array Value) : Prop :=
  ci.size = g ∧ cr.size = g * 2 ∧ ∀ i, i < g → ci.toList[i]? = some (.bool (f i).isSome) ∧
    ∃ c p, cr.toList[i * 2]? = some c ∧ cr.toList[i * 2 + 1]? = some p ∧ ∀ r, f i = some r → Bytes H c r.1 ∧ Bytes H p r.2
theorem RefC.mono {H H' : Hp} {g : Nat} {f : Nat → Option RowD} {ci cr : Array Value} (h : RefC H g f ci cr) (hle : Hp.le H H') : RefC H' g f ci cr := by
  refine ⟨h.1, h.2.1, fun i hi => ?_⟩
  obtain ⟨h1, c, p, h2, h3, h4⟩ := h.2.2 i hi
  exact ⟨h1, c, p, h2, h3, fun r hr => ⟨(h4 r hr).1.mono hle, (h4 r hr).2.mono hle⟩⟩
structure RefAt (H : Hp) (w : World) (rb gi gr g s : Nat) (ci cr : Array Value) : Prop where
  hb : w.heap[rb]? = some (refObj g s gi gr)
  nb : H rb = none
  hi : w.heap[gi]? = some (.cells ci 4)
  ni : H gi = none
  hr : w.heap[gr]? = some (.cells cr 45)
  nr : H gr = none
  d1 : rb ≠ gi
  d2 : rb ≠ gr
  d3 : gi ≠ gr
theorem RefAt.start {H : Hp} {w : World} {rb gi gr g s : Nat} {ci cr : Array Value} (h : RefAt H w rb gi gr g s ci cr) (h0 : Sub H w) :
    HS [] H w H [(rb, refObj g s gi gr, false), (gi, .cells ci 4, false), (gr, .cells cr 45, false)] w := by
  refine HS.start [] h0 (fun q o t hm => ?_) ?_
  · simp only [List.mem_cons, List.not_mem_nil, or_false] at hm
    rcases hm with e | e | e <;> cases e
    · exact ⟨h.hb, h.nb, fun h => by cases h⟩
    · exact ⟨h.hi, h.ni, fun h => by cases h⟩
    · exact ⟨h.hr, h.nr, fun h => by cases h⟩
  · simp [Mem.keys]
    exact ⟨⟨h.d1, h.d2⟩, h.d3⟩
theorem RefAt.startW {H : Hp} {w : World} {rb gi gr g s : Nat} {ci cr : Array Value} (h : RefAt H w rb gi gr g s ci cr) (h0 : Sub H w) :
    HS [gi, gr] H w H [(rb, refObj g s gi gr, false), (gi, .cells ci 4, true), (gr, .cells cr 45, true)] w := by
  refine HS.start [gi, gr] h0 (fun q o t hm => ?_) ?_
  · simp only [List.mem_cons, List.not_mem_nil, or_false] at hm
    rcases hm with e | e | e <;> cases e
    · exact ⟨h.hb, h.nb, fun h => by cases h⟩
    · exact ⟨h.hi, h.ni, fun _ => by simp⟩
    · exact ⟨h.hr, h.nr, fun _ => by simp⟩
  · simp [Mem.keys]
    exact ⟨⟨h.d1, h.d2⟩, h.d3⟩
theorem HS.none {xs : List Nat} {H0 H : Hp} {w0 w : World} {M : Mem} (h : HS xs H0 w0 H M w) {i : Nat} {g : Nat} {o : Obj} {t : Bool} (hm : nth M i = some (g, o, t)) : H g = none :=
  (h.mem g o t (List.mem_of_getElem? (by rw [← nth_eq]; exact hm))).2.1
theorem HS.ne {xs : List Nat} {H0 H : Hp} {w0 w : World} {M : Mem} (h : HS xs H0 w0 H M w) {i j : Nat} {g g' : Nat} {o o' : Obj} {t t' : Bool} (hi : nth M i = some (g, o, t)) (hj : nth M j = some (g', o', t')) (hne : i ≠ j) : g ≠ g' := by
  rw [nth_eq] at hi hj
  obtain ⟨hi1, hi2⟩ := List.getElem?_eq_some_iff.1 hi
  obtain ⟨hj1, hj2⟩ := List.getElem?_eq_some_iff.1 hj
  intro e
  have h1 : (M.map (·.1)).Pairwise (· ≠ ·) := h.nd
  rw [List.pairwise_iff_getElem] at h1
  rcases Nat.lt_trichotomy i j with h2 | h2 | h2
  · exact h1 i j (by simpa using hi1) (by simpa using hj1) h2 (by simp [hi2, hj2, e])
  · exact hne h2
  · exact h1 j i (by simpa using hj1) (by simpa using hi1) h2 (by simp [hi2, hj2, e])
theorem RefAt.of {xs : List Nat} {H0 H : Hp} {w0 w : World} {M : Mem} (hs : HS xs H0 w0 H M w) {i j k : Nat} {rb gi gr g s : Nat} {ci cr : Array Value} {t1 t2 t3 : Bool}
    (h1 : nth M i = some (rb, refObj g s gi gr, t1)) (h2 : nth M j = some (gi, .cells ci 4, t2)) (h3 : nth M k = some (gr, .cells cr 45, t3)) (hij : i ≠ j) (hik : i ≠ k) (hjk : j ≠ k) : RefAt H w rb gi gr g s ci cr :=
  ⟨hs.blk h1, hs.none h1, hs.blk h2, hs.none h2, hs.blk h3, hs.none h3, hs.ne h1 h2 hij, hs.ne h1 h3 hik, hs.ne h2 h3 hjk⟩

set_option maxRecDepth 20000 in
set_option maxHeartbeats 2000000 in
/-- A row plus a multiple of another. -/
theorem refPlusR_ok (r x : RowD) (c : UInt8) (rc rp xc xp : Value) (H0 : Hp) (w0 : World) (h0 : Sub H0 w0) (hrc : Bytes H0 rc r.1) (hrp : Bytes H0 rp r.2) (hxc : Bytes H0 xc x.1) (hxp : Bytes H0 xp x.2)
    (hl1 : r.1.length ≤ 140737488355328) (hl2 : r.2.length ≤ 140737488355328) (he1 : r.1.length = x.1.length) (he2 : r.2.length = x.2.length) :
    Calls Tryz.prog 131 #[.agg #[rc, rp], .agg #[xc, xp], B c] w0 (Pure H0 w0 fun v H' => RowV H' v (plusR r x c)) := by
  have hs := HS.init h0
  have hle := Hp.le.refl H0
  obtain ⟨_, _, rfl⟩ := hrc.form
  obtain ⟨_, _, rfl⟩ := hrp.form
  obtain ⟨_, _, rfl⟩ := hxc.form
  obtain ⟨_, _, rfl⟩ := hxp.form
  refine Calls.enter (args := [.agg #[_, _], .agg #[_, _], B c]) Tryz.func131 rfl Tryz.ntmps131 rfl ?_
  refine WC.seq (WC.region (WO.step rfl (OR.box hs rfl ?_)))
  clear hs; intro g1 w hg1 hs
  refine WO.step rfl (OR.box hs rfl ?_)
  clear hs; intro g2 w hg2 hs
  refine WO.step rfl (OR.alloc hs T45 ?_)
  clear hs; intro g3 w hg3 hs
  refine WO.done (WX.seq (WC.seq ?_))
  refine WC.draw 13 mixed hs (by kernel_rfl) ?_
  refine ⟨MF.eq _, by intro Mx H w hle hs; refine forVals_nil (ORg.plain (OR.fieldAddr FA45_0 rfl ?_)); exact ⟨_, [], Hp.le.refl _, hs, rfl, rfl⟩, ?_⟩
  refine ⟨MF.eq _, by intro Mx H w hle hs; refine forVals_eq rfl rfl rfl ?_; refine forVals_nil (ORg.plain (OR.load T43 rfl rfl (hs.right.cellM (i := 2) rfl rfl) ?_)); exact ⟨_, [], Hp.le.refl _, hs, rfl, rfl⟩, ?_⟩
  refine ⟨MF.eq _, by intro Mx H w hle hs; refine forVals_nil (ORg.plain (OR.fieldAddr FA45_0 rfl ?_)); exact ⟨_, [], Hp.le.refl _, hs, rfl, rfl⟩, ?_⟩
  refine ⟨MF.eq _, by intro Mx H w hle hs; refine forVals_eq rfl rfl rfl ?_; refine forVals_nil (ORg.plain (OR.load T43 rfl rfl (hs.right.cellM (i := 1) rfl rfl) ?_)); exact ⟨_, [], Hp.le.refl _, hs, rfl, rfl⟩, ?_⟩
  refine ⟨MF.eq _, by intro Mx H w hle hs; refine forVals_nil (ORg.plain (OR.move rfl ?_)); exact ⟨_, [], Hp.le.refl _, hs, rfl, rfl⟩, ?_⟩
  refine ⟨MF.bytes (addS c r.1 x.1), ?_, ?_⟩
  · intro Mx H w hle2 hs; (try replace hle := hle.trans hle2); (try replace hlb := hlb.trans hle2); refine forVals_eq rfl rfl rfl ?_; refine forVals_eq rfl rfl rfl ?_; refine forVals_eq rfl rfl rfl ?_
    refine forVals_nil (ORg.plain (OR.call hs body111 rfl rfl (refPlus_ok _ _ r.1 x.1 c _ _ hs.toSub (hrc.mono hle) (hxc.mono hle) hl1 he1) ?_))
    clear hs; rintro _ H w hs hle1 hb
    exact ⟨_, [], hle1, hs, hb, rfl⟩
  refine ⟨MF.eq _, by intro Mx H w hle hs; refine forVals_nil (ORg.plain (OR.fieldAddr FA45_1 rfl ?_)); exact ⟨_, [], Hp.le.refl _, hs, rfl, rfl⟩, ?_⟩
  refine ⟨MF.eq _, by intro Mx H w hle hs; refine forVals_eq rfl rfl rfl ?_; refine forVals_nil (ORg.plain (OR.load T43 rfl rfl (hs.right.cellM (i := 2) rfl rfl) ?_)); exact ⟨_, [], Hp.le.refl _, hs, rfl, rfl⟩, ?_⟩
  refine ⟨MF.eq _, by intro Mx H w hle hs; refine forVals_nil (ORg.plain (OR.fieldAddr FA45_1 rfl ?_)); exact ⟨_, [], Hp.le.refl _, hs, rfl, rfl⟩, ?_⟩
  refine ⟨MF.eq _, by intro Mx H w hle hs; refine forVals_eq rfl rfl rfl ?_; refine forVals_nil (ORg.plain (OR.load T43 rfl rfl (hs.right.cellM (i := 1) rfl rfl) ?_)); exact ⟨_, [], Hp.le.refl _, hs, rfl, rfl⟩, ?_⟩
  refine ⟨MF.eq _, by intro Mx H w hle hs; refine forVals_nil (ORg.plain (OR.move rfl ?_)); exact ⟨_, [], Hp.le.refl _, hs, rfl, rfl⟩, ?_⟩
  refine ⟨MF.bytes (addS c r.2 x.2), ?_, ?_⟩
  · intro Mx H w hle2 hs; (try replace hle := hle.trans hle2); (try replace hlb := hlb.trans hle2); refine forVals_eq rfl rfl rfl ?_; refine forVals_eq rfl rfl rfl ?_; refine forVals_eq rfl rfl rfl ?_
    refine forVals_nil (ORg.plain (OR.call hs body111 rfl rfl (refPlus_ok _ _ r.2 x.2 c _ _ hs.toSub (hrp.mono hle) (hxp.mono hle) hl2 he2) ?_))
    clear hs; rintro _ H w hs hle1 hb
    exact ⟨_, [], hle1, hs, hb, rfl⟩
  refine ⟨MF.row (plusR r x c), ?_, ?_⟩
  · intro Mx H w hle2 hs; (try replace hle := hle.trans hle2); (try replace hlb := hlb.trans hle2); refine forVals_of rfl rfl rfl ?_; intro v5 h5; refine forVals_of rfl rfl rfl ?_; intro v11 h11
    obtain ⟨_, _, rfl⟩ := h5.form
    obtain ⟨_, _, rfl⟩ := h11.form
    refine forVals_nil (ORg.plain (OR.buildAll T45 rfl rfl PL45 rfl rfl ?_))
    exact ⟨_, [], Hp.le.refl _, hs, ⟨_, _, rfl, h5, h11⟩, rfl⟩
  intro H w hle2; (try replace hle := hle.trans hle2); (try replace hlb := hlb.trans hle2)
  refine forAllVals_eq rfl ?_
  refine forAllVals_eq rfl ?_
  refine forAllVals_eq rfl ?_
  refine forAllVals_eq rfl ?_
  refine forAllVals_eq rfl ?_
  refine forAllVals_of rfl ?_; intro v5 h5
  refine forAllVals_eq rfl ?_
  refine forAllVals_eq rfl ?_
  refine forAllVals_eq rfl ?_
  refine forAllVals_eq rfl ?_
  refine forAllVals_eq rfl ?_
  refine forAllVals_of rfl ?_; intro v11 h11
  refine forAllVals_of rfl ?_; intro v12 h12
  refine forAllVals_nil ?_; (try clear hs); intro hs
  obtain ⟨nc, np, rfl, hnc, hnp⟩ := h12
  obtain ⟨_, _, rfl⟩ := hnc.form
  obtain ⟨_, _, rfl⟩ := hnp.form
  refine WO.stepN (OR.storeAll hs T45 rfl rfl rfl rfl rfl ?_)
  clear hs; intro w hs
  refine WO.done (WX.seq (WC.ret ?_))
  refine WX.retCell T45 rfl rfl rfl rfl (hs.blk (i := 0) rfl) ?_
  exact .mk hs ⟨_, _, rfl, hnc, hnp⟩

set_option maxRecDepth 20000 in
set_option maxHeartbeats 2000000 in
/-- Where the first coefficient stands that is not 0; how many there are, if none is. -/
theorem refLead_ok (v : Value) (l : List UInt8) (H0 : Hp) (w0 : World) (h0 : Sub H0 w0) (hv : Bytes H0 v l) (hl : l.length ≤ 1000000) :
    Calls Tryz.prog 129 #[v] w0 (Pure H0 w0 fun v _ => v = .int .i64 (if lead l < 0 then (l.length : Int) else lead l)) := by
  have hs := HS.init h0
  have hle := Hp.le.refl H0
  have hv0 := hv
  obtain ⟨b1, c1, rfl⟩ := hv0.form
  refine Calls.enter (args := [.slice b1 l.length c1]) Tryz.func129 rfl Tryz.ntmps129 rfl ?_
  refine WC.seq (WC.region (WO.step rfl (OR.assign rfl (WO.done (WX.seq (WC.seq (WC.seq ?_)))))))
  refine WC.region (WO.step rfl (OR.assign rfl (WO.done (WX.seq (WC.block ?_)))))
  refine WC.loop (ι := Nat) (fun k => [(0, .slice b1 l.length c1), (3, .int .i64 (k : Int))]) (fun k w => (k ≤ l.length ∧ (∀ j (hj : j < l.length), j < k → l[j] = 0) ∧ ∃ H, Hp.le H0 H ∧ HS [] H0 w0 H [] w)) (fun k => l.length - k) 0 ⟨rfl, rfl,  trivial⟩ ?_ (fun k w hW => ?_)
  · exact ⟨by omega, fun j _ h => by omega, H0, hle, hs⟩
  obtain ⟨hk, hz, H, hle, hs⟩ := hW
  refine WC.seq (WC.seq (WC.region (WO.step rfl (OR.move rfl (WO.step rfl (OR.move rfl (WO.step rfl ?_)))))))
  refine OR.lenSlice T43.und rfl (WO.step rfl (OR.lss rfl rfl (WO.done (WX.seq ?_))))
  refine WC.condD rfl (fun hlt => ?_) (fun hlt => ?_)
  · have hk' : k < l.length := by omega
    obtain ⟨xb, xo, rfl, hc⟩ := hv.pos (by omega)
    refine WC.skip (WX.seq (WC.seq (WC.block (WC.seq (WC.region (WO.step rfl (OR.move rfl ?_)))))))
    refine WO.step rfl (OR.move rfl ?_)
    refine WO.step rfl (OR.idx k T43.und T5 rfl rfl rfl hk' ?_)
    refine WO.step rfl (OR.load T5 rfl rfl (hs.cell (hcell.mono hle (hc k hk'))) ?_)
    refine WO.step rfl (OR.neq rfl rfl (WO.done (WX.seq ?_)))
    refine WC.condD rfl (fun hne => ?_) (fun hne => ?_)
    · refine WC.seq (WC.region (WO.step rfl (OR.move rfl (WO.step rfl (OR.assign rfl (WO.done (WX.seq ?_)))))))
      refine WC.ret (WX.block_ret (WX.seq_ret (WX.loop_ret (WX.block_ret (WX.seq_ret ?_)))))
      refine WX.ret1 rfl rfl ?_
      refine .mk hs ?_
      have hl0 : lead l = (k : Int) := lead_of (i := k) (by rw [List.getD_eq_getElem?_getD, List.getElem?_eq_getElem hk']; intro e; exact hne (by simp only [Option.getD_some] at e; rw [e]; rfl)) (fun j hj => by
        rw [List.getD_eq_getElem?_getD, List.getElem?_eq_getElem (by omega)]
        exact hz j (by omega) hj)
      rw [if_neg (by omega), hl0]
    · have h0' : l[k] = 0 := UInt8.toNat.inj (by simpa using hne)
      refine WC.skip (WX.block (WX.seq (WC.region (WO.step rfl (OR.move rfl (WO.step rfl (OR.addI rfl rfl (by omega) (by omega) ?_)))))))
      refine WO.step rfl (OR.assign rfl (WO.done ?_))
      refine WX.again (k + 1) ⟨rfl, rfl,  trivial⟩ ?_ ?_
      · refine ⟨hk', fun j hj hjk => ?_, H, hle, hs⟩
        by_cases e : j = k
        · subst e; exact h0'
        · exact hz j hj (by omega)
      · omega
  · have e : k = l.length := by omega
    subst e
    refine WC.exit (WX.seq_exit (WX.loop_exit (WX.block_hit (WX.seq (WC.seq (WC.region (WO.step rfl ?_)))))))
    refine OR.move rfl (WO.step rfl (OR.lenSlice T43.und rfl (WO.step rfl (OR.assign rfl (WO.done (WX.seq (WC.ret ?_)))))))
    refine WX.ret1 rfl rfl ?_
    refine .mk hs ?_
    have hl0 : lead l < 0 := by
      by_cases h : lead l < 0
      · exact h
      · replace h : 0 ≤ lead l := by omega
        obtain ⟨i, hi⟩ := Int.eq_ofNat_of_zero_le h
        obtain ⟨h1, h2, _⟩ := lead_some hi
        exact absurd (hz i h1 h1) h2
    rw [if_pos hl0]

theorem inv_unique {a x : UInt8} (h0 : a ≠ 0) (h : mul a x = 1) : x = inv a := by
  have h1 : mul (mul x a) (inv a) = mul 1 (inv a) := by rw [mul_comm x a, h]
  rw [mul_assoc, mul_inv a h0, mul_one, one_mul] at h1
  exact h1
set_option maxRecDepth 20000 in
set_option maxHeartbeats 2000000 in
theorem refInv_ok (a : UInt8) (h0' : a ≠ 0) (H0 : Hp) (w0 : World) (h0 : Sub H0 w0) : Calls Tryz.prog 130 #[B a] w0 (Pure H0 w0 fun v _ => v = .tuple #[B (inv a), .int .i64 0]) := by
  have hs := HS.init h0
  have hle := Hp.le.refl H0
  refine Calls.enter (args := [B a]) Tryz.func130 rfl Tryz.ntmps130 rfl ?_
  refine WC.seq (WC.region (WO.step rfl (OR.assign rfl (WO.step rfl (OR.assign rfl (WO.done (WX.seq ?_)))))))
  refine WC.seq (WC.seq (WC.region (WO.step rfl (OR.assign rfl (WO.done (WX.seq (WC.block ?_)))))))
  refine WC.loop (ι := Nat) (fun k => [(0, B a), (4, .int .i64 (k : Int))]) (fun k w => (1 ≤ k ∧ k ≤ 256 ∧ (∀ j, 1 ≤ j → j < k → mul a (UInt8.ofNat j) ≠ 1) ∧ ∃ H, Hp.le H0 H ∧ HS [] H0 w0 H [] w)) (fun k => 256 - k) 1 ⟨rfl, rfl,  trivial⟩ ?_ (fun k w hW => ?_)
  · exact ⟨by omega, by omega, fun j h1 h2 => by omega, H0, hle, hs⟩
  obtain ⟨hk1, hk2, hz, H, hle, hs⟩ := hW
  refine WC.seq (WC.seq (WC.region (WO.step rfl (OR.move rfl (WO.step rfl (OR.lss rfl rfl (WO.done ?_)))))))
  refine WX.seq ?_
  refine WC.condD rfl (fun hlt => ?_) (fun hlt => ?_)
  · refine WC.skip (WX.seq (WC.seq (WC.block (WC.seq (WC.region (WO.step rfl (OR.move rfl ?_)))))))
    refine WO.step rfl (OR.move rfl ?_)
    refine WO.step rfl (OR.convN T3.und T5.und rfl rfl ?_)
    refine WO.step rfl (OR.call hs body149 rfl rfl (refMul_ok a (UInt8.ofNat k) _ _ hs.toSub) ?_)
    clear hs; rintro _ H w hs hle1 rfl; replace hle := hle.trans hle1; (try replace hlb := hlb.trans hle1)
    refine WO.step rfl (OR.eql rfl rfl (WO.done (WX.seq ?_)))
    refine WC.condD rfl (fun hone => ?_) (fun hone => ?_)
    · have h1 : mul a (UInt8.ofNat k) = 1 := UInt8.toNat.inj (by have : ((mul a (UInt8.ofNat k)).toNat : Int) = 1 := hone; show (mul a (UInt8.ofNat k)).toNat = 1; omega)
      refine WC.seq (WC.region (WO.step rfl (OR.move rfl ?_)))
      refine WO.step rfl (OR.convN T3.und T5.und rfl rfl ?_)
      refine WO.step rfl (OR.assign rfl (WO.step rfl (OR.assign rfl (WO.done (WX.seq (WC.ret (WX.block_ret ?_)))))))
      refine WX.seq_ret (WX.loop_ret (WX.block_ret (WX.seq_ret ?_)))
      refine WX.ret2 rfl rfl rfl ?_
      refine .mk hs ?_
      rw [inv_unique h0' h1]
    · refine WC.skip (WX.block (WX.seq (WC.region (WO.step rfl (OR.move rfl (WO.step rfl (OR.addI rfl rfl (by omega) (by omega) ?_)))))))
      refine WO.step rfl (OR.assign rfl (WO.done ?_))
      refine WX.again (k + 1) ⟨rfl, rfl,  trivial⟩ ?_ ?_
      · refine ⟨by omega, by omega, fun j h1 h2 => ?_, H, hle, hs⟩
        by_cases e : j = k
        · subst e
          intro h
          exact hone (by rw [h]; rfl)
        · exact hz j h1 (by omega)
      · omega
  · exfalso
    have hi0 : inv a ≠ 0 := fun h => by
      have := mul_inv a h0'
      rw [h, mul_zero] at this
      exact absurd this (by decide)
    have hlt2 := (inv a).toNat_lt
    have hpos : 1 ≤ (inv a).toNat := by
      rcases Nat.eq_zero_or_pos (inv a).toNat with h | h
      · exact absurd (UInt8.toNat.inj h) hi0
      · exact h
    refine hz (inv a).toNat hpos (by omega) ?_
    rw [UInt8.ofNat_toNat]
    exact mul_inv a h0'

section
variable {f : Nat → Option RowD} {g s rb gi gr : Nat} {ci cr : Array Value}

set_option maxRecDepth 20000 in
set_option maxHeartbeats 2000000 in
theorem refRowsK (K H0 : Hp) (w0 : World) (h0 : Sub H0 w0) (ha : RefAt H0 w0 rb gi gr g s ci cr) (hc : RefC K g f ci cr) (hg : g ≤ 255) :
    Calls Tryz.prog 169 #[ptr rb] w0 (Pure H0 w0 fun v H' => ∃ cs, Sl (H'.nu w0) 2 v (upto f g).length (rowCells cs) ∧ RowsOk K cs (upto f g)) := by
  have hs := ha.start h0
  have hle := Hp.le.refl H0
  refine Calls.enter (args := [ptr rb]) Tryz.func169 rfl Tryz.ntmps169 rfl ?_
  refine WC.seq (WC.region (WO.step rfl (OR.assign rfl (WO.done (WX.seq (WC.seq (WC.region ?_)))))))
  refine WO.step rfl (OR.assign rfl (WO.done (WX.seq (WC.seq (WC.seq (WC.region (WO.step rfl ?_)))))))
  refine OR.assign rfl (WO.done (WX.seq (WC.block ?_)))
  refine WC.loop (ι := Nat × Value) (fun ix => [(0, ptr rb), (3, ix.2), (4, .int .i64 (ix.1 : Int))]) (fun ix w => (ix.1 ≤ g ∧ ∃ H cs Mo, Hp.le H0 H ∧ RowsOk K cs (upto f ix.1) ∧ (upto f ix.1).length ≤ ix.1 ∧ Own w0.heap.size 45 2 ix.2 (upto f ix.1).length (rowCells cs) Mo ∧ HS [] H0 w0 H ((rb, refObj g s gi gr, false) :: (gi, .cells ci 4, false) :: (gr, .cells cr 45, false) :: Mo) w)) (fun ix => g - ix.1) (0, .slice none 0 0) ⟨rfl, rfl, rfl,  trivial⟩ ?_ (fun ix w hW => ?_)
  · exact ⟨by omega, H0, [], [], hle, ⟨rfl, fun i h => by simp [upto] at h⟩, by simp [upto], Own.nil _ _ _, hs⟩
  obtain ⟨k, vo⟩ := ix
  obtain ⟨hk, H, cs, Mo, hle, hok, hul, ho, hs⟩ := hW
  simp only at hk hok ho hul
  refine WC.seq (WC.seq (WC.region (WO.step rfl (OR.move rfl (WO.step rfl (OR.move rfl (WO.step rfl ?_)))))))
  refine OR.nilCheck rfl (WO.step rfl (OR.fieldAddr FA198_0 rfl (WO.step rfl (OR.load T3 rfl rfl (hs.cellM (i := 0) rfl rfl) (WO.step rfl (OR.lss rfl rfl (WO.done ?_)))))))
  refine WX.seq ?_
  refine WC.condD rfl (fun hlt => ?_) (fun hlt => ?_)
  · have hk' : k < g := by omega
    obtain ⟨h1, ec, ep, h2, h3, h4⟩ := hc.2.2 k hk'
    refine WC.skip (WX.seq (WC.seq (WC.block (WC.seq (WC.region (WO.step rfl (OR.move rfl ?_)))))))
    refine WO.step rfl (OR.nilCheck rfl (WO.step rfl (OR.fieldAddr FA198_2 rfl (WO.step rfl (OR.load T63 rfl rfl (hs.cellM (i := 0) rfl rfl) (WO.step rfl (OR.move rfl ?_)))))))
    refine WO.step rfl (OR.idx k T63.und T4 rfl rfl rfl hk' ?_)
    refine WO.step rfl (OR.load T4 rfl rfl (cells_at (j := 0) (hs.blk (i := 1) rfl) (by rw [Nat.zero_add]; exact h1)) ?_)
    refine WO.done (WX.seq ?_)
    refine WC.cond rfl (fun hb => ?_) (fun hb => ?_)
    · obtain ⟨r, hr⟩ := Option.isSome_iff_exists.1 hb
      obtain ⟨hec, hep⟩ := h4 r hr
      obtain ⟨e1, e2, rfl⟩ := hec.form
      obtain ⟨e3, e4, rfl⟩ := hep.form
      refine WC.region (WO.step rfl (OR.move rfl (WO.step rfl (OR.move rfl (WO.step rfl (OR.nilCheck rfl (WO.step rfl ?_)))))))
      refine OR.fieldAddr FA198_3 rfl (WO.step rfl (OR.load T97 rfl rfl (hs.cellM (i := 0) rfl rfl) (WO.step rfl (OR.move rfl ?_))))
      refine WO.step rfl (OR.idxN k T97.und T45 rfl rfl rfl hk' ?_)
      refine WO.step rfl (OR.loadN (cs := [_, _]) T45 rfl rfl rfl (two_cells (hs.blk (i := 2) rfl) (by rw [Nat.zero_add]; exact h2) (by rw [Nat.zero_add]; exact h3)) ?_)
      refine WO.step rfl (OR.buildSlice (vs := [_]) hs T97.und T45 rfl rfl rfl rfl (by simp) ?_)
      clear hs; intro g4 w hg4 hs
      have hb1 := hs.blk (i := 0) rfl
      replace hs := hs.perm (List.perm_append_comm (l₁ := Mo) (l₂ := [_, _, _, _]))
      refine WO.step rfl (OR.append (m := 1) (news := [_, _]) hs ho T97.und T45 rfl (by omega) rfl rfl rfl (cells_of hb1) (fun h => by cases h) rfl (by omega) (by omega) ?_)
      clear hs ho; intro vo' w Mo' hs ho hge
      replace hs := (hs.perm (List.perm_append_comm (l₁ := [_, _, _, _]) (l₂ := Mo'))).drop 0
      refine WO.step rfl (OR.assign rfl (WO.done (WX.block (WX.seq (WC.region (WO.step rfl (OR.move rfl ?_)))))))
      refine WO.step rfl (OR.addI rfl rfl (by omega) (by omega) (WO.step rfl (OR.assign rfl (WO.done ?_))))
      refine WX.again ((k + 1, vo')) ⟨rfl, rfl, rfl,  trivial⟩ ?_ ?_
      · refine ⟨hk', H, cs ++ [(.slice e1 r.1.length e2, .slice e3 r.2.length e4)], Mo', hle, ?_, ?_, ?_, hs⟩
        · rw [upto_some hr]
          exact RowsOk.snoc hok hec hep
        · rw [upto_some hr, List.length_append]; simp; omega
        · rw [upto_some hr, rowCells_append, List.length_append]
          exact ho
      · simp only; omega
    · have hr : f k = none := by
        cases hf : f k with
        | none => rfl
        | some r => rw [hf] at hb; cases hb
      refine WC.skip (WX.block (WX.seq (WC.region (WO.step rfl (OR.move rfl (WO.step rfl (OR.addI rfl rfl (by omega) (by omega) ?_)))))))
      refine WO.step rfl (OR.assign rfl (WO.done ?_))
      refine WX.again ((k + 1, vo)) ⟨rfl, rfl, rfl,  trivial⟩ ?_ ?_
      · refine ⟨hk', H, cs, Mo, hle, ?_, ?_, ?_, hs⟩
        · rw [upto_none hr]; exact hok
        · rw [upto_none hr]; omega
        · rw [upto_none hr]; exact ho
      · simp only; omega
  · have e : k = g := by omega
    subst e
    refine WC.exit (WX.seq_exit (WX.loop_exit (WX.block_hit (WX.seq (WC.seq (WC.region (WO.step rfl ?_)))))))
    refine OR.move rfl (WO.step rfl (OR.assign rfl (WO.done (WX.seq (WC.ret ?_)))))
    refine WX.ret1 rfl rfl ?_
    replace hs := hs.perm (List.perm_append_comm (l₁ := Mo) (l₂ := [_, _, _]))
    obtain ⟨H2, hle2, hs2, hsl⟩ := HS.pubN hs ho
    exact .mk hs2 ⟨cs, hsl, hok⟩

theorem refRows_ok (H0 : Hp) (w0 : World) (h0 : Sub H0 w0) (ha : RefAt H0 w0 rb gi gr g s ci cr) (hc : RefC H0 g f ci cr) (hg : g ≤ 255) :
    Calls Tryz.prog 169 #[ptr rb] w0 (Pure H0 w0 fun v H' => Rws H' v (upto f g)) :=
  (refRowsK H0 H0 w0 h0 ha hc hg).mono fun E w' h => by
    obtain ⟨v, H', M', rfl, hs, hM, h1, cs, h2, h3⟩ := h
    exact ⟨v, H', M', rfl, hs, hM, h1, cs, h2.mono (Hp.nu_le _ _), h3.mono hs.le⟩

set_option maxRecDepth 20000 in
set_option maxHeartbeats 2000000 in
theorem refRank_ok (H0 : Hp) (w0 : World) (h0 : Sub H0 w0) (ha : RefAt H0 w0 rb gi gr g s ci cr) (hc : RefC H0 g f ci cr) (hg : g ≤ 255) :
    Calls Tryz.prog 209 #[ptr rb] w0 (Pure H0 w0 fun v _ => v = .int .i64 ((upto f g).length : Int)) := by
  have hs := ha.start h0
  have hle := Hp.le.refl H0
  refine Calls.enter (args := [ptr rb]) Tryz.func209 rfl Tryz.ntmps209 rfl ?_
  refine WC.seq (WC.region (WO.step rfl (OR.assign rfl (WO.done (WX.seq (WC.seq (WC.region ?_)))))))
  refine WO.step rfl (OR.move rfl ?_)
  refine WO.step rfl (OR.call hs body169 rfl rfl (refRows_ok _ _ hs.toSub ha hc hg) ?_)
  clear hs; rintro _ H w hs hle1 hr; replace hle := hle.trans hle1; (try replace hlb := hlb.trans hle1)
  obtain ⟨_, _, rfl⟩ := hr.form
  refine WO.step rfl (OR.lenSlice T97.und rfl (WO.step rfl (OR.assign rfl (WO.done (WX.seq (WC.ret ?_))))))
  refine WX.ret1 rfl rfl ?_
  exact .mk hs rfl

set_option maxRecDepth 20000 in
set_option maxHeartbeats 2000000 in
theorem refReduce_ok (r : RowD) (rc rp : Value) (H0 : Hp) (w0 : World) (h0 : Sub H0 w0) (ha : RefAt H0 w0 rb gi gr g s ci cr) (hc : RefC H0 g f ci cr) (hL : Leads g s f) (hg : g ≤ 255) (hsm : s ≤ 65535)
    (hrc : Bytes H0 rc r.1) (hrp : Bytes H0 rp r.2) (hr : RowGS g s r) :
    Calls Tryz.prog 128 #[ptr rb, .agg #[rc, rp]] w0 (Pure H0 w0 fun v H' => RowV H' v (redR (upto f g) r)) := by
  have hs := ha.start h0
  have hle := Hp.le.refl H0
  obtain ⟨b1, c1, rfl⟩ := hrc.form
  obtain ⟨b2, c2, rfl⟩ := hrp.form
  have hR : ∀ k, ∀ x ∈ upto f k, RowGS g s x := fun k x hx => by
    obtain ⟨i, _, hi⟩ := mem_upto.1 hx
    exact (hL i x hi).2.2
  refine Calls.enter (args := [ptr rb, .agg #[.slice b1 r.1.length c1, .slice b2 r.2.length c2]]) Tryz.func128 rfl Tryz.ntmps128 rfl ?_
  refine WC.seq (WC.region (WO.step rfl (OR.box hs rfl ?_)))
  clear hs; intro g1 w hg1 hs
  refine WO.step rfl (OR.alloc hs T45 ?_)
  clear hs; intro g2 w hg2 hs
  refine WO.done (WX.seq (WC.seq (WC.seq (WC.region (WO.step rfl (OR.assign rfl (WO.done ?_)))))))
  refine WX.seq (WC.block ?_)
  refine WC.loop (ι := Nat × Value × Value) (fun ix => [(0, ptr rb), (3, ptr g1), (4, ptr g2), (5, .int .i64 (ix.1 : Int))]) (fun ix w => (ix.1 ≤ g ∧ ∃ H, Hp.le H0 H ∧ Bytes H ix.2.1 (redR (upto f ix.1) r).1 ∧ Bytes H ix.2.2 (redR (upto f ix.1) r).2 ∧ HS [] H0 w0 H [(g1, .cells #[ix.2.1, ix.2.2] 45, true), (g2, .cells #[.slice none 0 0, .slice none 0 0] 45, true), (rb, refObj g s gi gr, false), (gi, .cells ci 4, false), (gr, .cells cr 45, false)] w)) (fun ix => g - ix.1) (0, .slice b1 r.1.length c1, .slice b2 r.2.length c2) ⟨rfl, rfl, rfl, rfl,  trivial⟩ ?_ (fun ix w hW => ?_)
  · exact ⟨by omega, H0, hle, hrc, hrp, hs.front (i := 1) rfl⟩
  obtain ⟨k, qc, qp⟩ := ix
  obtain ⟨hk, H, hle, hqc, hqp, hs⟩ := hW
  simp only at hk hqc hqp hs
  refine WC.seq (WC.seq (WC.region (WO.step rfl (OR.move rfl (WO.step rfl (OR.move rfl (WO.step rfl ?_)))))))
  refine OR.nilCheck rfl (WO.step rfl (OR.fieldAddr FA198_0 rfl (WO.step rfl (OR.load T3 rfl rfl (hs.cellM (i := 2) rfl rfl) (WO.step rfl (OR.lss rfl rfl (WO.done ?_)))))))
  refine WX.seq ?_
  refine WC.condD rfl (fun hlt => ?_) (fun hlt => ?_)
  · have hk' : k < g := by omega
    obtain ⟨h1, ec, ep, h2, h3, h4⟩ := hc.2.2 k hk'
    refine WC.skip (WX.seq (WC.seq (WC.block (WC.seq (WC.region (WO.step rfl (OR.move rfl ?_)))))))
    refine WO.step rfl (OR.nilCheck rfl (WO.step rfl (OR.fieldAddr FA198_2 rfl (WO.step rfl (OR.load T63 rfl rfl (hs.cellM (i := 2) rfl rfl) (WO.step rfl (OR.move rfl ?_)))))))
    refine WO.step rfl (OR.idx k T63.und T4 rfl rfl rfl hk' ?_)
    refine WO.step rfl (OR.load T4 rfl rfl (cells_at (j := 0) (hs.blk (i := 3) rfl) (by rw [Nat.zero_add]; exact h1)) ?_)
    refine WO.done (WX.seq ?_)
    refine WC.cond rfl (fun hb => ?_) (fun hb => ?_)
    · obtain ⟨x, hx⟩ := Option.isSome_iff_exists.1 hb
      obtain ⟨hec, hep⟩ := h4 x hx
      have hxg := (hL k x hx).2.2
      have hqg := redR_gs (upto f k) r hr (hR k)
      have hst := hL.step hx r
      generalize hqd : redR (upto f k) r = q at hqc hqp hqg hst
      obtain ⟨e1, e2, rfl⟩ := hec.form
      obtain ⟨e3, e4, rfl⟩ := hep.form
      obtain ⟨b3, c3, rfl⟩ := hqc.form
      obtain ⟨b4, c4, rfl⟩ := hqp.form
      obtain ⟨yb, yo, rfl, hcy⟩ := hqc.pos (by rw [hqg.1]; omega)
      have hcy2 := hcy k (by rw [hqg.1]; exact hk')
      have hgd : q.1.getD k 0 = q.1[k]'(by rw [hqg.1]; exact hk') := by rw [List.getD_eq_getElem?_getD, List.getElem?_eq_getElem (by rw [hqg.1]; exact hk')]; rfl
      have hlb := Hp.le.refl H
      refine WC.draw 14 mixed hs (by kernel_rfl) ?_
      refine ⟨MF.eq _, by intro Mx H w hle hs; refine forVals_nil (ORg.plain (OR.loadAll T45 rfl rfl (hs.right.blk (i := 0) rfl) rfl ?_)); exact ⟨_, [], Hp.le.refl _, hs, rfl, rfl⟩, ?_⟩
      refine ⟨MF.eq _, by intro Mx H w hle hs; refine forVals_nil (ORg.plain (OR.move rfl ?_)); exact ⟨_, [], Hp.le.refl _, hs, rfl, rfl⟩, ?_⟩
      refine ⟨MF.eq _, by intro Mx H w hle hs; refine forVals_eq rfl rfl rfl ?_; refine forVals_nil (ORg.plain (OR.nilCheck rfl ?_)); exact ⟨_, [], Hp.le.refl _, hs, rfl, rfl⟩, ?_⟩
      refine ⟨MF.eq _, by intro Mx H w hle hs; refine forVals_eq rfl rfl rfl ?_; refine forVals_nil (ORg.plain (OR.fieldAddr FA198_3 rfl ?_)); exact ⟨_, [], Hp.le.refl _, hs, rfl, rfl⟩, ?_⟩
      refine ⟨MF.eq _, by intro Mx H w hle hs; refine forVals_eq rfl rfl rfl ?_; refine forVals_nil (ORg.plain (OR.load T97 rfl rfl (hs.right.cellM (i := 2) rfl rfl) ?_)); exact ⟨_, [], Hp.le.refl _, hs, rfl, rfl⟩, ?_⟩
      refine ⟨MF.eq _, by intro Mx H w hle hs; refine forVals_nil (ORg.plain (OR.move rfl ?_)); exact ⟨_, [], Hp.le.refl _, hs, rfl, rfl⟩, ?_⟩
      refine ⟨MF.eq (.pointer (some ⟨gr, 0 + k * 2, none⟩)), ?_, ?_⟩
      · intro Mx H w hle2 hs; (try replace hle := hle.trans hle2); (try replace hlb := hlb.trans hle2); refine forVals_eq rfl rfl rfl ?_; refine forVals_eq rfl rfl rfl ?_
        refine forVals_nil (ORg.plain (OR.idxN k T97.und T45 rfl rfl rfl hk' ?_))
        exact ⟨_, [], Hp.le.refl _, hs, rfl, rfl⟩
      refine ⟨MF.eq (.agg #[.slice e1 x.1.length e2, .slice e3 x.2.length e4]), ?_, ?_⟩
      · intro Mx H w hle2 hs; (try replace hle := hle.trans hle2); (try replace hlb := hlb.trans hle2); refine forVals_eq rfl rfl rfl ?_
        refine forVals_nil (ORg.plain (OR.loadN (cs := [_, _]) T45 rfl rfl rfl (two_cells (hs.right.blk (i := 4) rfl) (by rw [Nat.zero_add]; exact h2) (by rw [Nat.zero_add]; exact h3)) ?_))
        exact ⟨_, [], Hp.le.refl _, hs, rfl, rfl⟩
      refine ⟨MF.eq _, by intro Mx H w hle hs; refine forVals_nil (ORg.plain (OR.fieldAddr FA45_0 rfl ?_)); exact ⟨_, [], Hp.le.refl _, hs, rfl, rfl⟩, ?_⟩
      refine ⟨MF.eq _, by intro Mx H w hle hs; refine forVals_eq rfl rfl rfl ?_; refine forVals_nil (ORg.plain (OR.load T43 rfl rfl (hs.right.cellM (i := 0) rfl rfl) ?_)); exact ⟨_, [], Hp.le.refl _, hs, rfl, rfl⟩, ?_⟩
      refine ⟨MF.eq _, by intro Mx H w hle hs; refine forVals_nil (ORg.plain (OR.move rfl ?_)); exact ⟨_, [], Hp.le.refl _, hs, rfl, rfl⟩, ?_⟩
      refine ⟨MF.eq (.pointer (some ⟨yb, yo + k, none⟩)), ?_, ?_⟩
      · intro Mx H w hle2 hs; (try replace hle := hle.trans hle2); (try replace hlb := hlb.trans hle2); refine forVals_eq rfl rfl rfl ?_; refine forVals_eq rfl rfl rfl ?_
        refine forVals_nil (ORg.plain (OR.idx k T43.und T5 rfl rfl rfl (by rw [hqg.1]; exact hk') ?_))
        exact ⟨_, [], Hp.le.refl _, hs, rfl, rfl⟩
      refine ⟨MF.eq (B (q.1[k]'(by rw [hqg.1]; exact hk'))), ?_, ?_⟩
      · intro Mx H w hle2 hs; (try replace hle := hle.trans hle2); (try replace hlb := hlb.trans hle2); refine forVals_eq rfl rfl rfl ?_
        refine forVals_nil (ORg.plain (OR.load T5 rfl rfl (hs.cell (hcell.mono hlb hcy2)) ?_))
        exact ⟨_, [], Hp.le.refl _, hs, rfl, rfl⟩
      refine ⟨MF.row (redR (upto f (k + 1)) r), ?_, ?_⟩
      · intro Mx H w hle2 hs; (try replace hle := hle.trans hle2); (try replace hlb := hlb.trans hle2); refine forVals_eq rfl rfl rfl ?_; refine forVals_eq rfl rfl rfl ?_; refine forVals_eq rfl rfl rfl ?_
        refine forVals_nil (ORg.plain (OR.call hs body131 rfl rfl (refPlusR_ok q x _ _ _ _ _ _ _ hs.toSub (hqc.mono hlb) (hqp.mono hlb) (hec.mono hle) (hep.mono hle) (by rw [hqg.1]; omega) (by rw [hqg.2]; omega) (hqg.1.trans hxg.1.symm) (hqg.2.trans hxg.2.symm)) ?_))
        clear hs; rintro _ H w hs hle1 hq
        exact ⟨_, [], hle1, hs, (by rw [hst, hgd]; exact hq), rfl⟩
      intro H w hle2; (try replace hle := hle.trans hle2); (try replace hlb := hlb.trans hle2)
      refine forAllVals_eq rfl ?_
      refine forAllVals_eq rfl ?_
      refine forAllVals_eq rfl ?_
      refine forAllVals_eq rfl ?_
      refine forAllVals_eq rfl ?_
      refine forAllVals_eq rfl ?_
      refine forAllVals_eq rfl ?_
      refine forAllVals_eq rfl ?_
      refine forAllVals_eq rfl ?_
      refine forAllVals_eq rfl ?_
      refine forAllVals_eq rfl ?_
      refine forAllVals_eq rfl ?_
      refine forAllVals_eq rfl ?_
      refine forAllVals_of rfl ?_; intro v13 h13
      refine forAllVals_nil ?_; (try clear hs); intro hs
      obtain ⟨nc, np, rfl, hnc, hnp⟩ := h13
      obtain ⟨b5, c5, rfl⟩ := hnc.form
      obtain ⟨b6, c6, rfl⟩ := hnp.form
      refine WO.stepN (OR.storeAll hs T45 rfl rfl rfl rfl rfl ?_)
      clear hs; intro w hs
      refine WO.done (WX.block (WX.seq (WC.region (WO.step rfl (OR.move rfl (WO.step rfl (OR.addI rfl rfl (by omega) (by omega) ?_)))))))
      refine WO.step rfl (OR.assign rfl (WO.done ?_))
      refine WX.again ((k + 1, .slice b5 (redR (upto f (k + 1)) r).1.length c5, .slice b6 (redR (upto f (k + 1)) r).2.length c6)) ⟨rfl, rfl, rfl, rfl,  trivial⟩ ?_ ?_
      · exact ⟨hk', H, hle, hnc, hnp, hs⟩
      · simp only; omega
    · have hx : f k = none := by
        cases hf : f k with
        | none => rfl
        | some r => rw [hf] at hb; cases hb
      refine WC.skip (WX.block (WX.seq (WC.region (WO.step rfl (OR.move rfl (WO.step rfl (OR.addI rfl rfl (by omega) (by omega) ?_)))))))
      refine WO.step rfl (OR.assign rfl (WO.done ?_))
      refine WX.again ((k + 1, qc, qp)) ⟨rfl, rfl, rfl, rfl,  trivial⟩ ?_ ?_
      · refine ⟨hk', H, hle, ?_, ?_, hs⟩
        · rw [upto_none hx]; exact hqc
        · rw [upto_none hx]; exact hqp
      · simp only; omega
  · have e : k = g := by omega
    subst e
    obtain ⟨b3, c3, rfl⟩ := hqc.form
    obtain ⟨b4, c4, rfl⟩ := hqp.form
    refine WC.exit (WX.seq_exit (WX.loop_exit (WX.block_hit (WX.seq (WC.seq (WC.region (WO.step rfl ?_)))))))
    refine OR.loadAll T45 rfl rfl (hs.blk (i := 0) rfl) rfl ?_
    replace hs := hs.front (i := 1) rfl
    refine WO.stepN (OR.storeAll hs T45 rfl rfl rfl rfl rfl ?_)
    clear hs; intro w hs
    refine WO.done (WX.seq (WC.ret ?_))
    refine WX.retCell T45 rfl rfl rfl rfl (hs.blk (i := 0) rfl) ?_
    exact .mk hs ⟨_, _, rfl, hqc, hqp⟩

-- left out, for this seat has no (*braidwork/braidworkref07.Basis).Contains: theorem refContains_ok (vc
set_option maxRecDepth 20000 in
set_option maxHeartbeats 2000000 in
theorem refSolveK (K H0 : Hp) (w0 : World) (h0 : Sub H0 w0) (ha : RefAt H0 w0 rb gi gr g s ci cr) (hc : RefC K g f ci cr) (hg : g ≤ 255) :
    Calls Tryz.prog 132 #[ptr rb] w0 (Pure H0 w0 fun v H' => ∃ r cs, v = .tuple #[r, .int .i64 (if (upto f g).length < g then 24 else 0)] ∧ Sl (H'.nu w0) 1 r (if (upto f g).length < g then [] else (upto f g).map (·.2)).length cs ∧ BLOk K cs (if (upto f g).length < g then [] else (upto f g).map (·.2))) := by
  have hs := ha.start h0
  have hle := Hp.le.refl H0
  refine Calls.enter (args := [ptr rb]) Tryz.func132 rfl Tryz.ntmps132 rfl ?_
  refine WC.seq (WC.region (WO.step rfl (OR.assign rfl (WO.step rfl (OR.assign rfl (WO.done (WX.seq ?_)))))))
  refine WC.seq (WC.region (WO.step rfl (OR.move rfl ?_)))
  refine WO.step rfl (OR.call hs body169 rfl rfl (refRowsK K _ _ hs.toSub ha hc hg) ?_)
  clear hs; rintro _ H w hs hle1 ⟨rc, hrs, hrk⟩; replace hle := hle.trans hle1; (try replace hlb := hlb.trans hle1)
  have hul : (upto f g).length ≤ g := by
    have := List.length_filterMap_le f (List.range g)
    simpa [upto] using this
  generalize upto f g = rows at *
  obtain ⟨br, cr', rfl⟩ := hrs.form
  replace hrs := hrs.mono (Hp.nu_le _ _)
  refine WO.step rfl (OR.assign rfl (WO.done (WX.seq (WC.seq (WC.seq (WC.region (WO.step rfl ?_)))))))
  refine OR.move rfl (WO.step rfl (OR.lenSlice T97.und rfl (WO.step rfl (OR.move rfl (WO.step rfl (OR.nilCheck rfl (WO.step rfl ?_)))))))
  refine OR.fieldAddr FA198_0 rfl (WO.step rfl (OR.load T3 rfl rfl (hs.cellM (i := 0) rfl rfl) (WO.step rfl (OR.lss rfl rfl (WO.done (WX.seq ?_))))))
  refine WC.condD rfl (fun hlt => ?_) (fun hlt => ?_)
  · refine WC.seq (WC.region (WO.step rfl (OR.assign rfl (WO.step rfl (OR.assign rfl (WO.done (WX.seq ?_)))))))
    refine WC.ret (WX.seq_ret ?_)
    refine WX.ret2 rfl rfl rfl ?_
    have : rows.length < g := by omega
    refine .mk hs ⟨_, [], by rw [if_pos this], ?_, ?_⟩
    · rw [if_pos this]; exact Sl.nil _ _
    · rw [if_pos this]; exact BLOk.nil _
  · have hge : ¬ rows.length < g := by omega
    obtain ⟨HB, hHB⟩ : ∃ X, X = H := ⟨_, rfl⟩
    subst hHB
    refine WC.skip (WX.seq (WC.seq (WC.region (WO.step rfl (OR.assign rfl (WO.done (WX.seq ?_)))))))
    refine WC.seq (WC.seq (WC.region (WO.step rfl (OR.assign rfl (WO.done (WX.seq (WC.block ?_)))))))
    refine WC.loop (ι := Nat × Value) (fun ix => [(4, .slice br rows.length cr'), (5, ix.2), (6, .int .i64 (ix.1 : Int))]) (fun ix w => (ix.1 ≤ rows.length ∧ ∃ H cs Mo, Hp.le H0 H ∧ Hp.le HB H ∧ BLOk K cs ((rows.take ix.1).map (·.2)) ∧ Own w0.heap.size 43 1 ix.2 ix.1 cs Mo ∧ HS [] H0 w0 H Mo w)) (fun ix => rows.length - ix.1) (0, .slice none 0 0) ⟨rfl, rfl, rfl,  trivial⟩ ?_ (fun ix w hW => ?_)
    · exact ⟨by omega, HB, [], [], hle, Hp.le.refl HB, BLOk.nil _, Own.nil _ _ _, hs.sublist (List.nil_sublist _)⟩
    clear hs hle
    obtain ⟨k, vo⟩ := ix
    obtain ⟨hk, H, cs, Mo, hle, hlb, hok, ho, hs⟩ := hW
    simp only at hk hok ho
    refine WC.seq (WC.seq (WC.region (WO.step rfl (OR.move rfl (WO.step rfl (OR.move rfl (WO.step rfl ?_)))))))
    refine OR.lenSlice T97.und rfl (WO.step rfl (OR.lss rfl rfl (WO.done (WX.seq ?_))))
    refine WC.condD rfl (fun hlt => ?_) (fun hlt => ?_)
    · have hk' : k < rows.length := by omega
      obtain ⟨xb, xo, rfl, hcr⟩ := hrs.pos (by omega)
      obtain ⟨ec, ep, hg1, hg2, hec, hep⟩ := hrk.get k hk'
      obtain ⟨b2, c2, rfl⟩ := hep.form
      have hcc := hcr _ _ hg2
      refine WC.skip (WX.seq (WC.seq (WC.block (WC.region (WO.step rfl (OR.move rfl (WO.step rfl ?_)))))))
      refine OR.move rfl (WO.step rfl (OR.move rfl ?_))
      refine WO.step rfl (OR.idxN k T97.und T45 rfl rfl rfl hk' ?_)
      refine WO.step rfl (OR.fieldAddr FA45_1 rfl ?_)
      refine WO.step rfl (OR.load T43 rfl rfl (hs.cell (hcell.mono hlb hcc)) ?_)
      refine WO.step rfl (OR.buildSlice (vs := [_]) hs T40.und T43 rfl rfl rfl rfl (by simp) ?_)
      clear hs; intro g2 w hg2 hs
      have hb1 := hs.blk (i := 0) rfl
      replace hs := hs.perm (List.perm_append_comm (l₁ := Mo) (l₂ := [_]))
      refine WO.step rfl (OR.append (m := 1) (news := [_]) hs ho T40.und T43 rfl (by omega) rfl rfl rfl (cells_of hb1) (fun h => by cases h) rfl (by omega) (by omega) ?_)
      clear hs ho; intro vo' w Mo' hs ho hge
      replace hs := hs.sublist (List.sublist_append_left _ _)
      refine WO.step rfl (OR.assign rfl (WO.done (WX.block (WX.seq (WC.region (WO.step rfl (OR.move rfl ?_)))))))
      refine WO.step rfl (OR.addI rfl rfl (by omega) (by omega) (WO.step rfl (OR.assign rfl (WO.done ?_))))
      refine WX.again ((k + 1, vo')) ⟨rfl, rfl, rfl,  trivial⟩ ?_ ?_
      · refine ⟨hk', H, cs ++ [_], Mo', hle, hlb, ?_, ho, hs⟩
        rw [List.take_succ_eq_append_getElem hk', List.map_append]
        exact hok.snoc hep
      · simp only; omega
    · have e : k = rows.length := by omega
      subst e
      refine WC.exit (WX.seq_exit (WX.loop_exit (WX.block_hit (WX.seq (WC.seq (WC.region (WO.step rfl ?_)))))))
      refine OR.move rfl (WO.step rfl (OR.assign rfl (WO.step rfl (OR.assign rfl (WO.done (WX.seq (WC.ret ?_)))))))
      refine WX.ret2 rfl rfl rfl ?_
      obtain ⟨H2, hle2, hs2, hsl⟩ := HS.pubN (M := []) (by simpa using hs) ho
      rw [List.take_of_length_le (Nat.le_refl _)] at hok
      refine .mk hs2 ⟨vo, cs, by rw [if_neg hge], ?_, ?_⟩
      · rw [if_neg hge, List.length_map]; exact hsl
      · rw [if_neg hge]; exact hok
end
end Go.Bw
namespace Go.Bw
set_option linter.unusedVariables false
set_option linter.unusedSimpArgs false
open Go.Proofs

theorem rows_zero (m : Nat) : ((Array.range (m * 2)).map ((Value.agg #[.slice none 0 0, .slice none 0 0]).cells[· % (Value.agg #[.slice none 0 0, .slice none 0 0]).cells.size]!)) = (List.replicate (m * 2) (Value.slice none 0 0)).toArray := by
  apply Array.ext
  · simp
  · intro i h1 h2
    simp only [Array.getElem_map, Array.getElem_range, List.getElem_toArray, List.getElem_replicate]
    have : (Value.agg #[.slice none 0 0, .slice none 0 0]).cells = #[.slice none 0 0, .slice none 0 0] := rfl
    rw [this]
    rcases Nat.mod_two_eq_zero_or_one i with h | h
    · show (#[Value.slice none 0 0, Value.slice none 0 0] : Array Value)[i % 2]! = _
      rw [h]; rfl
    · show (#[Value.slice none 0 0, Value.slice none 0 0] : Array Value)[i % 2]! = _
      rw [h]; rfl

/-- Nothing yet. -/
theorem RefC.zero (H : Hp) (g : Nat) : RefC H g (fun _ => none) (List.replicate g (.bool false)).toArray (List.replicate (g * 2) (Value.slice none 0 0)).toArray := by
  refine ⟨by simp, by simp, fun i hi => ⟨?_, .slice none 0 0, .slice none 0 0, ?_, ?_, fun r hr => by cases hr⟩⟩
  · rw [List.toList_toArray, List.getElem?_replicate, if_pos hi]; rfl
  · rw [List.toList_toArray, List.getElem?_replicate, if_pos (by omega)]
  · rw [List.toList_toArray, List.getElem?_replicate, if_pos (by omega)]
theorem upto_zero (g : Nat) : upto (fun _ => none) g = [] := by
  unfold upto
  rw [List.filterMap_eq_nil_iff]
  intro _ _
  rfl

set_option maxRecDepth 20000 in
set_option maxHeartbeats 2000000 in
/-- What New makes: the basis's block, and those of its two slices. -/
theorem refNew_ok (g s : Int) (H0 : Hp) (w0 : World) (h0 : Sub H0 w0) :
    Calls Tryz.prog 67 #[.int .i64 g, .int .i64 s] w0 (Ret [] H0 w0 fun v H' M' => if 1 ≤ g ∧ g ≤ 255 ∧ 1 ≤ s ∧ s ≤ 65535 then
      ∃ rb gi gr ci cr, v = .tuple #[ptr rb, .int .i64 0] ∧ w0.heap.size ≤ rb ∧ w0.heap.size ≤ gi ∧ w0.heap.size ≤ gr ∧ M' = [(rb, refObj g.toNat s.toNat gi gr, true), (gi, .cells ci 4, true), (gr, .cells cr 45, true)] ∧ RefC H' g.toNat (fun _ => none) ci cr ∧ Hp.le H0 H' else v = .tuple #[.pointer none, .int .i64 1] ∧ M' = []) := by
  have hs := HS.init h0
  have hle := Hp.le.refl H0
  by_cases hall : 1 ≤ g ∧ g ≤ 255 ∧ 1 ≤ s ∧ s ≤ 65535
  · simp only [if_pos hall]
    obtain ⟨h1, h2, h3, h4⟩ := hall
    obtain ⟨g', rfl⟩ := Int.eq_ofNat_of_zero_le (by omega : 0 ≤ g)
    obtain ⟨s', rfl⟩ := Int.eq_ofNat_of_zero_le (by omega : 0 ≤ s)
    refine Calls.enter (args := [.int .i64 (g' : Int), .int .i64 (s' : Int)]) Tryz.func67 rfl Tryz.ntmps67 rfl ?_
    refine WC.seq (WC.region (WO.step rfl (OR.assign rfl (WO.step rfl (OR.assign rfl (WO.done (WX.seq ?_)))))))
    refine WC.seq (WC.seq (WC.region (WO.step rfl (OR.move rfl (WO.step rfl (OR.lss rfl rfl (WO.step rfl ?_)))))))
    refine OR.move rfl ?_
    refine WO.guardYes rfl (decide_eq_false (by omega : ¬ (g' : Int) < 1)) rfl rfl (OR.move rfl (WO.guardYes rfl (decide_eq_false (by omega : ¬ (g' : Int) < 1)) rfl rfl (OR.gtr rfl rfl (WO.step rfl (OR.pickF rfl (decide_eq_false (by omega : ¬ (g' : Int) < 1)) rfl (WO.step rfl (OR.move rfl ?_)))))))
    refine WO.guardYes rfl (decide_eq_false (by omega : ¬ (g' : Int) > 255)) rfl rfl (OR.move rfl (WO.guardYes rfl (decide_eq_false (by omega : ¬ (g' : Int) > 255)) rfl rfl (OR.lss rfl rfl (WO.step rfl (OR.pickF rfl (decide_eq_false (by omega : ¬ (g' : Int) > 255)) rfl (WO.step rfl (OR.move rfl ?_)))))))
    refine WO.guardYes rfl (decide_eq_false (by omega : ¬ (s' : Int) < 1)) rfl rfl (OR.move rfl (WO.guardYes rfl (decide_eq_false (by omega : ¬ (s' : Int) < 1)) rfl rfl (OR.gtr rfl rfl (WO.step rfl (OR.pickF rfl (decide_eq_false (by omega : ¬ (s' : Int) < 1)) rfl (WO.done (WX.seq ?_)))))))
    refine WC.no rfl (decide_eq_false (by omega : ¬ (s' : Int) > 65535)) ?_
    refine WC.skip (WX.seq (WC.seq ?_))
    refine WC.sub [(0, .int .i64 (g' : Int)), (1, .int .i64 (s' : Int))] ⟨rfl, rfl,  trivial⟩ ?_
    refine WC.draw 10 mixed hs (by kernel_rfl) ?_
    refine ⟨MF.eq _, by intro Mx H w hle hs; refine forVals_nil (ORg.plain (OR.move rfl ?_)); exact ⟨_, [], Hp.le.refl _, hs, rfl, rfl⟩, ?_⟩
    refine ⟨MF.eq _, by intro Mx H w hle hs; refine forVals_nil (ORg.plain (OR.move rfl ?_)); exact ⟨_, [], Hp.le.refl _, hs, rfl, rfl⟩, ?_⟩
    refine ⟨MF.eq _, by intro Mx H w hle hs; refine forVals_nil (ORg.plain (OR.move rfl ?_)); exact ⟨_, [], Hp.le.refl _, hs, rfl, rfl⟩, ?_⟩
    refine ⟨MF.of (fun v H => ∃ q, w0.heap.size ≤ q ∧ v = .slice (some ⟨q, 0, none⟩) g' g' ∧ H q = some (.cells (List.replicate g' (.bool false)).toArray 4)) (fun _ _ _ hle ⟨q, h1, h2, h3⟩ => ⟨q, h1, h2, hle _ _ h3⟩), ?_, ?_⟩
    · intro Mx H w hle2 hs; (try replace hle := hle.trans hle2); (try replace hlb := hlb.trans hle2); refine forVals_eq rfl rfl rfl ?_
      refine forVals_nil (ORg.plain (OR.make1 (m := g') hs T63.und T4 rfl rfl rfl (by omega) (by omega) ?_))
      intro q1 w hq1 hs
      obtain ⟨H, hle1, hp, hs⟩ := hs.pub1 hq1
      exact ⟨_, [], hle1, hs, ⟨q1, hq1, rfl, hp⟩, rfl⟩
    refine ⟨MF.eq _, by intro Mx H w hle hs; refine forVals_nil (ORg.plain (OR.move rfl ?_)); exact ⟨_, [], Hp.le.refl _, hs, rfl, rfl⟩, ?_⟩
    refine ⟨MF.of (fun v H => ∃ q, w0.heap.size ≤ q ∧ v = .slice (some ⟨q, 0, none⟩) g' g' ∧ H q = some (.cells (List.replicate (g' * 2) (Value.slice none 0 0)).toArray 45)) (fun _ _ _ hle ⟨q, h1, h2, h3⟩ => ⟨q, h1, h2, hle _ _ h3⟩), ?_, ?_⟩
    · intro Mx H w hle2 hs; (try replace hle := hle.trans hle2); (try replace hlb := hlb.trans hle2); refine forVals_eq rfl rfl rfl ?_
      refine forVals_nil (ORg.plain (OR.makeSlice (m := g') hs T97.und T45 rfl (by omega) rfl rfl (by omega) (by omega) ?_))
      intro q1 w hq1 hs
      rw [rows_zero] at hs
      obtain ⟨H, hle1, hp, hs⟩ := hs.pub1 hq1
      exact ⟨_, [], hle1, hs, ⟨q1, hq1, rfl, hp⟩, rfl⟩
    refine ⟨MF.of (fun v H => ∃ q r, w0.heap.size ≤ q ∧ w0.heap.size ≤ r ∧ v = .agg #[.int .i64 (g' : Int), .int .i64 (s' : Int), .slice (some ⟨q, 0, none⟩) g' g', .slice (some ⟨r, 0, none⟩) g' g'] ∧ H q = some (.cells (List.replicate g' (.bool false)).toArray 4) ∧ H r = some (.cells (List.replicate (g' * 2) (Value.slice none 0 0)).toArray 45)) (fun _ _ _ hle ⟨q, r, h1, h2, h3, h4, h5⟩ => ⟨q, r, h1, h2, h3, hle _ _ h4, hle _ _ h5⟩), ?_, ?_⟩
    · intro Mx H w hle2 hs; (try replace hle := hle.trans hle2); (try replace hlb := hlb.trans hle2); refine forVals_eq rfl rfl rfl ?_; refine forVals_eq rfl rfl rfl ?_; refine forVals_of rfl rfl rfl ?_; intro v3 h3; refine forVals_of rfl rfl rfl ?_; intro v5 h5
      obtain ⟨q, hq1, rfl, hq⟩ := h3
      obtain ⟨r, hr1, rfl, hr⟩ := h5
      refine forVals_nil (ORg.plain (OR.buildAll T198 rfl rfl PL198 rfl rfl ?_))
      exact ⟨_, [], Hp.le.refl _, hs, ⟨q, r, hq1, hr1, rfl, hq, hr⟩, rfl⟩
    refine ⟨MF.of (fun v H => ∃ p q r, w0.heap.size ≤ p ∧ w0.heap.size ≤ q ∧ w0.heap.size ≤ r ∧ v = ptr p ∧ H p = some (refObj g' s' q r) ∧ H q = some (.cells (List.replicate g' (.bool false)).toArray 4) ∧ H r = some (.cells (List.replicate (g' * 2) (Value.slice none 0 0)).toArray 45)) (fun _ _ _ hle ⟨p, q, r, h1, h2, h3, h4, h5, h6, h7⟩ => ⟨p, q, r, h1, h2, h3, h4, hle _ _ h5, hle _ _ h6, hle _ _ h7⟩), ?_, ?_⟩
    · intro Mx H w hle2 hs; (try replace hle := hle.trans hle2); (try replace hlb := hlb.trans hle2); refine forVals_of rfl rfl rfl ?_; intro v6 h6
      obtain ⟨q, r, hq1, hr1, rfl, hq, hr⟩ := h6
      refine forVals_nil (ORg.plain (OR.box hs rfl ?_))
      intro p w hp1 hs
      obtain ⟨H, hle1, hp, hs⟩ := hs.pub1 hp1
      exact ⟨_, [], hle1, hs, ⟨p, q, r, hp1, hq1, hr1, rfl, hp, hle1 _ _ hq, hle1 _ _ hr⟩, rfl⟩
    refine ⟨MF.of (fun v H => ∃ p q r, w0.heap.size ≤ p ∧ w0.heap.size ≤ q ∧ w0.heap.size ≤ r ∧ v = ptr p ∧ H p = some (refObj g' s' q r) ∧ H q = some (.cells (List.replicate g' (.bool false)).toArray 4) ∧ H r = some (.cells (List.replicate (g' * 2) (Value.slice none 0 0)).toArray 45)) (fun _ _ _ hle ⟨p, q, r, h1, h2, h3, h4, h5, h6, h7⟩ => ⟨p, q, r, h1, h2, h3, h4, hle _ _ h5, hle _ _ h6, hle _ _ h7⟩), ?_, ?_⟩
    · intro Mx H w hle2 hs; (try replace hle := hle.trans hle2); (try replace hlb := hlb.trans hle2); refine forVals_of rfl rfl rfl ?_; intro v7 h7
      refine forVals_nil (ORg.plain (OR.assign rfl ?_))
      exact ⟨_, [], Hp.le.refl _, hs, h7, rfl⟩
    refine ⟨MF.eq _, by intro Mx H w hle hs; refine forVals_nil (ORg.plain (OR.assign rfl ?_)); exact ⟨_, [], Hp.le.refl _, hs, rfl, rfl⟩, ?_⟩
    intro H w hle2; (try replace hle := hle.trans hle2); (try replace hlb := hlb.trans hle2)
    refine forAllVals_eq rfl ?_
    refine forAllVals_eq rfl ?_
    refine forAllVals_eq rfl ?_
    refine forAllVals_of rfl ?_; intro v3 h3
    refine forAllVals_eq rfl ?_
    refine forAllVals_of rfl ?_; intro v5 h5
    refine forAllVals_of rfl ?_; intro v6 h6
    refine forAllVals_of rfl ?_; intro v7 h7
    refine forAllVals_of rfl ?_; intro v8 h8
    refine forAllVals_eq rfl ?_
    refine forAllVals_nil ?_; (try clear hs); intro hs
    obtain ⟨p, q, r, hp1, hq1, hr1, rfl, hp, hq, hr⟩ := h8
    refine WO.done (WX.seq (WC.ret ?_))
    refine WX.ret2 rfl rfl rfl ?_
    have hpq : p ≠ q := fun e => by rw [e, hq] at hp; exact cells_ne hp (by decide)
    have hpr : p ≠ r := fun e => by rw [e, hr] at hp; exact cells_ne hp (by decide)
    have hqr : q ≠ r := fun e => by rw [e, hr] at hq; exact cells_ne hq (by decide)
    have hs1 := HS.unpub h0 hs hr hr1
    have hs2 := HS.unpub h0 hs1 (by unfold Hp.del; rw [if_neg hqr]; exact hq) hq1
    have hs3 := HS.unpub h0 hs2 (by unfold Hp.del; rw [if_neg hpq, if_neg hpr]; exact hp) hp1
    exact ⟨_, _, _, rfl, hs3, by simp, p, q, r, _, _, rfl, hp1, hq1, hr1, rfl, RefC.zero _ _, hs3.le⟩
  · simp only [if_neg hall]
    refine Calls.enter (args := [.int .i64 g, .int .i64 s]) Tryz.func67 rfl Tryz.ntmps67 rfl ?_
    refine WC.seq (WC.region (WO.step rfl (OR.assign rfl (WO.step rfl (OR.assign rfl (WO.done (WX.seq ?_)))))))
    refine WC.seq (WC.seq (WC.region (WO.step rfl (OR.move rfl (WO.step rfl (OR.lss rfl rfl (WO.step rfl ?_)))))))
    refine OR.move rfl ?_
    refine WO.guardSplit (j := 2) rfl (fun q1 => ?_) (fun q1 => ?_)
    · refine WO.guardNo rfl (decide_eq_true q1) rfl rfl (WO.guardNo rfl (decide_eq_true q1) rfl rfl (WO.step rfl (OR.pickT rfl (decide_eq_true q1) rfl (WO.step rfl (OR.move rfl (WO.guardNo rfl rfl rfl rfl (WO.guardNo rfl rfl rfl rfl ?_)))))))
      refine WO.step rfl (OR.pickT rfl rfl rfl (WO.step rfl (OR.move rfl (WO.guardNo rfl rfl rfl rfl (WO.guardNo rfl rfl rfl rfl (WO.step rfl (OR.pickT rfl rfl rfl ?_)))))))
      refine WO.done (WX.seq (WC.yes rfl rfl (WC.seq (WC.region (WO.step rfl (OR.assign rfl (WO.step rfl ?_)))))))
      refine OR.assign rfl (WO.done (WX.seq (WC.ret (WX.seq_ret ?_))))
      refine WX.ret2 rfl rfl rfl ?_
      exact ⟨_, H0, [], rfl, hs, by simp, rfl, rfl⟩
    · refine WO.guardYes rfl (decide_eq_false q1) rfl rfl (OR.move rfl (WO.guardYes rfl (decide_eq_false q1) rfl rfl (OR.gtr rfl rfl (WO.step rfl (OR.pickF rfl (decide_eq_false q1) rfl (WO.step rfl (OR.move rfl ?_)))))))
      refine WO.guardSplit (j := 6) rfl (fun q2 => ?_) (fun q2 => ?_)
      · refine WO.guardNo rfl (decide_eq_true q2) rfl rfl (WO.guardNo rfl (decide_eq_true q2) rfl rfl (WO.step rfl (OR.pickT rfl (decide_eq_true q2) rfl (WO.step rfl (OR.move rfl (WO.guardNo rfl rfl rfl rfl (WO.guardNo rfl rfl rfl rfl ?_)))))))
        refine WO.step rfl (OR.pickT rfl rfl rfl (WO.done (WX.seq (WC.yes rfl rfl (WC.seq (WC.region (WO.step rfl ?_)))))))
        refine OR.assign rfl (WO.step rfl (OR.assign rfl (WO.done (WX.seq (WC.ret (WX.seq_ret ?_))))))
        refine WX.ret2 rfl rfl rfl ?_
        exact ⟨_, H0, [], rfl, hs, by simp, rfl, rfl⟩
      · refine WO.guardYes rfl (decide_eq_false q2) rfl rfl (OR.move rfl (WO.guardYes rfl (decide_eq_false q2) rfl rfl (OR.lss rfl rfl (WO.step rfl (OR.pickF rfl (decide_eq_false q2) rfl (WO.step rfl (OR.move rfl ?_)))))))
        refine WO.guardSplit (j := 10) rfl (fun q3 => ?_) (fun q3 => ?_)
        · refine WO.guardNo rfl (decide_eq_true q3) rfl rfl (WO.guardNo rfl (decide_eq_true q3) rfl rfl (WO.step rfl (OR.pickT rfl (decide_eq_true q3) rfl (WO.done (WX.seq (WC.yes rfl rfl (WC.seq ?_)))))))
          refine WC.region (WO.step rfl (OR.assign rfl (WO.step rfl (OR.assign rfl (WO.done (WX.seq (WC.ret ?_)))))))
          refine WX.seq_ret ?_
          refine WX.ret2 rfl rfl rfl ?_
          exact ⟨_, H0, [], rfl, hs, by simp, rfl, rfl⟩
        · refine WO.guardYes rfl (decide_eq_false q3) rfl rfl (OR.move rfl (WO.guardYes rfl (decide_eq_false q3) rfl rfl (OR.gtr rfl rfl (WO.step rfl (OR.pickF rfl (decide_eq_false q3) rfl (WO.done (WX.seq ?_)))))))
          refine WC.yes rfl (decide_eq_true (by omega : s > 65535)) ?_
          refine WC.seq (WC.region (WO.step rfl (OR.assign rfl (WO.step rfl (OR.assign rfl (WO.done (WX.seq ?_)))))))
          refine WC.ret (WX.seq_ret ?_)
          refine WX.ret2 rfl rfl rfl ?_
          exact ⟨_, H0, [], rfl, hs, by simp, rfl, rfl⟩

theorem addS_zero (c : UInt8) (l : List UInt8) : addS c (List.replicate l.length 0) l = l.map fun x => mul x c := by
  unfold addS eachR
  rw [if_pos (by simp)]
  apply List.ext_getElem
  · simp
  · intro i h1 h2
    simp [zero_xor8]
theorem plus_zero_norm {g s L : Nat} {q : RowD} (hq : RowGS g s q) (hL : lead q.1 = (L : Int)) (h : L < q.1.length) : plusR (List.replicate g 0, List.replicate s 0) q (inv q.1[L]) = normR q := by
  unfold plusR normR
  rw [← hq.1, ← hq.2, addS_zero, addS_zero, hL]
  have e : q.1.getD ((L : Int)).toNat 0 = q.1[L] := by simp [h]
  rw [e]
  rfl
/-- The first k freed. -/
def partF (q : RowD) (f : Nat → Option RowD) (k i : Nat) : Option RowD := if i < k then (f i).map (freeR q) else f i
theorem RefC.congr {H : Hp} {g : Nat} {f f' : Nat → Option RowD} {ci cr : Array Value} (h : RefC H g f ci cr) (he : ∀ i, i < g → f i = f' i) : RefC H g f' ci cr := by
  refine ⟨h.1, h.2.1, fun i hi => ?_⟩
  rw [← he i hi]
  exact h.2.2 i hi
theorem RefC.setR {H : Hp} {g : Nat} {f : Nat → Option RowD} {ci cr : Array Value} (h : RefC H g f ci cr) {k : Nat} (hk : k < g) {x : RowD} {c p : Value} (hx : (f k).isSome = true) (hc : Bytes H c x.1) (hp : Bytes H p x.2) :
    RefC H g (fun i => if i = k then some x else f i) ci (setL cr.toList (k * 2) [c, p]).toArray := by
  refine ⟨h.1, by simp [setL_length, h.2.1], fun i hi => ?_⟩
  have hsz := h.2.1
  obtain ⟨h1, ec, ep, h2, h3, h4⟩ := h.2.2 i hi
  have e0 : setL cr.toList (k * 2) [c, p] = (cr.toList.set (k * 2) c).set (k * 2 + 1) p := by rw [setL_step, setL_one]
  rw [List.toList_toArray, e0]
  by_cases e : i = k
  · subst e
    refine ⟨by simp only [if_pos]; rw [h1, hx]; rfl, c, p, ?_, ?_, fun r hr => ?_⟩
    · rw [List.getElem?_set_ne (by omega), List.getElem?_set_self (by simp [hsz]; omega)]
    · rw [List.getElem?_set_self (by simp [hsz]; omega)]
    · simp only [if_pos] at hr
      cases hr
      exact ⟨hc, hp⟩
  · refine ⟨by simp only [if_neg e]; exact h1, ec, ep, ?_, ?_, fun r hr => ?_⟩
    · rw [List.getElem?_set_ne (by omega), List.getElem?_set_ne (by omega)]; exact h2
    · rw [List.getElem?_set_ne (by omega), List.getElem?_set_ne (by omega)]; exact h3
    · simp only [if_neg e] at hr
      exact h4 r hr
theorem RefC.setB {H : Hp} {g : Nat} {f : Nat → Option RowD} {ci cr : Array Value} (h : RefC H g f ci cr) {k : Nat} (hk : k < g) {x : RowD} {c p : Value} (hc : Bytes H c x.1) (hp : Bytes H p x.2) :
    RefC H g (fun i => if i = k then some x else f i) (setL ci.toList k [.bool true]).toArray (setL cr.toList (k * 2) [c, p]).toArray := by
  refine ⟨by simp [setL_length, h.1], by simp [setL_length, h.2.1], fun i hi => ?_⟩
  have hsz := h.2.1
  have hsi := h.1
  obtain ⟨h1, ec, ep, h2, h3, h4⟩ := h.2.2 i hi
  have e0 : setL cr.toList (k * 2) [c, p] = (cr.toList.set (k * 2) c).set (k * 2 + 1) p := by rw [setL_step, setL_one]
  rw [List.toList_toArray, List.toList_toArray, e0, setL_one]
  by_cases e : i = k
  · subst e
    refine ⟨by simp only [if_pos]; rw [List.getElem?_set_self (by simp [hsi]; omega)]; rfl, c, p, ?_, ?_, fun r hr => ?_⟩
    · rw [List.getElem?_set_ne (by omega), List.getElem?_set_self (by simp [hsz]; omega)]
    · rw [List.getElem?_set_self (by simp [hsz]; omega)]
    · simp only [if_pos] at hr
      cases hr
      exact ⟨hc, hp⟩
  · refine ⟨by simp only [if_neg e]; rw [List.getElem?_set_ne (Ne.symm e)]; exact h1, ec, ep, ?_, ?_, fun r hr => ?_⟩
    · rw [List.getElem?_set_ne (by omega), List.getElem?_set_ne (by omega)]; exact h2
    · rw [List.getElem?_set_ne (by omega), List.getElem?_set_ne (by omega)]; exact h3
    · simp only [if_neg e] at hr
      exact h4 r hr

section
variable {f : Nat → Option RowD} {g s rb gi gr : Nat} {ci cr : Array Value}
set_option maxRecDepth 20000 in
set_option maxHeartbeats 2000000 in
theorem refInsert_ok (r : RowD) (rc rp : Value) (H0 : Hp) (w0 : World) (h0 : Sub H0 w0) (ha : RefAt H0 w0 rb gi gr g s ci cr) (hc : RefC H0 g f ci cr) (hL : Leads g s f) (hRd : Red g s (upto f g)) (hg : g ≤ 255) (hsm : s ≤ 65535)
    (hrc : Bytes H0 rc r.1) (hrp : Bytes H0 rp r.2) :
    Calls Tryz.prog 74 #[ptr rb, .agg #[rc, rp]] w0 (Ret [gi, gr] H0 w0 fun v H' M' => ∃ ci' cr' f', M' = [(gi, .cells ci' 4, true), (gr, .cells cr' 45, true)] ∧ RefC H' g f' ci' cr' ∧ Leads g s f' ∧
      upto f' g = (insR g s (upto f g) r).2 ∧ v = .tuple #[.bool (insR g s (upto f g) r).1, .int .i64 (if r.1.length = g ∧ r.2.length = s then 0 else 21)]) := by
  have hs := ha.startW h0
  have hle := Hp.le.refl H0
  obtain ⟨b1, c1, rfl⟩ := hrc.form
  obtain ⟨b2, c2, rfl⟩ := hrp.form
  refine Calls.enter (args := [ptr rb, .agg #[.slice b1 r.1.length c1, .slice b2 r.2.length c2]]) Tryz.func74 rfl Tryz.ntmps74 rfl ?_
  refine WC.seq (WC.region (WO.step rfl (OR.box hs rfl ?_)))
  clear hs; intro g1 w hg1 hs
  refine WO.step rfl (OR.assign rfl (WO.step rfl (OR.assign rfl (WO.done (WX.seq (WC.seq (WC.seq ?_)))))))
  by_cases hdim : r.1.length = g ∧ r.2.length = s
  · simp only [if_pos hdim]
    refine WC.draw 18 mixed hs (by kernel_rfl) ?_
    refine ⟨MF.eq _, by intro Mx H w hle hs; refine forVals_nil (ORg.plain (OR.fieldAddr FA45_0 rfl ?_)); exact ⟨_, [], Hp.le.refl _, hs, rfl, rfl⟩, ?_⟩
    refine ⟨MF.eq _, by intro Mx H w hle hs; refine forVals_eq rfl rfl rfl ?_; refine forVals_nil (ORg.plain (OR.load T43 rfl rfl (hs.right.cellM (i := 0) rfl rfl) ?_)); exact ⟨_, [], Hp.le.refl _, hs, rfl, rfl⟩, ?_⟩
    refine ⟨MF.eq _, by intro Mx H w hle hs; refine forVals_eq rfl rfl rfl ?_; refine forVals_nil (ORg.plain (OR.lenSlice T43.und rfl ?_)); exact ⟨_, [], Hp.le.refl _, hs, rfl, rfl⟩, ?_⟩
    refine ⟨MF.eq _, by intro Mx H w hle hs; refine forVals_nil (ORg.plain (OR.move rfl ?_)); exact ⟨_, [], Hp.le.refl _, hs, rfl, rfl⟩, ?_⟩
    refine ⟨MF.eq _, by intro Mx H w hle hs; refine forVals_eq rfl rfl rfl ?_; refine forVals_nil (ORg.plain (OR.nilCheck rfl ?_)); exact ⟨_, [], Hp.le.refl _, hs, rfl, rfl⟩, ?_⟩
    refine ⟨MF.eq _, by intro Mx H w hle hs; refine forVals_eq rfl rfl rfl ?_; refine forVals_nil (ORg.plain (OR.fieldAddr FA198_0 rfl ?_)); exact ⟨_, [], Hp.le.refl _, hs, rfl, rfl⟩, ?_⟩
    refine ⟨MF.eq _, by intro Mx H w hle hs; refine forVals_eq rfl rfl rfl ?_; refine forVals_nil (ORg.plain (OR.load T3 rfl rfl (hs.right.cellM (i := 1) rfl rfl) ?_)); exact ⟨_, [], Hp.le.refl _, hs, rfl, rfl⟩, ?_⟩
    refine ⟨MF.eq _, by intro Mx H w hle hs; refine forVals_eq rfl rfl rfl ?_; refine forVals_eq rfl rfl rfl ?_; refine forVals_nil (ORg.plain (OR.neq rfl rfl ?_)); exact ⟨_, [], Hp.le.refl _, hs, rfl, rfl⟩, ?_⟩
    refine ⟨MF.eq _, by intro Mx H w hle hs; refine forVals_eq rfl rfl rfl ?_; refine forVals_nil (ORg.plain (OR.move rfl ?_)); exact ⟨_, [], Hp.le.refl _, hs, rfl, rfl⟩, ?_⟩
    refine ⟨MF.eq _, by intro Mx H w hle hs; refine forVals_eq rfl rfl rfl ?_; refine forVals_nil (ORg.yes rfl (decide_eq_false (by omega : ¬ ((r.1.length : Int) ≠ (g : Int)))) rfl (OR.fieldAddr FA45_1 rfl ?_)); exact ⟨_, [], Hp.le.refl _, hs, rfl, rfl⟩, ?_⟩
    refine ⟨MF.eq _, by intro Mx H w hle hs; refine forVals_eq rfl rfl rfl ?_; refine forVals_eq rfl rfl rfl ?_; refine forVals_nil (ORg.yes rfl (decide_eq_false (by omega : ¬ ((r.1.length : Int) ≠ (g : Int)))) rfl (OR.load T43 rfl rfl (hs.right.cellM (i := 0) rfl rfl) ?_)); exact ⟨_, [], Hp.le.refl _, hs, rfl, rfl⟩, ?_⟩
    refine ⟨MF.eq _, by intro Mx H w hle hs; refine forVals_eq rfl rfl rfl ?_; refine forVals_eq rfl rfl rfl ?_; refine forVals_nil (ORg.yes rfl (decide_eq_false (by omega : ¬ ((r.1.length : Int) ≠ (g : Int)))) rfl (OR.lenSlice T43.und rfl ?_)); exact ⟨_, [], Hp.le.refl _, hs, rfl, rfl⟩, ?_⟩
    refine ⟨MF.eq _, by intro Mx H w hle hs; refine forVals_eq rfl rfl rfl ?_; refine forVals_nil (ORg.yes rfl (decide_eq_false (by omega : ¬ ((r.1.length : Int) ≠ (g : Int)))) rfl (OR.move rfl ?_)); exact ⟨_, [], Hp.le.refl _, hs, rfl, rfl⟩, ?_⟩
    refine ⟨MF.eq _, by intro Mx H w hle hs; refine forVals_eq rfl rfl rfl ?_; refine forVals_eq rfl rfl rfl ?_; refine forVals_nil (ORg.yes rfl (decide_eq_false (by omega : ¬ ((r.1.length : Int) ≠ (g : Int)))) rfl (OR.nilCheck rfl ?_)); exact ⟨_, [], Hp.le.refl _, hs, rfl, rfl⟩, ?_⟩
    refine ⟨MF.eq _, by intro Mx H w hle hs; refine forVals_eq rfl rfl rfl ?_; refine forVals_eq rfl rfl rfl ?_; refine forVals_nil (ORg.yes rfl (decide_eq_false (by omega : ¬ ((r.1.length : Int) ≠ (g : Int)))) rfl (OR.fieldAddr FA198_1 rfl ?_)); exact ⟨_, [], Hp.le.refl _, hs, rfl, rfl⟩, ?_⟩
    refine ⟨MF.eq _, by intro Mx H w hle hs; refine forVals_eq rfl rfl rfl ?_; refine forVals_eq rfl rfl rfl ?_; refine forVals_nil (ORg.yes rfl (decide_eq_false (by omega : ¬ ((r.1.length : Int) ≠ (g : Int)))) rfl (OR.load T3 rfl rfl (hs.right.cellM (i := 1) rfl rfl) ?_)); exact ⟨_, [], Hp.le.refl _, hs, rfl, rfl⟩, ?_⟩
    refine ⟨MF.eq _, by intro Mx H w hle hs; refine forVals_eq rfl rfl rfl ?_; refine forVals_eq rfl rfl rfl ?_; refine forVals_eq rfl rfl rfl ?_; refine forVals_nil (ORg.yes rfl (decide_eq_false (by omega : ¬ ((r.1.length : Int) ≠ (g : Int)))) rfl (OR.neq rfl rfl ?_)); exact ⟨_, [], Hp.le.refl _, hs, rfl, rfl⟩, ?_⟩
    refine ⟨MF.eq _, by intro Mx H w hle hs; refine forVals_eq rfl rfl rfl ?_; refine forVals_eq rfl rfl rfl ?_; refine forVals_nil (ORg.plain (OR.pickF rfl (decide_eq_false (by omega : ¬ ((r.1.length : Int) ≠ (g : Int)))) rfl ?_)); exact ⟨_, [], Hp.le.refl _, hs, rfl, rfl⟩, ?_⟩
    intro H w hle2; (try replace hle := hle.trans hle2); (try replace hlb := hlb.trans hle2)
    refine forAllVals_eq rfl ?_
    refine forAllVals_eq rfl ?_
    refine forAllVals_eq rfl ?_
    refine forAllVals_eq rfl ?_
    refine forAllVals_eq rfl ?_
    refine forAllVals_eq rfl ?_
    refine forAllVals_eq rfl ?_
    refine forAllVals_eq rfl ?_
    refine forAllVals_eq rfl ?_
    refine forAllVals_eq rfl ?_
    refine forAllVals_eq rfl ?_
    refine forAllVals_eq rfl ?_
    refine forAllVals_eq rfl ?_
    refine forAllVals_eq rfl ?_
    refine forAllVals_eq rfl ?_
    refine forAllVals_eq rfl ?_
    refine forAllVals_eq rfl ?_
    refine forAllVals_eq rfl ?_
    refine forAllVals_nil ?_; (try clear hs); intro hs
    refine WO.done (WX.seq ?_)
    refine WC.no rfl (decide_eq_false (by omega)) ?_
    refine WC.skip (WX.seq (WC.seq (WC.region (WO.step rfl (OR.move rfl (WO.step rfl (OR.loadAll T45 rfl rfl (hs.blk (i := 0) rfl) rfl ?_)))))))
    refine WO.step rfl (OR.call hs body128 rfl rfl (refReduce_ok (f := f) r _ _ _ _ hs.toSub (RefAt.of hs (i := 1) (j := 2) (k := 3) rfl rfl rfl (by omega) (by omega) (by omega)) (hc.mono hle) hL hg hsm (hrc.mono hle) (hrp.mono hle) hdim) ?_)
    clear hs; rintro _ H w hs hle1 ⟨q1, q2, rfl, hq1, hq2⟩; replace hle := hle.trans hle1; (try replace hlb := hlb.trans hle1)
    have hq := redR_gs (upto f g) r hdim (fun x hx => hRd.gs x hx)
    have hfree := fun L hL' => hL.free hRd hdim (L := L) hL'
    have hins := fun L hLg hL' => upto_insR hL hRd hdim (L := L) hLg hL'
    have hil := fun L hLg hL' => insF_leads hL hRd hdim (L := L) hLg hL'
    have hout : lead (redR (upto f g) r).1 < 0 → insR g s (upto f g) r = (false, upto f g) := fun h => insR_out hdim h
    generalize hqd : redR (upto f g) r = q at hq hq1 hq2 hfree hins hil hout
    obtain ⟨b3, c3, rfl⟩ := hq1.form
    obtain ⟨b4, c4, rfl⟩ := hq2.form
    refine WO.stepN (OR.storeAll hs T45 rfl rfl rfl rfl rfl ?_)
    clear hs; intro w hs
    refine WO.done (WX.seq (WC.seq (WC.region (WO.step rfl (OR.fieldAddr FA45_0 rfl (WO.step rfl (OR.load T43 rfl rfl (hs.cellM (i := 0) rfl rfl) ?_)))))))
    refine WO.step rfl (OR.call hs body129 rfl rfl (refLead_ok _ q.1 _ _ hs.toSub hq1 (by rw [hq.1]; omega)) ?_)
    clear hs; rintro _ H w hs hle1 rfl; replace hle := hle.trans hle1; (try replace hlb := hlb.trans hle1)
    replace hq1 := hq1.mono hle1
    replace hq2 := hq2.mono hle1
    by_cases hz : lead q.1 < 0
    · rw [if_pos hz]
      refine WO.step rfl (OR.assign rfl (WO.done (WX.seq (WC.seq (WC.seq (WC.region (WO.step rfl ?_)))))))
      refine OR.move rfl (WO.step rfl (OR.move rfl (WO.step rfl (OR.nilCheck rfl (WO.step rfl (OR.fieldAddr FA198_0 rfl (WO.step rfl ?_)))))))
      refine OR.load T3 rfl rfl (hs.cellM (i := 1) rfl rfl) (WO.step rfl (OR.eql rfl rfl (WO.done (WX.seq ?_))))
      refine WC.yes rfl (decide_eq_true (by rw [hq.1])) ?_
      refine WC.seq (WC.region (WO.step rfl (OR.assign rfl (WO.step rfl (OR.assign rfl (WO.done (WX.seq ?_)))))))
      refine WC.ret (WX.seq_ret ?_)
      refine WX.ret2 rfl rfl rfl ?_
      rw [hout hz]
      exact ⟨_, H, [(gi, .cells ci 4, true), (gr, .cells cr 45, true)], rfl, (hs.drop 0).drop 0, by simp, ci, cr, f, rfl, hc.mono hle, hL, rfl, rfl⟩
    · rw [if_neg hz]
      have hld : 0 ≤ lead q.1 := by omega
      obtain ⟨L, hLd⟩ := Int.eq_ofNat_of_zero_le hld
      obtain ⟨hLt, hne, _⟩ := lead_some hLd
      have hLg : L < g := by rw [← hq.1]; exact hLt
      have hnone := hfree L hLd
      rw [hins L hLg hLd]
      have hil2 := hil L hLg hLd
      clear hfree hins hil hout
      rw [hLd]
      refine WO.step rfl (OR.assign rfl (WO.done (WX.seq (WC.seq (WC.seq (WC.region (WO.step rfl ?_)))))))
      refine OR.move rfl (WO.step rfl (OR.move rfl (WO.step rfl (OR.nilCheck rfl (WO.step rfl (OR.fieldAddr FA198_0 rfl (WO.step rfl ?_)))))))
      refine OR.load T3 rfl rfl (hs.cellM (i := 1) rfl rfl) (WO.step rfl (OR.eql rfl rfl (WO.done (WX.seq ?_))))
      refine WC.no rfl (decide_eq_false (by omega)) ?_
      obtain ⟨xb, xo, rfl, hcr⟩ := hq1.pos (by omega)
      refine WC.skip (WX.seq (WC.seq (WC.region (WO.step rfl (OR.fieldAddr FA45_0 rfl (WO.step rfl (OR.load T43 rfl rfl (hs.cellM (i := 0) rfl rfl) ?_)))))))
      refine WO.step rfl (OR.move rfl ?_)
      refine WO.step rfl (OR.idx L T43.und T5 rfl rfl rfl hLt ?_)
      refine WO.step rfl (OR.load T5 rfl rfl (hs.cell (hcr L hLt)) ?_)
      refine WO.step rfl (OR.call hs body130 rfl rfl (refInv_ok q.1[L] hne _ _ hs.toSub) ?_)
      clear hs; rintro _ H w hs hle1 rfl; replace hle := hle.trans hle1; (try replace hlb := hlb.trans hle1)
      replace hq1 := hq1.mono hle1
      replace hq2 := hq2.mono hle1
      refine WO.step rfl (OR.move rfl (WO.step rfl (OR.extract rfl rfl (WO.step rfl (OR.extract rfl rfl (WO.step rfl (OR.assign rfl ?_)))))))
      refine WO.step rfl (OR.assign rfl (WO.done (WX.seq (WC.seq ?_))))
      have hlb := Hp.le.refl H
      refine WC.draw 12 mixed hs (by kernel_rfl) ?_
      refine ⟨MF.eq _, by intro Mx H w hle hs; refine forVals_nil (ORg.plain (OR.move rfl ?_)); exact ⟨_, [], Hp.le.refl _, hs, rfl, rfl⟩, ?_⟩
      refine ⟨MF.eq _, by intro Mx H w hle hs; refine forVals_eq rfl rfl rfl ?_; refine forVals_nil (ORg.plain (OR.nilCheck rfl ?_)); exact ⟨_, [], Hp.le.refl _, hs, rfl, rfl⟩, ?_⟩
      refine ⟨MF.eq _, by intro Mx H w hle hs; refine forVals_eq rfl rfl rfl ?_; refine forVals_nil (ORg.plain (OR.fieldAddr FA198_0 rfl ?_)); exact ⟨_, [], Hp.le.refl _, hs, rfl, rfl⟩, ?_⟩
      refine ⟨MF.eq _, by intro Mx H w hle hs; refine forVals_eq rfl rfl rfl ?_; refine forVals_nil (ORg.plain (OR.load T3 rfl rfl (hs.right.cellM (i := 1) rfl rfl) ?_)); exact ⟨_, [], Hp.le.refl _, hs, rfl, rfl⟩, ?_⟩
      refine ⟨MF.bytes (List.replicate g 0), ?_, ?_⟩
      · intro Mx H w hle2 hs; (try replace hle := hle.trans hle2); (try replace hlb := hlb.trans hle2); refine forVals_eq rfl rfl rfl ?_
        refine forVals_nil (ORg.plain (OR.make1 (m := g) hs T43.und T5 rfl rfl rfl (by omega) (by omega) ?_))
        intro z1 w hz1 hs
        obtain ⟨H, hle1, hp, hs⟩ := hs.pub1 hz1
        exact ⟨_, [], hle1, hs, (by have := Bytes.block (l := List.replicate g 0) (cap := g) hp (by simp) (by simp); rwa [List.length_replicate] at this), rfl⟩
      refine ⟨MF.eq _, by intro Mx H w hle hs; refine forVals_nil (ORg.plain (OR.move rfl ?_)); exact ⟨_, [], Hp.le.refl _, hs, rfl, rfl⟩, ?_⟩
      refine ⟨MF.eq _, by intro Mx H w hle hs; refine forVals_eq rfl rfl rfl ?_; refine forVals_nil (ORg.plain (OR.nilCheck rfl ?_)); exact ⟨_, [], Hp.le.refl _, hs, rfl, rfl⟩, ?_⟩
      refine ⟨MF.eq _, by intro Mx H w hle hs; refine forVals_eq rfl rfl rfl ?_; refine forVals_nil (ORg.plain (OR.fieldAddr FA198_1 rfl ?_)); exact ⟨_, [], Hp.le.refl _, hs, rfl, rfl⟩, ?_⟩
      refine ⟨MF.eq _, by intro Mx H w hle hs; refine forVals_eq rfl rfl rfl ?_; refine forVals_nil (ORg.plain (OR.load T3 rfl rfl (hs.right.cellM (i := 1) rfl rfl) ?_)); exact ⟨_, [], Hp.le.refl _, hs, rfl, rfl⟩, ?_⟩
      refine ⟨MF.bytes (List.replicate s 0), ?_, ?_⟩
      · intro Mx H w hle2 hs; (try replace hle := hle.trans hle2); (try replace hlb := hlb.trans hle2); refine forVals_eq rfl rfl rfl ?_
        refine forVals_nil (ORg.plain (OR.make1 (m := s) hs T43.und T5 rfl rfl rfl (by omega) (by omega) ?_))
        intro z1 w hz1 hs
        obtain ⟨H, hle1, hp, hs⟩ := hs.pub1 hz1
        exact ⟨_, [], hle1, hs, (by have := Bytes.block (l := List.replicate s 0) (cap := s) hp (by simp) (by simp); rwa [List.length_replicate] at this), rfl⟩
      refine ⟨MF.row (List.replicate g 0, List.replicate s 0), ?_, ?_⟩
      · intro Mx H w hle2 hs; (try replace hle := hle.trans hle2); (try replace hlb := hlb.trans hle2); refine forVals_of rfl rfl rfl ?_; intro v4 h4; refine forVals_of rfl rfl rfl ?_; intro v9 h9
        obtain ⟨_, _, rfl⟩ := h4.form
        obtain ⟨_, _, rfl⟩ := h9.form
        refine forVals_nil (ORg.plain (OR.buildAll T45 rfl rfl PL45 rfl rfl ?_))
        exact ⟨_, [], Hp.le.refl _, hs, ⟨_, _, rfl, h4, h9⟩, rfl⟩
      refine ⟨MF.ptr w0.heap.size _, by intro Mx H w hle hs; refine forVals_nil (ORg.plain (OR.alloc hs T45 ?_)); intro g w hg hs; exact ⟨_, [_], Hp.le.refl _, hs, g, hg, rfl, rfl⟩, ?_⟩
      intro H w hle2; (try replace hle := hle.trans hle2); (try replace hlb := hlb.trans hle2)
      refine forAllVals_eq rfl ?_
      refine forAllVals_eq rfl ?_
      refine forAllVals_eq rfl ?_
      refine forAllVals_eq rfl ?_
      refine forAllVals_of rfl ?_; intro v4 h4
      refine forAllVals_eq rfl ?_
      refine forAllVals_eq rfl ?_
      refine forAllVals_eq rfl ?_
      refine forAllVals_eq rfl ?_
      refine forAllVals_of rfl ?_; intro v9 h9
      refine forAllVals_of rfl ?_; intro v10 h10
      refine forAllVals_ptr rfl ?_; intro g2 hg2
      refine forAllVals_nil ?_; (try clear hs); intro hs
      obtain ⟨z1, z2, rfl, hz1, hz2⟩ := h10
      obtain ⟨b7, c7, rfl⟩ := hz1.form
      obtain ⟨b8, c8, rfl⟩ := hz2.form
      refine WO.stepN (OR.storeAll hs T45 rfl rfl rfl rfl rfl ?_)
      clear hs; intro w hs
      refine WO.done (WX.seq (WC.seq (WC.region (WO.step rfl (OR.loadAll T45 rfl rfl (hs.blk (i := 0) rfl) rfl (WO.step rfl (OR.loadAll T45 rfl rfl (hs.blk (i := 1) rfl) rfl ?_)))))))
      refine WO.step rfl (OR.move rfl ?_)
      refine WO.step rfl (OR.call hs body131 rfl rfl (refPlusR_ok (List.replicate g 0, List.replicate s 0) q _ _ _ _ _ _ _ hs.toSub hz1 hz2 (hq1.mono hlb) (hq2.mono hlb) (by simp; omega) (by simp; omega) (by simp [hq.1]) (by simp [hq.2])) ?_)
      clear hs; rintro _ H w hs hle1 hnr; replace hle := hle.trans hle1; (try replace hlb := hlb.trans hle1)
      rw [plus_zero_norm hq hLd hLt] at hnr
      obtain ⟨nc, np, rfl, hnc, hnp⟩ := hnr
      obtain ⟨b5, c5, rfl⟩ := hnc.form
      obtain ⟨b6, c6, rfl⟩ := hnp.form
      replace hs := hs.front (i := 1) rfl
      refine WO.stepN (OR.storeAll hs T45 rfl rfl rfl rfl rfl ?_)
      clear hs; intro w hs
      refine WO.done (WX.seq (WC.seq (WC.seq (WC.region (WO.step rfl (OR.assign rfl (WO.done ?_)))))))
      refine WX.seq (WC.block ?_)
      replace hs : HS [gi, gr] H0 w0 H [(g1, .cells #[.slice b5 (normR q).1.length c5, .slice b6 (normR q).2.length c6] 45, true), (rb, refObj g s gi gr, false), (gi, .cells ci 4, true), (gr, .cells cr 45, true)] w := hs.drop 1
      obtain ⟨HN, hHN⟩ : ∃ X, X = H := ⟨_, rfl⟩
      subst hHN
      clear hlb
      refine WC.loop (ι := Nat) (fun k => [(0, ptr rb), (3, ptr g1), (6, .int .i64 (L : Int)), (10, .int .i64 (k : Int))]) (fun k w => (k ≤ g ∧ ∃ H2 cr2, Hp.le H0 H2 ∧ Hp.le HN H2 ∧ RefC H2 g (partF q f k) ci cr2 ∧ HS [gi, gr] H0 w0 H2 [(g1, .cells #[.slice b5 (normR q).1.length c5, .slice b6 (normR q).2.length c6] 45, true), (rb, refObj g s gi gr, false), (gi, .cells ci 4, true), (gr, .cells cr2 45, true)] w)) (fun k => g - k) 0 ⟨rfl, rfl, rfl, rfl,  trivial⟩ ?_ (fun k w hW => ?_)
      · exact ⟨by omega, HN, cr, hle, Hp.le.refl HN, (hc.mono hle).congr (fun i _ => by unfold partF; rw [if_neg (by omega)]), hs⟩
      clear hs hle
      obtain ⟨hk, H2, cr2, hle, hlb, hc2, hs⟩ := hW
      refine WC.seq (WC.seq (WC.region (WO.step rfl (OR.move rfl (WO.step rfl (OR.move rfl (WO.step rfl ?_)))))))
      refine OR.nilCheck rfl (WO.step rfl (OR.fieldAddr FA198_0 rfl (WO.step rfl (OR.load T3 rfl rfl (hs.cellM (i := 1) rfl rfl) (WO.step rfl (OR.lss rfl rfl (WO.done ?_)))))))
      refine WX.seq ?_
      refine WC.condD rfl (fun hlt => ?_) (fun hlt => ?_)
      · have hk' : k < g := by omega
        obtain ⟨h1, ec, ep, h2, h3, h4⟩ := hc2.2.2 k hk'
        have hpk : partF q f k k = f k := by unfold partF; rw [if_neg (by omega)]
        rw [hpk] at h1 h4
        refine WC.skip (WX.seq (WC.seq (WC.block (WC.seq (WC.region (WO.step rfl (OR.move rfl ?_)))))))
        refine WO.step rfl (OR.nilCheck rfl (WO.step rfl (OR.fieldAddr FA198_2 rfl (WO.step rfl (OR.load T63 rfl rfl (hs.cellM (i := 1) rfl rfl) (WO.step rfl (OR.move rfl ?_)))))))
        refine WO.step rfl (OR.idx k T63.und T4 rfl rfl rfl hk' ?_)
        refine WO.step rfl (OR.load T4 rfl rfl (cells_at (j := 0) (hs.blk (i := 2) rfl) (by rw [Nat.zero_add]; exact h1)) ?_)
        refine WO.done (WX.seq ?_)
        refine WC.cond rfl (fun hb => ?_) (fun hb => ?_)
        · obtain ⟨x, hx⟩ := Option.isSome_iff_exists.1 hb
          obtain ⟨hec, hep⟩ := h4 x hx
          have hxg := (hL k x hx).2.2
          obtain ⟨e1, e2, rfl⟩ := hec.form
          obtain ⟨e3, e4, rfl⟩ := hep.form
          obtain ⟨yb, yo, rfl, hcy⟩ := hec.pos (by rw [hxg.1]; omega)
          have hLx : L < x.1.length := by rw [hxg.1]; exact hLg
          have hcy2 := hcy L hLx
          have hgd : x.1.getD (lead q.1).toNat 0 = x.1[L] := by rw [hLd]; simp [hLx]
          have hngs := norm_gs hq
          obtain ⟨HB, hHB⟩ : ∃ X, X = H2 := ⟨_, rfl⟩
          subst hHB
          have hlc := hlb
          clear hlb
          have hlb := Hp.le.refl HB
          refine WC.draw 25 mixed hs (by kernel_rfl) ?_
          refine ⟨MF.eq _, by intro Mx H w hle hs; refine forVals_nil (ORg.plain (OR.move rfl ?_)); exact ⟨_, [], Hp.le.refl _, hs, rfl, rfl⟩, ?_⟩
          refine ⟨MF.eq _, by intro Mx H w hle hs; refine forVals_eq rfl rfl rfl ?_; refine forVals_nil (ORg.plain (OR.nilCheck rfl ?_)); exact ⟨_, [], Hp.le.refl _, hs, rfl, rfl⟩, ?_⟩
          refine ⟨MF.eq _, by intro Mx H w hle hs; refine forVals_eq rfl rfl rfl ?_; refine forVals_nil (ORg.plain (OR.fieldAddr FA198_3 rfl ?_)); exact ⟨_, [], Hp.le.refl _, hs, rfl, rfl⟩, ?_⟩
          refine ⟨MF.eq _, by intro Mx H w hle hs; refine forVals_eq rfl rfl rfl ?_; refine forVals_nil (ORg.plain (OR.load T97 rfl rfl (hs.right.cellM (i := 1) rfl rfl) ?_)); exact ⟨_, [], Hp.le.refl _, hs, rfl, rfl⟩, ?_⟩
          refine ⟨MF.eq _, by intro Mx H w hle hs; refine forVals_nil (ORg.plain (OR.move rfl ?_)); exact ⟨_, [], Hp.le.refl _, hs, rfl, rfl⟩, ?_⟩
          refine ⟨MF.eq _, by intro Mx H w hle hs; refine forVals_nil (ORg.plain (OR.move rfl ?_)); exact ⟨_, [], Hp.le.refl _, hs, rfl, rfl⟩, ?_⟩
          refine ⟨MF.eq _, by intro Mx H w hle hs; refine forVals_eq rfl rfl rfl ?_; refine forVals_nil (ORg.plain (OR.nilCheck rfl ?_)); exact ⟨_, [], Hp.le.refl _, hs, rfl, rfl⟩, ?_⟩
          refine ⟨MF.eq _, by intro Mx H w hle hs; refine forVals_eq rfl rfl rfl ?_; refine forVals_nil (ORg.plain (OR.fieldAddr FA198_3 rfl ?_)); exact ⟨_, [], Hp.le.refl _, hs, rfl, rfl⟩, ?_⟩
          refine ⟨MF.eq _, by intro Mx H w hle hs; refine forVals_eq rfl rfl rfl ?_; refine forVals_nil (ORg.plain (OR.load T97 rfl rfl (hs.right.cellM (i := 1) rfl rfl) ?_)); exact ⟨_, [], Hp.le.refl _, hs, rfl, rfl⟩, ?_⟩
          refine ⟨MF.eq _, by intro Mx H w hle hs; refine forVals_nil (ORg.plain (OR.move rfl ?_)); exact ⟨_, [], Hp.le.refl _, hs, rfl, rfl⟩, ?_⟩
          refine ⟨MF.eq (.pointer (some ⟨gr, 0 + k * 2, none⟩)), ?_, ?_⟩
          · intro Mx H w hle2 hs; (try replace hle := hle.trans hle2); (try replace hlb := hlb.trans hle2); refine forVals_eq rfl rfl rfl ?_; refine forVals_eq rfl rfl rfl ?_
            refine forVals_nil (ORg.plain (OR.idxN k T97.und T45 rfl rfl rfl hk' ?_))
            exact ⟨_, [], Hp.le.refl _, hs, rfl, rfl⟩
          refine ⟨MF.eq (.agg #[.slice (some ⟨yb, yo, none⟩) x.1.length e2, .slice e3 x.2.length e4]), ?_, ?_⟩
          · intro Mx H w hle2 hs; (try replace hle := hle.trans hle2); (try replace hlb := hlb.trans hle2); refine forVals_eq rfl rfl rfl ?_
            refine forVals_nil (ORg.plain (OR.loadN (cs := [_, _]) T45 rfl rfl rfl (two_cells (hs.right.blk (i := 3) rfl) (by rw [Nat.zero_add]; exact h2) (by rw [Nat.zero_add]; exact h3)) ?_))
            exact ⟨_, [], Hp.le.refl _, hs, rfl, rfl⟩
          refine ⟨MF.eq _, by intro Mx H w hle hs; refine forVals_nil (ORg.plain (OR.loadAll T45 rfl rfl (hs.right.blk (i := 0) rfl) rfl ?_)); exact ⟨_, [], Hp.le.refl _, hs, rfl, rfl⟩, ?_⟩
          refine ⟨MF.eq _, by intro Mx H w hle hs; refine forVals_nil (ORg.plain (OR.move rfl ?_)); exact ⟨_, [], Hp.le.refl _, hs, rfl, rfl⟩, ?_⟩
          refine ⟨MF.eq _, by intro Mx H w hle hs; refine forVals_eq rfl rfl rfl ?_; refine forVals_nil (ORg.plain (OR.nilCheck rfl ?_)); exact ⟨_, [], Hp.le.refl _, hs, rfl, rfl⟩, ?_⟩
          refine ⟨MF.eq _, by intro Mx H w hle hs; refine forVals_eq rfl rfl rfl ?_; refine forVals_nil (ORg.plain (OR.fieldAddr FA198_3 rfl ?_)); exact ⟨_, [], Hp.le.refl _, hs, rfl, rfl⟩, ?_⟩
          refine ⟨MF.eq _, by intro Mx H w hle hs; refine forVals_eq rfl rfl rfl ?_; refine forVals_nil (ORg.plain (OR.load T97 rfl rfl (hs.right.cellM (i := 1) rfl rfl) ?_)); exact ⟨_, [], Hp.le.refl _, hs, rfl, rfl⟩, ?_⟩
          refine ⟨MF.eq _, by intro Mx H w hle hs; refine forVals_nil (ORg.plain (OR.move rfl ?_)); exact ⟨_, [], Hp.le.refl _, hs, rfl, rfl⟩, ?_⟩
          refine ⟨MF.eq (.pointer (some ⟨gr, 0 + k * 2, none⟩)), ?_, ?_⟩
          · intro Mx H w hle2 hs; (try replace hle := hle.trans hle2); (try replace hlb := hlb.trans hle2); refine forVals_eq rfl rfl rfl ?_; refine forVals_eq rfl rfl rfl ?_
            refine forVals_nil (ORg.plain (OR.idxN k T97.und T45 rfl rfl rfl hk' ?_))
            exact ⟨_, [], Hp.le.refl _, hs, rfl, rfl⟩
          refine ⟨MF.eq _, by intro Mx H w hle hs; refine forVals_eq rfl rfl rfl ?_; refine forVals_nil (ORg.plain (OR.fieldAddr FA45_0 rfl ?_)); exact ⟨_, [], Hp.le.refl _, hs, rfl, rfl⟩, ?_⟩
          refine ⟨MF.eq (.slice (some ⟨yb, yo, none⟩) x.1.length e2), ?_, ?_⟩
          · intro Mx H w hle2 hs; (try replace hle := hle.trans hle2); (try replace hlb := hlb.trans hle2); refine forVals_eq rfl rfl rfl ?_
            refine forVals_nil (ORg.plain (OR.load T43 rfl rfl (cells_at (j := 0) (hs.right.blk (i := 3) rfl) (by rw [Nat.zero_add]; exact h2)) ?_))
            exact ⟨_, [], Hp.le.refl _, hs, rfl, rfl⟩
          refine ⟨MF.eq _, by intro Mx H w hle hs; refine forVals_nil (ORg.plain (OR.move rfl ?_)); exact ⟨_, [], Hp.le.refl _, hs, rfl, rfl⟩, ?_⟩
          refine ⟨MF.eq (.pointer (some ⟨yb, yo + L, none⟩)), ?_, ?_⟩
          · intro Mx H w hle2 hs; (try replace hle := hle.trans hle2); (try replace hlb := hlb.trans hle2); refine forVals_eq rfl rfl rfl ?_; refine forVals_eq rfl rfl rfl ?_
            refine forVals_nil (ORg.plain (OR.idx L T43.und T5 rfl rfl rfl hLx ?_))
            exact ⟨_, [], Hp.le.refl _, hs, rfl, rfl⟩
          refine ⟨MF.eq (B x.1[L]), ?_, ?_⟩
          · intro Mx H w hle2 hs; (try replace hle := hle.trans hle2); (try replace hlb := hlb.trans hle2); refine forVals_eq rfl rfl rfl ?_
            refine forVals_nil (ORg.plain (OR.load T5 rfl rfl (hs.cell (hcell.mono hlb hcy2)) ?_))
            exact ⟨_, [], Hp.le.refl _, hs, rfl, rfl⟩
          refine ⟨MF.row (freeR q x), ?_, ?_⟩
          · intro Mx H w hle2 hs; (try replace hle := hle.trans hle2); (try replace hlb := hlb.trans hle2); refine forVals_eq rfl rfl rfl ?_; refine forVals_eq rfl rfl rfl ?_; refine forVals_eq rfl rfl rfl ?_
            refine forVals_nil (ORg.plain (OR.call hs body131 rfl rfl (refPlusR_ok x (normR q) _ _ _ _ _ _ _ hs.toSub (hec.mono hlb) (hep.mono hlb) (hnc.mono (hlc.trans hlb)) (hnp.mono (hlc.trans hlb)) (by rw [hxg.1]; omega) (by rw [hxg.2]; omega) (hxg.1.trans hngs.1.symm) (hxg.2.trans hngs.2.symm)) ?_))
            clear hs; rintro _ H w hs hle1 hq
            exact ⟨_, [], hle1, hs, (by rw [freeR, hgd]; exact hq), rfl⟩
          intro H w hle2; (try replace hle := hle.trans hle2); (try replace hlb := hlb.trans hle2)
          refine forAllVals_eq rfl ?_
          refine forAllVals_eq rfl ?_
          refine forAllVals_eq rfl ?_
          refine forAllVals_eq rfl ?_
          refine forAllVals_eq rfl ?_
          refine forAllVals_eq rfl ?_
          refine forAllVals_eq rfl ?_
          refine forAllVals_eq rfl ?_
          refine forAllVals_eq rfl ?_
          refine forAllVals_eq rfl ?_
          refine forAllVals_eq rfl ?_
          refine forAllVals_eq rfl ?_
          refine forAllVals_eq rfl ?_
          refine forAllVals_eq rfl ?_
          refine forAllVals_eq rfl ?_
          refine forAllVals_eq rfl ?_
          refine forAllVals_eq rfl ?_
          refine forAllVals_eq rfl ?_
          refine forAllVals_eq rfl ?_
          refine forAllVals_eq rfl ?_
          refine forAllVals_eq rfl ?_
          refine forAllVals_eq rfl ?_
          refine forAllVals_eq rfl ?_
          refine forAllVals_eq rfl ?_
          refine forAllVals_of rfl ?_; intro v24 h24
          refine forAllVals_nil ?_; (try clear hs); intro hs
          obtain ⟨wc, wp, rfl, hwc, hwp⟩ := h24
          obtain ⟨b9, c9, rfl⟩ := hwc.form
          obtain ⟨b10, c10, rfl⟩ := hwp.form
          refine WO.step rfl (OR.idxN k T97.und T45 rfl rfl rfl hk' ?_)
          replace hs := hs.front (i := 3) rfl
          refine WO.stepN (OR.store hs T45 rfl rfl rfl (by rw [hc2.2.1]; omega) rfl ?_)
          clear hs; intro w hs
          refine WO.done (WX.block (WX.seq (WC.region (WO.step rfl (OR.move rfl (WO.step rfl (OR.addI rfl rfl (by omega) (by omega) ?_)))))))
          refine WO.step rfl (OR.assign rfl (WO.done ?_))
          replace hs := hs.front (i := 3) rfl
          replace hs := hs.front (i := 3) rfl
          replace hs := hs.front (i := 3) rfl
          refine WX.again (k + 1) ⟨rfl, rfl, rfl, rfl,  trivial⟩ ?_ ?_
          · refine ⟨hk', _, _, hle, hlc.trans hlb, ?_, hs⟩
            rw [Nat.zero_add]
            refine ((hc2.mono hlb).setR hk' (x := freeR q x) (by rw [hpk, hx]; rfl) hwc hwp).congr fun i hi => ?_
            unfold partF
            by_cases e : i = k
            · subst e
              rw [if_pos rfl, if_pos (by omega), hx]
              rfl
            · rw [if_neg e]
              by_cases e2 : i < k
              · rw [if_pos e2, if_pos (by omega)]
              · rw [if_neg e2, if_neg (by omega)]
          · omega
        · have hx : f k = none := by
            cases hf : f k with
            | none => rfl
            | some r => rw [hf] at hb; cases hb
          refine WC.skip (WX.block (WX.seq (WC.region (WO.step rfl (OR.move rfl (WO.step rfl (OR.addI rfl rfl (by omega) (by omega) ?_)))))))
          refine WO.step rfl (OR.assign rfl (WO.done ?_))
          refine WX.again (k + 1) ⟨rfl, rfl, rfl, rfl,  trivial⟩ ?_ ?_
          · refine ⟨hk', _, cr2, hle, hlb, hc2.congr fun i hi => ?_, hs⟩
            unfold partF
            by_cases e : i = k
            · subst e
              rw [if_neg (by omega), if_pos (by omega), hx]
              rfl
            · by_cases e2 : i < k
              · rw [if_pos e2, if_pos (by omega)]
              · rw [if_neg e2, if_neg (by omega)]
          · omega
      · have e : k = g := by omega
        subst e
        refine WC.exit (WX.seq_exit (WX.loop_exit (WX.block_hit (WX.seq (WC.seq (WC.region (WO.step rfl ?_)))))))
        refine OR.move rfl (WO.step rfl (OR.nilCheck rfl (WO.step rfl (OR.fieldAddr FA198_2 rfl (WO.step rfl (OR.load T63 rfl rfl (hs.cellM (i := 1) rfl rfl) (WO.step rfl ?_)))))))
        refine OR.move rfl ?_
        refine WO.step rfl (OR.idx L T63.und T4 rfl rfl rfl hLg ?_)
        replace hs := hs.front (i := 2) rfl
        refine WO.stepN (OR.store hs T4 rfl rfl rfl (by rw [hc2.1]; omega) rfl ?_)
        clear hs; intro w hs
        refine WO.done (WX.seq (WC.seq ?_))
        refine WC.draw 6 mixed hs (by kernel_rfl) ?_
        refine ⟨MF.eq _, by intro Mx H w hle hs; refine forVals_nil (ORg.plain (OR.move rfl ?_)); exact ⟨_, [], Hp.le.refl _, hs, rfl, rfl⟩, ?_⟩
        refine ⟨MF.eq _, by intro Mx H w hle hs; refine forVals_eq rfl rfl rfl ?_; refine forVals_nil (ORg.plain (OR.nilCheck rfl ?_)); exact ⟨_, [], Hp.le.refl _, hs, rfl, rfl⟩, ?_⟩
        refine ⟨MF.eq _, by intro Mx H w hle hs; refine forVals_eq rfl rfl rfl ?_; refine forVals_nil (ORg.plain (OR.fieldAddr FA198_3 rfl ?_)); exact ⟨_, [], Hp.le.refl _, hs, rfl, rfl⟩, ?_⟩
        refine ⟨MF.eq _, by intro Mx H w hle hs; refine forVals_eq rfl rfl rfl ?_; refine forVals_nil (ORg.plain (OR.load T97 rfl rfl (hs.right.cellM (i := 2) rfl rfl) ?_)); exact ⟨_, [], Hp.le.refl _, hs, rfl, rfl⟩, ?_⟩
        refine ⟨MF.eq _, by intro Mx H w hle hs; refine forVals_nil (ORg.plain (OR.move rfl ?_)); exact ⟨_, [], Hp.le.refl _, hs, rfl, rfl⟩, ?_⟩
        refine ⟨MF.eq _, by intro Mx H w hle hs; refine forVals_nil (ORg.plain (OR.loadAll T45 rfl rfl (hs.right.blk (i := 1) rfl) rfl ?_)); exact ⟨_, [], Hp.le.refl _, hs, rfl, rfl⟩, ?_⟩
        intro H w hle2; (try replace hle := hle.trans hle2); (try replace hlb := hlb.trans hle2)
        refine forAllVals_eq rfl ?_
        refine forAllVals_eq rfl ?_
        refine forAllVals_eq rfl ?_
        refine forAllVals_eq rfl ?_
        refine forAllVals_eq rfl ?_
        refine forAllVals_eq rfl ?_
        refine forAllVals_nil ?_; (try clear hs); intro hs
        refine WO.step rfl (OR.idxN L T97.und T45 rfl rfl rfl hLg ?_)
        replace hs := hs.front (i := 3) rfl
        refine WO.stepN (OR.store hs T45 rfl rfl rfl (by rw [hc2.2.1]; omega) rfl ?_)
        clear hs; intro w hs
        refine WO.done (WX.seq (WC.seq (WC.region (WO.step rfl (OR.assign rfl (WO.step rfl (OR.assign rfl ?_)))))))
        refine WO.done (WX.seq (WC.ret ?_))
        replace hs := hs.front (i := 1) rfl
        refine WX.ret2 rfl rfl rfl ?_
        rw [Nat.zero_add, Nat.zero_add] at hs
        refine ⟨_, H, _, rfl, (hs.drop 2).drop 2, by simp [dropAt], _, _, insF q L f, rfl, ?_, hil2, rfl, rfl⟩
        refine ((hc2.mono hle2).setB hLg (x := normR q) (hnc.mono hlb) (hnp.mono hlb)).congr fun i hi => ?_
        unfold partF insF
        by_cases e : i = L
        · rw [if_pos e, if_pos e]
        · rw [if_neg e, if_neg e, if_pos hi]
  · simp only [if_neg hdim]
    have hone : insR g s (upto f g) r = (false, upto f g) := by rw [insR, if_neg hdim]
    rw [hone]
    by_cases hd1 : r.1.length = g
    · have hd2 : ¬ r.2.length = s := fun h => hdim ⟨hd1, h⟩
      refine WC.draw 18 mixed hs (by kernel_rfl) ?_
      refine ⟨MF.eq _, by intro Mx H w hle hs; refine forVals_nil (ORg.plain (OR.fieldAddr FA45_0 rfl ?_)); exact ⟨_, [], Hp.le.refl _, hs, rfl, rfl⟩, ?_⟩
      refine ⟨MF.eq _, by intro Mx H w hle hs; refine forVals_eq rfl rfl rfl ?_; refine forVals_nil (ORg.plain (OR.load T43 rfl rfl (hs.right.cellM (i := 0) rfl rfl) ?_)); exact ⟨_, [], Hp.le.refl _, hs, rfl, rfl⟩, ?_⟩
      refine ⟨MF.eq _, by intro Mx H w hle hs; refine forVals_eq rfl rfl rfl ?_; refine forVals_nil (ORg.plain (OR.lenSlice T43.und rfl ?_)); exact ⟨_, [], Hp.le.refl _, hs, rfl, rfl⟩, ?_⟩
      refine ⟨MF.eq _, by intro Mx H w hle hs; refine forVals_nil (ORg.plain (OR.move rfl ?_)); exact ⟨_, [], Hp.le.refl _, hs, rfl, rfl⟩, ?_⟩
      refine ⟨MF.eq _, by intro Mx H w hle hs; refine forVals_eq rfl rfl rfl ?_; refine forVals_nil (ORg.plain (OR.nilCheck rfl ?_)); exact ⟨_, [], Hp.le.refl _, hs, rfl, rfl⟩, ?_⟩
      refine ⟨MF.eq _, by intro Mx H w hle hs; refine forVals_eq rfl rfl rfl ?_; refine forVals_nil (ORg.plain (OR.fieldAddr FA198_0 rfl ?_)); exact ⟨_, [], Hp.le.refl _, hs, rfl, rfl⟩, ?_⟩
      refine ⟨MF.eq _, by intro Mx H w hle hs; refine forVals_eq rfl rfl rfl ?_; refine forVals_nil (ORg.plain (OR.load T3 rfl rfl (hs.right.cellM (i := 1) rfl rfl) ?_)); exact ⟨_, [], Hp.le.refl _, hs, rfl, rfl⟩, ?_⟩
      refine ⟨MF.eq _, by intro Mx H w hle hs; refine forVals_eq rfl rfl rfl ?_; refine forVals_eq rfl rfl rfl ?_; refine forVals_nil (ORg.plain (OR.neq rfl rfl ?_)); exact ⟨_, [], Hp.le.refl _, hs, rfl, rfl⟩, ?_⟩
      refine ⟨MF.eq _, by intro Mx H w hle hs; refine forVals_eq rfl rfl rfl ?_; refine forVals_nil (ORg.plain (OR.move rfl ?_)); exact ⟨_, [], Hp.le.refl _, hs, rfl, rfl⟩, ?_⟩
      refine ⟨MF.eq _, by intro Mx H w hle hs; refine forVals_eq rfl rfl rfl ?_; refine forVals_nil (ORg.yes rfl (decide_eq_false (by omega : ¬ ((r.1.length : Int) ≠ (g : Int)))) rfl (OR.fieldAddr FA45_1 rfl ?_)); exact ⟨_, [], Hp.le.refl _, hs, rfl, rfl⟩, ?_⟩
      refine ⟨MF.eq _, by intro Mx H w hle hs; refine forVals_eq rfl rfl rfl ?_; refine forVals_eq rfl rfl rfl ?_; refine forVals_nil (ORg.yes rfl (decide_eq_false (by omega : ¬ ((r.1.length : Int) ≠ (g : Int)))) rfl (OR.load T43 rfl rfl (hs.right.cellM (i := 0) rfl rfl) ?_)); exact ⟨_, [], Hp.le.refl _, hs, rfl, rfl⟩, ?_⟩
      refine ⟨MF.eq _, by intro Mx H w hle hs; refine forVals_eq rfl rfl rfl ?_; refine forVals_eq rfl rfl rfl ?_; refine forVals_nil (ORg.yes rfl (decide_eq_false (by omega : ¬ ((r.1.length : Int) ≠ (g : Int)))) rfl (OR.lenSlice T43.und rfl ?_)); exact ⟨_, [], Hp.le.refl _, hs, rfl, rfl⟩, ?_⟩
      refine ⟨MF.eq _, by intro Mx H w hle hs; refine forVals_eq rfl rfl rfl ?_; refine forVals_nil (ORg.yes rfl (decide_eq_false (by omega : ¬ ((r.1.length : Int) ≠ (g : Int)))) rfl (OR.move rfl ?_)); exact ⟨_, [], Hp.le.refl _, hs, rfl, rfl⟩, ?_⟩
      refine ⟨MF.eq _, by intro Mx H w hle hs; refine forVals_eq rfl rfl rfl ?_; refine forVals_eq rfl rfl rfl ?_; refine forVals_nil (ORg.yes rfl (decide_eq_false (by omega : ¬ ((r.1.length : Int) ≠ (g : Int)))) rfl (OR.nilCheck rfl ?_)); exact ⟨_, [], Hp.le.refl _, hs, rfl, rfl⟩, ?_⟩
      refine ⟨MF.eq _, by intro Mx H w hle hs; refine forVals_eq rfl rfl rfl ?_; refine forVals_eq rfl rfl rfl ?_; refine forVals_nil (ORg.yes rfl (decide_eq_false (by omega : ¬ ((r.1.length : Int) ≠ (g : Int)))) rfl (OR.fieldAddr FA198_1 rfl ?_)); exact ⟨_, [], Hp.le.refl _, hs, rfl, rfl⟩, ?_⟩
      refine ⟨MF.eq _, by intro Mx H w hle hs; refine forVals_eq rfl rfl rfl ?_; refine forVals_eq rfl rfl rfl ?_; refine forVals_nil (ORg.yes rfl (decide_eq_false (by omega : ¬ ((r.1.length : Int) ≠ (g : Int)))) rfl (OR.load T3 rfl rfl (hs.right.cellM (i := 1) rfl rfl) ?_)); exact ⟨_, [], Hp.le.refl _, hs, rfl, rfl⟩, ?_⟩
      refine ⟨MF.eq _, by intro Mx H w hle hs; refine forVals_eq rfl rfl rfl ?_; refine forVals_eq rfl rfl rfl ?_; refine forVals_eq rfl rfl rfl ?_; refine forVals_nil (ORg.yes rfl (decide_eq_false (by omega : ¬ ((r.1.length : Int) ≠ (g : Int)))) rfl (OR.neq rfl rfl ?_)); exact ⟨_, [], Hp.le.refl _, hs, rfl, rfl⟩, ?_⟩
      refine ⟨MF.eq _, by intro Mx H w hle hs; refine forVals_eq rfl rfl rfl ?_; refine forVals_eq rfl rfl rfl ?_; refine forVals_nil (ORg.plain (OR.pickF rfl (decide_eq_false (by omega : ¬ ((r.1.length : Int) ≠ (g : Int)))) rfl ?_)); exact ⟨_, [], Hp.le.refl _, hs, rfl, rfl⟩, ?_⟩
      intro H w hle2; (try replace hle := hle.trans hle2); (try replace hlb := hlb.trans hle2)
      refine forAllVals_eq rfl ?_
      refine forAllVals_eq rfl ?_
      refine forAllVals_eq rfl ?_
      refine forAllVals_eq rfl ?_
      refine forAllVals_eq rfl ?_
      refine forAllVals_eq rfl ?_
      refine forAllVals_eq rfl ?_
      refine forAllVals_eq rfl ?_
      refine forAllVals_eq rfl ?_
      refine forAllVals_eq rfl ?_
      refine forAllVals_eq rfl ?_
      refine forAllVals_eq rfl ?_
      refine forAllVals_eq rfl ?_
      refine forAllVals_eq rfl ?_
      refine forAllVals_eq rfl ?_
      refine forAllVals_eq rfl ?_
      refine forAllVals_eq rfl ?_
      refine forAllVals_eq rfl ?_
      refine forAllVals_nil ?_; (try clear hs); intro hs
      refine WO.done (WX.seq ?_)
      refine WC.yes rfl (decide_eq_true (by omega)) ?_
      refine WC.seq (WC.region (WO.step rfl (OR.assign rfl (WO.step rfl (OR.assign rfl (WO.done (WX.seq ?_)))))))
      refine WC.ret (WX.seq_ret ?_)
      refine WX.ret2 rfl rfl rfl ?_
      exact ⟨_, H, [(gi, .cells ci 4, true), (gr, .cells cr 45, true)], rfl, (hs.drop 0).drop 0, by simp, ci, cr, f, rfl, hc.mono hle, hL, rfl, rfl⟩
    · have hd2 : True := trivial
      refine WC.draw 18 mixed hs (by kernel_rfl) ?_
      refine ⟨MF.eq _, by intro Mx H w hle hs; refine forVals_nil (ORg.plain (OR.fieldAddr FA45_0 rfl ?_)); exact ⟨_, [], Hp.le.refl _, hs, rfl, rfl⟩, ?_⟩
      refine ⟨MF.eq _, by intro Mx H w hle hs; refine forVals_eq rfl rfl rfl ?_; refine forVals_nil (ORg.plain (OR.load T43 rfl rfl (hs.right.cellM (i := 0) rfl rfl) ?_)); exact ⟨_, [], Hp.le.refl _, hs, rfl, rfl⟩, ?_⟩
      refine ⟨MF.eq _, by intro Mx H w hle hs; refine forVals_eq rfl rfl rfl ?_; refine forVals_nil (ORg.plain (OR.lenSlice T43.und rfl ?_)); exact ⟨_, [], Hp.le.refl _, hs, rfl, rfl⟩, ?_⟩
      refine ⟨MF.eq _, by intro Mx H w hle hs; refine forVals_nil (ORg.plain (OR.move rfl ?_)); exact ⟨_, [], Hp.le.refl _, hs, rfl, rfl⟩, ?_⟩
      refine ⟨MF.eq _, by intro Mx H w hle hs; refine forVals_eq rfl rfl rfl ?_; refine forVals_nil (ORg.plain (OR.nilCheck rfl ?_)); exact ⟨_, [], Hp.le.refl _, hs, rfl, rfl⟩, ?_⟩
      refine ⟨MF.eq _, by intro Mx H w hle hs; refine forVals_eq rfl rfl rfl ?_; refine forVals_nil (ORg.plain (OR.fieldAddr FA198_0 rfl ?_)); exact ⟨_, [], Hp.le.refl _, hs, rfl, rfl⟩, ?_⟩
      refine ⟨MF.eq _, by intro Mx H w hle hs; refine forVals_eq rfl rfl rfl ?_; refine forVals_nil (ORg.plain (OR.load T3 rfl rfl (hs.right.cellM (i := 1) rfl rfl) ?_)); exact ⟨_, [], Hp.le.refl _, hs, rfl, rfl⟩, ?_⟩
      refine ⟨MF.eq _, by intro Mx H w hle hs; refine forVals_eq rfl rfl rfl ?_; refine forVals_eq rfl rfl rfl ?_; refine forVals_nil (ORg.plain (OR.neq rfl rfl ?_)); exact ⟨_, [], Hp.le.refl _, hs, rfl, rfl⟩, ?_⟩
      refine ⟨MF.eq _, by intro Mx H w hle hs; refine forVals_eq rfl rfl rfl ?_; refine forVals_nil (ORg.plain (OR.move rfl ?_)); exact ⟨_, [], Hp.le.refl _, hs, rfl, rfl⟩, ?_⟩
      refine ⟨MF.eq undef, by intro Mx H w hle hs; refine forVals_eq rfl rfl rfl ?_; refine forVals_nil (ORg.no rfl (decide_eq_true (by omega : ((r.1.length : Int) ≠ (g : Int)))) rfl ?_); exact ⟨_, [], Hp.le.refl _, hs, rfl, rfl⟩, ?_⟩
      refine ⟨MF.eq undef, by intro Mx H w hle hs; refine forVals_eq rfl rfl rfl ?_; refine forVals_eq rfl rfl rfl ?_; refine forVals_nil (ORg.no rfl (decide_eq_true (by omega : ((r.1.length : Int) ≠ (g : Int)))) rfl ?_); exact ⟨_, [], Hp.le.refl _, hs, rfl, rfl⟩, ?_⟩
      refine ⟨MF.eq undef, by intro Mx H w hle hs; refine forVals_eq rfl rfl rfl ?_; refine forVals_eq rfl rfl rfl ?_; refine forVals_nil (ORg.no rfl (decide_eq_true (by omega : ((r.1.length : Int) ≠ (g : Int)))) rfl ?_); exact ⟨_, [], Hp.le.refl _, hs, rfl, rfl⟩, ?_⟩
      refine ⟨MF.eq undef, by intro Mx H w hle hs; refine forVals_eq rfl rfl rfl ?_; refine forVals_nil (ORg.no rfl (decide_eq_true (by omega : ((r.1.length : Int) ≠ (g : Int)))) rfl ?_); exact ⟨_, [], Hp.le.refl _, hs, rfl, rfl⟩, ?_⟩
      refine ⟨MF.eq undef, by intro Mx H w hle hs; refine forVals_eq rfl rfl rfl ?_; refine forVals_eq rfl rfl rfl ?_; refine forVals_nil (ORg.no rfl (decide_eq_true (by omega : ((r.1.length : Int) ≠ (g : Int)))) rfl ?_); exact ⟨_, [], Hp.le.refl _, hs, rfl, rfl⟩, ?_⟩
      refine ⟨MF.eq undef, by intro Mx H w hle hs; refine forVals_eq rfl rfl rfl ?_; refine forVals_eq rfl rfl rfl ?_; refine forVals_nil (ORg.no rfl (decide_eq_true (by omega : ((r.1.length : Int) ≠ (g : Int)))) rfl ?_); exact ⟨_, [], Hp.le.refl _, hs, rfl, rfl⟩, ?_⟩
      refine ⟨MF.eq undef, by intro Mx H w hle hs; refine forVals_eq rfl rfl rfl ?_; refine forVals_eq rfl rfl rfl ?_; refine forVals_nil (ORg.no rfl (decide_eq_true (by omega : ((r.1.length : Int) ≠ (g : Int)))) rfl ?_); exact ⟨_, [], Hp.le.refl _, hs, rfl, rfl⟩, ?_⟩
      refine ⟨MF.eq undef, by intro Mx H w hle hs; refine forVals_eq rfl rfl rfl ?_; refine forVals_eq rfl rfl rfl ?_; refine forVals_eq rfl rfl rfl ?_; refine forVals_nil (ORg.no rfl (decide_eq_true (by omega : ((r.1.length : Int) ≠ (g : Int)))) rfl ?_); exact ⟨_, [], Hp.le.refl _, hs, rfl, rfl⟩, ?_⟩
      refine ⟨MF.eq _, by intro Mx H w hle hs; refine forVals_eq rfl rfl rfl ?_; refine forVals_eq rfl rfl rfl ?_; refine forVals_nil (ORg.plain (OR.pickT rfl (decide_eq_true (by omega : ((r.1.length : Int) ≠ (g : Int)))) rfl ?_)); exact ⟨_, [], Hp.le.refl _, hs, rfl, rfl⟩, ?_⟩
      intro H w hle2; (try replace hle := hle.trans hle2); (try replace hlb := hlb.trans hle2)
      refine forAllVals_eq rfl ?_
      refine forAllVals_eq rfl ?_
      refine forAllVals_eq rfl ?_
      refine forAllVals_eq rfl ?_
      refine forAllVals_eq rfl ?_
      refine forAllVals_eq rfl ?_
      refine forAllVals_eq rfl ?_
      refine forAllVals_eq rfl ?_
      refine forAllVals_eq rfl ?_
      refine forAllVals_eq rfl ?_
      refine forAllVals_eq rfl ?_
      refine forAllVals_eq rfl ?_
      refine forAllVals_eq rfl ?_
      refine forAllVals_eq rfl ?_
      refine forAllVals_eq rfl ?_
      refine forAllVals_eq rfl ?_
      refine forAllVals_eq rfl ?_
      refine forAllVals_eq rfl ?_
      refine forAllVals_nil ?_; (try clear hs); intro hs
      refine WO.done (WX.seq (WC.yes rfl rfl (WC.seq (WC.region (WO.step rfl (OR.assign rfl (WO.step rfl ?_)))))))
      refine OR.assign rfl (WO.done (WX.seq (WC.ret (WX.seq_ret ?_))))
      refine WX.ret2 rfl rfl rfl ?_
      exact ⟨_, H, [(gi, .cells ci 4, true), (gr, .cells cr 45, true)], rfl, (hs.drop 0).drop 0, by simp, ci, cr, f, rfl, hc.mono hle, hL, rfl, rfl⟩
end
end Go.Bw
