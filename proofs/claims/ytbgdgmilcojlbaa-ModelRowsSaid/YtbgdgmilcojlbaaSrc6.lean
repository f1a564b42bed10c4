/- A source: New, Symbols, Row, Send. -/
import Derived.Test.YtbgdgmilcojlbaaSrc5
import Derived.Test.YtbgdgmilcojlbaaSrc4
namespace Go.Bw
set_option linter.unusedVariables false
set_option linter.unusedSimpArgs false
open Go.Proofs

set_option maxRecDepth 20000 in
set_option maxHeartbeats 2000000 in
theorem snew_ok (g s : Nat) (H0 : Hp) (w0 : World) (h0 : Sub H0 w0) (hgs : goodGS g s) :
    Calls Try.prog 27 #[.int .i64 (g : Int), .int .i64 (s : Int)] w0 (Ret [] H0 w0 fun v H' M' => ∃ b o, v = .tuple #[ptr b, .int .i64 0] ∧ M' = [(b, o, true)] ∧ w0.heap.size ≤ b ∧ SrcIn H' (newD g s [] [] false) o) := by
  have hs := HS.init h0
  have hle := Hp.le.refl H0
  refine Calls.enter (args := [.int .i64 (g : Int), .int .i64 (s : Int)]) Try.func27 rfl Try.ntmps27 rfl ?_
  refine WC.seq (WC.region (WO.step rfl (OR.assign rfl (WO.step rfl (OR.assign rfl (WO.done (WX.seq ?_)))))))
  refine WC.seq (WC.region (WO.step rfl (OR.move rfl (WO.step rfl (OR.move rfl ?_)))))
  refine WO.step rfl (OR.callX (Mx := []) hs body50 rfl rfl (restore_ok g s (.slice none 0 0) (.slice none 0 0) [] [] false _ _ hs.toSub hgs (Sl.empty _ _ _) (Sl.empty _ _ _) (by simp) (by simp)) rfl rfl ?_)
  clear hs; rintro _ H M' w hs hle1 hnew hres; replace hle := hle.trans hle1; (try replace hlb := hlb.trans hle1)
  rw [if_pos ⟨rfl, fun h => by cases h⟩] at hres
  obtain ⟨b, o, rfl, rfl, hb, hsrc⟩ := hres
  refine WO.step rfl (OR.extract rfl rfl (WO.step rfl (OR.extract rfl rfl (WO.step rfl (OR.assign rfl (WO.step rfl (OR.assign rfl ?_)))))))
  refine WO.done (WX.seq (WC.ret ?_))
  refine WX.ret2 rfl rfl rfl ?_
  exact ⟨_, H, _, rfl, hs, by simp, b, o, rfl, rfl, hb, hsrc⟩
set_option maxRecDepth 20000 in
set_option maxHeartbeats 2000000 in
theorem snew_bad (g s : Int) (H0 : Hp) (w0 : World) (h0 : Sub H0 w0) (hgs : ¬ goodGS g s) :
    Calls Try.prog 27 #[.int .i64 g, .int .i64 s] w0 (Pure H0 w0 fun v _ => v = .tuple #[.pointer none, .int .i64 1]) := by
  have hs := HS.init h0
  have hle := Hp.le.refl H0
  refine Calls.enter (args := [.int .i64 g, .int .i64 s]) Try.func27 rfl Try.ntmps27 rfl ?_
  refine WC.seq (WC.region (WO.step rfl (OR.assign rfl (WO.step rfl (OR.assign rfl (WO.done (WX.seq ?_)))))))
  refine WC.seq (WC.region (WO.step rfl (OR.move rfl (WO.step rfl (OR.move rfl ?_)))))
  refine WO.step rfl (OR.call hs body50 rfl rfl (restore_bad g s none none 0 0 0 0 false _ _ hs.toSub (.inl hgs)) ?_)
  clear hs; rintro _ H w hs hle1 rfl; replace hle := hle.trans hle1; (try replace hlb := hlb.trans hle1)
  refine WO.step rfl (OR.extract rfl rfl (WO.step rfl (OR.extract rfl rfl (WO.step rfl (OR.assign rfl (WO.step rfl (OR.assign rfl ?_)))))))
  refine WO.done (WX.seq (WC.ret ?_))
  refine WX.ret2 rfl rfl rfl ?_
  exact .mk hs rfl

theorem whole_mem {room a n : Nat} {st : List UInt8} {c : List UInt8} (h : c ∈ wholeL room st a n) (hle : a + n * room ≤ st.length) : c.length = room := by
  simp only [wholeL, List.mem_map, List.mem_range] at h
  obtain ⟨k, hk, rfl⟩ := h
  have : (k + 1) * room ≤ n * room := Nat.mul_le_mul_right _ hk
  rw [Nat.add_mul, Nat.one_mul] at this
  simp
  omega
theorem step_mem {room : Nat} {st : List UInt8} (hr : 1 ≤ room) {p : List (List UInt8) × Nat} {cut : Nat} (hp : ∀ c ∈ p.1, 1 ≤ c.length ∧ c.length ≤ room) (h1 : p.2 ≤ cut) (h2 : cut ≤ st.length) :
    ∀ c ∈ (chunkStep room st p ((cut : Nat) : Int)).1, 1 ≤ c.length ∧ c.length ≤ room := by
  intro c hc
  have hd : (cut - p.2) / room * room ≤ cut - p.2 := Nat.div_mul_le_self _ _
  have hm : (cut - p.2) % room < room := Nat.mod_lt _ (by omega)
  have hdm := Nat.div_add_mod (cut - p.2) room
  rw [Nat.mul_comm] at hdm
  rw [chunkStep, List.mem_append, List.mem_append] at hc
  rcases hc with (hc | hc) | hc
  · exact hp c hc
  · have := whole_mem hc (by rw [Int.toNat_natCast]; omega)
    omega
  · simp only [Int.toNat_natCast, cutPiece] at hc
    split at hc
    · simp only [List.mem_singleton] at hc
      subst hc
      simp
      omega
    · cases hc
theorem chunkP_mem {room : Nat} {st : List UInt8} (hr : 1 ≤ room) : ∀ (cuts : List Int) (p : List (List UInt8) × Nat), (∀ c ∈ p.1, 1 ≤ c.length ∧ c.length ≤ room) → p.2 ≤ st.length → cutsOk st.length (p.2 : Int) cuts = true →
    (∀ c ∈ (cuts.foldl (chunkStep room st) p).1, 1 ≤ c.length ∧ c.length ≤ room) ∧ (cuts.foldl (chunkStep room st) p).2 ≤ st.length
  | [], p, h1, h2, _ => ⟨h1, h2⟩
  | c :: cs, p, h1, h2, h => by
    simp only [cutsOk, Bool.and_eq_true, decide_eq_true_eq] at h
    obtain ⟨⟨h3, h4⟩, h5⟩ := h
    obtain ⟨k, rfl⟩ := Int.eq_ofNat_of_zero_le (show 0 ≤ c by omega)
    have hk : (chunkStep room st p ((k : Nat) : Int)).2 = k := rfl
    exact chunkP_mem hr cs _ (step_mem hr h1 (by omega) (by omega)) (by rw [hk]; omega) (by rw [hk]; exact h5)
theorem chunksF_mem {room : Nat} {st : List UInt8} {cuts : List Int} (hr : 1 ≤ room) (h : cutsOk st.length 0 cuts = true) : ∀ c ∈ chunksF room st cuts, 1 ≤ c.length ∧ c.length ≤ room := by
  have h1 := chunkP_mem (st := st) hr cuts ([], 0) (by simp) (Nat.zero_le _) h
  intro c hc
  rw [chunksF, List.mem_append] at hc
  rcases hc with hc | hc
  · exact h1.1 c hc
  · have h2 : (st.length - (chunkP room st cuts).2) / room * room ≤ st.length - (chunkP room st cuts).2 := Nat.div_mul_le_self _ _
    have h3 : (chunkP room st cuts).2 ≤ st.length := h1.2
    have := whole_mem hc (by omega)
    omega
theorem SrcOk.mem {x : SrcD} (h : SrcOk x) : ∀ c ∈ x.chunks, 1 ≤ c.length ∧ c.length ≤ x.g * x.s - 4 := by
  rw [h.ch]
  exact chunksF_mem h.room h.cuts
theorem SrcOk.nat {x : SrcD} (h : SrcOk x) : 1 ≤ x.g ∧ x.g ≤ 255 ∧ 1 ≤ x.s ∧ x.s ≤ 65535 ∧ 4 < x.g * x.s := by
  have h1 := h.gs
  have h2 : (4 : Int) < (x.g : Int) * (x.s : Int) := h1.2.2.2.2
  rw [← Int.natCast_mul] at h2
  have := h1.1
  have := h1.2.1
  have := h1.2.2.1
  have := h1.2.2.2.1
  omega

/-- Two questions that change nothing. -/
theorem first2 (v1 v2 : Value) (e1 e2 : Int) (gb cap : Nat) (xs : List Nat) (H0 H : Hp) (w0 w : World) (M : Mem) (hs : HS xs H0 w0 H ((gb, .cells #[v1, v2] 59, true) :: M) w)
    (h1 : ∃ f vf vc, v1 = .func (.func f) (List.toArray vf) (List.toArray vc) ∧ Body Try.prog f ∧ ∀ H' w', Hp.le H H' → HS xs H0 w0 H' ((gb, .cells #[v1, v2] 59, true) :: M) w' → Calls Try.prog f (vf ++ [] ++ vc).toArray w' (Pure H' w' fun v _ => v = .int .i64 e1))
    (h2 : ∃ f vf vc, v2 = .func (.func f) (List.toArray vf) (List.toArray vc) ∧ Body Try.prog f ∧ ∀ H' w', Hp.le H H' → HS xs H0 w0 H' ((gb, .cells #[v1, v2] 59, true) :: M) w' → Calls Try.prog f (vf ++ [] ++ vc).toArray w' (Pure H' w' fun v _ => v = .int .i64 e2)) :
    Calls Try.prog 94 #[.slice (some ⟨gb, 0, none⟩) 2 cap] w (fun e w' => e = .returned (.int .i64 (if e1 = 0 then e2 else e1)) ∧ ∃ H', Hp.le H H' ∧ HS xs H0 w0 H' ((gb, .cells #[v1, v2] 59, true) :: M) w') := by
  obtain ⟨f1, vf1, vc1, rfl, hb1, h1⟩ := h1
  obtain ⟨f2, vf2, vc2, rfl, hb2, h2⟩ := h2
  refine (first_ok [.func (.func f1) vf1.toArray vc1.toArray, .func (.func f2) vf2.toArray vc2.toArray] gb cap
    (fun i w' => (i = 1 → e1 = 0) ∧ (i = 2 → e1 = 0 ∧ e2 = 0) ∧ ∃ H', Hp.le H H' ∧ HS xs H0 w0 H' ((gb, .cells #[.func (.func f1) vf1.toArray vc1.toArray, .func (.func f2) vf2.toArray vc2.toArray] 59, true) :: M) w')
    (fun er w' => er = (if e1 = 0 then e2 else e1) ∧ ∃ H', Hp.le H H' ∧ HS xs H0 w0 H' ((gb, .cells #[.func (.func f1) vf1.toArray vc1.toArray, .func (.func f2) vf2.toArray vc2.toArray] 59, true) :: M) w')
    w ⟨(fun h => by cases h), (fun h => by cases h), H, Hp.le.refl H, hs⟩ (by simp) ?_ ?_ ?_).mono ?_
  · rintro i w' ⟨_, _, H', _, hs'⟩ h
    match i, h with
    | 0, _ => exact hs'.cellM (i := 0) rfl rfl
    | 1, _ => exact hs'.cellM (i := 0) rfl rfl
  · rintro i h w' ⟨q1, _, H', hle', hs'⟩
    match i, h with
    | 0, _ =>
      refine ⟨_, vf1, vc1, rfl, hb1, (h1 H' w' hle' hs').mono fun e w2 hp => ?_⟩
      obtain ⟨v, H2, rfl, hs2, hle2, rfl⟩ := hp.step hs'
      by_cases hz : e1 = 0
      · exact ⟨e1, rfl, .inl ⟨hz, (fun _ => hz), (fun h => by cases h), H2, hle'.trans hle2, hs2⟩⟩
      · exact ⟨e1, rfl, .inr ⟨hz, by rw [if_neg hz], H2, hle'.trans hle2, hs2⟩⟩
    | 1, _ =>
      refine ⟨_, vf2, vc2, rfl, hb2, (h2 H' w' hle' hs').mono fun e w2 hp => ?_⟩
      obtain ⟨v, H2, rfl, hs2, hle2, rfl⟩ := hp.step hs'
      have h10 := q1 rfl
      by_cases hz : e2 = 0
      · exact ⟨e2, rfl, .inl ⟨hz, (fun h => by cases h), (fun _ => ⟨h10, hz⟩), H2, hle'.trans hle2, hs2⟩⟩
      · exact ⟨e2, rfl, .inr ⟨hz, by rw [if_pos h10], H2, hle'.trans hle2, hs2⟩⟩
  · rintro w' ⟨_, q2, H', hle', hs'⟩
    obtain ⟨a, b⟩ := q2 rfl
    exact ⟨by rw [if_pos a, b], H', hle', hs'⟩
  · rintro e w' ⟨er, rfl, rfl, H', hle', hs'⟩
    exact ⟨rfl, H', hle', hs'⟩

set_option maxRecDepth 20000 in
set_option maxHeartbeats 2000000 in
theorem there_ok (b : Nat) (gen : Nat) (H0 : Hp) (w0 : World) (h0 : Sub H0 w0) :
    Calls Try.prog 106 #[ptr b, .int .u64 (gen : Int)] w0 (Pure H0 w0 fun v H' => ∃ gg gx, v = .func (.func 159) #[] #[ptr gg, ptr gx] ∧ hcell H' ⟨gg, 0, none⟩ = some (.int .u64 (gen : Int)) ∧ hcell H' ⟨gx, 0, none⟩ = some (ptr b)) := by
  have hs := HS.init h0
  have hle := Hp.le.refl H0
  refine Calls.enter (args := [ptr b, .int .u64 (gen : Int)]) Try.func106 rfl Try.ntmps106 rfl ?_
  refine WC.seq (WC.region (WO.step rfl (OR.box hs rfl ?_)))
  clear hs; intro g1 w hg1 hs
  refine WO.step rfl (OR.box hs rfl ?_)
  clear hs; intro g2 w hg2 hs
  refine WO.step rfl (OR.assign rfl (WO.done (WX.seq (WC.seq (WC.region (WO.step rfl (OR.makeFunc rfl rfl ?_)))))))
  refine WO.step rfl (OR.assign rfl (WO.done (WX.seq (WC.ret ?_))))
  obtain ⟨H, hle1, hp_g2, hs9⟩ := hs.pub1 hg2; clear hs; have hs := hs9; clear hs9; replace hle := hle.trans hle1; (try replace hlb := hlb.trans hle1)
  obtain ⟨H, hle1, hp_g1, hs9⟩ := hs.pub1 hg1; clear hs; have hs := hs9; clear hs9; replace hle := hle.trans hle1; (try replace hlb := hlb.trans hle1)
  refine WX.ret1 rfl rfl ?_
  exact .mk hs ⟨g2, g1, rfl, hcell_of (hle1 _ _ hp_g2) rfl, hcell_of hp_g1 rfl⟩

set_option maxRecDepth 20000 in
set_option maxHeartbeats 2000000 in
theorem there1_ok (b gg gx : Nat) (gen : Nat) (x : SrcD) (o : Obj) (H0 : Hp) (w0 : World) (h0 : Sub H0 w0) (hb : w0.heap[b]? = some o) (hn : H0 b = none) (hx : SrcIn H0 x o) (hl : x.chunks.length < 9223372036854775807)
    (h1 : hcell H0 ⟨gg, 0, none⟩ = some (.int .u64 (gen : Int))) (h2 : hcell H0 ⟨gx, 0, none⟩ = some (ptr b)) :
    Calls Try.prog 159 #[ptr gg, ptr gx] w0 (Pure H0 w0 fun v _ => v = .int .i64 (if gen < x.chunks.length then 0 else 23)) := by
  have hs := HS.startR h0 hb hn
  have hle := Hp.le.refl H0
  refine Calls.enter (args := [ptr gg, ptr gx]) Try.func159 rfl Try.ntmps159 rfl ?_
  refine WC.seq (WC.region (WO.step rfl (OR.assign rfl (WO.done (WX.seq (WC.seq (WC.seq ?_)))))))
  refine WC.draw 3 mixed hs (by kernel_rfl) ?_
  refine ⟨MF.eq (.int .u64 (gen : Int)), ?_, ?_⟩
  · intro Mx H w hle2 hs; (try replace hle := hle.trans hle2); (try replace hlb := hlb.trans hle2)
    refine forVals_nil (ORg.plain (OR.load T58 rfl rfl (hs.cell (hcell.mono hle h1)) ?_))
    exact ⟨_, [], Hp.le.refl _, hs, rfl, rfl⟩
  refine ⟨MF.eq (ptr b), ?_, ?_⟩
  · intro Mx H w hle2 hs; (try replace hle := hle.trans hle2); (try replace hlb := hlb.trans hle2)
    refine forVals_nil (ORg.plain (OR.load T54 rfl rfl (hs.cell (hcell.mono hle h2)) ?_))
    exact ⟨_, [], Hp.le.refl _, hs, rfl, rfl⟩
  refine ⟨MF.eq (.int .u64 (x.chunks.length : Int)), ?_, ?_⟩
  · intro Mx H w hle2 hs; (try replace hle := hle.trans hle2); (try replace hlb := hlb.trans hle2); refine forVals_eq rfl rfl rfl ?_
    refine forVals_nil (ORg.plain (OR.call hs body31 rfl rfl (gens_ok b x o _ _ hs.toSub (hs.right.blk (i := 0) rfl) (hs.right.mem b _ false (List.mem_cons_self ..)).2.1 (hx.mono hle) hl) ?_))
    clear hs; rintro _ H w hs hle1 rfl
    exact ⟨_, [], hle1, hs, rfl, rfl⟩
  intro H w hle2; (try replace hle := hle.trans hle2); (try replace hlb := hlb.trans hle2)
  refine forAllVals_eq rfl ?_
  refine forAllVals_eq rfl ?_
  refine forAllVals_eq rfl ?_
  refine forAllVals_nil ?_; (try clear hs); intro hs
  refine WO.step rfl (OR.geq rfl rfl (WO.done (WX.seq ?_)))
  refine WC.condD rfl (fun hge => ?_) (fun hge => ?_)
  · refine WC.seq (WC.region (WO.step rfl (OR.assign rfl (WO.done (WX.seq (WC.ret (WX.seq_ret ?_)))))))
    refine WX.ret1 rfl rfl ?_
    exact .mk hs (by rw [if_neg (by omega)])
  · refine WC.skip (WX.seq (WC.seq (WC.region (WO.step rfl (OR.assign rfl (WO.done (WX.seq ?_)))))))
    refine WC.ret ?_
    refine WX.ret1 rfl rfl ?_
    exact .mk hs (by rw [if_pos (by omega)])

/-- A slice of slices of bytes, or a row, with an error. -/
def TupL (H : Hp) (v : Value) (ll : List (List UInt8)) (e : Int) : Prop := ∃ r, v = .tuple #[r, .int .i64 e] ∧ BytesL H r ll
def MF.tupL (ll : List (List UInt8)) (e : Int) : MF := MF.of (fun v H => TupL H v ll e) fun _ _ _ hle ⟨r, h1, h2⟩ => ⟨r, h1, h2.mono hle⟩
def TupR (H : Hp) (v : Value) (x : RowD) (e : Int) : Prop := ∃ r, v = .tuple #[r, .int .i64 e] ∧ RowV H r x
def MF.tupR (x : RowD) (e : Int) : MF := MF.of (fun v H => TupR H v x e) fun _ _ _ hle ⟨r, h1, h2⟩ => ⟨r, h1, h2.mono hle⟩

/-- The symbols of a generation. -/
def symF (x : SrcD) (gen : Nat) : List (List UInt8) := match x.chunks[gen]? with
  | some c => layF x.g x.s c
  | none => []
def thereE (x : SrcD) (gen : Nat) : Int := if gen < x.chunks.length then 0 else 23
set_option maxRecDepth 20000 in
set_option maxHeartbeats 2000000 in
theorem symbols_ok (b : Nat) (gen : Nat) (x : SrcD) (o : Obj) (H0 : Hp) (w0 : World) (h0 : Sub H0 w0) (hb : w0.heap[b]? = some o) (hn : H0 b = none) (hx : SrcIn H0 x o) (hok : SrcOk x) :
    Calls Try.prog 34 #[ptr b, .int .u64 (gen : Int)] w0 (Pure H0 w0 fun v H' => TupL H' v (symF x gen) (thereE x gen)) := by
  have hs := HS.startR h0 hb hn
  have hle := Hp.le.refl H0
  have hchl := hok.chl
  have hgp : 0 < x.g := by have := hok.gs.1; omega
  have hx0 := hx
  obtain ⟨vs, vc, vch, vop, rfl, hx1, hx2, hx3, hx4⟩ := hx0
  refine Calls.enter (args := [ptr b, .int .u64 (gen : Int)]) Try.func34 rfl Try.ntmps34 rfl ?_
  refine WC.seq (WC.region (WO.step rfl (OR.assign rfl (WO.step rfl (OR.assign rfl (WO.done (WX.seq ?_)))))))
  refine WC.seq (WC.seq (WC.region (WO.step rfl (OR.move rfl (WO.step rfl (OR.makeFunc rfl rfl (WO.step rfl ?_)))))))
  refine OR.move rfl (WO.step rfl (OR.move rfl ?_))
  refine WO.step rfl (OR.call hs body106 rfl rfl (there_ok b gen _ _ hs.toSub) ?_)
  clear hs; rintro _ H w hs hle1 ⟨gg, gx, rfl, hc1, hc2⟩; replace hle := hle.trans hle1; (try replace hlb := hlb.trans hle1)
  refine WO.step rfl (OR.buildSlice (vs := [_, _]) hs T219.und T59 rfl rfl rfl rfl (by simp) ?_)
  clear hs; intro g4 w hg4 hs
  refine WO.step rfl (OR.callW body94 rfl rfl (first2 _ _ 0 (thereE x gen) g4 2 _ _ _ _ _ _ hs ⟨_, [ptr b], [], rfl, body95, fun H' w' hl' hs' => smade_ok b x.g x.s vs vc vch vop x.cl _ _ hs'.toSub (hs'.blk (i := 1) rfl) (hs'.mem b (srcObj x.g x.s vs vc x.cl vch vop) false (by simp)).2.1 hgp⟩ ⟨_, [], [ptr gg, ptr gx], rfl, body159, fun H' w' hl' hs' => there1_ok b gg gx gen x (srcObj x.g x.s vs vc x.cl vch vop) _ _ hs'.toSub (hs'.blk (i := 1) rfl) (hs'.mem b (srcObj x.g x.s vs vc x.cl vch vop) false (by simp)).2.1 (hx.mono (hle.trans hl')) (by omega) (hcell.mono hl' hc1) (hcell.mono hl' hc2)⟩) ?_)
  clear hs
  rintro e w ⟨rfl, H, hle1, hs⟩
  replace hle := hle.trans hle1
  refine ⟨_, rfl, ?_⟩
  rw [if_pos rfl]
  by_cases hlt : gen < x.chunks.length
  · have hE : thereE x gen = 0 := by rw [thereE, if_pos hlt]
    rw [hE]
    obtain ⟨b3, c3, e3⟩ := hx3.form
    subst e3
    refine WO.step rfl (OR.assign rfl (WO.done (WX.seq (WC.seq (WC.region (WO.step rfl (OR.move rfl ?_)))))))
    refine WO.step rfl (OR.neq rfl rfl (WO.done (WX.seq ?_)))
    refine WC.no rfl (decide_eq_false (by decide)) ?_
    obtain ⟨cs, hsl, hcl, hcs⟩ := hx3
    obtain ⟨ob, oo, rfl, hco⟩ := hsl.pos (by omega)
    have hgc : gen < cs.length := by omega
    have hcell' := hco gen cs[gen] (List.getElem?_eq_getElem hgc)
    have hcb := hcs gen hlt hgc
    have hmem := hok.mem x.chunks[gen] (List.getElem_mem hlt)
    have hsym : symF x gen = layF x.g x.s x.chunks[gen] := by rw [symF, List.getElem?_eq_getElem hlt]
    refine WC.skip (WX.seq (WC.seq ?_))
    refine WC.sub [(0, ptr b), (1, .int .u64 (gen : Int))] ⟨rfl, rfl,  trivial⟩ ?_
    refine WC.draw 19 mixed hs (by kernel_rfl) ?_
    refine ⟨MF.eq _, by intro Mx H w hle hs; refine forVals_nil (ORg.plain (OR.move rfl ?_)); exact ⟨_, [], Hp.le.refl _, hs, rfl, rfl⟩, ?_⟩
    refine ⟨MF.eq _, by intro Mx H w hle hs; refine forVals_eq rfl rfl rfl ?_; refine forVals_nil (ORg.plain (OR.nilCheck rfl ?_)); exact ⟨_, [], Hp.le.refl _, hs, rfl, rfl⟩, ?_⟩
    refine ⟨MF.eq _, by intro Mx H w hle hs; refine forVals_eq rfl rfl rfl ?_; refine forVals_nil (ORg.plain (OR.fieldAddr FA151_5 rfl ?_)); exact ⟨_, [], Hp.le.refl _, hs, rfl, rfl⟩, ?_⟩
    refine ⟨MF.eq _, by intro Mx H w hle hs; refine forVals_eq rfl rfl rfl ?_; refine forVals_nil (ORg.plain (OR.load T22 rfl rfl (hs.right.cellM (i := 1) rfl rfl) ?_)); exact ⟨_, [], Hp.le.refl _, hs, rfl, rfl⟩, ?_⟩
    refine ⟨MF.eq _, by intro Mx H w hle hs; refine forVals_nil (ORg.plain (OR.move rfl ?_)); exact ⟨_, [], Hp.le.refl _, hs, rfl, rfl⟩, ?_⟩
    refine ⟨MF.eq (.pointer (some ⟨ob, oo + gen, none⟩)), ?_, ?_⟩
    · intro Mx H w hle2 hs; (try replace hle := hle.trans hle2); (try replace hlb := hlb.trans hle2); refine forVals_eq rfl rfl rfl ?_; refine forVals_eq rfl rfl rfl ?_
      refine forVals_nil (ORg.plain (OR.idx gen T22.und T23 rfl rfl rfl hlt ?_))
      exact ⟨_, [], Hp.le.refl _, hs, rfl, rfl⟩
    refine ⟨MF.eq cs[gen], ?_, ?_⟩
    · intro Mx H w hle2 hs; (try replace hle := hle.trans hle2); (try replace hlb := hlb.trans hle2); refine forVals_eq rfl rfl rfl ?_
      refine forVals_nil (ORg.plain (OR.load T23 rfl rfl (hs.cell (hcell.mono hle hcell')) ?_))
      exact ⟨_, [], Hp.le.refl _, hs, rfl, rfl⟩
    refine ⟨MF.eq _, by intro Mx H w hle hs; refine forVals_nil (ORg.plain (OR.move rfl ?_)); exact ⟨_, [], Hp.le.refl _, hs, rfl, rfl⟩, ?_⟩
    refine ⟨MF.eq _, by intro Mx H w hle hs; refine forVals_eq rfl rfl rfl ?_; refine forVals_nil (ORg.plain (OR.nilCheck rfl ?_)); exact ⟨_, [], Hp.le.refl _, hs, rfl, rfl⟩, ?_⟩
    refine ⟨MF.eq _, by intro Mx H w hle hs; refine forVals_eq rfl rfl rfl ?_; refine forVals_nil (ORg.plain (OR.fieldAddr FA151_0 rfl ?_)); exact ⟨_, [], Hp.le.refl _, hs, rfl, rfl⟩, ?_⟩
    refine ⟨MF.eq _, by intro Mx H w hle hs; refine forVals_eq rfl rfl rfl ?_; refine forVals_nil (ORg.plain (OR.load T3 rfl rfl (hs.right.cellM (i := 1) rfl rfl) ?_)); exact ⟨_, [], Hp.le.refl _, hs, rfl, rfl⟩, ?_⟩
    refine ⟨MF.eq _, by intro Mx H w hle hs; refine forVals_nil (ORg.plain (OR.move rfl ?_)); exact ⟨_, [], Hp.le.refl _, hs, rfl, rfl⟩, ?_⟩
    refine ⟨MF.eq _, by intro Mx H w hle hs; refine forVals_eq rfl rfl rfl ?_; refine forVals_nil (ORg.plain (OR.nilCheck rfl ?_)); exact ⟨_, [], Hp.le.refl _, hs, rfl, rfl⟩, ?_⟩
    refine ⟨MF.eq _, by intro Mx H w hle hs; refine forVals_eq rfl rfl rfl ?_; refine forVals_nil (ORg.plain (OR.fieldAddr FA151_1 rfl ?_)); exact ⟨_, [], Hp.le.refl _, hs, rfl, rfl⟩, ?_⟩
    refine ⟨MF.eq _, by intro Mx H w hle hs; refine forVals_eq rfl rfl rfl ?_; refine forVals_nil (ORg.plain (OR.load T3 rfl rfl (hs.right.cellM (i := 1) rfl rfl) ?_)); exact ⟨_, [], Hp.le.refl _, hs, rfl, rfl⟩, ?_⟩
    refine ⟨MF.tupL (layF x.g x.s x.chunks[gen]) 0, ?_, ?_⟩
    · intro Mx H w hle2 hs; (try replace hle := hle.trans hle2); (try replace hlb := hlb.trans hle2); refine forVals_eq rfl rfl rfl ?_; refine forVals_eq rfl rfl rfl ?_; refine forVals_eq rfl rfl rfl ?_
      refine forVals_nil (ORg.plain (OR.call hs body107 rfl rfl (lay_ok x.g x.s cs[gen] x.chunks[gen] _ _ hs.toSub hok.nat (hcb.mono hle) hmem.1 hmem.2) ?_))
      clear hs; rintro _ H w hs hle1 ⟨r, rfl, hr⟩
      exact ⟨_, [], hle1, hs, ⟨r, rfl, hr⟩, rfl⟩
    refine ⟨MF.bytesL (layF x.g x.s x.chunks[gen]), ?_, ?_⟩
    · intro Mx H w hle2 hs; (try replace hle := hle.trans hle2); (try replace hlb := hlb.trans hle2); refine forVals_of rfl rfl rfl ?_; intro v15 h15
      obtain ⟨r, rfl, hr⟩ := h15
      refine forVals_nil (ORg.plain (OR.extract rfl rfl ?_))
      exact ⟨_, [], Hp.le.refl _, hs, hr, rfl⟩
    refine ⟨MF.eq (.int .i64 0), ?_, ?_⟩
    · intro Mx H w hle2 hs; (try replace hle := hle.trans hle2); (try replace hlb := hlb.trans hle2); refine forVals_of rfl rfl rfl ?_; intro v15 h15
      obtain ⟨r, rfl, hr⟩ := h15
      refine forVals_nil (ORg.plain (OR.extract rfl rfl ?_))
      exact ⟨_, [], Hp.le.refl _, hs, rfl, rfl⟩
    refine ⟨MF.bytesL (layF x.g x.s x.chunks[gen]), ?_, ?_⟩
    · intro Mx H w hle2 hs; (try replace hle := hle.trans hle2); (try replace hlb := hlb.trans hle2); refine forVals_of rfl rfl rfl ?_; intro v16 h16
      refine forVals_nil (ORg.plain (OR.assign rfl ?_))
      exact ⟨_, [], Hp.le.refl _, hs, h16, rfl⟩
    intro H w hle2; (try replace hle := hle.trans hle2); (try replace hlb := hlb.trans hle2)
    refine forAllVals_eq rfl ?_
    refine forAllVals_eq rfl ?_
    refine forAllVals_eq rfl ?_
    refine forAllVals_eq rfl ?_
    refine forAllVals_eq rfl ?_
    refine forAllVals_eq rfl ?_
    refine forAllVals_eq rfl ?_
    refine forAllVals_eq rfl ?_
    refine forAllVals_eq rfl ?_
    refine forAllVals_eq rfl ?_
    refine forAllVals_eq rfl ?_
    refine forAllVals_eq rfl ?_
    refine forAllVals_eq rfl ?_
    refine forAllVals_eq rfl ?_
    refine forAllVals_eq rfl ?_
    refine forAllVals_of rfl ?_; intro v15 h15
    refine forAllVals_of rfl ?_; intro v16 h16
    refine forAllVals_eq rfl ?_
    refine forAllVals_of rfl ?_; intro v18 h18
    refine forAllVals_nil ?_; (try clear hs); intro hs
    refine WO.step rfl (OR.assign rfl (WO.done (WX.seq (WC.ret ?_))))
    refine WX.ret2 rfl rfl rfl ?_
    rw [hsym]
    exact .mk (hs.drop 0) ⟨_, rfl, h18⟩
  · have hE : thereE x gen = 23 := by rw [thereE, if_neg hlt]
    rw [hE]
    refine WO.step rfl (OR.assign rfl (WO.done (WX.seq (WC.seq (WC.region (WO.step rfl (OR.move rfl ?_)))))))
    refine WO.step rfl (OR.neq rfl rfl (WO.done (WX.seq ?_)))
    refine WC.yes rfl (decide_eq_true (by decide)) ?_
    refine WC.seq (WC.region (WO.step rfl (OR.move rfl (WO.step rfl (OR.assign rfl (WO.step rfl (OR.assign rfl ?_)))))))
    refine WO.done (WX.seq (WC.ret (WX.seq_ret ?_)))
    refine WX.ret2 rfl rfl rfl ?_
    exact .mk (hs.drop 0) ⟨_, rfl, by rw [symF, List.getElem?_eq_none (by omega)]; exact ⟨[], Sl.empty _ _ _, rfl, fun i h => by simp at h⟩⟩

theorem symF_len {x : SrcD} (hok : SrcOk x) {gen : Nat} (h : gen < x.chunks.length) : (symF x gen).length = x.g := by
  rw [symF, List.getElem?_eq_getElem h]
  simp [layF]
theorem symF_row {x : SrcD} (hok : SrcOk x) {gen : Nat} (h : gen < x.chunks.length) : ∀ r ∈ symF x gen, r.length = x.s := by
  rw [symF, List.getElem?_eq_getElem h]
  intro r hr
  simp only [layF, List.mem_map, List.mem_range] at hr
  obtain ⟨i, hi, rfl⟩ := hr
  have hmem := hok.mem x.chunks[gen] (List.getElem_mem h)
  have hal := layAll_len (g := x.g) (s := x.s) (chunk := x.chunks[gen]) hok.nat.2.2.2.2 hmem.2
  have : x.s * (i + 1) ≤ x.g * x.s := by rw [Nat.mul_comm x.g]; exact Nat.mul_le_mul_left _ hi
  rw [Nat.mul_add, Nat.mul_one] at this
  simp [hal]
  omega

def rowE (x : SrcD) (gen : Nat) (c : List UInt8) : Int := if gen < x.chunks.length then (if c.length = x.g then 0 else 21) else 23
def rowF (x : SrcD) (gen : Nat) (c : List UInt8) : RowD := if gen < x.chunks.length ∧ c.length = x.g then (c, comb x.s (symF x gen) c) else ([], [])
set_option maxRecDepth 20000 in
set_option maxHeartbeats 2000000 in
theorem srow_ok (b : Nat) (gen : Nat) (vd : Value) (c : List UInt8) (x : SrcD) (o : Obj) (H0 : Hp) (w0 : World) (h0 : Sub H0 w0) (hb : w0.heap[b]? = some o) (hn : H0 b = none) (hx : SrcIn H0 x o) (hok : SrcOk x) (hc : Bytes H0 vd c) (hl : c.length ≤ 140737488355328) :
    Calls Try.prog 32 #[ptr b, .int .u64 (gen : Int), vd] w0 (Pure H0 w0 fun v H' => TupR H' v (rowF x gen c) (rowE x gen c)) := by
  have hs := HS.startR h0 hb hn
  have hle := Hp.le.refl H0
  have hx0 := hx
  obtain ⟨hn1, hn2, hn3, hn4, hn5⟩ := hok.nat
  obtain ⟨b1, c1, rfl⟩ := hc.form
  obtain ⟨vs, vc, vch, vop, rfl, hx1, hx2, hx3, hx4⟩ := hx0
  have hz : RowV H0 (.agg #[.slice none 0 0, .slice none 0 0]) ([], []) := ⟨_, _, rfl, Sl.empty _ _ _, Sl.empty _ _ _⟩
  refine Calls.enter (args := [ptr b, .int .u64 (gen : Int), .slice b1 c.length c1]) Try.func32 rfl Try.ntmps32 rfl ?_
  refine WC.seq (WC.region (WO.step rfl (OR.alloc hs T35 ?_)))
  clear hs; intro g1 w hg1 hs
  refine WO.step rfl (OR.assign rfl (WO.done (WX.seq (WC.seq (WC.region (WO.step rfl (OR.move rfl ?_)))))))
  refine WO.step rfl (OR.move rfl ?_)
  refine WO.step rfl (OR.call hs body34 rfl rfl (symbols_ok b gen x _ _ _ hs.toSub (hs.blk (i := 1) rfl) (hs.mem b (srcObj x.g x.s vs vc x.cl vch vop) false (by simp)).2.1 (hx.mono hle) hok) ?_)
  clear hs; rintro _ H w hs hle1 ⟨r, rfl, hr⟩; replace hle := hle.trans hle1; (try replace hlb := hlb.trans hle1)
  obtain ⟨b2, c2, rfl⟩ := hr.form
  by_cases hlt : gen < x.chunks.length
  · have hE : thereE x gen = 0 := by rw [thereE, if_pos hlt]
    rw [hE]
    refine WO.step rfl (OR.move rfl (WO.step rfl (OR.extract rfl rfl (WO.step rfl (OR.extract rfl rfl (WO.step rfl (OR.assign rfl ?_)))))))
    refine WO.step rfl (OR.assign rfl (WO.done (WX.seq (WC.seq (WC.block (WC.seq (WC.region ?_)))))))
    refine WO.step rfl (OR.move rfl (WO.step rfl (OR.neq rfl rfl (WO.step rfl (OR.assign rfl (WO.done (WX.seq ?_)))))))
    refine WC.no rfl (decide_eq_false (by decide)) ?_
    refine WC.seq (WC.region (WO.step rfl (OR.move rfl (WO.step rfl (OR.lenSlice T23.und rfl (WO.step rfl (OR.move rfl ?_)))))))
    refine WO.step rfl (OR.nilCheck rfl (WO.step rfl (OR.fieldAddr FA151_0 rfl (WO.step rfl (OR.load T3 rfl rfl (hs.cellM (i := 1) rfl rfl) (WO.step rfl (OR.neq rfl rfl ?_)))))))
    refine WO.step rfl (OR.assign rfl (WO.done (WX.seq ?_)))
    refine WC.condD rfl (fun hne => ?_) (fun hne => ?_)
    · refine WC.seq (WC.region (WO.step rfl (OR.buildZero T35 PL35 (WO.stepN (OR.storeAll hs T35 rfl rfl rfl rfl rfl ?_)))))
      clear hs; intro w hs
      refine WO.step rfl (OR.assign rfl (WO.done (WX.seq (WC.ret (WX.block_ret (WX.seq_ret ?_))))))
      refine WX.retCT T35 rfl rfl rfl rfl rfl (hs.blk (i := 0) rfl) ?_
      have e1 : rowE x gen c = 21 := by rw [rowE, if_pos hlt, if_neg (by omega)]
      have e2 : rowF x gen c = ([], []) := by rw [rowF, if_neg (by omega)]
      rw [e1, e2]
      exact .mk (hs.drop 0) ⟨_, rfl, hz.mono hle⟩
    · have hcl : c.length = x.g := by omega
      have hsl := symF_len hok hlt
      refine WC.skip (WX.block (WX.seq (WC.seq (WC.region (WO.step rfl (OR.move rfl (WO.step rfl ?_)))))))
      refine OR.move rfl ?_
      refine WO.step rfl (OR.call hs body101 rfl rfl (combine_ok _ _ (symF x gen) c x.s _ _ hs.toSub hr (hc.mono hle) (by omega) (symF_row hok hlt) (by omega) (by omega)) ?_)
      clear hs; rintro _ H w hs hle1 ⟨r2, rfl, hr2⟩; replace hle := hle.trans hle1; (try replace hlb := hlb.trans hle1)
      rw [if_pos (by omega)] at hr2
      rw [if_pos (by omega)]
      refine WO.step rfl (OR.move rfl (WO.step rfl (OR.extract rfl rfl (WO.step rfl (OR.extract rfl rfl (WO.step rfl (OR.assign rfl ?_)))))))
      refine WO.step rfl (OR.assign rfl (WO.done (WX.seq (WC.seq (WC.region (WO.step rfl (OR.move rfl ?_)))))))
      refine WO.step rfl (OR.call hs body57 rfl rfl (clone_pure _ _ _ _ hs.toSub (hc.mono hle) hl) ?_)
      clear hs; rintro _ H w hs hle1 hr3; replace hle := hle.trans hle1; (try replace hlb := hlb.trans hle1)
      obtain ⟨b4, c4, rfl⟩ := hr2.form
      obtain ⟨b5, c5, rfl⟩ := hr3.form
      refine WO.step rfl (OR.move rfl (WO.step rfl (OR.buildAll T35 rfl rfl PL35 rfl rfl (WO.stepN (OR.storeAll hs T35 rfl rfl rfl rfl rfl ?_)))))
      clear hs; intro w hs
      refine WO.step rfl (OR.assign rfl (WO.done (WX.seq (WC.ret ?_))))
      refine WX.retCT T35 rfl rfl rfl rfl rfl (hs.blk (i := 0) rfl) ?_
      have e1 : rowE x gen c = 0 := by rw [rowE, if_pos hlt, if_pos hcl]
      have e2 : rowF x gen c = (c, comb x.s (symF x gen) c) := by rw [rowF, if_pos ⟨hlt, hcl⟩]
      rw [e1, e2]
      exact .mk (hs.drop 0) ⟨_, rfl, _, _, rfl, hr3, hr2.mono hle1⟩
  · have hE : thereE x gen = 23 := by rw [thereE, if_neg hlt]
    rw [hE]
    refine WO.step rfl (OR.move rfl (WO.step rfl (OR.extract rfl rfl (WO.step rfl (OR.extract rfl rfl (WO.step rfl (OR.assign rfl ?_)))))))
    refine WO.step rfl (OR.assign rfl (WO.done (WX.seq (WC.seq (WC.block (WC.seq (WC.region ?_)))))))
    refine WO.step rfl (OR.move rfl (WO.step rfl (OR.neq rfl rfl (WO.step rfl (OR.assign rfl (WO.done (WX.seq ?_)))))))
    refine WC.yes rfl (decide_eq_true (by decide)) ?_
    refine WC.seq (WC.region (WO.step rfl (OR.buildZero T35 PL35 (WO.step rfl (OR.move rfl (WO.stepN (OR.storeAll hs T35 rfl rfl rfl rfl rfl ?_)))))))
    clear hs; intro w hs
    refine WO.step rfl (OR.assign rfl (WO.done (WX.seq (WC.ret (WX.block_ret (WX.seq_ret ?_))))))
    refine WX.retCT T35 rfl rfl rfl rfl rfl (hs.blk (i := 0) rfl) ?_
    have e1 : rowE x gen c = 23 := by rw [rowE, if_neg hlt]
    have e2 : rowF x gen c = ([], []) := by rw [rowF, if_neg (by omega)]
    rw [e1, e2]
    exact .mk (hs.drop 0) ⟨_, rfl, hz.mono hle⟩

def sendC (x : SrcD) (sent : Nat) (l : List UInt8) : List UInt8 := coefF x.g (sent % x.g) (if sent < x.g then [] else l)
set_option maxRecDepth 20000 in
set_option maxHeartbeats 2000000 in
theorem ssend_ok (b : Nat) (gen sent : Nat) (vd : Value) (l : List UInt8) (x : SrcD) (o : Obj) (H0 : Hp) (w0 : World) (h0 : Sub H0 w0) (hb : w0.heap[b]? = some o) (hn : H0 b = none) (hx : SrcIn H0 x o) (hok : SrcOk x) (hl : Bytes H0 vd l) (hst : sent < 18446744073709551616) :
    Calls Try.prog 35 #[ptr b, .int .u64 (gen : Int), .int .u64 (sent : Int), vd] w0 (Pure H0 w0 fun v H' => TupR H' v (rowF x gen (sendC x sent l)) (thereE x gen)) := by
  have hs := HS.startR h0 hb hn
  have hle := Hp.le.refl H0
  have hx0 := hx
  have hchl := hok.chl
  obtain ⟨hn1, hn2, hn3, hn4, hn5⟩ := hok.nat
  have hz : RowV H0 (.agg #[.slice none 0 0, .slice none 0 0]) ([], []) := ⟨_, _, rfl, Sl.empty _ _ _, Sl.empty _ _ _⟩
  obtain ⟨b1, c1, rfl⟩ := hl.form
  obtain ⟨vs, vc, vch, vop, rfl, hx1, hx2, hx3, hx4⟩ := hx0
  have hsc : (sendC x sent l).length = x.g := coefF_len _ _ _
  refine Calls.enter (args := [ptr b, .int .u64 (gen : Int), .int .u64 (sent : Int), .slice b1 l.length c1]) Try.func35 rfl Try.ntmps35 rfl ?_
  refine WC.seq (WC.region (WO.step rfl (OR.alloc hs T35 ?_)))
  clear hs; intro g1 w hg1 hs
  refine WO.step rfl (OR.assign rfl (WO.done (WX.seq (WC.seq (WC.seq (WC.region (WO.step rfl ?_)))))))
  refine OR.move rfl (WO.step rfl (OR.makeFunc rfl rfl (WO.step rfl (OR.move rfl (WO.step rfl (OR.move rfl ?_))))))
  refine WO.step rfl (OR.call hs body106 rfl rfl (there_ok b gen _ _ hs.toSub) ?_)
  clear hs; rintro _ H w hs hle1 ⟨gg, gx, rfl, hc1, hc2⟩; replace hle := hle.trans hle1; (try replace hlb := hlb.trans hle1)
  refine WO.step rfl (OR.buildSlice (vs := [_, _]) hs T219.und T59 rfl rfl rfl rfl (by simp) ?_)
  clear hs; intro g4 w hg4 hs
  refine WO.step rfl (OR.callW body94 rfl rfl (first2 _ _ 0 (thereE x gen) g4 2 _ _ _ _ _ _ hs ⟨_, [ptr b], [], rfl, body95, fun H' w' hl' hs' => smade_ok b x.g x.s vs vc vch vop x.cl _ _ hs'.toSub (hs'.blk (i := 2) rfl) (hs'.mem b (srcObj x.g x.s vs vc x.cl vch vop) false (by simp)).2.1 hn1⟩ ⟨_, [], [ptr gg, ptr gx], rfl, body159, fun H' w' hl' hs' => there1_ok b gg gx gen x (srcObj x.g x.s vs vc x.cl vch vop) _ _ hs'.toSub (hs'.blk (i := 2) rfl) (hs'.mem b (srcObj x.g x.s vs vc x.cl vch vop) false (by simp)).2.1 (hx.mono (hle.trans hl')) (by omega) (hcell.mono hl' hc1) (hcell.mono hl' hc2)⟩) ?_)
  clear hs
  rintro e w ⟨rfl, H, hle1, hs⟩
  replace hle := hle.trans hle1
  refine ⟨_, rfl, ?_⟩
  rw [if_pos rfl]
  by_cases hlt : gen < x.chunks.length
  · have hE : thereE x gen = 0 := by rw [thereE, if_pos hlt]
    rw [hE]
    refine WO.step rfl (OR.assign rfl (WO.done (WX.seq (WC.seq (WC.region (WO.step rfl (OR.move rfl ?_)))))))
    refine WO.step rfl (OR.neq rfl rfl (WO.done (WX.seq ?_)))
    refine WC.no rfl (decide_eq_false (by decide)) ?_
    refine WC.skip (WX.seq (WC.seq (WC.seq (WC.region (WO.step rfl (OR.move rfl (WO.step rfl ?_)))))))
    refine OR.move rfl (WO.step rfl (OR.nilCheck rfl (WO.step rfl (OR.fieldAddr FA151_0 rfl (WO.step rfl (OR.load T3 rfl rfl (hs.cellM (i := 2) rfl rfl) ?_))))))
    refine WO.step rfl (OR.convI T3.und T58.und rfl ?_)
    rw [u64_wrap _ (by omega)]
    refine WO.step rfl (OR.lss rfl rfl (WO.step rfl (OR.move rfl ?_)))
    replace hs := hs.drop (i := 0)
    by_cases hsg : sent < x.g
    · have hsc' : sendC x sent l = coefF x.g (sent % x.g) [] := by rw [sendC, if_pos hsg]
      refine WO.guardYes rfl (decide_eq_true (by omega : (sent : Int) < (x.g : Int))) rfl rfl (OR.move rfl ?_)
      refine WO.guardYes rfl (decide_eq_true (by omega : (sent : Int) < (x.g : Int))) rfl rfl (OR.convI T58.und T3.und rfl ?_)
      rw [IntWalk.i64_in (sent : Int) (by omega)]
      refine WO.guardYes rfl (decide_eq_true (by omega : (sent : Int) < (x.g : Int))) rfl rfl (OR.move rfl (WO.guardYes rfl (decide_eq_true (by omega : (sent : Int) < (x.g : Int))) rfl rfl (OR.nilCheck rfl (WO.guardYes rfl (decide_eq_true (by omega : (sent : Int) < (x.g : Int))) rfl rfl (OR.fieldAddr FA151_0 rfl (WO.guardYes rfl (decide_eq_true (by omega : (sent : Int) < (x.g : Int))) rfl rfl (OR.load T3 rfl rfl (hs.cellM (i := 1) rfl rfl) ?_)))))))
      refine WO.guardYes rfl (decide_eq_true (by omega : (sent : Int) < (x.g : Int))) rfl rfl (OR.call hs body108 rfl rfl (syst_ok (sent : Int) (x.g : Int) _ _ hs.toSub) ?_)
      clear hs; rintro _ H w hs hle1 rfl; replace hle := hle.trans hle1; (try replace hlb := hlb.trans hle1)
      rw [decide_eq_true (by omega : (0 : Int) ≤ (sent : Int) ∧ (sent : Int) < (x.g : Int))]
      refine WO.step rfl (OR.pickT rfl (decide_eq_true (by omega : (sent : Int) < (x.g : Int))) rfl (WO.done (WX.seq ?_)))
      refine WC.yes rfl rfl ?_
      refine WC.region (WO.step rfl (OR.assign rfl (WO.done (WX.seq (WC.seq (WC.region (WO.step rfl ?_)))))))
      refine OR.move rfl (WO.step rfl (OR.move rfl (WO.step rfl (OR.nilCheck rfl (WO.step rfl (OR.fieldAddr FA151_0 rfl (WO.step rfl ?_)))))))
      refine OR.load T3 rfl rfl (hs.cellM (i := 1) rfl rfl) ?_
      refine WO.step rfl (OR.call hs body109 rfl rfl (turn_ok sent x.g _ _ hs.toSub ⟨hn1, hn2⟩ hst) ?_)
      clear hs; rintro _ H w hs hle1 rfl; replace hle := hle.trans hle1; (try replace hlb := hlb.trans hle1)
      refine WO.step rfl (OR.move rfl (WO.step rfl (OR.extract rfl rfl (WO.step rfl (OR.extract rfl rfl (WO.step rfl (OR.assign rfl ?_)))))))
      refine WO.step rfl (OR.assign rfl (WO.done (WX.seq (WC.seq (WC.region (WO.step rfl (OR.move rfl ?_)))))))
      refine WO.step rfl (OR.move rfl (WO.step rfl (OR.nilCheck rfl (WO.step rfl (OR.fieldAddr FA151_0 rfl (WO.step rfl (OR.load T3 rfl rfl (hs.cellM (i := 1) rfl rfl) ?_)))))))
      refine WO.step rfl (OR.move rfl ?_)
      refine WO.step rfl (OR.call hs body110 rfl rfl (coefs_ok _ [] x.g (sent % x.g) _ _ hs.toSub (Sl.empty _ _ _) ⟨hn1, hn2⟩ (Nat.mod_lt _ hn1)) ?_)
      clear hs; rintro _ H w hs hle1 ⟨r, rfl, hr⟩; replace hle := hle.trans hle1; (try replace hlb := hlb.trans hle1)
      rw [← hsc'] at hr
      refine WO.step rfl (OR.move rfl (WO.step rfl (OR.extract rfl rfl (WO.step rfl (OR.extract rfl rfl (WO.step rfl (OR.assign rfl ?_)))))))
      refine WO.step rfl (OR.assign rfl (WO.done (WX.seq (WC.seq (WC.region (WO.step rfl (OR.move rfl ?_)))))))
      refine WO.step rfl (OR.move rfl (WO.step rfl (OR.move rfl ?_)))
      refine WO.step rfl (OR.call hs body32 rfl rfl (srow_ok b gen _ (sendC x sent l) x (srcObj x.g x.s vs vc x.cl vch vop) _ _ hs.toSub (hs.blk (i := 1) rfl) (hs.mem b (srcObj x.g x.s vs vc x.cl vch vop) false (by simp)).2.1 (hx.mono hle) hok hr (by omega)) ?_)
      clear hs; rintro _ H w hs hle1 ⟨r2, rfl, hr2⟩; replace hle := hle.trans hle1; (try replace hlb := hlb.trans hle1)
      have e1 : rowE x gen (sendC x sent l) = 0 := by rw [rowE, if_pos hlt, if_pos hsc]
      rw [e1]
      obtain ⟨y1, y2, rfl, hy1, hy2⟩ := hr2
      obtain ⟨b4, c4, rfl⟩ := hy1.form
      obtain ⟨b5, c5, rfl⟩ := hy2.form
      refine WO.step rfl (OR.extract rfl rfl (WO.step rfl (OR.extract rfl rfl (WO.stepN (OR.storeAll hs T35 rfl rfl rfl rfl rfl ?_)))))
      clear hs; intro w hs
      refine WO.step rfl (OR.assign rfl (WO.done (WX.seq (WC.ret ?_))))
      refine WX.retCT T35 rfl rfl rfl rfl rfl (hs.blk (i := 0) rfl) ?_
      exact .mk (hs.drop 0) ⟨_, rfl, _, _, rfl, hy1, hy2⟩
    · have hsc' : sendC x sent l = coefF x.g (sent % x.g) l := by rw [sendC, if_neg hsg]
      refine WO.guardNo rfl (decide_eq_false (by omega : ¬ (sent : Int) < (x.g : Int))) rfl rfl (WO.guardNo rfl (decide_eq_false (by omega : ¬ (sent : Int) < (x.g : Int))) rfl rfl (WO.guardNo rfl (decide_eq_false (by omega : ¬ (sent : Int) < (x.g : Int))) rfl rfl (WO.guardNo rfl (decide_eq_false (by omega : ¬ (sent : Int) < (x.g : Int))) rfl rfl (WO.guardNo rfl (decide_eq_false (by omega : ¬ (sent : Int) < (x.g : Int))) rfl rfl (WO.guardNo rfl (decide_eq_false (by omega : ¬ (sent : Int) < (x.g : Int))) rfl rfl (WO.guardNo rfl (decide_eq_false (by omega : ¬ (sent : Int) < (x.g : Int))) rfl rfl (WO.step rfl ?_)))))))
      refine OR.pickF rfl (decide_eq_false (by omega : ¬ (sent : Int) < (x.g : Int))) rfl (WO.done (WX.seq (WC.no rfl rfl (WC.skip (WX.seq (WC.seq (WC.region ?_)))))))
      refine WO.step rfl (OR.move rfl (WO.step rfl (OR.move rfl (WO.step rfl (OR.nilCheck rfl (WO.step rfl (OR.fieldAddr FA151_0 rfl ?_)))))))
      refine WO.step rfl (OR.load T3 rfl rfl (hs.cellM (i := 1) rfl rfl) ?_)
      refine WO.step rfl (OR.call hs body109 rfl rfl (turn_ok sent x.g _ _ hs.toSub ⟨hn1, hn2⟩ hst) ?_)
      clear hs; rintro _ H w hs hle1 rfl; replace hle := hle.trans hle1; (try replace hlb := hlb.trans hle1)
      refine WO.step rfl (OR.move rfl (WO.step rfl (OR.extract rfl rfl (WO.step rfl (OR.extract rfl rfl (WO.step rfl (OR.assign rfl ?_)))))))
      refine WO.step rfl (OR.assign rfl (WO.done (WX.seq (WC.seq (WC.region (WO.step rfl (OR.move rfl ?_)))))))
      refine WO.step rfl (OR.move rfl (WO.step rfl (OR.nilCheck rfl (WO.step rfl (OR.fieldAddr FA151_0 rfl (WO.step rfl (OR.load T3 rfl rfl (hs.cellM (i := 1) rfl rfl) ?_)))))))
      refine WO.step rfl (OR.move rfl ?_)
      refine WO.step rfl (OR.call hs body110 rfl rfl (coefs_ok _ l x.g (sent % x.g) _ _ hs.toSub (hl.mono hle) ⟨hn1, hn2⟩ (Nat.mod_lt _ hn1)) ?_)
      clear hs; rintro _ H w hs hle1 ⟨r, rfl, hr⟩; replace hle := hle.trans hle1; (try replace hlb := hlb.trans hle1)
      rw [← hsc'] at hr
      refine WO.step rfl (OR.move rfl (WO.step rfl (OR.extract rfl rfl (WO.step rfl (OR.extract rfl rfl (WO.step rfl (OR.assign rfl ?_)))))))
      refine WO.step rfl (OR.assign rfl (WO.done (WX.seq (WC.seq (WC.region (WO.step rfl (OR.move rfl ?_)))))))
      refine WO.step rfl (OR.move rfl (WO.step rfl (OR.move rfl ?_)))
      refine WO.step rfl (OR.call hs body32 rfl rfl (srow_ok b gen _ (sendC x sent l) x (srcObj x.g x.s vs vc x.cl vch vop) _ _ hs.toSub (hs.blk (i := 1) rfl) (hs.mem b (srcObj x.g x.s vs vc x.cl vch vop) false (by simp)).2.1 (hx.mono hle) hok hr (by omega)) ?_)
      clear hs; rintro _ H w hs hle1 ⟨r2, rfl, hr2⟩; replace hle := hle.trans hle1; (try replace hlb := hlb.trans hle1)
      have e1 : rowE x gen (sendC x sent l) = 0 := by rw [rowE, if_pos hlt, if_pos hsc]
      rw [e1]
      obtain ⟨y1, y2, rfl, hy1, hy2⟩ := hr2
      obtain ⟨b4, c4, rfl⟩ := hy1.form
      obtain ⟨b5, c5, rfl⟩ := hy2.form
      refine WO.step rfl (OR.extract rfl rfl (WO.step rfl (OR.extract rfl rfl (WO.stepN (OR.storeAll hs T35 rfl rfl rfl rfl rfl ?_)))))
      clear hs; intro w hs
      refine WO.step rfl (OR.assign rfl (WO.done (WX.seq (WC.ret ?_))))
      refine WX.retCT T35 rfl rfl rfl rfl rfl (hs.blk (i := 0) rfl) ?_
      exact .mk (hs.drop 0) ⟨_, rfl, _, _, rfl, hy1, hy2⟩
  · have hE : thereE x gen = 23 := by rw [thereE, if_neg hlt]
    rw [hE]
    refine WO.step rfl (OR.assign rfl (WO.done (WX.seq (WC.seq (WC.region (WO.step rfl (OR.move rfl ?_)))))))
    refine WO.step rfl (OR.neq rfl rfl (WO.done (WX.seq ?_)))
    refine WC.yes rfl (decide_eq_true (by decide)) ?_
    refine WC.seq (WC.region (WO.step rfl (OR.buildZero T35 PL35 (WO.step rfl (OR.move rfl ?_)))))
    replace hs := hs.front (i := 1) rfl
    refine WO.stepN (OR.storeAll hs T35 rfl rfl rfl rfl rfl ?_)
    clear hs; intro w hs
    refine WO.step rfl (OR.assign rfl (WO.done (WX.seq (WC.ret (WX.seq_ret ?_)))))
    refine WX.retCT T35 rfl rfl rfl rfl rfl (hs.blk (i := 0) rfl) ?_
    have e2 : rowF x gen (sendC x sent l) = ([], []) := by rw [rowF, if_neg (by omega)]
    rw [e2]
    exact .mk ((hs.drop 0).drop 0) ⟨_, rfl, hz.mono hle⟩

end Go.Bw
