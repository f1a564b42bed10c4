/- What law_FlowTurns needs: laid out of own texts. No condition. -/
import Derived.Test.YtdibepkfgemddaaGreatKFlowTurns6
namespace Go.Bw
set_option linter.unusedVariables false
set_option linter.unusedSimpArgs false
open Go.Proofs
section
variable {g s : Nat} {A B : List RowD}
theorem coefF_nil (n t : Nat) : coefF n t [] = (List.replicate n 0).set t 1 := by
  unfold coefF
  rw [padTo_nil, if_pos]
  refine lead_none.2 fun j => ?_
  rw [List.getD_eq_getElem?_getD]
  by_cases h : j < n
  · rw [List.getElem?_eq_getElem (by simpa using h)]; simp
  · rw [List.getElem?_eq_none (by simp; omega)]; rfl
theorem snd_turn (h : Red g s A) (sent : Nat) (hA : 0 < A.length) : sndR g s A sent [] = A[sent % A.length]'(Nat.mod_lt _ hA) := by
  have ht := Nat.mod_lt sent hA
  have hm := List.getElem_mem (l := A) (n := sent % A.length) ht
  refine row_ext (snd_gs h sent [] (by omega)) (h.gs _ hm) fun i => ?_
  rw [snd_in h sent [] (by omega) i trivial, InS.own h hm (P := fun _ => True) i trivial]
  refine S_congr _ _ _ _ fun x hx => ?_
  obtain ⟨j, hj, rfl⟩ := List.getElem_of_mem hx
  rw [snd_eq sent [] (by omega), combR_at h _ (coefF_len _ _ _) j hj]
  simp only [coefF_nil]
  by_cases e : sent % A.length = j
  · subst e
    rw [List.getElem_set_self, h.one _ hm]
  · rw [List.getElem_set_ne e, h.zero _ (List.getElem_mem hj) _ hm (h.asc_ne ht hj e)]
    simp
/-- The row that is sent the k-th time. -/
def trn (A : List RowD) (f k : Nat) : RowD := A.getD ((f + k) % A.length) ([], [])
theorem trn_at (hA : 0 < A.length) (f k : Nat) : trn A f k = A[(f + k) % A.length]'(Nat.mod_lt _ hA) := by
  unfold trn
  rw [List.getD_eq_getElem?_getD, List.getElem?_eq_getElem (Nat.mod_lt _ hA)]
  rfl
theorem trn_mem (hA : 0 < A.length) (f k : Nat) : trn A f k ∈ A := by rw [trn_at hA]; exact List.getElem_mem _
theorem trn_new (h : Red g s A) (hA : 0 < A.length) {f i k : Nat} (hi : i < k) (hk : k < A.length) : trn A f k ≠ trn A f i := by
  rw [trn_at hA, trn_at hA]
  intro e
  have h1 : lead (A[(f + k) % A.length]'(Nat.mod_lt _ hA)).1 ≠ lead (A[(f + i) % A.length]'(Nat.mod_lt _ hA)).1 := h.asc_ne _ _ (fun e2 => by
    have := modW (W := A.length) (d := f + i) (a := f + k) (b := f + i) (by omega) (by omega) (by omega) (by omega) e2
    omega)
  exact h1 (by rw [e])
theorem trn_all (hA : 0 < A.length) (f : Nat) {x : RowD} (hx : x ∈ A) : ∃ i, i < A.length ∧ trn A f i = x := by
  obtain ⟨j, hj, rfl⟩ := List.getElem_of_mem hx
  have hf := Nat.mod_lt f hA
  refine ⟨(j + A.length - f % A.length) % A.length, Nat.mod_lt _ hA, ?_⟩
  rw [trn_at hA]
  have e : (f + (j + A.length - f % A.length) % A.length) % A.length = j := by
    rw [Nat.add_mod, Nat.mod_mod, ← Nat.add_mod]
    have e1 : f = A.length * (f / A.length) + f % A.length := (Nat.div_add_mod f A.length).symm
    have e2 : f + (j + A.length - f % A.length) = j + A.length * (f / A.length + 1) := by
      rw [Nat.mul_add, Nat.mul_one]
      omega
    rw [e2, Nat.add_mul_mod_self_left, Nat.mod_eq_of_lt hj]
  simp only [e]
/-- What k turns made of nothing. -/
structure Turn (g s : Nat) (A : List RowD) (f k : Nat) (B : List RowD) : Prop where
  red : Red g s B
  len : B.length = k
  inn : ∀ i, i < k → InS B (fun _ => True) (trn A f i)
  sub : ∀ x ∈ B, InS A (fun _ => True) x
  free : ∀ y ∈ A, (∀ i, i < k → y ≠ trn A f i) → ∀ x ∈ B, ent x (.inl (ldp y)) = 0
theorem Turn.nil (f : Nat) : Turn g s A f 0 [] := ⟨Red.nil g s, rfl, by intro i h; omega, by simp, by simp⟩
theorem Turn.step {f k : Nat} (hA : Red g s A) (h : Turn g s A f k B) (hk : k < A.length) : (insR g s B (trn A f k)).1 = true ∧ Turn g s A f (k + 1) (insR g s B (trn A f k)).2 := by
  have h0 : 0 < A.length := by omega
  have hm := trn_mem h0 f k
  have hr := hA.gs _ hm
  have hfr : ∀ y ∈ A, (∀ i, i < k → y ≠ trn A f i) → y ≠ trn A f k → ent (redR B (trn A f k)) (.inl (ldp y)) = 0 := fun y hy hi hne => by
    rw [redR_ent h.red _ hr, hA.zero y hy _ hm (fun e => hne (hA.inj hy hm e.symm)), S_zero _ _ _ (fun x hx => .inr (h.free y hy hi x hx))]
    rfl
  have hl : ¬ lead (redR B (trn A f k)).1 < 0 := fun hl => by
    have h1 : ent (redR B (trn A f k)) (.inl (ldp (trn A f k))) = 0 := lead_none.1 hl _
    rw [redR_ent h.red _ hr, hA.one _ hm, S_zero _ _ _ (fun x hx => .inr (h.free _ hm (fun i hi => trn_new hA h0 hi hk) x hx))] at h1
    exact absurd h1 (by decide)
  have hq := redR_gs B _ hr h.red.gs
  have hz : ∀ x ∈ B, ent (redR B (trn A f k)) (.inl (ldp x)) = 0 := fun x hx => redR_at h.red _ hr hx
  have hins := insR_in (b := B) hr hl
  have hlen := insR_len (b := B) hr
  have hred := insAny_red h.red (trn A f k)
  have hsub := InS.insR (b := B) (A := A) (P := fun _ => True) (fun x hx => ⟨h.red.gs x hx, h.sub x hx⟩) hr (InS.own hA hm)
  refine ⟨by rw [hins], hred, by rw [hlen, hins, h.len]; rfl, fun i hi => ?_, fun x hx => (hsub x hx).2, fun y hy hi x hx => ?_⟩
  · rw [hins]
    rcases Nat.lt_or_ge i k with h1 | h1
    · exact (h.inn i h1).ins h.red hq (by omega) hz (fun _ => trivial) (hA.gs _ (trn_mem h0 f i))
    · have : i = k := by omega
      subst this
      exact InS.new h.red hr (by omega) _
  · have hi' : ∀ i, i < k → y ≠ trn A f i := fun i h1 => hi i (by omega)
    have h9 := hfr y hy hi' (hi k (by omega))
    rw [hins] at hx
    rcases mem_ins.1 hx with rfl | hx
    · rw [norm_ent, h9, zero_mul]
    · obtain ⟨x2, hx2, rfl⟩ := List.mem_map.1 hx
      rw [free_ent h.red hq hx2, norm_ent, h9, zero_mul, zero_mul, h.free y hy hi' x2 hx2]
      rfl
theorem Turn.done {f : Nat} (hA : Red g s A) (h : Turn g s A f A.length B) : B = A := by
  refine hA.unique h.red (fun x hx => ?_) h.sub |>.symm
  have h0 : 0 < A.length := List.length_pos_of_mem hx
  obtain ⟨i, hi, rfl⟩ := trn_all h0 f hx
  exact h.inn i hi
end
structure FtP where
  d : FD
  pb : Nat
  tb : Nat
  R : RelS
def ttP (c : CfgD) (p : FtP) : Mem := fMem c p.d p.pb p.tb (.pointer none) (some p.R) none
def TtM (c : CfgD) (A : Mem) (p : Nat → FtP) : Mem := A ++ (ttP c (p 0) ++ ttP c (p 1))
def updP (p : Nat → FtP) (k : Nat) (q : FtP) : Nat → FtP := fun j => if j = k then q else p j
theorem updP_same (p : Nat → FtP) (k : Nat) (q : FtP) : updP p k q k = q := if_pos rfl
theorem updP_again (p : Nat → FtP) (k : Nat) (q q2 : FtP) : updP (updP p k q) k q2 = updP p k q2 := by
  funext j
  unfold updP
  split <;> rfl
theorem updP_other (p : Nat → FtP) {k j : Nat} (q : FtP) (h : j ≠ k) : updP p k q j = p j := if_neg h
theorem two_cases {k : Nat} (h : k < 2) : k = 0 ∨ k = 1 := by omega
section
variable {c : CfgD} {A : Mem} {p : Nat → FtP} {xs : List Nat} {H0 H : Hp} {w0 w : World} {k : Nat}
theorem HS.swap3 {A B C : Mem} (h : HS xs H0 w0 H (A ++ (B ++ C)) w) : HS xs H0 w0 H (C ++ (A ++ B)) w := by
  rw [← List.append_assoc] at h
  exact h.perm List.perm_append_comm
theorem HS.swap3' {A B C : Mem} (h : HS xs H0 w0 H (C ++ (A ++ B)) w) : HS xs H0 w0 H (A ++ (B ++ C)) w := by
  have := h.perm (List.perm_append_comm (l₁ := A ++ B) (l₂ := C))
  rwa [List.append_assoc] at this
theorem tt_out (hk : k < 2) (hs : HS xs H0 w0 H (TtM c A p) w) : HS xs H0 w0 H (ttP c (p k) ++ (A ++ ttP c (p (1 - k)))) w := by
  rcases two_cases hk with rfl | rfl
  · exact HS.mid hs
  · exact HS.swap3 hs
theorem tt_in (hk : k < 2) {q : FtP} (hs : HS xs H0 w0 H (ttP c q ++ (A ++ ttP c (p (1 - k)))) w) : HS xs H0 w0 H (TtM c A (updP p k q)) w := by
  unfold TtM
  rcases two_cases hk with rfl | rfl
  · rw [updP_same, updP_other p q (by omega : (1 : Nat) ≠ 0)]
    exact HS.mid hs
  · rw [updP_same, updP_other p q (by omega : (0 : Nat) ≠ 1)]
    exact HS.swap3' hs
theorem tt_lift {P : Program} {f : FuncId} {args : Array Value} {D : Value → Hp → FtP → Prop} (hk : k < 2) (hs : HS [] H0 w0 H (TtM c A p) w)
    (hc : Calls P f args w (Ret (Mem.keys (ttP c (p k))) H w fun v H' M' => ∃ q, M' = ttP c q ∧ D v H' q)) :
    Calls P f args w (fun e w' => ∃ v H' q, e = .returned v ∧ Hp.le H H' ∧ D v H' q ∧ HS [] H0 w0 H' (TtM c A (updP p k q)) w') :=
  Calls.lift (tt_out hk hs) hc rfl (List.all_eq_true.1 (fMem_flags _ _ _ _ _ _ _)) fun v H' M' w' hs' hle ⟨q, e, hD⟩ => by
    subst e
    exact ⟨v, H', q, rfl, hle, hD, tt_in hk hs'⟩
theorem roM_cons (a : Nat) (o : Obj) (t : Bool) (M : Mem) : roM ((a, o, t) :: M) = (a, o, false) :: roM M := rfl
theorem tt_ro (c : CfgD) (q : FtP) : roM (ttP c q) = (q.pb, fObj c q.d q.tb (.pointer none) (ptr q.R.rb) (.pointer none), false) :: (q.tb, toldObj q.d.told, false) :: relMem false q.R.y q.R.rb q.R.wb q.R.l := by
  show roM ((q.pb, fObj c q.d q.tb (.pointer none) (ptr q.R.rb) (.pointer none), true) :: (q.tb, toldObj q.d.told, true) :: relMem true q.R.y q.R.rb q.R.wb q.R.l) = _
  rw [roM_cons, roM_cons, roM_rel]
/-- A part, to be read only. -/
theorem tt_view (hk : k < 2) (hs : HS xs H0 w0 H (TtM c A p) w) : HS [] H w H (((p k).pb, fObj c (p k).d (p k).tb (.pointer none) (ptr (p k).R.rb) (.pointer none), false) :: relMem false (p k).R.y (p k).R.rb (p k).R.wb (p k).R.l) w := by
  have h1 := (tt_out hk hs).ro
  rw [roM_app, tt_ro] at h1
  refine h1.viewSub (.cons_cons _ (.cons _ (List.sublist_append_left _ _))) fun p hp => ?_
  rcases List.mem_cons.1 hp with rfl | hp
  · rfl
  · exact relMem_false hp
theorem frows_pub (c : CfgD) (d : FD) (xb tb rb wb : Nat) (vs vk : Value) (x : RelD) (sl : Slots) (H0 : Hp) (w0 : World) (hs : HS [] H0 w0 H0 ((xb, fObj c d tb vs (ptr rb) vk, false) :: relMem false x rb wb sl) w0)
    (hx : SlotsOk H0 x sl) (hok : RelOk x) :
    Calls Tryz.prog 44 #[ptr xb] w0 (Pure H0 w0 fun v H' => ∃ mb m, v = .map (some mb) ∧ H' mb = some (mObj .u64 m) ∧ RowsM H' x (x.rks.map (·.1)) m) := by
  refine (frows_ok c d xb tb rb wb vs vk x sl H0 w0 hs hx hok).mono ?_
  rintro e w' ⟨v, H', M', rfl, hs', hf, mb, m, rfl, rfl, hm⟩
  have hn : w0.heap.size ≤ mb := by
    rcases (hs'.mem mb (mObj .u64 m) true (by simp)).2.2 rfl with h | h
    · cases h
    · exact h
  obtain ⟨H2, hl, hb, hs2⟩ := HS.pub1 hs' hn
  exact ⟨_, H2, [], rfl, hs2, by simp, rfl, mb, m, rfl, hb, hm.mono hl⟩
/-- What the rows' map has for a generation in the window. -/
theorem OR.lookupRows {P : Program} {n : Nat} {ds : List Deferred} {env : Env} {dst : Option Nat} {ty : TypeId} {pos : String} {aft : Array Edge} {gd : Option (Nat × Bool)} {R : Value → World → Prop} {x y : Operand} {t kt et : TypeId} {d : TypeDesc} {sz by_ : Nat}
    {mb gen : Nat} {m : List (Int × Value)} {yr : RelD} (hg : w.heap[mb]? = some (mObj .u64 m)) (ht : P.underlying t = some (.map kt et)) (hkt : P.underlying kt = some (.int .u64)) (hx : look env x = some (.map (some mb))) (hy : look env y = some (.int .u64 (gen : Int)))
    (hz : TI P et d sz by_ (.slice none 0 0)) (hm : RowsM H yr (yr.rks.map (·.1)) m) (hin : inWin yr.base yr.width gen) (hR : ∀ v, Rws H v (yr.rk gen) → R v w) :
    OR P n ds ⟨dst, .lookup t x y false, ty, pos, aft, gd⟩ env w R := by
  have hob : mObj .u64 m = .map (mEnt .u64 0 m).toArray m.length := rfl
  rw [hob] at hg
  cases hf : m.findIdx? (fun p => p.1 == (gen : Int)) with
  | none =>
    refine .lookupMiss hg ht hx hy (fun w => run_ckey hkt _ w) (fun w => by simp [Instr.findKey, run_underlying hkt, findNow_none .u64 (gen : Int) m 0 0 hf]) hz (hR _ ?_)
    have hno : gen ∉ yr.rks.map (·.1) := fun hmem => by
      obtain ⟨i, hi, e⟩ := List.getElem_of_mem hmem
      have hi' : i < m.length := by rw [hm.1]; exact hi
      have h1 := (hm.2 i hi hi').1
      have h2 := List.findIdx?_eq_none_iff.1 hf m[i] (List.getElem_mem hi')
      rw [h1, e] at h2
      simp at h2
    have he : yr.rk gen = [] := by
      unfold RelD.rk
      rw [if_pos hin]
      refine Classical.byContradiction fun h => hno (rks_mem.2 ⟨hin, h⟩)
    rw [he]
    exact ⟨[], Sl.nil _ _, rfl, fun i h => by simp at h⟩
  | some i =>
    obtain ⟨hi, hq⟩ := findNow_some .u64 (gen : Int) m 0 0 i hf
    have hi' : i < (yr.rks.map (·.1)).length := by rw [← hm.1]; exact hi
    have h1 := hm.2 i hi' hi
    have h2 := (List.findIdx?_eq_some_iff_getElem.1 hf).2.1
    have e : (yr.rks.map (·.1))[i] = gen := by
      have : m[i].1 = (gen : Int) := by simpa using h2
      rw [this] at h1
      exact_mod_cast h1.1.symm
    rw [e] at h1
    exact .lookupIn (i := i) (u := m[i].2) hg ht hx hy (fun w => run_ckey hkt _ w) (fun w => by simp [Instr.findKey, run_underlying hkt, hq]) (hR _ h1.2)
/-- A relay that has just been made. -/
structure PartNew (c : CfgD) (H : Hp) (k : Nat) (p : FtP) : Prop where
  d : p.d = fN ((k + 1 : Nat) : Int) 1099511627776
  y : p.R.y = (newR c.g c.s c.win).moveTo 1099511627776
  ok : RlOk H (some p.R)
theorem PartNew.mono {q : FtP} {H' : Hp} (h : PartNew c H k q) (hle : Hp.le H H') : PartNew c H' k q := ⟨h.d, h.y, h.ok.mono hle⟩
structure PartMid (c : CfgD) (H : Hp) (k : Nat) (p : FtP) : Prop where
  d : ∃ nv, p.d = (fN ((k + 1 : Nat) : Int) 1099511627776).epoch [3] nv ∧ Ints H nv [3]
  y : p.R.y = (newR c.g c.s c.win).moveTo 1099511627776
  ok : RlOk H (some p.R)
theorem PartMid.mono {q : FtP} {H' : Hp} (h : PartMid c H k q) (hle : Hp.le H H') : PartMid c H' k q := ⟨by obtain ⟨nv, h1, h2⟩ := h.d; exact ⟨nv, h1, h2.mono hle⟩, h.y, h.ok.mono hle⟩
/-- A relay that works, from generation 0 on. -/
structure PartOn (c : CfgD) (H : Hp) (p : FtP) (L : List RowD) : Prop where
  ok : RlOk H (some p.R)
  base : p.R.y.base = 0
  w : p.R.y.width = c.win
  g : p.R.y.g = c.g
  s : p.R.y.s = c.s
  rk : p.R.y.rk 0 = L
theorem PartOn.mono {q : FtP} {H' : Hp} {L : List RowD} (h : PartOn c H q L) (hle : Hp.le H H') : PartOn c H' q L := ⟨h.ok.mono hle, h.base, h.w, h.g, h.s, h.rk⟩
theorem PartOn.inW {q : FtP} {L : List RowD} (h : PartOn c H q L) (hw : 1 ≤ c.win) : inWin q.R.y.base q.R.y.width 0 := by
  rw [h.base, h.w]
  unfold inWin winEnd
  omega
theorem PartOn.red {q : FtP} {L : List RowD} (h : PartOn c H q L) : Red c.g c.s L := by
  rw [← h.rk, ← h.g, ← h.s]
  exact h.ok.2.rk 0
theorem tt_epoch {v : Value} (hk : k < 2) (hs : HS [] H0 w0 H (TtM c A p) w) (h : PartNew c H k (p k)) (hv : Ints H v [3]) (hn : c.nodes = 4) :
    Calls Tryz.prog 38 #[ptr (p k).pb, v] w (fun e w' => ∃ v H' q, e = .returned v ∧ Hp.le H H' ∧ (q.pb = (p k).pb ∧ PartMid c H' k q) ∧ HS [] H0 w0 H' (TtM c A (updP p k q)) w') := by
  refine tt_lift (D := fun v H' q => q.pb = (p k).pb ∧ PartMid c H' k q) hk hs ((fepoch_ok c (p k).d (p k).pb (p k).tb (.pointer none) (some (p k).R) none v [3] H w (HS.part (tt_out hk hs)) h.ok (Nat.le_refl _) hv (by decide) (next1 (by rw [hn, h.d]; exact ⟨by decide, by decide, by show (3 : Int) ≠ ((k + 1 : Nat) : Int); omega⟩)) (up1 _)).mono ?_)
  rintro e w' ⟨v, H', M', rfl, hs', hf, nv, tb', l', rfl, rfl, hnv, hro⟩
  obtain ⟨e1, e2, -⟩ := Hop1.epoch (k := 3) (node := ((k + 1 : Nat) : Int)) (b := 1099511627776) (B := 1099511627776) nv (Nat.le_refl _)
  have e3 : workR ((p k).d.epoch [3] nv) (skBase none) l' (some (p k).R) = some { (p k).R with l := l' } := by
    show some (RelS.work _ _ _ _) = _
    rw [h.d, RelS.work, if_pos e2]
  have e4 : ((p k).d.epoch [3] nv).work (skBase none) = (fN ((k + 1 : Nat) : Int) 1099511627776).epoch [3] nv := by rw [h.d]; exact e1
  rw [e3] at hs' hf hro
  rw [e4] at hs' hf
  exact ⟨_, H', _, rfl, hs', hf, ⟨_, (p k).pb, tb', { (p k).R with l := l' }⟩, rfl, rfl, ⟨nv, rfl, hnv⟩, h.y, hro⟩
theorem moved_on {c : CfgD} {d2 : FD} (l' : Slots) {q : FtP} (hy : q.R.y = (newR c.g c.s c.win).moveTo 1099511627776) (hi : ¬ (d2.idle = true)) (hl : leastN 1099511627776 d2.told = 0) (hw : 1 ≤ c.win) :
    (q.R.work d2 1099511627776 l').y.base = 0 ∧ (q.R.work d2 1099511627776 l').y.width = c.win ∧ (q.R.work d2 1099511627776 l').y.g = c.g ∧ (q.R.work d2 1099511627776 l').y.s = c.s ∧ (q.R.work d2 1099511627776 l').y.rk 0 = [] := by
  obtain ⟨e1, -⟩ := work_y (R := q.R) (B := 1099511627776) (l := l') hi
  rw [hl, hy] at e1
  have t1 := Tru.new (X := ⟨c.g, c.s, [], [], false, [], []⟩) (W := c.win) (g := c.g) (s := c.s) rfl rfl 1099511627776 (Nat.le_refl _)
  obtain ⟨t2, t3⟩ := t1.1.move (nb := 0) (Nat.zero_le _)
  rw [e1]
  refine ⟨t3, t2.w, t2.g, t2.s, ?_⟩
  unfold RelD.rk
  split
  · rename_i hin
    have h9 := t2.at (by omega) (by rw [t2.w] at hin; exact hin)
    rw [t2.w]
    rcases h9 with h9 | h9
    · exact h9
    · exact absurd h9.1 (Nat.not_lt_zero _)
  · rfl
theorem tt_hop (hk : k < 2) (hs : HS [] H0 w0 H (TtM c A p) w) (h : PartMid c H k (p k)) (hw : 1 ≤ c.win) :
    Calls Tryz.prog 39 #[ptr (p k).pb, .int .i64 3, .int .u64 0] w (fun e w' => ∃ v H' q, e = .returned v ∧ Hp.le H H' ∧ (q.pb = (p k).pb ∧ PartOn c H' q []) ∧ HS [] H0 w0 H' (TtM c A (updP p k q)) w') := by
  obtain ⟨nv, hd, hnv⟩ := h.d
  have hh : Hop1 3 (p k).d := by rw [hd]; exact (Hop1.epoch (k := 3) (node := ((k + 1 : Nat) : Int)) (b := 1099511627776) (B := 0) nv (Nat.le_refl _)).2.2
  obtain ⟨q1, q2, q3⟩ := hh.len
  obtain ⟨p1, p2, p3, p4⟩ := hh.hop (Nat.zero_le _)
  have hnx : Ints H (p k).d.nv (p k).d.next := by rw [hh.next, hd]; exact hnv
  refine tt_lift (D := fun v H' q => q.pb = (p k).pb ∧ PartOn c H' q []) hk hs ((fhop_ok c (p k).d (p k).pb (p k).tb (.pointer none) (some (p k).R) none 3 0 H w (HS.part (tt_out hk hs)) h.ok (Nat.le_refl _) hnx q1 q2 q3 (by rw [hh.next]; exact List.mem_singleton.2 rfl) (Nat.zero_le _)).mono ?_)
  rintro e w' ⟨v, H', M', rfl, hs', hf, l', rfl, rfl, hro⟩
  obtain ⟨m1, m2, m3, m4, m5⟩ := moved_on (c := c) l' (q := p k) h.y (hh.idle 0) p4 hw
  exact ⟨_, H', _, rfl, hs', hf, ⟨((p k).d.hop 3 0).work 1099511627776, (p k).pb, (p k).tb, (p k).R.work ((p k).d.hop 3 0) 1099511627776 l'⟩, rfl, rfl, hro, m1, m2, m3, m4, m5⟩
theorem take_gen0 {y : RelD} {r : RowD} (hin : inWin y.base y.width 0) (hr : RowGS y.g y.s r) :
    (y.take 0 r).g = y.g ∧ (y.take 0 r).s = y.s ∧ (y.take 0 r).base = y.base ∧ (y.take 0 r).width = y.width ∧ (y.take 0 r).rk 0 = (insR y.g y.s (y.rk 0) r).2 ∧ y.takeI 0 r = (insR y.g y.s (y.rk 0) r).1 ∧ y.takeE 0 r = 0 := by
  have e : y.rk 0 = y.rows (0 % y.width) := by unfold RelD.rk; rw [if_pos hin]
  have h1 : y.take 0 r = y.put 0 (insR y.g y.s (y.rows (0 % y.width)) r).2 := by rw [RelD.take, if_pos hin]
  rw [h1, e]
  refine ⟨rfl, rfl, rfl, rfl, ?_, ?_, ?_⟩
  · unfold RelD.rk
    rw [if_pos (show inWin (y.put 0 _).base (y.put 0 _).width 0 from hin)]
    show (if 0 % y.width = 0 % y.width then (insR y.g y.s (y.rows (0 % y.width)) r).2 else y.rows (0 % y.width)) = _
    rw [if_pos rfl]
  · rw [RelD.takeI, decide_eq_true hin]; rfl
  · rw [RelD.takeE, if_pos hin, if_pos (show r.1.length = y.g ∧ r.2.length = y.s from hr)]
theorem tt_take {vr : Value} {r : RowD} {L : List RowD} (hk : k < 2) (hs : HS [] H0 w0 H (TtM c A p) w) (h : PartOn c H (p k) L) (hw : 1 ≤ c.win) (hr : RowV H vr r) (hgs : RowGS c.g c.s r) :
    Calls Tryz.prog 43 #[ptr (p k).pb, .int .u64 0, vr] w (fun e w' => ∃ v H' q, e = .returned v ∧ Hp.le H H' ∧ (v = .tuple #[.bool (insR c.g c.s L r).1, .int .i64 0] ∧ q.pb = (p k).pb ∧ PartOn c H' q (insR c.g c.s L r).2) ∧ HS [] H0 w0 H' (TtM c A (updP p k q)) w') := by
  have hs2 : HS [] H0 w0 H ([((p k).pb, fObj c (p k).d (p k).tb (.pointer none) (ptr (p k).R.rb) (.pointer none), true), ((p k).tb, toldObj (p k).d.told, true)] ++ (relMem true (p k).R.y (p k).R.rb (p k).R.wb (p k).R.l ++ (A ++ ttP c (p (1 - k))))) w := tt_out hk hs
  have hs3 := HS.mid hs2
  have hs4 := HS.mtail hs3
  obtain ⟨t1, t2, t3, t4, t5, t6, t7⟩ := take_gen0 (h.inW hw) (r := r) (by rw [h.g, h.s]; exact hgs)
  rw [h.g, h.s, h.rk] at t5 t6
  refine Calls.lift hs3 (ftake_ok c (p k).d (p k).pb (p k).tb (p k).R.rb (p k).R.wb 0 (.pointer none) (.pointer none) vr (p k).R.y (p k).R.l r H w (HS.relVm (t := true) hs4 (List.mem_append_left _ (List.mem_cons_self ..))) h.ok.1 h.ok.2 (by omega) hr) rfl (List.all_eq_true.1 (relMem_flags _ _ _ _)) ?_
  rintro v H' M' w' hs' hle ⟨rfl, l', rfl, hso⟩
  refine ⟨_, H', ⟨(p k).d, (p k).pb, (p k).tb, ⟨(p k).R.y.take 0 r, (p k).R.rb, (p k).R.wb, l'⟩⟩, rfl, hle, ⟨by rw [t6, t7], rfl, ⟨hso, h.ok.2.take 0 r⟩, t3.trans h.base, t4.trans h.w, t1.trans h.g, t2.trans h.s, t5⟩, ?_⟩
  have hs5 := HS.mid hs'
  exact tt_in (q := ⟨(p k).d, (p k).pb, (p k).tb, ⟨(p k).R.y.take 0 r, (p k).R.rb, (p k).R.wb, l'⟩⟩) hk hs5
theorem tt_send {vd : Value} {L : List RowD} (hk : k < 2) (sent : Nat) (hst : sent < 18446744073709551616) (hs : HS [] H0 w0 H (TtM c A p) w) (h : PartOn c H (p k) L) (hw : 1 ≤ c.win) (hd : Bytes H vd []) :
    Calls Tryz.prog 45 #[ptr (p k).pb, .int .u64 0, .int .u64 (sent : Int), vd] w (Pure H w fun v H' => TupR H' v (sndR c.g c.s L sent []) (if L.length = 0 then 6 else 0)) := by
  refine (fsend_rel c (p k).d (p k).pb (p k).tb (p k).R.rb (p k).R.wb 0 sent (.pointer none) vd (p k).R.y (p k).R.l [] H w (tt_view hk hs) h.ok.1 h.ok.2 hd (by omega) hst).mono ?_
  have hin := h.inW hw
  have e : (p k).R.y.rows (0 % (p k).R.y.width) = L := by rw [← h.rk]; unfold RelD.rk; rw [if_pos hin]
  have e1 : (p k).R.y.sndF 0 sent [] = sndR c.g c.s L sent [] := by rw [RelD.sndF, if_pos hin, e, h.g, h.s]
  have e2 : (p k).R.y.sndE 0 = if L.length = 0 then 6 else 0 := by rw [RelD.sndE, if_pos hin, e]
  rw [e1, e2]
  exact fun _ _ h => h
theorem tt_rows (hk : k < 2) {L : List RowD} (hs : HS xs H0 w0 H (TtM c A p) w) (h : PartOn c H (p k) L) :
    Calls Tryz.prog 44 #[ptr (p k).pb] w (Pure H w fun v H' => ∃ mb m, v = .map (some mb) ∧ H' mb = some (mObj .u64 m) ∧ RowsM H' (p k).R.y ((p k).R.y.rks.map (·.1)) m) :=
  frows_pub c (p k).d (p k).pb (p k).tb (p k).R.rb (p k).R.wb _ _ (p k).R.y (p k).R.l H w (tt_view hk hs) h.ok.1 h.ok.2
end
def tuX (c : CfgD) (sb xb txb : Nat) (o : Obj) : Mem := (sb, o, true) :: fMem c (fN 0 1099511627776) xb txb (ptr sb) none none
theorem tt_src {c : CfgD} {p : Nat → FtP} {xs : List Nat} {H0 H : Hp} {w0 w : World} {sb xb txb : Nat} {o : Obj} (hs : HS xs H0 w0 H (TtM c (tuX c sb xb txb o) p) w) :
    (w.heap[sb]? = some o ∧ H sb = none) ∧ (w.heap[xb]? = some (fObj c (fN 0 1099511627776) txb (ptr sb) (.pointer none) (.pointer none)) ∧ H xb = none) := by
  have h1 := hs.mem sb o true (List.mem_append_left _ (List.mem_cons_self ..))
  have h2 := hs.mem xb (fObj c (fN 0 1099511627776) txb (ptr sb) (.pointer none) (.pointer none)) true (List.mem_append_left _ (List.mem_cons_of_mem _ (List.mem_cons_self ..)))
  exact ⟨⟨h1.1, h1.2.1⟩, h2.1, h2.2.1⟩
def MF.rmap (x : RelD) : MF := MF.of (fun v H => ∃ mb m, v = .map (some mb) ∧ H mb = some (mObj .u64 m) ∧ RowsM H x (x.rks.map (·.1)) m) fun _ _ _ hle h => by obtain ⟨mb, m, h1, h2, h3⟩ := h; exact ⟨mb, m, h1, hle _ _ h2, h3.mono hle⟩
theorem one_chunk {g s : Nat} (hg : goodGS (g : Int) (s : Int)) (hb : g * s ≤ 1000) {m : Nat} (hm : 1 ≤ m) :
    subE (newD g s [] [] false) (List.replicate (g * s - 4) 0) m = 0 ∧ (subD (newD g s [] [] false) (List.replicate (g * s - 4) 0) m).chunks.length = 1 ∧ (subD (newD g s [] [] false) (List.replicate (g * s - 4) 0) m).g = g ∧ (subD (newD g s [] [] false) (List.replicate (g * s - 4) 0) m).s = s := by
  have hr : 1 ≤ g * s - 4 := (newD_ok hg).room
  have h1 : (longD (newD g s [] [] false) (List.replicate (g * s - 4) 0)).chunks.length = 1 := by
    show (chunksF (g * s - 4) ([] ++ List.replicate (g * s - 4) 0) []).length = 1
    have e : (List.replicate (g * s - 4) (0 : UInt8)).length = g * s - 4 := List.length_replicate ..
    simp only [chunksF, chunkP, List.foldl_nil, List.nil_append, wholeL, List.length_append, List.length_map, List.length_range, e, List.length_nil, Nat.sub_zero]
    rw [Nat.div_self (by omega)]
  have h2 : (longD (newD g s [] [] false) (List.replicate (g * s - 4) 0)).opn = [] := by
    show openF (g * s - 4) ([] ++ List.replicate (g * s - 4) 0) [] = []
    have e : (List.replicate (g * s - 4) (0 : UInt8)).length = g * s - 4 := List.length_replicate ..
    simp only [openF, chunkP, List.foldl_nil, List.nil_append, e, Nat.sub_zero]
    rw [Nat.div_self (by omega)]
    simp
  have hf : subFits (newD g s [] [] false) (List.replicate (g * s - 4) 0) m := by
    refine ⟨by rw [List.length_replicate]; show 0 + _ ≤ _; omega, ?_⟩
    rw [needs, h1, h2]
    exact hm
  have e1 : subD (newD g s [] [] false) (List.replicate (g * s - 4) 0) m = longD (newD g s [] [] false) (List.replicate (g * s - 4) 0) := by
    rw [subD, if_neg (by show ¬ (false = true); decide), if_pos hf]
  rw [e1]
  exact ⟨by rw [subE, if_neg (by show ¬ (false = true); decide), if_pos hf], h1, rfl, rfl⟩
end Go.Bw
namespace Go.Bw
set_option linter.unusedVariables false
set_option linter.unusedSimpArgs false
open Go.RowKit Go.ChangeShapes
theorem okWide_cell {P : Program} {w : World} {r : Go.Reach} {base : Nat} {t : TypeId} {k : IntKind} {v : Value} (ht : P.underlying t = some (.int k)) (h : Value.okWide P w r base t v) : v.cells = #[v] := by
  simp only [Value.okWide, ht, Cell.okWide] at h
  cases v <;> simp_all [Cell.ok, Value.cells]
theorem read_byteV {H : Type} {enc : TypeId × Value → H} {P : Program} {W : World} {base : Nat} {t : TypeId} {v : Value} {d : DataW H} {p : List MemPlace} (ht : P.underlying t = some (.int .u8)) (hv : Value.okWide P W .any base t v)
    (h : DataW.Trod enc P W 0 (fun _ => true) true t v d p) : ∃ b : UInt8, v = B b := by
  obtain ⟨fuel, h⟩ := h
  rw [okWide_cell ht hv] at h
  obtain ⟨b, e⟩ := read_byte ht h
  exact ⟨b, by simpa using e⟩
end Go.Bw
namespace Go.Bw
set_option linter.unusedVariables false
set_option linter.unusedSimpArgs false
open Go.Proofs
def tuG (G : UInt8) : Nat := 1 + G.toNat % 8
def tuS (S : UInt8) : Nat := 5 + S.toNat % 8
theorem tu_good (G S : UInt8) : goodGS (tuG G) (tuS S) ∧ tuG G * tuS S ≤ 1000 ∧ 5 ≤ tuG G * tuS S ∧ tuG G ≤ 8 ∧ tuS S ≤ 12 := by
  have h1 := Nat.mod_lt G.toNat (by omega : 0 < 8)
  have h2 := Nat.mod_lt S.toNat (by omega : 0 < 8)
  have h3 : 1 * 5 ≤ tuG G * tuS S := Nat.mul_le_mul (by unfold tuG; omega) (by unfold tuS; omega)
  have h4 : tuG G * tuS S ≤ 8 * 12 := Nat.mul_le_mul (by unfold tuG; omega) (by unfold tuS; omega)
  refine ⟨⟨by unfold tuG; omega, by unfold tuG; omega, by unfold tuS; omega, by unfold tuS; omega, ?_⟩, by omega, by omega, by unfold tuG; omega, by unfold tuS; omega⟩
  rw [← Int.natCast_mul]
  omega
def tuC (G S : UInt8) (vf vs : Value) : CfgD := ⟨4, tuG G, tuS S, 4, 1, [3], vf, vs⟩
theorem tuC_ok (G S : UInt8) (vf vs : Value) : CfgOk (tuC G S vf vs) := by
  obtain ⟨⟨n1, n2, n3, n4, n5⟩, -⟩ := tu_good G S
  refine ⟨⟨by show 1 ≤ 4; omega, by show 4 ≤ 64; omega⟩, ⟨by show 1 ≤ tuG G; omega, by show tuG G ≤ 255; omega, by show 1 ≤ tuS S; omega, by show tuS S ≤ 65535; omega, by show 4 < tuG G * tuS S; exact_mod_cast n5⟩, ⟨by show 1 ≤ 4; omega, by show 4 ≤ 16; omega⟩, ⟨by show 1 ≤ 1; omega, by show 1 ≤ 64; omega⟩, ⟨by show 1 ≤ 1; omega, by show 1 ≤ 8; omega⟩, ?_, ?_⟩
  · intro i h
    have : i = 0 := by have h' : i < 1 := h; omega
    subst this
    exact ⟨by show (1 : Int) ≤ 3; omega, by show (3 : Int) ≤ 4 - 1; omega⟩
  · intro i h hi
    have h' : i < 1 := h
    omega
def tuP (c : CfgD) (yb tyb ryb wyb zb tzb rzb wzb : Nat) (ly lz : Slots) : Nat → FtP
  | 0 => ⟨fN 1 1099511627776, yb, tyb, ⟨(newR c.g c.s c.win).moveTo 1099511627776, ryb, wyb, ly⟩⟩
  | _ => ⟨fN 2 1099511627776, zb, tzb, ⟨(newR c.g c.s c.win).moveTo 1099511627776, rzb, wzb, lz⟩⟩
theorem updP_pb {p : Nat → FtP} {yb zb k : Nat} {q : FtP} (h0 : (p 0).pb = yb) (h1 : (p 1).pb = zb) (hk : k < 2) (hq : q.pb = (p k).pb) : (updP p k q 0).pb = yb ∧ (updP p k q 1).pb = zb := by
  rcases two_cases hk with rfl | rfl
  · rw [updP_same, updP_other p q (by omega : (1 : Nat) ≠ 0)]
    exact ⟨hq.trans h0, h1⟩
  · rw [updP_same, updP_other p q (by omega : (0 : Nat) ≠ 1)]
    exact ⟨h0, hq.trans h1⟩
abbrev tturnV (vl : Value) (fr : Nat) : Value := .agg #[vl, .int .u32 (fr : Int)]
set_option maxHeartbeats 16000000 in
set_option maxRecDepth 20000 in
set_option maxHeartbeats 2000000 in
theorem flturns_ok (G S : UInt8) (vl : Value) (rl : List (List UInt8)) (fr : Nat) (H0 : Hp) (w0 : World) (h0 : Sub H0 w0) (hl : BytesL H0 vl rl) (hlen : rl.length ≤ 9223372036854775807) (hll : ∀ r ∈ rl, r.length ≤ 9223372036854775807) (hfr : fr < 4294967296) :
    Calls Tryz.prog 6 #[B G, B S, tturnV vl fr] w0 (Pure H0 w0 fun v _ => v = .bool true) := by
  have hs := HS.init h0
  have hle := Hp.le.refl H0
  obtain ⟨bl, cl, rfl⟩ := hl.form
  refine Calls.enter (args := [B G, B S, tturnV (.slice bl rl.length cl) fr]) Tryz.func6 rfl Tryz.ntmps6 rfl ?_
  refine WC.seq (WC.region (WO.step rfl (OR.box hs rfl ?_)))
  clear hs; intro g1 w hg1 hs
  refine WO.step rfl (OR.assign rfl (WO.done (WX.seq (WC.seq (WC.region (WO.step rfl (OR.move rfl ?_)))))))
  obtain ⟨H, hle1, hp_g1, hs9⟩ := hs.pub1 hg1; clear hs; have hs := hs9; clear hs9; replace hle := hle.trans hle1; (try replace hlb := hlb.trans hle1)
  have hv0 : hcell H ⟨g1, 0 + 0, none⟩ = some (.slice bl rl.length cl) ∧ hcell H ⟨g1, 0 + 1, none⟩ = some (.int .u32 (fr : Int)) := ⟨hcell_of hp_g1 rfl, hcell_of hp_g1 rfl⟩
  have hl0 := Hp.le.refl H
  refine WO.step rfl (OR.convB T5.und T3.und rfl ?_)
  refine WO.step rfl (OR.rem rfl rfl (by omega) ?_)
  rw [show ((G.toNat : Int).tmod 8) = ((G.toNat % 8 : Nat) : Int) from rfl]
  refine WO.step rfl (OR.addI rfl rfl (by omega) (by omega) (WO.step rfl (OR.move rfl ?_)))
  refine WO.step rfl (OR.convB T5.und T3.und rfl ?_)
  rw [show (1 : Int) + ((G.toNat % 8 : Nat) : Int) = (tuG G : Int) from rfl]
  refine WO.step rfl (OR.rem rfl rfl (by omega) ?_)
  rw [show ((S.toNat : Int).tmod 8) = ((S.toNat % 8 : Nat) : Int) from rfl]
  refine WO.step rfl (OR.addI rfl rfl (by omega) (by omega) ?_)
  refine WO.step rfl (OR.buildSlice (vs := [.int .i64 3]) hs T76.und T3 rfl rfl rfl rfl (by simp) ?_)
  clear hs; intro q1 w hq1 hs
  rw [show (5 : Int) + ((S.toNat % 8 : Nat) : Int) = (tuS S : Int) from rfl]
  refine WO.step rfl (OR.buildAll T78 rfl rfl PL78 rfl rfl ?_)
  obtain ⟨H, hle1, hp_q1, hs9⟩ := hs.pub1 hq1; clear hs; have hs := hs9; clear hs9; replace hle := hle.trans hle1; (try replace hlb := hlb.trans hle1)
  have hi1 : Ints H (.slice (some ⟨q1, 0, none⟩) 1 1) [3] := Sl.block hp_q1 rfl rfl (by simp)
  replace hl0 := hl0.trans hle1
  refine WO.step rfl (OR.buildSlice (vs := [_]) hs T79.und T78 rfl rfl rfl rfl (by simp) ?_)
  clear hs; intro q2 w hq2 hs
  refine WO.step rfl (OR.buildAll T81 rfl rfl PL81 rfl rfl (WO.step rfl (OR.alloc hs T81 ?_)))
  clear hs; intro g2 w hg2 hs
  refine WO.stepN (OR.storeAll hs T81 rfl rfl rfl rfl rfl ?_)
  clear hs; intro w hs
  refine WO.done (WX.seq (WC.seq (WC.region (WO.step rfl (OR.fieldAddr FA81_1 rfl (WO.step rfl (OR.load T79 rfl rfl (hs.cellM (i := 0) rfl rfl) ?_)))))))
  replace hs := hs.front (i := 1) rfl
  obtain ⟨H, hle1, hp_q2, hs9⟩ := hs.pub1 hq2; clear hs; have hs := hs9; clear hs9; replace hle := hle.trans hle1; (try replace hlb := hlb.trans hle1)
  replace hl0 := hl0.trans hle1
  replace hi1 := hi1.mono hle1
  have hcf : ∀ j u, (fcCells (tuC G S (.slice (some ⟨q2, 0, none⟩) 1 1) (.slice (some ⟨q1, 0, none⟩) 1 1)))[j]? = some u → hcell H ((⟨q2, 0, none⟩ : Addr).add j) = some u := fun j u hj => by
    rw [add_off, Nat.zero_add]
    exact hcell_of hp_q2 (by rw [nth_eq]; exact hj)
  obtain ⟨H, hle1, hp_g2, hs9⟩ := hs.pub1 hg2; clear hs; have hs := hs9; clear hs9; replace hle := hle.trans hle1; (try replace hlb := hlb.trans hle1)
  replace hl0 := hl0.trans hle1
  obtain ⟨c, hc⟩ : ∃ c : CfgD, c = tuC G S (.slice (some ⟨q2, 0, none⟩) 1 1) (.slice (some ⟨q1, 0, none⟩) 1 1) := ⟨_, rfl⟩
  have hok : CfgOk c := by rw [hc]; exact tuC_ok _ _ _ _
  replace hcf := fun j u hj => hcell.mono hle1 (hcf j u hj)
  rw [← hc] at hcf
  have hcin : CfgIn H c := by
    rw [hc]
    exact ⟨⟨q2, 0, 1, rfl, by omega, by rw [← hc]; exact hcf⟩, hi1.mono hle1⟩
  have hc7 : ∀ j u, (cfgCells c)[j]? = some u → hcell H ((⟨g2, 0, none⟩ : Addr).add j) = some u := fun j u hj => by
    rw [add_off, Nat.zero_add]
    refine hcell_of hp_g2 ?_
    rw [nth_eq]
    rw [hc] at hj
    exact hj
  have hgs : c.g = tuG G ∧ c.s = tuS S ∧ c.nodes = 4 ∧ c.sinks = [3] ∧ c.win = 4 := by rw [hc]; exact ⟨rfl, rfl, rfl, rfl, rfl⟩
  have hfc : fcCells c = [.int .i64 (c.g : Int), .int .i64 (c.s : Int), .int .i64 0, .slice (some ⟨q1, 0, none⟩) 1 1] := by rw [hc]; rfl
  rw [hfc] at hcf
  have hcv : c.vf = .slice (some ⟨q2, 0, none⟩) 1 1 := by rw [hc]; rfl
  clear hc hi1
  have hlc := Hp.le.refl H
  refine WO.step rfl (OR.idxN 0 T79.und T78 rfl rfl rfl (by show 0 < 1; omega) ?_)
  refine WO.step rfl (OR.loadN (cs := [.int .i64 (c.g : Int), .int .i64 (c.s : Int), .int .i64 0, .slice (some ⟨q1, 0, none⟩) 1 1]) T78 rfl rfl rfl (fun j u hj => hs.cell (hcf j u hj)) ?_)
  refine WO.step rfl (OR.alloc hs T78 ?_)
  clear hs; intro g3 w hg3 hs
  refine WO.stepN (OR.storeAll hs T78 rfl rfl rfl rfl rfl ?_)
  clear hs; intro w hs
  refine WO.done (WX.seq (WC.seq (WC.region ?_)))
  obtain ⟨H, hle1, hp_g3, hs9⟩ := hs.pub1 hg3; clear hs; have hs := hs9; clear hs9; replace hle := hle.trans hle1; (try replace hlb := hlb.trans hle1)
  replace hlc := hlc.trans hle1
  replace hl0 := hl0.trans hle1
  have hg8 : hcell H ⟨g3, 0 + 0, none⟩ = some (.int .i64 (c.g : Int)) ∧ hcell H ⟨g3, 0 + 1, none⟩ = some (.int .i64 (c.s : Int)) := ⟨hcell_of hp_g3 rfl, hcell_of hp_g3 rfl⟩
  have hl8 := Hp.le.refl H
  refine WO.step rfl (OR.loadN (cs := cfgCells c) T81 rfl rfl rfl (fun j u hj => hs.cell (hcell.mono hlc (hc7 j u hj))) ?_)
  refine WO.step rfl (OR.callX (Mx := []) hs body35 rfl rfl (fnew_src c hok _ _ hs.toSub (hcin.mono hlc)) rfl rfl ?_)
  clear hs; rintro _ H M w hs hle1 hnew ⟨xb, txb, sb, o, rfl, rfl, hx⟩; replace hle := hle.trans hle1; (try replace hlb := hlb.trans hle1)
  replace hlc := hlc.trans hle1
  replace hl8 := hl8.trans hle1
  rw [List.append_nil] at hs
  replace hs := HS.mtail hs
  refine WO.step rfl (OR.move rfl (WO.step rfl (OR.extract rfl rfl (WO.step rfl (OR.extract rfl rfl (WO.step rfl (OR.assign rfl ?_)))))))
  refine WO.step rfl (OR.assign rfl (WO.done (WX.seq (WC.seq (WC.region ?_)))))
  refine WO.step rfl (OR.loadN (cs := cfgCells c) T81 rfl rfl rfl (fun j u hj => hs.cell (hcell.mono hlc (hc7 j u hj))) ?_)
  refine WO.step rfl (OR.callX (Mx := []) hs body35 rfl rfl (fnew_rel c hok 1 _ _ hs.toSub (hcin.mono hlc) (by rw [hgs.2.2.1]; decide) (by rw [hgs.2.2.2.1]; decide)) rfl rfl ?_)
  clear hs; rintro _ H M w hs hle1 hnew ⟨yb, tyb, ryb, wyb, ly, rfl, rfl, hry⟩; replace hle := hle.trans hle1; (try replace hlb := hlb.trans hle1)
  replace hlc := hlc.trans hle1
  replace hl8 := hl8.trans hle1
  replace hx := hx.mono hle1
  replace hs := HS.mtail hs
  refine WO.step rfl (OR.move rfl (WO.step rfl (OR.extract rfl rfl (WO.step rfl (OR.extract rfl rfl (WO.step rfl (OR.assign rfl ?_)))))))
  refine WO.step rfl (OR.assign rfl (WO.done (WX.seq (WC.seq (WC.region ?_)))))
  refine WO.step rfl (OR.loadN (cs := cfgCells c) T81 rfl rfl rfl (fun j u hj => hs.cell (hcell.mono hlc (hc7 j u hj))) ?_)
  refine WO.step rfl (OR.callX (Mx := []) hs body35 rfl rfl (fnew_rel c hok 2 _ _ hs.toSub (hcin.mono hlc) (by rw [hgs.2.2.1]; decide) (by rw [hgs.2.2.2.1]; decide)) rfl rfl ?_)
  clear hs; rintro _ H M w hs hle1 hnew ⟨zb, tzb, rzb, wzb, lz, rfl, rfl, hrz⟩; replace hle := hle.trans hle1; (try replace hlb := hlb.trans hle1)
  replace hlc := hlc.trans hle1
  replace hl8 := hl8.trans hle1
  replace hx := hx.mono hle1
  replace hry := hry.mono hle1
  replace hs := HS.mtail hs
  refine WO.step rfl (OR.move rfl (WO.step rfl (OR.extract rfl rfl (WO.step rfl (OR.extract rfl rfl (WO.step rfl (OR.assign rfl ?_)))))))
  refine WO.step rfl (OR.assign rfl (WO.done (WX.seq (WC.seq (WC.seq (WC.region ?_))))))
  refine WO.step rfl (OR.call hs body36 rfl rfl (fawake_ok _ _ hs.toSub) ?_)
  clear hs; rintro _ H w hs hle1 rfl; replace hle := hle.trans hle1; (try replace hlb := hlb.trans hle1)
  replace hlc := hlc.trans hle1
  replace hl8 := hl8.trans hle1
  replace hx := hx.mono hle1
  replace hry := hry.mono hle1
  replace hrz := hrz.mono hle1
  have hgd := tu_good G S
  rw [← hgs.1, ← hgs.2.1] at hgd
  obtain ⟨hgd, hgm, hgn, hg8l, hs12⟩ := hgd
  have hgI : (c.g : Int) * (c.s : Int) = ((c.g * c.s : Nat) : Int) := (Int.natCast_mul _ _).symm
  refine WO.step rfl (OR.not rfl (WO.step rfl (OR.move rfl ?_)))
  refine WO.guardYes rfl rfl rfl rfl (OR.move rfl (WO.guardYes rfl rfl rfl rfl (OR.neq rfl rfl (WO.step rfl (OR.pickF rfl rfl rfl (WO.step rfl (OR.move rfl ?_)))))))
  refine WO.guardYes rfl rfl rfl rfl (OR.move rfl (WO.guardYes rfl rfl rfl rfl (OR.fieldAddr FA78_0 rfl ?_)))
  refine WO.guardYes rfl rfl rfl rfl (OR.load T3 rfl rfl (hs.cell (hcell.mono hl8 hg8.1)) ?_)
  refine WO.guardYes rfl rfl rfl rfl (OR.fieldAddr FA78_1 rfl ?_)
  refine WO.guardYes rfl rfl rfl rfl (OR.load T3 rfl rfl (hs.cell (hcell.mono hl8 hg8.2)) ?_)
  refine WO.guardYes rfl rfl rfl rfl (OR.mulI rfl rfl (by omega) (by omega) (WO.guardYes rfl rfl rfl rfl (OR.subI rfl rfl (by omega) (by omega) ?_)))
  rw [hgI, show ((c.g * c.s : Nat) : Int) - 4 = ((c.g * c.s - 4 : Nat) : Int) by omega]
  refine WO.guardYes rfl rfl rfl rfl (OR.make1 (m := c.g * c.s - 4) hs T43.und T5 rfl rfl rfl (by omega) (by omega) ?_)
  clear hs; intro q3 w hq3 hs
  obtain ⟨H, hle1, hp_q3, hs9⟩ := hs.pub1 hq3; clear hs; have hs := hs9; clear hs9; replace hle := hle.trans hle1; (try replace hlb := hlb.trans hle1)
  have hb3 : Bytes H (.slice (some ⟨q3, 0, none⟩) (List.replicate (c.g * c.s - 4) (0 : UInt8)).length (c.g * c.s - 4)) (List.replicate (c.g * c.s - 4) 0) := Bytes.block hp_q3 (by simp) (by simp)
  rw [List.length_replicate] at hb3
  replace hl8 := hl8.trans hle1
  replace hx := hx.mono hle1
  replace hry := hry.mono hle1
  replace hrz := hrz.mono hle1
  replace hs : HS [] H0 w0 H ([(sb, o, true)] ++ (fMem c (fN 0 1099511627776) xb txb (ptr sb) none none ++ (fMem c (fN 1 1099511627776) yb tyb (.pointer none) (some ⟨(newR c.g c.s c.win).moveTo 1099511627776, ryb, wyb, ly⟩) none ++ fMem c (fN 2 1099511627776) zb tzb (.pointer none) (some ⟨(newR c.g c.s c.win).moveTo 1099511627776, rzb, wzb, lz⟩) none))) w := by
    simp only [List.append_eq, List.nil_append, List.cons_append, List.append_assoc] at hs ⊢
    exact hs
  have hsb := fsubmit_ok c (fN 0 1099511627776) xb txb sb (.pointer none) (.pointer none) _ (newD c.g c.s [] [] false) o (List.replicate (c.g * c.s - 4) 0) H w (hs.view [(sb, o, true), (xb, fObj c (fN 0 1099511627776) txb (ptr sb) (.pointer none) (.pointer none), false)] (by simp [fMem, rlV, skV]) (.cons_cons _ (.cons_cons _ (List.nil_sublist _)))) hx (newD_ok hgd) hb3 (by rw [List.length_replicate]; omega) (by show 0 ≤ _; omega) (by omega) (Nat.le_refl _)
  refine WO.guardYes rfl rfl rfl rfl (OR.callX (Mx := [(sb, o, true)]) (Mr := fMem c (fN 0 1099511627776) xb txb (ptr sb) none none ++ (_ ++ _)) hs body41 rfl rfl hsb rfl rfl ?_)
  clear hs hsb; rintro v H M w hs hle1 hnew ⟨rfl, o', rfl, hx'⟩
  replace hle := hle.trans hle1
  replace hl8 := hl8.trans hle1
  replace hry := hry.mono hle1
  replace hrz := hrz.mono hle1
  obtain ⟨u1, u2, u3, u4⟩ := one_chunk hgd hgm (m := (fN 0 1099511627776).base + 2 * c.win) (by omega)
  have hXok := (newD_ok hgd).sub (List.replicate (c.g * c.s - 4) 0) ((fN 0 1099511627776).base + 2 * c.win)
  rw [u1]
  generalize subD (newD c.g c.s [] [] false) (List.replicate (c.g * c.s - 4) 0) ((fN 0 1099511627776).base + 2 * c.win) = X at *
  refine WO.guardYes rfl rfl rfl rfl (OR.neq rfl rfl (WO.step rfl (OR.pickF rfl rfl rfl (WO.done (WX.seq ?_)))))
  refine WC.no rfl rfl ?_
  refine WC.skip (WX.seq (WC.seq (WC.seq (WC.region (WO.step rfl (OR.move rfl (WO.step rfl ?_)))))))
  refine OR.move rfl ?_
  refine WO.step rfl (OR.buildSlice (vs := [ptr yb, ptr zb]) hs T95.und T82 rfl rfl rfl rfl (by simp) ?_)
  clear hs; intro q4 w hq4 hs
  refine WO.step rfl (OR.lenSlice T95.und rfl (WO.step rfl (OR.move rfl (WO.done (WX.seq (WC.block ?_))))))
  obtain ⟨H, hle1, hp_q4, hs9⟩ := hs.pub1 hq4; clear hs; have hs := hs9; clear hs9; replace hle := hle.trans hle1; (try replace hlb := hlb.trans hle1)
  replace hl8 := hl8.trans hle1
  replace hx' := hx'.mono hle1
  have hc4 : ∀ k, k < 2 → hcell H ⟨q4, 0 + k * 1, none⟩ = some (ptr (ftPb yb zb k)) := fun k hk => by
    match k, hk with
    | 0, _ => exact hcell_of hp_q4 rfl
    | 1, _ => exact hcell_of hp_q4 rfl
  have hs0 : HS [] H0 w0 H (TtM c (tuX c sb xb txb o') (tuP c yb tyb ryb wyb zb tzb rzb wzb ly lz)) w := hs
  have hnw0 : ∀ j, j < 2 → PartNew c H j (tuP c yb tyb ryb wyb zb tzb rzb wzb ly lz j) := fun j hj => by
    rcases two_cases hj with rfl | rfl
    · exact ⟨rfl, rfl, hry.mono hle1⟩
    · exact ⟨rfl, rfl, hrz.mono hle1⟩
  clear hs
  have hs := hs0
  clear hs0 hx hry hrz hb3 u1
  obtain ⟨H9, hH9⟩ : ∃ X, X = H := ⟨_, rfl⟩
  subst hH9
  have hle9 := hle
  refine WC.loop (ι := Nat) (fun k => [(5, ptr g1), (8, ptr g3), (9, ptr xb), (11, ptr yb), (13, ptr zb), (81, .slice (some ⟨q4, 0, none⟩) 2 2), (82, .int .i64 2), (83, .int .i64 (k : Int))]) (fun k w => (k ≤ 2 ∧ ∃ H p, Hp.le H9 H ∧ ((p 0).pb = yb ∧ (p 1).pb = zb) ∧ (∀ j, j < 2 → j < k → PartOn c H (p j) []) ∧ (∀ j, j < 2 → k ≤ j → PartNew c H j (p j)) ∧ HS [] H0 w0 H (TtM c (tuX c sb xb txb o') p) w)) (fun k => 2 - k) 0 ⟨rfl, rfl, rfl, rfl, rfl, rfl, rfl, rfl,  trivial⟩ ?_ (fun k w hW => ?_)
  · exact ⟨by omega, H9, _, Hp.le.refl _, ⟨rfl, rfl⟩, fun j _ h => by omega, fun j hj _ => hnw0 j hj, hs⟩
  clear hs hle hnw0
  obtain ⟨k, hkk⟩ : ∃ k', k' = k := ⟨_, rfl⟩
  subst hkk
  obtain ⟨hk2, H, p, hl9, hpb, hon, hnw, hs⟩ := hW
  have hle := hle9.trans hl9
  refine WC.seq (WC.region (WO.step rfl (OR.lss rfl rfl (WO.done (WX.seq (WC.seq ?_))))))
  refine WC.condD rfl (fun hltk => ?_) (fun hltk => ?_)
  · have hk' : k < 2 := by omega
    have hpk : (p k).pb = ftPb yb zb k := by
      rcases two_cases hk' with rfl | rfl
      · exact hpb.1
      · exact hpb.2
    refine WC.skip (WX.seq (WC.seq (WC.block (WC.seq (WC.region ?_)))))
    refine WO.step rfl (OR.idx k T95.und T82 rfl rfl rfl hk' ?_)
    refine WO.step rfl (OR.load T82 rfl rfl (hs.cell (hcell.mono hl9 (by rw [← Nat.mul_one k]; exact hc4 k hk'))) ?_)
    refine WO.step rfl (OR.assign rfl (WO.done (WX.seq (WC.seq (WC.region (WO.step rfl (OR.move rfl ?_)))))))
    refine WO.step rfl (OR.buildSlice (vs := [.int .i64 3]) hs T76.und T3 rfl rfl rfl rfl (by simp) ?_)
    clear hs; intro q5 w hq5 hs
    obtain ⟨H, hle1, hp_q5, hs9⟩ := hs.pub1 hq5; clear hs; have hs := hs9; clear hs9; replace hle := hle.trans hle1; (try replace hlb := hlb.trans hle1)
    have hi5 : Ints H (.slice (some ⟨q5, 0, none⟩) 1 1) [3] := Sl.block hp_q5 rfl rfl (by simp)
    have hE := tt_epoch hk' hs ((hnw k hk' (Nat.le_refl _)).mono hle1) hi5 hgs.2.2.1
    rw [hpk] at hE
    refine WO.step rfl (OR.callW body38 rfl rfl hE ?_)
    clear hs hE; rintro e w ⟨v, H2, q, rfl, hle2, ⟨hqp, hmid⟩, hs⟩; refine ⟨_, rfl, ?_⟩
    have hH := tt_hop hk' hs (by rw [updP_same]; exact hmid) (by omega)
    rw [updP_same, hqp] at hH
    refine WO.done (WX.seq (WC.region (WO.step rfl (OR.move rfl ?_))))
    refine WO.step rfl (OR.callW body39 rfl rfl hH ?_)
    clear hs hH; rintro e w ⟨v2, H3, q2, rfl, hle3, ⟨hqp2, hon2⟩, hs⟩; refine ⟨_, rfl, ?_⟩
    rw [updP_again] at hs
    refine WO.done (WX.block (WX.seq (WC.region (WO.step rfl (OR.addI rfl rfl (by omega) (by omega) (WO.step rfl (OR.move rfl ?_)))))))
    refine WO.done ?_
    refine WX.again (k + 1) ⟨rfl, rfl, rfl, rfl, rfl, rfl, rfl, rfl,  trivial⟩ ?_ ?_
    · refine ⟨by omega, H3, updP p k q2, hl9.trans (hle1.trans (hle2.trans hle3)), updP_pb hpb.1 hpb.2 hk' (hqp2.trans hpk.symm), fun j hj hjk => ?_, fun j hj hjk => ?_, hs⟩
      · by_cases e : j = k
        · subst e; rw [updP_same]; exact hon2
        · rw [updP_other p q2 e]; exact (hon j hj (by omega)).mono (hle1.trans (hle2.trans hle3))
      · rw [updP_other p q2 (by omega)]; exact (hnw j hj (by omega)).mono (hle1.trans (hle2.trans hle3))
    · omega
  · have hA := hon 0 (by omega) (by omega)
    have hB := hon 1 (by omega) (by omega)
    clear hon hnw hc4
    refine WC.exit (WX.seq_exit (WX.loop_exit (WX.block_hit (WX.seq (WC.seq (WC.seq (WC.region ?_)))))))
    refine WO.step rfl (OR.fieldAddr FA93_0 rfl ?_)
    refine WO.step rfl (OR.load T40 rfl rfl (hs.cell (hcell.mono (hl0.trans (hl8.trans hl9)) hv0.1)) ?_)
    refine WO.step rfl (OR.lenSlice T40.und rfl (WO.step rfl (OR.move rfl (WO.done (WX.seq ?_)))))
    refine WC.joinK (ι := Unit) (fun iu => [(5, ptr g1), (11, ptr yb), (13, ptr zb)]) (fun iu w => (∃ H p L, Hp.le H9 H ∧ ((p 0).pb = yb ∧ (p 1).pb = zb) ∧ PartOn c H (p 0) L ∧ PartOn c H (p 1) [] ∧ HS [] H0 w0 H (TtM c (tuX c sb xb txb o') p) w)) ?_ (fun iu w hW => ?_)
    · refine WC.block ?_
      refine WC.loop (ι := Nat) (fun i => [(5, ptr g1), (8, ptr g3), (9, ptr xb), (11, ptr yb), (13, ptr zb), (94, .slice bl rl.length cl), (95, .int .i64 (rl.length : Int)), (96, .int .i64 (i : Int))]) (fun i w => (i ≤ rl.length ∧ i ≤ 20 ∧ ∃ H p L, Hp.le H9 H ∧ ((p 0).pb = yb ∧ (p 1).pb = zb) ∧ PartOn c H (p 0) L ∧ PartOn c H (p 1) [] ∧ HS [] H0 w0 H (TtM c (tuX c sb xb txb o') p) w)) (fun i => rl.length - i) 0 ⟨rfl, rfl, rfl, rfl, rfl, rfl, rfl, rfl,  trivial⟩ ?_ (fun i w hW => ?_)
      · exact ⟨by omega, by omega, H, p, [], hl9, hpb, hA, hB, hs⟩
      clear hs hle hA hB hpb hl9
      obtain ⟨hi, hi20, H, p, L, hl9, hpb, hA, hB, hs⟩ := hW
      have hle := hle9.trans hl9
      refine WC.seq (WC.region (WO.step rfl (OR.lss rfl rfl (WO.done (WX.seq (WC.seq ?_))))))
      refine WC.condD rfl (fun hlt => ?_) (fun hlt => ?_)
      · have hi' : i < rl.length := by omega
        obtain ⟨rb9, ro9, hrb9, hcr⟩ := hl.pos (by omega)
        obtain ⟨e9, he9, hb9⟩ := hcr i hi'
        have hbl9 := hll _ (List.getElem_mem hi')
        obtain ⟨b9, c9, hf9⟩ := hb9.form
        subst hf9
        subst hrb9
        refine WC.skip (WX.seq (WC.seq (WC.block (WC.seq (WC.region (WO.step rfl (OR.move rfl ?_)))))))
        refine WO.step rfl (OR.idx i T40.und T43 rfl rfl rfl hi' ?_)
        refine WO.step rfl (OR.load T43 rfl rfl (hs.cell (hcell.mono hle he9)) ?_)
        refine WO.step rfl (OR.assign rfl (WO.step rfl (OR.assign rfl (WO.done (WX.seq (WC.seq (WC.seq ?_)))))))
        refine WC.region (WO.step rfl (OR.move rfl (WO.step rfl (OR.eql rfl rfl (WO.done (WX.seq ?_))))))
        refine WC.condD rfl (fun h20 => ?_) (fun h20 => ?_)
        · refine WC.exit (WX.seq_exit (WX.block_miss rfl (WX.seq_exit (WX.loop_exit (WX.block_hit ?_)))))
          refine WX.arrive (()) ⟨rfl, rfl, rfl,  trivial⟩ ?_
          exact ⟨H, p, L, hl9, hpb, hA, hB, hs⟩
        · refine WC.skip (WX.seq (WC.seq (WC.region (WO.step rfl (OR.fieldAddr FA78_0 rfl ?_)))))
          refine WO.step rfl (OR.load T3 rfl rfl (hs.cell (hcell.mono (hl8.trans hl9) hg8.1)) ?_)
          refine WO.step rfl (OR.make1 (m := c.g) hs T43.und T5 rfl rfl rfl (by omega) (by omega) ?_)
          clear hs; intro q6 w hq6 hs
          refine WO.step rfl (OR.assign rfl (WO.done (WX.seq (WC.seq (WC.region (WO.step rfl (OR.move rfl ?_)))))))
          refine WO.step rfl (OR.move rfl ?_)
          refine WO.step rfl (OR.copyO hs ((rl[i].take c.g).map B) T43.und T5 rfl rfl (by rw [List.length_map, List.length_take, natmin (c := min c.g rl[i].length) (by omega)]; omega) (Sl.src0 hb9) (fun q hq j u hj => Sl.src (hb9.mono hle) hs q hq j u (by rw [List.map_take] at hj; exact get_take hj)) (by simp; omega) (bytes_one _) ?_)
          clear hs; intro w hs
          replace hs : HS [] H0 w0 H ((q6, .cells ((padTo c.g rl[i]).map B).toArray 5, true) :: TtM c (tuX c sb xb txb o') p) w := by rw [← padTo_cells]; exact hs
          refine WO.done (WX.seq (WC.seq (WC.region (WO.step rfl (OR.move rfl ?_)))))
          obtain ⟨H, hle1, hp_q6, hs9⟩ := hs.pub1 hq6; clear hs; have hs := hs9; clear hs9; replace hle := hle.trans hle1; (try replace hlb := hlb.trans hle1)
          have hx6 := Bytes.block (l := padTo c.g rl[i]) (cap := c.g) hp_q6 (by rw [padTo_length]; exact List.take_of_length_le (by simp [padTo_length])) (by simp [padTo_length])
          rw [padTo_length] at hx6
          have hlr := hle1
          have hl6 := Hp.le.refl H
          obtain ⟨-, hxb, hxn⟩ := tt_src hs
          refine WO.step rfl (OR.call hs body42 rfl rfl (fsource_ok c _ xb txb _ _ _ _ _ hs.toSub hxb hxn) ?_)
          clear hs; rintro _ H w hs hle1 rfl; replace hle := hle.trans hle1; (try replace hlb := hlb.trans hle1)
          replace hlr := hlr.trans hle1
          replace hl6 := hl6.trans hle1
          obtain ⟨⟨hsb, hsn⟩, -⟩ := tt_src hs
          have hrE : rowE X 0 (padTo c.g rl[i]) = 0 := by rw [rowE, if_pos (by omega), if_pos (by rw [padTo_length, u3])]
          have hrF : RowGS c.g c.s (rowF X 0 (padTo c.g rl[i])) := by
            rw [rowF, if_pos ⟨by omega, by rw [padTo_length, u3]⟩]
            exact ⟨padTo_length _ _, (comb_length _ _ _ (symF_row hXok (by omega))).trans u4⟩
          refine WO.step rfl (OR.move rfl ?_)
          refine WO.step rfl (OR.call hs body32 rfl rfl (srow_ok sb 0 _ (padTo c.g rl[i]) X o' _ _ hs.toSub hsb hsn (hx'.mono (hl9.trans hlr)) hXok (hx6.mono hl6) (by rw [padTo_length]; omega)) ?_)
          clear hs; rintro _ H w hs hle1 ⟨_, rfl, r1, r2, rfl, hr1, hr2⟩; replace hle := hle.trans hle1; (try replace hlb := hlb.trans hle1)
          replace hlr := hlr.trans hle1
          obtain ⟨b1, c1, rfl⟩ := hr1.form
          obtain ⟨b2, c2, rfl⟩ := hr2.form
          rw [hrE]
          refine WO.step rfl (OR.move rfl (WO.step rfl (OR.extract rfl rfl (WO.step rfl (OR.extract rfl rfl (WO.step rfl (OR.alloc hs T45 ?_)))))))
          clear hs; intro g4 w hg4 hs
          refine WO.stepN (OR.storeAll hs T45 rfl rfl rfl rfl rfl ?_)
          clear hs; intro w hs
          refine WO.step rfl (OR.assign rfl (WO.done (WX.seq (WC.seq (WC.seq (WC.region (WO.step rfl ?_)))))))
          refine OR.move rfl (WO.step rfl (OR.neq rfl rfl (WO.done (WX.seq ?_))))
          refine WC.no rfl rfl ?_
          refine WC.skip (WX.seq (WC.region (WO.step rfl (OR.move rfl (WO.step rfl (OR.loadAll T45 rfl rfl (hs.blk (i := 0) rfl) rfl ?_))))))
          replace hs := hs.drop (i := 0)
          have hT := tt_take (k := 0) (by omega) hs (hA.mono hlr) (by omega) ⟨_, _, rfl, hr1, hr2⟩ hrF
          rw [hpb.1] at hT
          refine WO.step rfl (OR.callW body43 rfl rfl hT ?_)
          clear hs hT; rintro e w ⟨v, H2, q, rfl, hle2, ⟨rfl, hqp, hon⟩, hs⟩; refine ⟨_, rfl, ?_⟩
          refine WO.done (WX.block (WX.seq (WC.region (WO.step rfl (OR.addI rfl rfl (by omega) (by omega) (WO.step rfl (OR.move rfl ?_)))))))
          refine WO.done ?_
          refine WX.again (i + 1) ⟨rfl, rfl, rfl, rfl, rfl, rfl, rfl, rfl,  trivial⟩ ?_ ?_
          · exact ⟨by omega, by omega, H2, _, _, hl9.trans (hlr.trans hle2), updP_pb hpb.1 hpb.2 (by omega) (hqp.trans hpb.1.symm), by rw [updP_same]; exact hon, by rw [updP_other p q (by omega : (1 : Nat) ≠ 0)]; exact hB.mono (hlr.trans hle2), hs⟩
          · omega
      · refine WC.exit (WX.seq_exit (WX.loop_exit (WX.block_hit ?_)))
        refine WX.arrive (()) ⟨rfl, rfl, rfl,  trivial⟩ ?_
        exact ⟨H, p, L, hl9, hpb, hA, hB, hs⟩
    · clear hs hle hA hB hpb hl9
      obtain ⟨H, p, L, hl9, hpb, hA, hB, hs⟩ := hW
      have hle := hle9.trans hl9
      have hR := tt_rows (k := 0) (by omega) hs hA
      rw [hpb.1] at hR
      refine WC.seq (WC.region (WO.step rfl (OR.move rfl ?_)))
      refine WO.step rfl (OR.call hs body44 rfl rfl (hR) ?_)
      clear hs; rintro _ H w hs hle1 ⟨mb, m, rfl, hmb, hm⟩; replace hle := hle.trans hle1; (try replace hlb := hlb.trans hle1)
      refine WO.step rfl (OR.lookupRows (hs.sub _ _ hmb) T98.und T22.und rfl rfl T97 hm (hA.inW (by omega)) ?_)
      rintro v hv
      rw [hA.rk] at hv
      have hLl : L.length ≤ 8 := by have := hA.red.len; omega
      obtain ⟨cs, hsl, -⟩ := hv
      obtain ⟨b5, c5, rfl⟩ := hsl.form
      have hA1 := hA.mono hle1
      have hB1 := hB.mono hle1
      replace hl9 := hl9.trans hle1
      clear hA hB hm hmb
      refine WO.step rfl (OR.lenSlice T97.und rfl (WO.step rfl (OR.assign rfl (WO.done (WX.seq (WC.seq (WC.seq ?_)))))))
      refine WC.region (WO.step rfl (OR.move rfl (WO.step rfl (OR.move rfl (WO.done (WX.seq (WC.block ?_)))))))
      refine WC.loop (ι := Nat) (fun k => [(5, ptr g1), (11, ptr yb), (13, ptr zb), (22, .int .i64 (L.length : Int)), (126, .int .i64 (L.length : Int)), (127, .int .i64 (k : Int))]) (fun k w => (k ≤ L.length ∧ ∃ H p B, Hp.le H9 H ∧ ((p 0).pb = yb ∧ (p 1).pb = zb) ∧ PartOn c H (p 0) L ∧ PartOn c H (p 1) B ∧ Turn c.g c.s L fr k B ∧ HS [] H0 w0 H (TtM c (tuX c sb xb txb o') p) w)) (fun k => L.length - k) 0 ⟨rfl, rfl, rfl, rfl, rfl, rfl,  trivial⟩ ?_ (fun k w hW => ?_)
      · exact ⟨by omega, H, p, [], hl9, hpb, hA1, hB1, Turn.nil _, hs⟩
      clear hs hle hA1 hB1 hpb hl9 hsl
      obtain ⟨k, hkk⟩ : ∃ k', k' = k := ⟨_, rfl⟩
      subst hkk
      obtain ⟨hk2, H, p, Bz, hl9, hpb, hA, hB, htu, hs⟩ := hW
      have hle := hle9.trans hl9
      refine WC.seq (WC.region (WO.step rfl (OR.lss rfl rfl (WO.done (WX.seq (WC.seq ?_))))))
      refine WC.condD rfl (fun hltk => ?_) (fun hltk => ?_)
      · have hk' : k < L.length := by omega
        refine WC.skip (WX.seq (WC.seq (WC.block (WC.seq (WC.region (WO.step rfl (OR.move rfl ?_)))))))
        refine WO.step rfl (OR.assign rfl (WO.done (WX.seq (WC.seq (WC.region (WO.step rfl (OR.move rfl ?_)))))))
        refine WO.step rfl (OR.fieldAddr FA93_1 rfl ?_)
        refine WO.step rfl (OR.load T91 rfl rfl (hs.cell (hcell.mono (hl0.trans (hl8.trans hl9)) hv0.2)) ?_)
        refine WO.step rfl (OR.convI T91.und T22.und rfl ?_)
        rw [u64_wrap fr (by omega)]
        refine WO.step rfl (OR.move rfl ?_)
        refine WO.step rfl (OR.convI T3.und T22.und rfl ?_)
        rw [u64_wrap k (by omega)]
        refine WO.step rfl (OR.add rfl rfl ?_)
        rw [show (fr : Int) + (k : Int) = ((fr + k : Nat) : Int) from rfl, u64_wrap _ (by omega)]
        have hS := tt_send (k := 0) (vd := .slice none 0 0) (by omega) (fr + k) (by omega) hs hA (by omega) (Bytes.nil _)
        rw [hpb.1, snd_turn hA.red _ (by omega), if_neg (by omega), ← trn_at (by omega)] at hS
        refine WO.step rfl (OR.call hs body45 rfl rfl (hS) ?_)
        clear hs; rintro _ H w hs hle1 ⟨_, rfl, r1, r2, rfl, hr1, hr2⟩; replace hle := hle.trans hle1; (try replace hlb := hlb.trans hle1)
        clear hS
        obtain ⟨b1, c1, rfl⟩ := hr1.form
        obtain ⟨b2, c2, rfl⟩ := hr2.form
        refine WO.step rfl (OR.move rfl (WO.step rfl (OR.extract rfl rfl (WO.step rfl (OR.extract rfl rfl (WO.step rfl (OR.alloc hs T45 ?_)))))))
        clear hs; intro g5 w hg5 hs
        refine WO.stepN (OR.storeAll hs T45 rfl rfl rfl rfl rfl ?_)
        clear hs; intro w hs
        refine WO.step rfl (OR.assign rfl (WO.done (WX.seq (WC.seq (WC.region (WO.step rfl (OR.move rfl ?_)))))))
        refine WO.step rfl (OR.loadAll T45 rfl rfl (hs.blk (i := 0) rfl) rfl ?_)
        replace hs := hs.drop (i := 0)
        obtain ⟨hins, htu2⟩ := htu.step hA.red hk'
        have hT := tt_take (k := 1) (by omega) hs (hB.mono hle1) (by omega) ⟨_, _, rfl, hr1, hr2⟩ (hA.red.gs _ (trn_mem (by omega) _ _))
        rw [hpb.2, hins] at hT
        refine WO.step rfl (OR.callW body43 rfl rfl hT ?_)
        clear hs hT; rintro e w ⟨v, H2, q, rfl, hle2, ⟨rfl, hqp, hon⟩, hs⟩; refine ⟨_, rfl, ?_⟩
        refine WO.step rfl (OR.move rfl (WO.step rfl (OR.extract rfl rfl (WO.step rfl (OR.extract rfl rfl (WO.step rfl (OR.assign rfl ?_)))))))
        refine WO.step rfl (OR.assign rfl (WO.done (WX.seq (WC.seq (WC.region (WO.step rfl (OR.move rfl ?_)))))))
        refine WO.step rfl (OR.neq rfl rfl (WO.step rfl (OR.move rfl ?_)))
        refine WO.guardYes rfl rfl rfl rfl (OR.move rfl (WO.guardYes rfl rfl rfl rfl (OR.neq rfl rfl (WO.step rfl (OR.pickF rfl rfl rfl (WO.step rfl (OR.move rfl ?_)))))))
        refine WO.guardYes rfl rfl rfl rfl (OR.move rfl (WO.guardYes rfl rfl rfl rfl (OR.not rfl (WO.step rfl (OR.pickF rfl rfl rfl (WO.done (WX.seq ?_)))))))
        refine WC.no rfl rfl ?_
        refine WC.skip (WX.block (WX.seq (WC.region (WO.step rfl (OR.addI rfl rfl (by omega) (by omega) (WO.step rfl (OR.move rfl ?_)))))))
        refine WO.done ?_
        refine WX.again (k + 1) ⟨rfl, rfl, rfl, rfl, rfl, rfl,  trivial⟩ ?_ ?_
        · exact ⟨by omega, H2, _, _, hl9.trans (hle1.trans hle2), updP_pb hpb.1 hpb.2 (by omega) (hqp.trans hpb.2.symm), by rw [updP_other p q (by omega : (0 : Nat) ≠ 1)]; exact hA.mono (hle1.trans hle2), by rw [updP_same]; exact hon, htu2, hs⟩
        · omega
      · have hkL : k = L.length := by omega
        subst hkL
        have hBz := htu.done hA.red
        subst hBz
        have hS := tt_send (k := 0) (vd := .slice none 0 0) (by omega) 0 (by omega) hs hA (by omega) (Bytes.nil _)
        rw [hpb.1] at hS
        refine WC.exit (WX.seq_exit (WX.loop_exit (WX.block_hit (WX.seq (WC.seq (WC.region (WO.step rfl ?_)))))))
        refine OR.move rfl ?_
        refine WO.step rfl (OR.call hs body45 rfl rfl (hS) ?_)
        clear hs; rintro _ H w hs hle1 ⟨_, rfl, r1, r2, rfl, hr1, hr2⟩; replace hle := hle.trans hle1; (try replace hlb := hlb.trans hle1)
        clear hS
        obtain ⟨b1, c1, rfl⟩ := hr1.form
        obtain ⟨b2, c2, rfl⟩ := hr2.form
        replace hA := hA.mono hle1
        replace hB := hB.mono hle1
        refine WO.step rfl (OR.move rfl (WO.step rfl (OR.extract rfl rfl (WO.step rfl (OR.extract rfl rfl (WO.step rfl (OR.alloc hs T45 ?_)))))))
        clear hs; intro g6 w hg6 hs
        refine WO.stepN (OR.storeAll hs T45 rfl rfl rfl rfl rfl ?_)
        clear hs; intro w hs
        refine WO.step rfl (OR.assign rfl (WO.done (WX.seq (WC.seq ?_))))
        replace hs := hs.drop (i := 0)
        replace hs : HS [] H0 w0 H (TtM c (tuX c sb xb txb o') p) w := hs
        obtain ⟨hp0, hp1⟩ := hpb
        subst hp0 hp1
        refine WC.draw 14 mixed hs (by kernel_rfl) ?_
        refine ⟨MF.eq _, by intro Mx H w hle hs; refine forVals_nil (ORg.plain (OR.move rfl ?_)); exact ⟨_, [], Hp.le.refl _, hs, rfl, rfl⟩, ?_⟩
        refine ⟨MF.rmap (p 0).R.y, ?_, ?_⟩
        · intro Mx H w hle2 hs; (try replace hle := hle.trans hle2); (try replace hlb := hlb.trans hle2); refine forVals_eq rfl rfl rfl ?_
          refine forVals_nil (ORg.plain (OR.call hs body44 rfl rfl (tt_rows (k := 0) (by omega) hs.right (hA.mono hle2)) ?_))
          clear hs; rintro _ H w hs hle1 hv1
          exact ⟨_, [], hle1, hs, hv1, rfl⟩
        refine ⟨MF.rows Bz, ?_, ?_⟩
        · intro Mx H w hle2 hs; (try replace hle := hle.trans hle2); (try replace hlb := hlb.trans hle2); refine forVals_of rfl rfl rfl ?_; intro v1 h1
          obtain ⟨mb, m, rfl, hmb, hm⟩ := h1
          refine forVals_nil (ORg.plain (OR.lookupRows (hs.sub _ _ hmb) T98.und T22.und rfl rfl T97 hm (hA.inW (by omega)) ?_))
          intro v hv
          exact ⟨_, [], Hp.le.refl _, hs, (by rw [hA.rk] at hv; exact hv), rfl⟩
        refine ⟨MF.eq _, by intro Mx H w hle hs; refine forVals_nil (ORg.plain (OR.move rfl ?_)); exact ⟨_, [], Hp.le.refl _, hs, rfl, rfl⟩, ?_⟩
        refine ⟨MF.rmap (p 1).R.y, ?_, ?_⟩
        · intro Mx H w hle2 hs; (try replace hle := hle.trans hle2); (try replace hlb := hlb.trans hle2); refine forVals_eq rfl rfl rfl ?_
          refine forVals_nil (ORg.plain (OR.call hs body44 rfl rfl (tt_rows (k := 1) (by omega) hs.right (hB.mono hle2)) ?_))
          clear hs; rintro _ H w hs hle1 hv1
          exact ⟨_, [], hle1, hs, hv1, rfl⟩
        refine ⟨MF.rows Bz, ?_, ?_⟩
        · intro Mx H w hle2 hs; (try replace hle := hle.trans hle2); (try replace hlb := hlb.trans hle2); refine forVals_of rfl rfl rfl ?_; intro v4 h4
          obtain ⟨mb2, m2, rfl, hmb2, hm2⟩ := h4
          refine forVals_nil (ORg.plain (OR.lookupRows (hs.sub _ _ hmb2) T98.und T22.und rfl rfl T97 hm2 (hB.inW (by omega)) ?_))
          intro v hv
          exact ⟨_, [], Hp.le.refl _, hs, (by rw [hB.rk] at hv; exact hv), rfl⟩
        refine ⟨MF.eq (.bool true), ?_, ?_⟩
        · intro Mx H w hle2 hs; (try replace hle := hle.trans hle2); (try replace hlb := hlb.trans hle2); refine forVals_of rfl rfl rfl ?_; intro v2 h2; refine forVals_of rfl rfl rfl ?_; intro v5 h5
          refine forVals_nil (ORg.plain (OR.call hs body46 rfl rfl (bsame_ok _ _ _ _ _ _ hs.toSub h2 h5 (by omega)) ?_))
          clear hs; rintro _ H w hs hle1 rfl
          exact ⟨_, [], hle1, hs, (by simp), rfl⟩
        refine ⟨MF.eq _, by intro Mx H w hle hs; refine forVals_eq rfl rfl rfl ?_; refine forVals_nil (ORg.plain (OR.move rfl ?_)); exact ⟨_, [], Hp.le.refl _, hs, rfl, rfl⟩, ?_⟩
        refine ⟨MF.eq _, by intro Mx H w hle hs; refine forVals_eq rfl rfl rfl ?_; refine forVals_nil (ORg.yes rfl rfl rfl (OR.move rfl ?_)); exact ⟨_, [], Hp.le.refl _, hs, rfl, rfl⟩, ?_⟩
        refine ⟨MF.eq _, by intro Mx H w hle hs; refine forVals_eq rfl rfl rfl ?_; refine forVals_eq rfl rfl rfl ?_; refine forVals_nil (ORg.yes rfl rfl rfl (OR.eql rfl rfl ?_)); exact ⟨_, [], Hp.le.refl _, hs, rfl, rfl⟩, ?_⟩
        refine ⟨MF.eq _, by intro Mx H w hle hs; refine forVals_eq rfl rfl rfl ?_; refine forVals_nil (ORg.yes rfl rfl rfl (OR.move rfl ?_)); exact ⟨_, [], Hp.le.refl _, hs, rfl, rfl⟩, ?_⟩
        refine ⟨MF.eq _, by intro Mx H w hle hs; refine forVals_eq rfl rfl rfl ?_; refine forVals_eq rfl rfl rfl ?_; refine forVals_nil (ORg.yes rfl rfl rfl (OR.eql rfl rfl ?_)); exact ⟨_, [], Hp.le.refl _, hs, rfl, rfl⟩, ?_⟩
        refine ⟨MF.eq _, by intro Mx H w hle hs; refine forVals_eq rfl rfl rfl ?_; refine forVals_eq rfl rfl rfl ?_; refine forVals_eq rfl rfl rfl ?_; refine forVals_nil (ORg.yes rfl rfl rfl (OR.eqlB T4.und rfl rfl ?_)); exact ⟨_, [], Hp.le.refl _, hs, rfl, rfl⟩, ?_⟩
        refine ⟨MF.eq _, by intro Mx H w hle hs; refine forVals_eq rfl rfl rfl ?_; refine forVals_eq rfl rfl rfl ?_; refine forVals_nil (ORg.plain (OR.pickT rfl rfl rfl ?_)); exact ⟨_, [], Hp.le.refl _, hs, rfl, rfl⟩, ?_⟩
        intro H w hle2; (try replace hle := hle.trans hle2); (try replace hlb := hlb.trans hle2)
        refine forAllVals_eq rfl ?_
        refine forAllVals_of rfl ?_; intro v1 h1
        refine forAllVals_of rfl ?_; intro v2 h2
        refine forAllVals_eq rfl ?_
        refine forAllVals_of rfl ?_; intro v4 h4
        refine forAllVals_of rfl ?_; intro v5 h5
        refine forAllVals_eq rfl ?_
        refine forAllVals_eq rfl ?_
        refine forAllVals_eq rfl ?_
        refine forAllVals_eq rfl ?_
        refine forAllVals_eq rfl ?_
        refine forAllVals_eq rfl ?_
        refine forAllVals_eq rfl ?_
        refine forAllVals_eq rfl ?_
        refine forAllVals_nil ?_; (try clear hs); intro hs
        refine WO.step rfl (OR.assign rfl (WO.done (WX.seq (WC.ret ?_))))
        refine WX.ret1 rfl rfl ?_
        refine .mk (hs.sublist (List.nil_sublist _)) ?_
        by_cases hn : Bz.length = 0
        · simp [hn]
        · simp [hn]
end Go.Bw
namespace Go.Bw
set_option linter.unusedVariables false
set_option linter.unusedSimpArgs false
open Go.Proofs Go.RowKit Go.ChangeShapes Go.Deep
theorem read_u32 {H : Type} {enc : TypeId × Value → H} {P : Program} {w : World} {base : Nat} {spare : Nat → Bool} {held : Bool} {t : TypeId} {fuel : Nat} {cs : List Value} {x : DataW H × List MemPlace} (ht : P.underlying t = some (.int .u32)) (h : DataW.trod enc P w base spare held fuel t cs = some x) : ∃ n : Nat, cs = [.int .u32 (n : Int)] ∧ n < 4294967296 := by
  obtain ⟨n, rfl, _, hw⟩ := DataW.trod_int ht h
  have hb : 0 ≤ n ∧ n ≤ 4294967295 := by simpa [Lit.wf, IntKind.min, IntKind.max, IntKind.bits, IntKind.signed] using hw
  obtain ⟨k, rfl⟩ := Int.eq_ofNat_of_zero_le hb.1
  exact ⟨k, rfl, by omega⟩
set_option maxRecDepth 20000 in
theorem law_FlowTurns {H : Type} {enc : TypeId × Value → H} {W : World} {base : Nat} {v v1 v2 : Value} {d d1 d2 : DataW H} {p p1 p2 : List MemPlace}
    (hv : Value.okWide Tryz.prog W .any base 5 v) (h : DataW.Trod enc Tryz.prog W 0 (fun _ => true) true 5 v d p)
    (hv1 : Value.okWide Tryz.prog W .any base 5 v1) (h1 : DataW.Trod enc Tryz.prog W 0 (fun _ => true) true 5 v1 d1 p1)
    (hv2 : Value.okWide Tryz.prog W .any base 93 v2) (h2 : DataW.Trod enc Tryz.prog W 0 (fun _ => true) true 93 v2 d2 p2) :
    Calls Tryz.prog 6 #[v, v1, v2] W fun e w' => e = .returned (.bool true) ∧ Below W.heap.size W w' := by
  obtain ⟨G, rfl⟩ := read_byteV T5.und hv h
  obtain ⟨S, rfl⟩ := read_byteV T5.und hv1 h1
  obtain ⟨cs, rfl, hsz⟩ := read_struct T93.und hv2
  obtain ⟨fuel, h2⟩ := h2
  obtain ⟨_, n, hf⟩ := read_fields T93.und h2
  have c1 : Tryz.prog.cellsOf 40 = 1 := by kernel_rfl
  have c2 : Tryz.prog.cellsOf 91 = 1 := by kernel_rfl
  have c3 : Tryz.prog.cellsOf 43 = 1 := by kernel_rfl
  have c5 : Tryz.prog.cellsOf 5 = 1 := by kernel_rfl
  have c4 : Tryz.prog.cellsOf 93 = 2 := by kernel_rfl
  rw [c4] at hsz
  obtain ⟨l⟩ := cs
  match l, hsz with
  | [a0, a1], _ =>
    obtain ⟨y0, k0⟩ := read_field 40 [a0] (hf 0 _ rfl) rfl c1 rfl
    obtain ⟨y1, k1⟩ := read_field 91 [a1] (hf 1 _ rfl) rfl c2 rfl
    obtain ⟨vb, bl, e0, hbl, hl, hl2⟩ := read_bytesL T40.und T43.und T5.und c3 c5 k0
    obtain ⟨fr, e1, hfr⟩ := read_u32 T91.und k1
    simp at e0 e1
    subst e0 e1
    exact (flturns_ok G S _ bl fr _ W (heapOf.sub W) hbl hl hl2 hfr).mono fun e w' h => h.law fun _ _ h => h
end Go.Bw
