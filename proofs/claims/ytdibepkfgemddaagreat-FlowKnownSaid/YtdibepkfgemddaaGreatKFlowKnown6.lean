/- What law_FlowKnown needs: laid out of own texts. No condition. -/
import Derived.Test.YtdibepkfgemddaaGreatKFlowKnown5
namespace Go.Bw
set_option linter.unusedVariables false
set_option linter.unusedSimpArgs false
/-- The entries of a map, in the order in which they came. -/
def mEnt (K : IntKind) : Nat → List (Int × Value) → List MapEntry
  | _, [] => []
  | i, p :: l => { key := .int K p.1, val := p.2, born := i } :: mEnt K (i + 1) l
def mObj (K : IntKind) (l : List (Int × Value)) : Obj := .map (mEnt K 0 l).toArray l.length
theorem mEnt_len (K : IntKind) : ∀ (l : List (Int × Value)) (i : Nat), (mEnt K i l).length = l.length
  | [], _ => rfl
  | _ :: l, i => by simp [mEnt, mEnt_len K l (i + 1)]
theorem mEnt_mem {K : IntKind} {e : MapEntry} : ∀ {l : List (Int × Value)} {i : Nat}, e ∈ mEnt K i l → ∃ j, ∃ h : j < l.length, e = { key := .int K l[j].1, val := l[j].2, born := i + j }
  | [], i, h => by cases h
  | p :: l, i, h => by
    rcases List.mem_cons.1 h with rfl | h
    · exact ⟨0, by simp, rfl⟩
    · obtain ⟨j, hj, e⟩ := mEnt_mem h
      exact ⟨j + 1, by simpa using hj, by rw [e]; simp; omega⟩
theorem mEnt_at {K : IntKind} : ∀ (l : List (Int × Value)) (i j : Nat) (h : j < l.length), (mEnt K i l)[j]? = some { key := .int K l[j].1, val := l[j].2, born := i + j }
  | [], _, _, h => by simp at h
  | p :: l, i, 0, _ => rfl
  | p :: l, i, j + 1, h => by
    rw [mEnt, List.getElem?_cons_succ, mEnt_at l (i + 1) j (by simpa using h)]
    simp
    omega
theorem mEnt_born (K : IntKind) : ∀ (l : List (Int × Value)) (i : Nat), (mEnt K i l).map (·.born) = List.range' i l.length
  | [], _ => rfl
  | p :: l, i => by simp [mEnt, mEnt_born K l (i + 1), List.range'_succ]
theorem mEnt_nodup (K : IntKind) (l : List (Int × Value)) (i : Nat) : ((mEnt K i l).map (·.born)).Nodup := by
  rw [mEnt_born]
  exact List.nodup_range'
theorem mEnt_push (K : IntKind) (a : Int) (u : Value) : ∀ (l : List (Int × Value)) (i : Nat), mEnt K i (l ++ [(a, u)]) = mEnt K i l ++ [{ key := .int K a, val := u, born := i + l.length }]
  | [], i => by simp [mEnt]
  | p :: l, i => by
    simp only [List.cons_append, mEnt, mEnt_push K a u l (i + 1), List.length_cons]
    rw [show i + 1 + l.length = i + (l.length + 1) by omega]
theorem mEnt_set (K : IntKind) (a : Int) (u : Value) : ∀ (l : List (Int × Value)) (i j : Nat), mEnt K i (l.set j (a, u)) = (mEnt K i l).modify j fun e => { e with key := .int K a, val := u }
  | [], i, j => by simp [mEnt]
  | p :: l, i, 0 => by simp [mEnt]
  | p :: l, i, j + 1 => by simp [mEnt, mEnt_set K a u l (i + 1) j]
/-- An entry put. -/
def assocPut (l : List (Int × Value)) (a : Int) (u : Value) : List (Int × Value) := match l.findIdx? (fun p => p.1 == a) with
  | some i => l.set i (a, u)
  | none => l ++ [(a, u)]
theorem findNow_none (K : IntKind) (a : Int) : ∀ (l : List (Int × Value)) (i k : Nat), l.findIdx? (fun p => p.1 == a) = none → Instr.findNow (.int K) (.int K a) (mEnt K i l) k = some none
  | [], i, k, _ => by simp [mEnt, Instr.findNow]
  | p :: l, i, k, h => by
    rw [List.findIdx?_cons] at h
    cases hp : (p.1 == a) with
    | true => rw [hp] at h; simp at h
    | false =>
      rw [hp] at h
      simp at h
      have h2 : Instr.sameNow (.int K) (.int K a) (.int K p.1) = some false := by
        have : ¬ a = p.1 := fun e => by rw [e] at hp; simp at hp
        simp [Instr.sameNow, this]
      rw [mEnt, Instr.findNow]
      simp only [h2]
      exact findNow_none K a l (i + 1) (k + 1) (by simpa using h)
theorem findNow_some (K : IntKind) (a : Int) : ∀ (l : List (Int × Value)) (i k j : Nat), l.findIdx? (fun p => p.1 == a) = some j → ∃ h : j < l.length, Instr.findNow (.int K) (.int K a) (mEnt K i l) k = some (some (k + j, l[j].2))
  | [], i, k, j, h => by simp at h
  | p :: l, i, k, j, h => by
    rw [List.findIdx?_cons] at h
    cases hp : (p.1 == a) with
    | true =>
      rw [hp] at h
      simp at h
      subst h
      have h2 : Instr.sameNow (.int K) (.int K a) (.int K p.1) = some true := by
        have : a = p.1 := (by simpa using hp : p.1 = a).symm
        simp [Instr.sameNow, this]
      refine ⟨by simp, ?_⟩
      rw [mEnt, Instr.findNow]
      simp only [h2]
      rfl
    | false =>
      rw [hp] at h
      simp at h
      obtain ⟨j', hj', rfl⟩ := h
      have h2 : Instr.sameNow (.int K) (.int K a) (.int K p.1) = some false := by
        have : ¬ a = p.1 := fun e => by rw [e] at hp; simp at hp
        simp [Instr.sameNow, this]
      obtain ⟨q, hq⟩ := findNow_some K a l (i + 1) (k + 1) j' hj'
      refine ⟨by simpa using q, ?_⟩
      rw [mEnt, Instr.findNow]
      simp only [h2]
      rw [hq]
      simp
      omega
section
variable {P : Program} {n : Nat} {ds : List Deferred} {env : Env} {w w0 : World} {dst : Option Nat} {ty : TypeId} {pos : String} {aft : Array Edge} {gd : Option (Nat × Bool)} {R : Value → World → Prop}
variable {xs : List Nat} {H0 H : Hp} {M : Mem} {x y z : Operand} {t : TypeId} {v : Value}
theorem run_ckey {kt : TypeId} {K : IntKind} {a : Int} (hk : P.underlying kt = some (.int K)) (b : Bool) (w : World) : (Instr.checkKey b 10000 kt (.int K a)).run P w = .ok () w := by
  have h : ∀ k, (Instr.checkKey b (k + 1) kt (.int K a)).run P w = .ok () w := fun k => by rw [Instr.checkKey.eq_def]; simp [run_underlying hk]
  exact h 9999
/-- An entry is put. -/
theorem OR.mapPut {g : Nat} {kt et : TypeId} {K : IntKind} {l : List (Int × Value)} {a : Int} {u : Value} (hs : HS xs H0 w0 H ((g, mObj K l, true) :: M) w) (ht : P.underlying t = some (.map kt et)) (hk : P.underlying kt = some (.int K)) (hx : look env x = some (.map (some g))) (hy : look env y = some (.int K a)) (hz : look env z = some u)
    (hR : ∀ w', HS xs H0 w0 H ((g, mObj K (assocPut l a u), true) :: M) w' → R undef w') :
    OR P n ds ⟨dst, .mapUpdate t x y z, ty, pos, aft, gd⟩ env w R := by
  cases hf : l.findIdx? (fun p => p.1 == a) with
  | none =>
    refine OR.mapNew hs ht hx hy hz (run_ckey hk false) (fun w => ?_) (fun w' h => hR w' ?_)
    · simp [Instr.findKey, run_underlying hk, findNow_none K a l 0 0 hf]
    · have e : assocPut l a u = l ++ [(a, u)] := by simp [assocPut, hf]
      rw [e, mObj, mEnt_push]
      simpa using h
  | some j =>
    obtain ⟨hj, hq⟩ := findNow_some K a l 0 0 j hf
    rw [Nat.zero_add] at hq
    refine OR.mapSet (i := j) (u0 := l[j].2) hs ht hx hy hz (run_ckey hk false) (fun w => ?_) (fun w => ?_) (fun w' h => hR w' ?_)
    · simp [Instr.findKey, run_underlying hk, hq]
    · have h9 := mEnt_at (K := K) l 0 j hj
      have ha : l[j].1 = a := by
        have := List.findIdx?_eq_some_iff_getElem.1 hf
        obtain ⟨_, h, _⟩ := this
        simpa using h
      simp [h9, ha, Instr.keyThatStays, Instr.sameBits]
    · have e : assocPut l a u = l.set j (a, u) := by simp [assocPut, hf]
      rw [e, mObj, mEnt_set, List.length_set]
      simpa using h
end
end Go.Bw
namespace Go.Bw
set_option linter.unusedVariables false
set_option linter.unusedSimpArgs false
open Go.Proofs
structure CfgD where
  nodes : Nat
  g : Nat
  s : Nat
  win : Nat
  que : Nat
  sinks : List Int
  vf : Value
  vs : Value
def cfgV (c : CfgD) : Value := .agg #[.int .i64 (c.nodes : Int), c.vf, .int .i64 (c.win : Int), .int .i64 (c.que : Int)]
def fcCells (c : CfgD) : List Value := [.int .i64 (c.g : Int), .int .i64 (c.s : Int), .int .i64 0, c.vs]
structure CfgOk (c : CfgD) : Prop where
  n : 1 ≤ c.nodes ∧ c.nodes ≤ 64
  gs : 1 ≤ c.g ∧ c.g ≤ 255 ∧ 1 ≤ c.s ∧ c.s ≤ 65535 ∧ 4 < c.g * c.s
  w : 1 ≤ c.win ∧ c.win ≤ 16
  q : 1 ≤ c.que ∧ c.que ≤ 64
  k : 1 ≤ c.sinks.length ∧ c.sinks.length ≤ 8
  lo : ∀ i (h : i < c.sinks.length), 1 ≤ c.sinks[i] ∧ c.sinks[i] ≤ (c.nodes : Int) - 1
  up : ∀ i (h : i < c.sinks.length), 0 < i → c.sinks[i - 1]'(by omega) < c.sinks[i]
/-- The configuration's flow in memory. -/
structure CfgIn (H : Hp) (c : CfgD) : Prop where
  f : ∃ fb fo cf, c.vf = .slice (some ⟨fb, fo, none⟩) 1 cf ∧ 1 ≤ cf ∧ ∀ j u, (fcCells c)[j]? = some u → hcell H ((⟨fb, fo, none⟩ : Addr).add j) = some u
  s : Ints H c.vs c.sinks
theorem CfgIn.mono {H H' : Hp} {c : CfgD} (h : CfgIn H c) (hle : Hp.le H H') : CfgIn H' c := by
  obtain ⟨⟨fb, fo, cf, h1, h4, h3⟩, h2⟩ := h
  exact ⟨⟨fb, fo, cf, h1, h4, fun j u hj => hcell.mono hle (h3 j u hj)⟩, h2.mono hle⟩
set_option maxRecDepth 20000 in
set_option maxHeartbeats 2000000 in
theorem within_ok (a lo hi : Int) (H0 : Hp) (w0 : World) (h0 : Sub H0 w0) : Calls Tryz.prog 106 #[.int .i64 a, .int .i64 lo, .int .i64 hi] w0 (Pure H0 w0 fun v _ => v = .bool (decide (lo ≤ a ∧ a ≤ hi))) := by
  have hs := HS.init h0
  refine Calls.enter (args := [.int .i64 a, .int .i64 lo, .int .i64 hi]) Tryz.func106 rfl Tryz.ntmps106 rfl ?_
  refine WC.seq (WC.region (WO.step rfl (OR.assign rfl (WO.done (WX.seq (WC.seq (WC.region ?_)))))))
  refine WO.step rfl (OR.move rfl (WO.step rfl (OR.move rfl (WO.step rfl (OR.geq rfl rfl (WO.step rfl (OR.move rfl ?_)))))))
  refine WO.guardSplit (j := 3) rfl (fun q => ?_) (fun q => ?_)
  · refine WO.guardYes rfl (decide_eq_true q) rfl rfl (OR.move rfl (WO.guardYes rfl (decide_eq_true q) rfl rfl (OR.move rfl (WO.guardYes rfl (decide_eq_true q) rfl rfl (OR.leq rfl rfl (WO.step rfl (OR.pickT rfl (decide_eq_true q) rfl ?_)))))))
    refine WO.step rfl (OR.assign rfl (WO.done (WX.seq (WC.ret ?_))))
    refine WX.ret1 rfl rfl ?_
    refine .mk hs ?_
    congr 1
    rw [decide_eq_decide]
    exact ⟨fun h => ⟨q, h⟩, fun h => h.2⟩
  · refine WO.guardNo rfl (decide_eq_false q) rfl rfl (WO.guardNo rfl (decide_eq_false q) rfl rfl (WO.guardNo rfl (decide_eq_false q) rfl rfl (WO.step rfl (OR.pickF rfl (decide_eq_false q) rfl (WO.step rfl (OR.assign rfl (WO.done ?_)))))))
    refine WX.seq (WC.ret ?_)
    refine WX.ret1 rfl rfl ?_
    refine .mk hs ?_
    rw [decide_eq_false (fun h => q h.1)]
set_option maxRecDepth 20000 in
set_option maxHeartbeats 2000000 in
/-- A node's number. -/
theorem cnode_ok (gc : Nat) (a nodes win que : Int) (vf : Value) (H0 : Hp) (w0 : World) (h0 : Sub H0 w0) (hc : H0 gc = some (.cells #[.int .i64 nodes, vf, .int .i64 win, .int .i64 que] 81)) (hn : 0 ≤ nodes ∧ nodes ≤ 1000) :
    Calls Tryz.prog 105 #[.int .i64 a, ptr gc] w0 (Pure H0 w0 fun v _ => v = .bool (decide (0 ≤ a ∧ a ≤ nodes - 1))) := by
  have hs := HS.init h0
  have hle := Hp.le.refl H0
  refine Calls.enter (args := [.int .i64 a, ptr gc]) Tryz.func105 rfl Tryz.ntmps105 rfl ?_
  refine WC.seq (WC.region (WO.step rfl (OR.assign rfl (WO.done (WX.seq (WC.seq (WC.region ?_)))))))
  refine WO.step rfl (OR.move rfl (WO.step rfl (OR.fieldAddr FA81_0 rfl ?_)))
  refine WO.step rfl (OR.load T3 rfl rfl (hs.cell (hcell_of hc rfl)) ?_)
  refine WO.step rfl (OR.subI rfl rfl (by omega) (by omega) ?_)
  refine WO.step rfl (OR.call hs body106 rfl rfl (within_ok a 0 (nodes - 1) _ _ hs.toSub) ?_)
  clear hs; rintro _ H w hs hle1 rfl; replace hle := hle.trans hle1; (try replace hlb := hlb.trans hle1)
  refine WO.step rfl (OR.assign rfl (WO.done (WX.seq (WC.ret ?_))))
  refine WX.ret1 rfl rfl ?_
  exact .mk hs rfl
def cnodeV (gc : Nat) : Value := .func (.func 105) #[] #[ptr gc]
set_option maxRecDepth 20000 in
set_option maxHeartbeats 2000000 in
/-- The flow may be. -/
theorem cflow_ok (gc : Nat) (c : CfgD) (hok : CfgOk c) (vf : Value) (win que : Int) (H0 : Hp) (w0 : World) (h0 : Sub H0 w0) (hsk : Ints H0 c.vs c.sinks) (hc : H0 gc = some (.cells #[.int .i64 (c.nodes : Int), vf, .int .i64 win, .int .i64 que] 81)) :
    Calls Tryz.prog 104 #[.agg #[.int .i64 (c.g : Int), .int .i64 (c.s : Int), .int .i64 0, c.vs], ptr gc] w0 (Pure H0 w0 fun v _ => v = .bool false) := by
  have hs := HS.init h0
  have hle := Hp.le.refl H0
  obtain ⟨nodes, g, s, win', que', sinks, vf', vs⟩ := c
  obtain ⟨⟨n1, n2⟩, ⟨q1, q2, q3, q4, q5⟩, _, _, ⟨k1, k2⟩, hlo, hup⟩ := hok
  simp only at n1 n2 q1 q2 q3 q4 q5 k1 k2 hlo hup hsk hc
  have hsk0 := hsk
  obtain ⟨b1, c1, rfl⟩ := hsk0.form
  obtain ⟨xb, xo, rfl, hcx⟩ := hsk.pos (by omega)
  have hmul1 : g * s ≤ 255 * 65535 := Nat.mul_le_mul q2 q4
  have hmul2 : (g : Int) * (s : Int) ≤ 16711425 := by rw [← Int.natCast_mul]; omega
  have hmul3 : 4 < (g : Int) * (s : Int) := by rw [← Int.natCast_mul]; omega
  refine Calls.enter (args := [.agg #[.int .i64 (g : Int), .int .i64 (s : Int), .int .i64 0, .slice (some ⟨xb, xo, none⟩) sinks.length c1], ptr gc]) Tryz.func104 rfl Tryz.ntmps104 rfl ?_
  refine WC.seq (WC.region (WO.step rfl (OR.box hs rfl ?_)))
  clear hs; intro g1 w hg1 hs
  refine WO.step rfl (OR.assign rfl (WO.done (WX.seq (WC.seq (WC.region (WO.step rfl (OR.makeFunc rfl rfl ?_)))))))
  refine WO.step rfl (OR.assign rfl (WO.done (WX.seq (WC.seq (WC.seq (WC.region (WO.step rfl ?_)))))))
  refine OR.fieldAddr FA78_3 rfl (WO.step rfl (OR.load T76 rfl rfl (hs.cellM (i := 0) rfl rfl) (WO.step rfl (OR.lenSlice T76.und rfl (WO.step rfl (OR.move rfl (WO.done ?_)))))))
  refine WX.seq (WC.block ?_)
  refine WC.loop (ι := Nat) (fun k => [(1, ptr gc), (2, ptr g1), (4, cnodeV gc), (9, .slice (some ⟨xb, xo, none⟩) sinks.length c1), (10, .int .i64 (sinks.length : Int)), (11, .int .i64 (k : Int))]) (fun k w => (k ≤ sinks.length ∧ ∃ H, Hp.le H0 H ∧ HS [] H0 w0 H [(g1, .cells #[.int .i64 (g : Int), .int .i64 (s : Int), .int .i64 0, .slice (some ⟨xb, xo, none⟩) sinks.length c1] 78, true)] w)) (fun k => sinks.length - k) 0 ⟨rfl, rfl, rfl, rfl, rfl, rfl,  trivial⟩ ?_ (fun k w hW => ?_)
  · exact ⟨by omega, H0, hle, hs⟩
  clear hs hle
  obtain ⟨hk, H, hle, hs⟩ := hW
  refine WC.seq (WC.region (WO.step rfl (OR.lss rfl rfl (WO.done (WX.seq (WC.seq ?_))))))
  refine WC.condD rfl (fun hlt => ?_) (fun hlt => ?_)
  · have hk' : k < sinks.length := by omega
    obtain ⟨l1, l2⟩ := hlo k hk'
    have hck := hcx k hk'
    refine WC.skip (WX.seq (WC.seq (WC.block (WC.seq (WC.region (WO.step rfl (OR.move rfl ?_)))))))
    refine WO.step rfl (OR.idx k T76.und T3 rfl rfl rfl hk' ?_)
    refine WO.step rfl (OR.load T3 rfl rfl (hs.cell (hcell.mono hle hck)) ?_)
    refine WO.step rfl (OR.assign rfl (WO.step rfl (OR.assign rfl (WO.done (WX.seq (WC.seq (WC.region ?_)))))))
    refine WO.step rfl (OR.move rfl (WO.step rfl (OR.move rfl ?_)))
    refine WO.step rfl (OR.call hs body105 rfl rfl (cnode_ok gc sinks[k] (nodes : Int) win que vf _ _ hs.toSub (hle _ _ hc) (by omega)) ?_)
    clear hs; rintro _ H w hs hle1 rfl; replace hle := hle.trans hle1; (try replace hlb := hlb.trans hle1)
    rw [decide_eq_true (show 0 ≤ sinks[k] ∧ sinks[k] ≤ (nodes : Int) - 1 from ⟨by omega, l2⟩)]
    refine WO.step rfl (OR.not rfl (WO.step rfl (OR.move rfl ?_)))
    refine WO.guardYes rfl rfl rfl rfl (OR.move rfl (WO.guardYes rfl rfl rfl rfl (OR.fieldAddr FA78_2 rfl (WO.guardYes rfl rfl rfl rfl (OR.load T3 rfl rfl (hs.cellM (i := 0) rfl rfl) (WO.guardYes rfl rfl rfl rfl (OR.eql rfl rfl ?_)))))))
    refine WO.step rfl (OR.pickF rfl rfl rfl (WO.step rfl (OR.move rfl ?_)))
    refine WO.guardYes rfl (decide_eq_false (by omega : ¬ sinks[k] = 0)) rfl rfl (OR.move rfl (WO.guardYes rfl (decide_eq_false (by omega : ¬ sinks[k] = 0)) rfl rfl (OR.gtr rfl rfl (WO.guardYes rfl (decide_eq_false (by omega : ¬ sinks[k] = 0)) rfl rfl (OR.move rfl ?_)))))
    refine WO.guardSplit (j := 13) rfl (fun hpos => ?_) (fun hpos => ?_)
    · have hp : 0 < k := by omega
      have hu := hup k hk' hp
      have hck1 := hcx (k - 1) (by omega)
      refine WO.guardYes rfl (decide_eq_true hpos) rfl rfl (OR.fieldAddr FA78_3 rfl (WO.guardYes rfl (decide_eq_true hpos) rfl rfl (OR.load T76 rfl rfl (hs.cellM (i := 0) rfl rfl) (WO.guardYes rfl (decide_eq_true hpos) rfl rfl (OR.move rfl (WO.guardYes rfl (decide_eq_true hpos) rfl rfl (OR.subI rfl rfl (by omega) (by omega) ?_)))))))
      rw [show (k : Int) - 1 = ((k - 1 : Nat) : Int) by omega]
      refine WO.guardYes rfl (decide_eq_true hpos) rfl rfl (OR.idx (k - 1) T76.und T3 rfl rfl rfl (by omega) ?_)
      refine WO.guardYes rfl (decide_eq_true hpos) rfl rfl (OR.load T3 rfl rfl (hs.cell (hcell.mono hle hck1)) ?_)
      refine WO.guardYes rfl (decide_eq_true hpos) rfl rfl (OR.move rfl (WO.guardYes rfl (decide_eq_true hpos) rfl rfl (OR.geq rfl rfl (WO.guardYes rfl (decide_eq_false (by omega : ¬ sinks[k] = 0)) rfl rfl (OR.pickT rfl (decide_eq_true hpos) rfl (WO.step rfl (OR.pickF rfl (decide_eq_false (by omega : ¬ sinks[k] = 0)) rfl ?_)))))))
      refine WO.done (WX.seq ?_)
      refine WC.no rfl (decide_eq_false (by omega : ¬ sinks[k - 1] ≥ sinks[k])) ?_
      refine WC.skip (WX.block (WX.seq (WC.region (WO.step rfl (OR.addI rfl rfl (by omega) (by omega) (WO.step rfl (OR.move rfl ?_)))))))
      refine WO.done ?_
      refine WX.again (k + 1) ⟨rfl, rfl, rfl, rfl, rfl, rfl,  trivial⟩ ?_ ?_
      · exact ⟨by omega, H, hle, hs⟩
      · omega
    · refine WO.guardNo rfl (decide_eq_false hpos) rfl rfl (WO.guardNo rfl (decide_eq_false hpos) rfl rfl (WO.guardNo rfl (decide_eq_false hpos) rfl rfl (WO.guardNo rfl (decide_eq_false hpos) rfl rfl (WO.guardNo rfl (decide_eq_false hpos) rfl rfl (WO.guardNo rfl (decide_eq_false hpos) rfl rfl (WO.guardNo rfl (decide_eq_false hpos) rfl rfl (WO.guardNo rfl (decide_eq_false hpos) rfl rfl ?_)))))))
      refine WO.guardYes rfl (decide_eq_false (by omega : ¬ sinks[k] = 0)) rfl rfl (OR.pickF rfl (decide_eq_false hpos) rfl (WO.step rfl (OR.pickF rfl (decide_eq_false (by omega : ¬ sinks[k] = 0)) rfl (WO.done (WX.seq (WC.no rfl rfl (WC.skip ?_)))))))
      refine WX.block (WX.seq (WC.region (WO.step rfl (OR.addI rfl rfl (by omega) (by omega) (WO.step rfl (OR.move rfl (WO.done ?_)))))))
      refine WX.again (k + 1) ⟨rfl, rfl, rfl, rfl, rfl, rfl,  trivial⟩ ?_ ?_
      · exact ⟨by omega, H, hle, hs⟩
      · omega
  · refine WC.exit (WX.seq_exit (WX.loop_exit (WX.block_hit (WX.seq (WC.seq (WC.region (WO.step rfl ?_)))))))
    refine OR.fieldAddr FA78_0 rfl (WO.step rfl (OR.load T3 rfl rfl (hs.cellM (i := 0) rfl rfl) ?_))
    refine WO.step rfl (OR.call hs body106 rfl rfl (within_ok (g : Int) 1 255 _ _ hs.toSub) ?_)
    clear hs; rintro _ H w hs hle1 rfl; replace hle := hle.trans hle1; (try replace hlb := hlb.trans hle1)
    rw [decide_eq_true (show 1 ≤ (g : Int) ∧ (g : Int) ≤ 255 by omega)]
    refine WO.step rfl (OR.not rfl (WO.step rfl (OR.move rfl ?_)))
    refine WO.guardYes rfl rfl rfl rfl (OR.fieldAddr FA78_1 rfl (WO.guardYes rfl rfl rfl rfl (OR.load T3 rfl rfl (hs.cellM (i := 0) rfl rfl) ?_)))
    refine WO.guardYes rfl rfl rfl rfl (OR.call hs body106 rfl rfl (within_ok (s : Int) 1 65535 _ _ hs.toSub) ?_)
    clear hs; rintro _ H w hs hle1 rfl; replace hle := hle.trans hle1; (try replace hlb := hlb.trans hle1)
    rw [decide_eq_true (show 1 ≤ (s : Int) ∧ (s : Int) ≤ 65535 by omega)]
    refine WO.guardYes rfl rfl rfl rfl (OR.not rfl (WO.step rfl (OR.pickF rfl rfl rfl (WO.step rfl (OR.move rfl ?_)))))
    refine WO.guardYes rfl rfl rfl rfl (OR.fieldAddr FA78_0 rfl (WO.guardYes rfl rfl rfl rfl (OR.load T3 rfl rfl (hs.cellM (i := 0) rfl rfl) (WO.guardYes rfl rfl rfl rfl (OR.fieldAddr FA78_1 rfl (WO.guardYes rfl rfl rfl rfl (OR.load T3 rfl rfl (hs.cellM (i := 0) rfl rfl) ?_)))))))
    refine WO.guardYes rfl rfl rfl rfl (OR.mulI rfl rfl (by omega) (by omega) (WO.guardYes rfl rfl rfl rfl (OR.leq rfl rfl (WO.step rfl (OR.pickF rfl rfl rfl (WO.step rfl (OR.move rfl ?_)))))))
    refine WO.guardYes rfl (decide_eq_false (by omega : ¬ (g : Int) * (s : Int) ≤ 4)) rfl rfl (OR.move rfl (WO.guardYes rfl (decide_eq_false (by omega : ¬ (g : Int) * (s : Int) ≤ 4)) rfl rfl (OR.fieldAddr FA78_2 rfl (WO.guardYes rfl (decide_eq_false (by omega : ¬ (g : Int) * (s : Int) ≤ 4)) rfl rfl (OR.load T3 rfl rfl (hs.cellM (i := 0) rfl rfl) ?_)))))
    refine WO.guardYes rfl (decide_eq_false (by omega : ¬ (g : Int) * (s : Int) ≤ 4)) rfl rfl (OR.call hs body105 rfl rfl (cnode_ok gc 0 (nodes : Int) win que vf _ _ hs.toSub (hle _ _ hc) (by omega)) ?_)
    clear hs; rintro _ H w hs hle1 rfl; replace hle := hle.trans hle1; (try replace hlb := hlb.trans hle1)
    rw [decide_eq_true (show (0 : Int) ≤ 0 ∧ 0 ≤ (nodes : Int) - 1 by omega)]
    refine WO.guardYes rfl (decide_eq_false (by omega : ¬ (g : Int) * (s : Int) ≤ 4)) rfl rfl (OR.not rfl (WO.step rfl (OR.pickF rfl (decide_eq_false (by omega : ¬ (g : Int) * (s : Int) ≤ 4)) rfl (WO.step rfl (OR.move rfl ?_)))))
    refine WO.guardYes rfl rfl rfl rfl (OR.fieldAddr FA78_3 rfl (WO.guardYes rfl rfl rfl rfl (OR.load T76 rfl rfl (hs.cellM (i := 0) rfl rfl) (WO.guardYes rfl rfl rfl rfl (OR.lenSlice T76.und rfl ?_)))))
    refine WO.guardYes rfl rfl rfl rfl (OR.call hs body106 rfl rfl (within_ok (sinks.length : Int) 1 8 _ _ hs.toSub) ?_)
    clear hs; rintro _ H w hs hle1 rfl; replace hle := hle.trans hle1; (try replace hlb := hlb.trans hle1)
    rw [decide_eq_true (show 1 ≤ (sinks.length : Int) ∧ (sinks.length : Int) ≤ 8 by omega)]
    refine WO.guardYes rfl rfl rfl rfl (OR.not rfl (WO.step rfl (OR.pickF rfl rfl rfl (WO.step rfl (OR.assign rfl (WO.done (WX.seq ?_)))))))
    refine WC.ret ?_
    refine WX.ret1 rfl rfl ?_
    exact .mk (hs.drop 0) rfl
def cflowV (gc : Nat) : Value := .func (.func 104) #[] #[ptr gc]
set_option maxRecDepth 20000 in
set_option maxHeartbeats 2000000 in
theorem iflow_ok (gc : Nat) (c : CfgD) (hok : CfgOk c) (v9 : Value) (win que : Int) (H0 : Hp) (w0 : World) (h0 : Sub H0 w0) (hf : CfgIn H0 c) (hc : H0 gc = some (.cells #[.int .i64 (c.nodes : Int), v9, .int .i64 win, .int .i64 que] 81)) :
    Calls Tryz.prog 144 #[c.vf, cflowV gc] w0 (Pure H0 w0 fun v _ => v = .int .i64 (-1)) := by
  have hs := HS.init h0
  have hle := Hp.le.refl H0
  obtain ⟨⟨fb, fo, cf, ef, hcf, hcc⟩, hvs⟩ := hf
  rw [ef]
  refine Calls.enter (args := [.slice (some ⟨fb, fo, none⟩) 1 cf, cflowV gc]) Tryz.func144 rfl Tryz.ntmps144 rfl ?_
  refine WC.seq (WC.region (WO.step rfl (OR.assign rfl (WO.done (WX.seq (WC.seq (WC.seq ?_)))))))
  refine WC.region (WO.step rfl (OR.move rfl (WO.step rfl (OR.lenSlice T79.und rfl (WO.step rfl (OR.move rfl (WO.done ?_)))))))
  refine WX.seq (WC.block ?_)
  refine WC.loop (ι := Nat) (fun k => [(0, .slice (some ⟨fb, fo, none⟩) 1 cf), (1, cflowV gc), (7, .int .i64 1), (8, .int .i64 (k : Int))]) (fun k w => (k ≤ 1 ∧ ∃ H, Hp.le H0 H ∧ HS [] H0 w0 H [] w)) (fun k => 1 - k) 0 ⟨rfl, rfl, rfl, rfl,  trivial⟩ ?_ (fun k w hW => ?_)
  · exact ⟨by omega, H0, hle, hs⟩
  clear hs hle
  obtain ⟨hk, H, hle, hs⟩ := hW
  refine WC.seq (WC.region (WO.step rfl (OR.lss rfl rfl (WO.done (WX.seq (WC.seq ?_))))))
  refine WC.condD rfl (fun hlt => ?_) (fun hlt => ?_)
  · have e : k = 0 := by omega
    subst e
    refine WC.skip (WX.seq (WC.seq (WC.block (WC.seq (WC.region (WO.step rfl (OR.move rfl ?_)))))))
    refine WO.step rfl (OR.assign rfl (WO.done (WX.seq (WC.seq (WC.region (WO.step rfl (OR.move rfl ?_)))))))
    refine WO.step rfl (OR.move rfl (WO.step rfl (OR.move rfl ?_)))
    refine WO.step rfl (OR.idxN 0 T79.und T78 rfl rfl rfl (by omega) ?_)
    refine WO.step rfl (OR.loadN (cs := [.int .i64 (c.g : Int), .int .i64 (c.s : Int), .int .i64 0, c.vs]) T78 rfl rfl rfl (fun j u hj => hs.cell (hcell.mono hle (by rw [Nat.zero_mul, Nat.add_zero]; exact hcc j u hj))) ?_)
    refine WO.step rfl (OR.call hs body104 rfl rfl (cflow_ok gc c hok v9 win que _ _ hs.toSub (hvs.mono hle) (hle _ _ hc)) ?_)
    clear hs; rintro _ H w hs hle1 rfl; replace hle := hle.trans hle1; (try replace hlb := hlb.trans hle1)
    refine WO.done (WX.seq ?_)
    refine WC.no rfl rfl ?_
    refine WC.skip (WX.block (WX.seq (WC.region (WO.step rfl (OR.addI rfl rfl (by omega) (by omega) (WO.step rfl (OR.move rfl ?_)))))))
    refine WO.done ?_
    refine WX.again (0 + 1) ⟨rfl, rfl, rfl, rfl,  trivial⟩ ?_ ?_
    · exact ⟨by omega, H, hle, hs⟩
    · omega
  · refine WC.exit (WX.seq_exit (WX.loop_exit (WX.block_hit (WX.seq (WC.seq (WC.region (WO.step rfl ?_)))))))
    refine OR.assign rfl (WO.done (WX.seq (WC.ret ?_)))
    refine WX.ret1 rfl rfl ?_
    exact .mk hs rfl
set_option maxRecDepth 20000 in
set_option maxHeartbeats 2000000 in
theorem chasflow_ok (gc : Nat) (c : CfgD) (hok : CfgOk c) (v9 : Value) (win que : Int) (H0 : Hp) (w0 : World) (h0 : Sub H0 w0) (hf : CfgIn H0 c) (hc : H0 gc = some (.cells #[.int .i64 (c.nodes : Int), v9, .int .i64 win, .int .i64 que] 81)) :
    Calls Tryz.prog 107 #[c.vf, cflowV gc] w0 (Pure H0 w0 fun v _ => v = .bool false) := by
  have hs := HS.init h0
  have hle := Hp.le.refl H0
  refine Calls.enter (args := [c.vf, cflowV gc]) Tryz.func107 rfl Tryz.ntmps107 rfl ?_
  refine WC.seq (WC.region (WO.step rfl (OR.assign rfl (WO.done (WX.seq (WC.seq (WC.region ?_)))))))
  refine WO.step rfl (OR.move rfl (WO.step rfl (OR.move rfl ?_)))
  refine WO.step rfl (OR.call hs body144 rfl rfl (iflow_ok gc c hok v9 win que _ _ hs.toSub hf hc) ?_)
  clear hs; rintro _ H w hs hle1 rfl; replace hle := hle.trans hle1; (try replace hlb := hlb.trans hle1)
  refine WO.step rfl (OR.geq rfl rfl (WO.step rfl (OR.assign rfl (WO.done (WX.seq (WC.ret ?_))))))
  refine WX.ret1 rfl rfl ?_
  exact .mk hs rfl
set_option maxRecDepth 20000 in
set_option maxHeartbeats 2000000 in
/-- The configuration may be. -/
theorem tconfig_ok (c : CfgD) (hok : CfgOk c) (H0 : Hp) (w0 : World) (h0 : Sub H0 w0) (hf : CfgIn H0 c) :
    Calls Tryz.prog 47 #[cfgV c] w0 (Pure H0 w0 fun v _ => v = .bool true) := by
  have hs := HS.init h0
  have hle := Hp.le.refl H0
  obtain ⟨fb, fo, cf, ef, hcf, hcc⟩ := hf.f
  have hok2 := hok
  obtain ⟨hn, _, hw, hq, _, _, _⟩ := hok2
  refine Calls.enter (args := [.agg #[.int .i64 (c.nodes : Int), c.vf, .int .i64 (c.win : Int), .int .i64 (c.que : Int)]]) Tryz.func47 rfl Tryz.ntmps47 rfl ?_
  refine WC.seq (WC.region (WO.step rfl (OR.box hs rfl ?_)))
  clear hs; intro g1 w hg1 hs
  refine WO.step rfl (OR.assign rfl (WO.done (WX.seq (WC.seq (WC.region (WO.step rfl (OR.makeFunc rfl rfl ?_)))))))
  refine WO.step rfl (OR.assign rfl (WO.done (WX.seq (WC.seq (WC.region (WO.step rfl (OR.fieldAddr FA81_0 rfl ?_)))))))
  refine WO.step rfl (OR.load T3 rfl rfl (hs.cellM (i := 0) rfl rfl) ?_)
  obtain ⟨H, hle1, hp_g1, hs9⟩ := hs.pub1 hg1; clear hs; have hs := hs9; clear hs9; replace hle := hle.trans hle1; (try replace hlb := hlb.trans hle1)
  have hc9 := hp_g1
  refine WO.step rfl (OR.call hs body106 rfl rfl (within_ok (c.nodes : Int) 1 64 _ _ hs.toSub) ?_)
  clear hs; rintro _ H w hs hle1 rfl; replace hle := hle.trans hle1; (try replace hlb := hlb.trans hle1)
  rw [decide_eq_true (show 1 ≤ (c.nodes : Int) ∧ (c.nodes : Int) ≤ 64 by omega)]
  replace hc9 := hle1 _ _ hc9
  refine WO.step rfl (OR.move rfl ?_)
  refine WO.guardYes rfl rfl rfl rfl (OR.fieldAddr FA81_1 rfl ?_)
  refine WO.guardYes rfl rfl rfl rfl (OR.load T79 rfl rfl (hs.cell (hcell_of hc9 (show _ = some (Value.slice (some ⟨fb, fo, none⟩) 1 cf) from by rw [← ef]; rfl))) ?_)
  refine WO.guardYes rfl rfl rfl rfl (OR.lenSlice T79.und rfl ?_)
  refine WO.guardYes rfl rfl rfl rfl (OR.call hs body106 rfl rfl (within_ok 1 1 4 _ _ hs.toSub) ?_)
  clear hs; rintro _ H w hs hle1 rfl; replace hle := hle.trans hle1; (try replace hlb := hlb.trans hle1)
  replace hc9 := hle1 _ _ hc9
  refine WO.step rfl (OR.pickT rfl rfl rfl (WO.step rfl (OR.move rfl ?_)))
  refine WO.guardYes rfl rfl rfl rfl (OR.fieldAddr FA81_2 rfl ?_)
  refine WO.guardYes rfl rfl rfl rfl (OR.load T3 rfl rfl (hs.cell (hcell_of hc9 rfl)) ?_)
  refine WO.guardYes rfl rfl rfl rfl (OR.call hs body106 rfl rfl (within_ok (c.win : Int) 1 16 _ _ hs.toSub) ?_)
  clear hs; rintro _ H w hs hle1 rfl; replace hle := hle.trans hle1; (try replace hlb := hlb.trans hle1)
  rw [decide_eq_true (show 1 ≤ (c.win : Int) ∧ (c.win : Int) ≤ 16 by omega)]
  replace hc9 := hle1 _ _ hc9
  refine WO.step rfl (OR.pickT rfl rfl rfl (WO.step rfl (OR.move rfl ?_)))
  refine WO.guardYes rfl rfl rfl rfl (OR.fieldAddr FA81_3 rfl ?_)
  refine WO.guardYes rfl rfl rfl rfl (OR.load T3 rfl rfl (hs.cell (hcell_of hc9 rfl)) ?_)
  refine WO.guardYes rfl rfl rfl rfl (OR.call hs body106 rfl rfl (within_ok (c.que : Int) 1 64 _ _ hs.toSub) ?_)
  clear hs; rintro _ H w hs hle1 rfl; replace hle := hle.trans hle1; (try replace hlb := hlb.trans hle1)
  rw [decide_eq_true (show 1 ≤ (c.que : Int) ∧ (c.que : Int) ≤ 64 by omega)]
  replace hc9 := hle1 _ _ hc9
  refine WO.step rfl (OR.pickT rfl rfl rfl (WO.step rfl (OR.move rfl ?_)))
  refine WO.guardYes rfl rfl rfl rfl (OR.fieldAddr FA81_1 rfl ?_)
  refine WO.guardYes rfl rfl rfl rfl (OR.load T79 rfl rfl (hs.cell (hcell_of hc9 rfl)) ?_)
  refine WO.guardYes rfl rfl rfl rfl (OR.move rfl ?_)
  refine WO.guardYes rfl rfl rfl rfl (OR.call hs body107 rfl rfl (chasflow_ok g1 c hok _ _ _ _ _ hs.toSub (hf.mono hle) hc9) ?_)
  clear hs; rintro _ H w hs hle1 rfl; replace hle := hle.trans hle1; (try replace hlb := hlb.trans hle1)
  refine WO.guardYes rfl rfl rfl rfl (OR.not rfl (WO.step rfl (OR.pickT rfl rfl rfl (WO.step rfl (OR.assign rfl (WO.done (WX.seq ?_)))))))
  refine WC.ret ?_
  refine WX.ret1 rfl rfl ?_
  exact .mk hs rfl
set_option maxRecDepth 20000 in
set_option maxHeartbeats 2000000 in
theorem index_ok (v : Value) (l : List Int) (a : Int) (H0 : Hp) (w0 : World) (h0 : Sub H0 w0) (hl : Ints H0 v l) (hn : l.length ≤ 1000000) :
    Calls Tryz.prog 140 #[v, .int .i64 a] w0 (Pure H0 w0 fun v _ => ∃ i : Int, v = .int .i64 i ∧ decide (i ≥ 0) = decide (a ∈ l)) := by
  have hs := HS.init h0
  have hle := Hp.le.refl H0
  have hl0 := hl
  obtain ⟨bl, cl, rfl⟩ := hl0.form
  refine Calls.enter (args := [.slice bl l.length cl, .int .i64 a]) Tryz.func140 rfl Tryz.ntmps140 rfl ?_
  refine WC.seq (WC.region (WO.step rfl (OR.assign rfl (WO.done (WX.seq (WC.seq (WC.seq ?_)))))))
  refine WC.region (WO.step rfl (OR.move rfl (WO.step rfl (OR.lenSlice T76.und rfl (WO.step rfl (OR.move rfl (WO.done ?_)))))))
  refine WX.seq (WC.block ?_)
  refine WC.loop (ι := Nat) (fun k => [(0, .slice bl l.length cl), (1, .int .i64 a), (7, .int .i64 (l.length : Int)), (8, .int .i64 (k : Int))]) (fun k w => (k ≤ l.length ∧ (∀ j (h : j < l.length), j < k → l[j] ≠ a) ∧ ∃ H, Hp.le H0 H ∧ HS [] H0 w0 H [] w)) (fun k => l.length - k) 0 ⟨rfl, rfl, rfl, rfl,  trivial⟩ ?_ (fun k w hW => ?_)
  · exact ⟨by omega, fun j _ h => absurd h (Nat.not_lt_zero _), H0, hle, hs⟩
  clear hs hle
  obtain ⟨hk, hno, H, hle, hs⟩ := hW
  refine WC.seq (WC.region (WO.step rfl (OR.lss rfl rfl (WO.done (WX.seq (WC.seq ?_))))))
  refine WC.condD rfl (fun hlt => ?_) (fun hlt => ?_)
  · have hk' : k < l.length := by omega
    obtain ⟨xb, xo, rfl, hcx⟩ := hl.pos (by omega)
    have hck := hcx k hk'
    refine WC.skip (WX.seq (WC.seq (WC.block (WC.seq (WC.region (WO.step rfl (OR.move rfl ?_)))))))
    refine WO.step rfl (OR.assign rfl (WO.done (WX.seq (WC.seq (WC.region (WO.step rfl (OR.move rfl ?_)))))))
    refine WO.step rfl (OR.move rfl (WO.step rfl (OR.move rfl ?_)))
    refine WO.step rfl (OR.idx k T76.und T3 rfl rfl rfl hk' ?_)
    refine WO.step rfl (OR.load T3 rfl rfl (hs.cell (hcell.mono hle hck)) ?_)
    refine WO.step rfl (OR.eql rfl rfl (WO.done (WX.seq ?_)))
    refine WC.condD rfl (fun heq => ?_) (fun heq => ?_)
    · refine WC.seq (WC.region (WO.step rfl (OR.move rfl (WO.step rfl (OR.assign rfl (WO.done (WX.seq ?_)))))))
      refine WC.ret (WX.block_ret (WX.seq_ret (WX.loop_ret (WX.block_ret (WX.seq_ret ?_)))))
      refine WX.ret1 rfl rfl ?_
      refine .mk hs ⟨_, rfl, ?_⟩
      rw [decide_eq_true (by omega), decide_eq_true (by rw [heq]; exact List.getElem_mem hk')]
    · refine WC.skip (WX.block (WX.seq (WC.region (WO.step rfl (OR.addI rfl rfl (by omega) (by omega) (WO.step rfl (OR.move rfl ?_)))))))
      refine WO.done ?_
      refine WX.again (k + 1) ⟨rfl, rfl, rfl, rfl,  trivial⟩ ?_ ?_
      · refine ⟨by omega, fun j h hj => ?_, H, hle, hs⟩
        by_cases e : j = k
        · subst e
          exact fun h => heq h.symm
        · exact hno j h (by omega)
      · omega
  · refine WC.exit (WX.seq_exit (WX.loop_exit (WX.block_hit (WX.seq (WC.seq (WC.region (WO.step rfl ?_)))))))
    refine OR.assign rfl (WO.done (WX.seq (WC.ret ?_)))
    refine WX.ret1 rfl rfl ?_
    refine .mk hs ⟨_, rfl, ?_⟩
    rw [decide_eq_false (by omega), decide_eq_false]
    intro hm
    obtain ⟨j, hj, he⟩ := List.getElem_of_mem hm
    exact hno j hj (by omega) he
set_option maxRecDepth 20000 in
set_option maxHeartbeats 2000000 in
theorem contains_ok' (v : Value) (l : List Int) (a : Int) (H0 : Hp) (w0 : World) (h0 : Sub H0 w0) (hl : Ints H0 v l) (hn : l.length ≤ 1000000) :
    Calls Tryz.prog 94 #[v, .int .i64 a] w0 (Pure H0 w0 fun v _ => v = .bool (decide (a ∈ l))) := by
  have hs := HS.init h0
  have hle := Hp.le.refl H0
  refine Calls.enter (args := [v, .int .i64 a]) Tryz.func94 rfl Tryz.ntmps94 rfl ?_
  refine WC.seq (WC.region (WO.step rfl (OR.assign rfl (WO.done (WX.seq (WC.seq (WC.region ?_)))))))
  refine WO.step rfl (OR.move rfl (WO.step rfl (OR.move rfl ?_)))
  refine WO.step rfl (OR.call hs body140 rfl rfl (index_ok v l a _ _ hs.toSub hl hn) ?_)
  clear hs; rintro _ H w hs hle1 ⟨i, rfl, hi⟩; replace hle := hle.trans hle1; (try replace hlb := hlb.trans hle1)
  refine WO.step rfl (OR.geq rfl rfl (WO.step rfl (OR.assign rfl (WO.done (WX.seq (WC.ret ?_))))))
  rw [hi]
  refine WX.ret1 rfl rfl ?_
  exact .mk hs rfl
end Go.Bw
namespace Go.Bw
set_option linter.unusedVariables false
set_option linter.unusedSimpArgs false
open Go.Proofs
structure FD where
  node : Int
  next : List Int
  nv : Value
  told : List (Int × Nat)
  base : Nat
  worked : Bool
  total : Nat
  known : Bool
def toldC (l : List (Int × Nat)) : List (Int × Value) := l.map fun p => (p.1, .int .u64 (p.2 : Int))
def toldObj (l : List (Int × Nat)) : Obj := mObj .i64 (toldC l)
def fObj (c : CfgD) (d : FD) (tb : Nat) (vs vr vk : Value) : Obj := .cells #[.int .i64 (c.nodes : Int), c.vf, .int .i64 (c.win : Int), .int .i64 (c.que : Int), .int .i64 (c.g : Int), .int .i64 (c.s : Int), .int .i64 0, c.vs, .int .i64 d.node, vs, vr, vk, d.nv, .map (some tb), .int .u64 (d.base : Int), .bool d.worked, .int .u64 (d.total : Int), .bool d.known] 172
/-- A sink, a relay, if there is one. -/
abbrev SinkS := Option (Nat × SinkD)
structure RelS where
  y : RelD
  rb : Nat
  wb : Nat
  l : Slots
def skMem : SinkS → Mem
  | none => []
  | some p => [(p.1, sinkObj p.2, true)]
def skV : SinkS → Value
  | none => .pointer none
  | some p => ptr p.1
def rlMem : Option RelS → Mem
  | none => []
  | some x => relMem true x.y x.rb x.wb x.l
def rlV : Option RelS → Value
  | none => .pointer none
  | some x => ptr x.rb
def RlOk (H : Hp) : Option RelS → Prop
  | none => True
  | some x => SlotsOk H x.y x.l ∧ RelOk x.y
theorem RlOk.mono {H H' : Hp} {r : Option RelS} (h : RlOk H r) (hle : Hp.le H H') : RlOk H' r := by
  cases r with
  | none => trivial
  | some x => exact ⟨h.1.mono hle, h.2⟩
def fMem (c : CfgD) (d : FD) (xb tb : Nat) (vs : Value) (rl : Option RelS) (sk : SinkS) : Mem := (xb, fObj c d tb vs (rlV rl) (skV sk), true) :: (tb, toldObj d.told, true) :: (skMem sk ++ rlMem rl)
theorem fMem_flags (c : CfgD) (d : FD) (xb tb : Nat) (vs : Value) (rl : Option RelS) (sk : SinkS) : (fMem c d xb tb vs rl sk).all (·.2.2) = true := by
  rw [fMem, List.all_cons, List.all_cons, List.all_append]
  cases sk <;> cases rl <;> simp [skMem, rlMem, relMem_flags]
/-- The least of what was told, and of a number. -/
def leastN (b : Nat) : List (Int × Nat) → Nat
  | [] => b
  | p :: l => min p.2 (leastN b l)
theorem leastN_le (b : Nat) : ∀ (l : List (Int × Nat)), leastN b l ≤ b ∧ ∀ p ∈ l, leastN b l ≤ p.2
  | [] => ⟨Nat.le_refl _, fun p h => by cases h⟩
  | p :: l => by
    obtain ⟨h1, h2⟩ := leastN_le b l
    refine ⟨by simp only [leastN]; omega, fun q hq => ?_⟩
    rcases List.mem_cons.1 hq with rfl | hq
    · simp only [leastN]; omega
    · have := h2 q hq
      simp only [leastN]; omega
theorem leastN_is (b : Nat) : ∀ (l : List (Int × Nat)), leastN b l = b ∨ ∃ p ∈ l, leastN b l = p.2
  | [] => .inl rfl
  | p :: l => by
    simp only [leastN]
    rcases leastN_is b l with h | ⟨q, hq, h⟩
    · rw [h]
      by_cases e : p.2 ≤ b
      · exact .inr ⟨p, by simp, by omega⟩
      · exact .inl (by omega)
    · by_cases e : p.2 ≤ q.2
      · exact .inr ⟨p, by simp, by omega⟩
      · exact .inr ⟨q, by simp [hq], by omega⟩
theorem leastN_eq {b m : Nat} {l : List (Int × Nat)} (h1 : m ≤ b) (h2 : ∀ p ∈ l, m ≤ p.2) (h3 : m = b ∨ ∃ p ∈ l, m = p.2) : m = leastN b l := by
  obtain ⟨k1, k2⟩ := leastN_le b l
  rcases leastN_is b l with k | ⟨q, hq, k⟩
  · rcases h3 with h | ⟨p, hp, h⟩
    · omega
    · have := k2 p hp; omega
  · have := h2 q hq
    rcases h3 with h | ⟨p, hp, h⟩
    · omega
    · have := k2 p hp; omega
def skBase : SinkS → Nat
  | none => 1099511627776
  | some p => p.2.dl
def FD.idle (d : FD) : Bool := decide (d.told.length < d.next.length)
def FD.work (d : FD) (b : Nat) : FD := if d.idle then d else { d with base := leastN b d.told, worked := true }
def RelS.work (x : RelS) (d : FD) (b : Nat) (l : Slots) : RelS := if d.idle then { x with l := l } else { x with y := x.y.moveTo (leastN b d.told), l := l }
set_option maxRecDepth 20000 in
set_option maxHeartbeats 2000000 in
theorem fmade_ok (c : CfgD) (d : FD) (xb tb : Nat) (vs vr vk : Value) (H0 : Hp) (w0 : World) (h0 : Sub H0 w0) (hb : w0.heap[xb]? = some (fObj c d tb vs vr vk)) (hn : H0 xb = none) :
    Calls Tryz.prog 96 #[ptr xb] w0 (Pure H0 w0 fun v _ => v = .bool true) := by
  have hs := HS.startR h0 hb hn
  have hle := Hp.le.refl H0
  refine Calls.enter (args := [ptr xb]) Tryz.func96 rfl Tryz.ntmps96 rfl ?_
  refine WC.seq (WC.region (WO.step rfl (OR.assign rfl (WO.done (WX.seq (WC.seq (WC.region ?_)))))))
  refine WO.step rfl (OR.move rfl (WO.step rfl (OR.neqNilP T82.und rfl rfl (WO.step rfl (OR.move rfl (WO.guardYes rfl rfl rfl rfl (OR.move rfl ?_)))))))
  refine WO.guardYes rfl rfl rfl rfl (OR.nilCheck rfl (WO.guardYes rfl rfl rfl rfl (OR.fieldAddr FA172_7 rfl (WO.guardYes rfl rfl rfl rfl (OR.load T85 rfl rfl (hs.cellM (i := 0) rfl rfl) ?_)))))
  refine WO.guardYes rfl rfl rfl rfl (OR.neqNilM T85.und rfl rfl ?_)
  refine WO.step rfl (OR.pickT rfl rfl rfl (WO.step rfl (OR.assign rfl (WO.done (WX.seq (WC.ret ?_))))))
  refine WX.ret1 rfl rfl ?_
  exact .mk (hs.drop 0) rfl
set_option maxRecDepth 20000 in
set_option maxHeartbeats 2000000 in
theorem fmade_nil (H0 : Hp) (w0 : World) (h0 : Sub H0 w0) :
    Calls Tryz.prog 96 #[.pointer none] w0 (Pure H0 w0 fun v _ => v = .bool false) := by
  have hs := HS.init h0
  have hle := Hp.le.refl H0
  refine Calls.enter (args := [.pointer none]) Tryz.func96 rfl Tryz.ntmps96 rfl ?_
  refine WC.seq (WC.region (WO.step rfl (OR.assign rfl (WO.done (WX.seq (WC.seq (WC.region ?_)))))))
  refine WO.step rfl (OR.move rfl (WO.step rfl (OR.neqNilP T82.und rfl rfl (WO.step rfl (OR.move rfl ?_)))))
  refine WO.guardNo rfl rfl rfl rfl (WO.guardNo rfl rfl rfl rfl (WO.guardNo rfl rfl rfl rfl (WO.guardNo rfl rfl rfl rfl (WO.guardNo rfl rfl rfl rfl (WO.step rfl (OR.pickF rfl rfl rfl (WO.step rfl ?_)))))))
  refine OR.assign rfl (WO.done (WX.seq (WC.ret ?_)))
  refine WX.ret1 rfl rfl ?_
  exact .mk hs rfl
set_option maxRecDepth 20000 in
set_option maxHeartbeats 2000000 in
theorem fbase_ok (c : CfgD) (d : FD) (xb tb : Nat) (vs vr vk : Value) (H0 : Hp) (w0 : World) (h0 : Sub H0 w0) (hb : w0.heap[xb]? = some (fObj c d tb vs vr vk)) (hn : H0 xb = none) :
    Calls Tryz.prog 37 #[ptr xb] w0 (Pure H0 w0 fun v _ => v = .tuple #[.int .u64 (d.base : Int), .bool d.worked]) := by
  have hs := HS.startR h0 hb hn
  have hle := Hp.le.refl H0
  refine Calls.enter (args := [ptr xb]) Tryz.func37 rfl Tryz.ntmps37 rfl ?_
  refine WC.seq (WC.region (WO.step rfl (OR.assign rfl (WO.step rfl (OR.assign rfl (WO.done (WX.seq ?_)))))))
  refine WC.seq (WC.seq (WC.region (WO.step rfl (OR.move rfl ?_))))
  refine WO.step rfl (OR.call hs body96 rfl rfl (fmade_ok c d xb tb vs vr vk _ _ hs.toSub (hs.blk (i := 0) rfl) (hs.nh (i := 0) rfl)) ?_)
  clear hs; rintro _ H w hs hle1 rfl; replace hle := hle.trans hle1; (try replace hlb := hlb.trans hle1)
  refine WO.step rfl (OR.not rfl (WO.done (WX.seq ?_)))
  refine WC.no rfl rfl ?_
  refine WC.skip (WX.seq (WC.seq ?_))
  refine WC.sub [(0, ptr xb)] ⟨rfl,  trivial⟩ ?_
  refine WC.draw 9 mixed hs (by kernel_rfl) ?_
  refine ⟨MF.eq _, by intro Mx H w hle hs; refine forVals_nil (ORg.plain (OR.move rfl ?_)); exact ⟨_, [], Hp.le.refl _, hs, rfl, rfl⟩, ?_⟩
  refine ⟨MF.eq _, by intro Mx H w hle hs; refine forVals_eq rfl rfl rfl ?_; refine forVals_nil (ORg.plain (OR.nilCheck rfl ?_)); exact ⟨_, [], Hp.le.refl _, hs, rfl, rfl⟩, ?_⟩
  refine ⟨MF.eq _, by intro Mx H w hle hs; refine forVals_eq rfl rfl rfl ?_; refine forVals_nil (ORg.plain (OR.fieldAddr FA172_8 rfl ?_)); exact ⟨_, [], Hp.le.refl _, hs, rfl, rfl⟩, ?_⟩
  refine ⟨MF.eq _, by intro Mx H w hle hs; refine forVals_eq rfl rfl rfl ?_; refine forVals_nil (ORg.plain (OR.load T22 rfl rfl (hs.right.cellM (i := 0) rfl rfl) ?_)); exact ⟨_, [], Hp.le.refl _, hs, rfl, rfl⟩, ?_⟩
  refine ⟨MF.eq _, by intro Mx H w hle hs; refine forVals_nil (ORg.plain (OR.move rfl ?_)); exact ⟨_, [], Hp.le.refl _, hs, rfl, rfl⟩, ?_⟩
  refine ⟨MF.eq _, by intro Mx H w hle hs; refine forVals_eq rfl rfl rfl ?_; refine forVals_nil (ORg.plain (OR.nilCheck rfl ?_)); exact ⟨_, [], Hp.le.refl _, hs, rfl, rfl⟩, ?_⟩
  refine ⟨MF.eq _, by intro Mx H w hle hs; refine forVals_eq rfl rfl rfl ?_; refine forVals_nil (ORg.plain (OR.fieldAddr FA172_9 rfl ?_)); exact ⟨_, [], Hp.le.refl _, hs, rfl, rfl⟩, ?_⟩
  refine ⟨MF.eq _, by intro Mx H w hle hs; refine forVals_eq rfl rfl rfl ?_; refine forVals_nil (ORg.plain (OR.load T4 rfl rfl (hs.right.cellM (i := 0) rfl rfl) ?_)); exact ⟨_, [], Hp.le.refl _, hs, rfl, rfl⟩, ?_⟩
  refine ⟨MF.eq (.int .u64 (d.base : Int)), ?_, ?_⟩
  · intro Mx H w hle2 hs; (try replace hle := hle.trans hle2); (try replace hlb := hlb.trans hle2); refine forVals_eq rfl rfl rfl ?_
    refine forVals_nil (ORg.plain (OR.assign rfl ?_))
    exact ⟨_, [], Hp.le.refl _, hs, rfl, rfl⟩
  intro H w hle2; (try replace hle := hle.trans hle2); (try replace hlb := hlb.trans hle2)
  refine forAllVals_eq rfl ?_
  refine forAllVals_eq rfl ?_
  refine forAllVals_eq rfl ?_
  refine forAllVals_eq rfl ?_
  refine forAllVals_eq rfl ?_
  refine forAllVals_eq rfl ?_
  refine forAllVals_eq rfl ?_
  refine forAllVals_eq rfl ?_
  refine forAllVals_eq rfl ?_
  refine forAllVals_nil ?_; (try clear hs); intro hs
  refine WO.step rfl (OR.assign rfl (WO.done (WX.seq (WC.ret ?_))))
  refine WX.ret2 rfl rfl rfl ?_
  exact .mk (hs.drop 0) rfl
theorem permSR (A R S : Mem) : (A ++ (R ++ S)).Perm (S ++ (A ++ R)) := by
  rw [← List.append_assoc]
  exact List.perm_append_comm
theorem min_u64 (a b : Nat) : (if (b : Int) < (a : Int) then (b : Int) else (a : Int)) = ((min a b : Nat) : Int) := by split <;> omega
theorem toldC_at {l : List (Int × Nat)} {e : MapEntry} (h : e ∈ (mEnt .i64 0 (toldC l)).toArray.toList) : ∃ j, ∃ h : j < l.length, e = { key := .int .i64 l[j].1, val := .int .u64 (l[j].2 : Int), born := j } := by
  obtain ⟨j, hj, e⟩ := mEnt_mem (by simpa using h)
  simp only [toldC, List.length_map] at hj
  exact ⟨j, hj, by rw [e]; simp [toldC]⟩
/-- What is known while the least of what was told is sought. -/
structure Seen (b : Nat) (l : List (Int × Nat)) (seen : Array Nat) (m : Nat) : Prop where
  le : m ≤ b
  all : ∀ j (h : j < l.length), j ∈ seen.toList → m ≤ l[j].2
  is : m = b ∨ ∃ p ∈ l, m = p.2
theorem Seen.step {b : Nat} {l : List (Int × Nat)} {seen : Array Nat} {m j : Nat} (h : Seen b l seen m) (hj : j < l.length) : Seen b l (seen.push j) (min m l[j].2) := by
  obtain ⟨h1, h2, h3⟩ := h
  refine ⟨by omega, fun i hi hm => ?_, ?_⟩
  · rw [Array.toList_push, List.mem_append, List.mem_singleton] at hm
    rcases hm with hm | rfl
    · have := h2 i hi hm; omega
    · omega
  · by_cases e : m ≤ l[j].2
    · rw [Nat.min_eq_left e]; exact h3
    · rw [Nat.min_eq_right (by omega)]; exact .inr ⟨_, List.getElem_mem hj, rfl⟩
theorem Seen.done {b : Nat} {l : List (Int × Nat)} {seen : Array Nat} {m : Nat} (h : Seen b l seen m) (hall : ∀ e ∈ (mEnt .i64 0 (toldC l)).toArray.toList, e.born ∈ seen.toList) : m = leastN b l := by
  obtain ⟨h1, h2, h3⟩ := h
  refine leastN_eq h1 (fun p hp => ?_) h3
  obtain ⟨j, hj, rfl⟩ := List.getElem_of_mem hp
  refine h2 j hj ?_
  have h9 := mEnt_at (K := .i64) (toldC l) 0 j (by simpa [toldC] using hj)
  have := hall _ (by simpa using List.mem_of_getElem? h9)
  simpa using this
def workR (d : FD) (b : Nat) (l' : Slots) : Option RelS → Option RelS
  | none => none
  | some x => some (x.work d b l')
set_option maxRecDepth 20000 in
set_option maxHeartbeats 2000000 in
theorem fwork_ok (c : CfgD) (d : FD) (xb tb : Nat) (vs : Value) (rl : Option RelS) (sk : SinkS) (H0 : Hp) (w0 : World) (hs : HS (Mem.keys (fMem c d xb tb vs rl sk)) H0 w0 H0 (fMem c d xb tb vs rl sk) w0) (hok : RlOk H0 rl) (hnx : Ints H0 d.nv d.next) (hd : d.told.length ≤ 1000) (hb : skBase sk ≤ 1099511627776) (ht : ∀ p ∈ d.told, p.2 ≤ 1099511627776) :
    Calls Tryz.prog 95 #[ptr xb] w0 (Ret (Mem.keys (fMem c d xb tb vs rl sk)) H0 w0 fun v H' M' => ∃ l', M' = fMem c (d.work (skBase sk)) xb tb vs (workR d (skBase sk) l' rl) sk ∧ RlOk H' (workR d (skBase sk) l' rl)) := by
  have hle := Hp.le.refl H0
  have h00 := hs.toSub
  obtain ⟨node, next, nv, told, base, worked, total, known⟩ := d
  simp only at hnx hd ht
  obtain ⟨bn, cn, hfn⟩ := hnx.form
  subst hfn
  obtain ⟨d, hdd⟩ : ∃ d : FD, d = ⟨node, next, .slice bn next.length cn, told, base, worked, total, known⟩ := ⟨_, rfl⟩
  obtain ⟨xs, hxs⟩ : ∃ xs, xs = Mem.keys (fMem c d xb tb vs rl sk) := ⟨_, rfl⟩
  rw [← hdd]
  rw [← hdd, ← hxs] at hs
  rw [← hxs]
  clear hxs
  have hdn : d.next.length = next.length := by rw [hdd]
  have hdt : d.told = told := by rw [hdd]
  replace hs : HS xs H0 w0 H0 ((xb, .cells #[.int .i64 (c.nodes : Int), c.vf, .int .i64 (c.win : Int), .int .i64 (c.que : Int), .int .i64 (c.g : Int), .int .i64 (c.s : Int), .int .i64 0, c.vs, .int .i64 node, vs, rlV rl, skV sk, .slice bn next.length cn, .map (some tb), .int .u64 (base : Int), .bool worked, .int .u64 (total : Int), .bool known] 172, true) :: (tb, toldObj told, true) :: (skMem sk ++ rlMem rl)) w0 := by
    rw [hdd] at hs
    exact hs
  have htl : (mEnt .i64 0 (toldC told)).toArray.size = told.length := by simp [mEnt_len, toldC]
  have hob : toldObj told = .map (mEnt .i64 0 (toldC told)).toArray told.length := by simp [toldObj, mObj, toldC]
  refine Calls.enter (args := [ptr xb]) Tryz.func95 rfl Tryz.ntmps95 rfl ?_
  refine WC.seq (WC.seq ?_)
  refine WC.draw 11 mixed hs (by kernel_rfl) ?_
  refine ⟨MF.eq _, by intro Mx H w hle hs; refine forVals_nil (ORg.plain (OR.move rfl ?_)); exact ⟨_, [], Hp.le.refl _, hs, rfl, rfl⟩, ?_⟩
  refine ⟨MF.eq _, by intro Mx H w hle hs; refine forVals_eq rfl rfl rfl ?_; refine forVals_nil (ORg.plain (OR.nilCheck rfl ?_)); exact ⟨_, [], Hp.le.refl _, hs, rfl, rfl⟩, ?_⟩
  refine ⟨MF.eq _, by intro Mx H w hle hs; refine forVals_eq rfl rfl rfl ?_; refine forVals_nil (ORg.plain (OR.fieldAddr FA172_7 rfl ?_)); exact ⟨_, [], Hp.le.refl _, hs, rfl, rfl⟩, ?_⟩
  refine ⟨MF.eq _, by intro Mx H w hle hs; refine forVals_eq rfl rfl rfl ?_; refine forVals_nil (ORg.plain (OR.load T85 rfl rfl (hs.right.cellM (i := 0) rfl rfl) ?_)); exact ⟨_, [], Hp.le.refl _, hs, rfl, rfl⟩, ?_⟩
  refine ⟨MF.eq (.int .i64 (told.length : Int)), ?_, ?_⟩
  · intro Mx H w hle2 hs; (try replace hle := hle.trans hle2); (try replace hlb := hlb.trans hle2); refine forVals_eq rfl rfl rfl ?_
    have hkm := (hs.mem tb _ true (List.mem_append_right _ (List.mem_cons_of_mem _ (List.mem_cons_self ..)))).1
    rw [hob] at hkm
    refine forVals_nil (ORg.plain (OR.lenMap hkm T85.und rfl ?_))
    exact ⟨_, [], Hp.le.refl _, hs, (by rw [htl]), rfl⟩
  refine ⟨MF.eq _, by intro Mx H w hle hs; refine forVals_nil (ORg.plain (OR.move rfl ?_)); exact ⟨_, [], Hp.le.refl _, hs, rfl, rfl⟩, ?_⟩
  refine ⟨MF.eq _, by intro Mx H w hle hs; refine forVals_eq rfl rfl rfl ?_; refine forVals_nil (ORg.plain (OR.nilCheck rfl ?_)); exact ⟨_, [], Hp.le.refl _, hs, rfl, rfl⟩, ?_⟩
  refine ⟨MF.eq _, by intro Mx H w hle hs; refine forVals_eq rfl rfl rfl ?_; refine forVals_nil (ORg.plain (OR.fieldAddr FA172_6 rfl ?_)); exact ⟨_, [], Hp.le.refl _, hs, rfl, rfl⟩, ?_⟩
  refine ⟨MF.eq _, by intro Mx H w hle hs; refine forVals_eq rfl rfl rfl ?_; refine forVals_nil (ORg.plain (OR.load T76 rfl rfl (hs.right.cellM (i := 0) rfl rfl) ?_)); exact ⟨_, [], Hp.le.refl _, hs, rfl, rfl⟩, ?_⟩
  refine ⟨MF.eq _, by intro Mx H w hle hs; refine forVals_eq rfl rfl rfl ?_; refine forVals_nil (ORg.plain (OR.lenSlice T76.und rfl ?_)); exact ⟨_, [], Hp.le.refl _, hs, rfl, rfl⟩, ?_⟩
  refine ⟨MF.eq _, by intro Mx H w hle hs; refine forVals_eq rfl rfl rfl ?_; refine forVals_eq rfl rfl rfl ?_; refine forVals_nil (ORg.plain (OR.lss rfl rfl ?_)); exact ⟨_, [], Hp.le.refl _, hs, rfl, rfl⟩, ?_⟩
  intro H w hle2; (try replace hle := hle.trans hle2); (try replace hlb := hlb.trans hle2)
  refine forAllVals_eq rfl ?_
  refine forAllVals_eq rfl ?_
  refine forAllVals_eq rfl ?_
  refine forAllVals_eq rfl ?_
  refine forAllVals_eq rfl ?_
  refine forAllVals_eq rfl ?_
  refine forAllVals_eq rfl ?_
  refine forAllVals_eq rfl ?_
  refine forAllVals_eq rfl ?_
  refine forAllVals_eq rfl ?_
  refine forAllVals_eq rfl ?_
  refine forAllVals_nil ?_; (try clear hs); intro hs
  refine WO.done (WX.seq ?_)
  refine WC.condD rfl (fun hlt => ?_) (fun hlt => ?_)
  · refine WC.ret (WX.seq_ret ?_)
    refine WX.ret0 rfl ?_
    refine ⟨_, H, _, rfl, hs, ?_, ?_⟩
    · exact fun p hp => List.all_eq_true.1 (fMem_flags c d xb tb vs rl sk) p (by rw [hdd]; exact hp)
    · have hid : d.idle = true := decide_eq_true (by rw [hdn, hdt]; omega)
      have hwk : d.work (skBase sk) = d := by rw [FD.work, if_pos hid]
      rw [hwk]
      cases rl with
      | none => exact ⟨[], by rw [hdd]; rfl, trivial⟩
      | some x =>
        have hrw : workR d (skBase sk) x.l (some x) = some x := by rw [workR, RelS.work, if_pos hid]
        exact ⟨x.l, by rw [hrw, hdd]; rfl, by rw [hrw]; exact hok.mono hle⟩
  · have hid : d.idle = false := decide_eq_false (by rw [hdn, hdt]; omega)
    have hid' : ¬ (d.idle = true) := by rw [hid]; decide
    refine WC.skip (WX.seq (WC.seq (WC.region (WO.step rfl (OR.assign rfl (WO.done (WX.seq ?_)))))))
    refine WC.seq ?_
    refine WC.joinK (ι := Unit) (fun iu => [(0, ptr xb), (2, .int .u64 (skBase sk : Int))]) (fun iu w => (∃ H, Hp.le H0 H ∧ HS xs H0 w0 H ((xb, .cells #[.int .i64 (c.nodes : Int), c.vf, .int .i64 (c.win : Int), .int .i64 (c.que : Int), .int .i64 (c.g : Int), .int .i64 (c.s : Int), .int .i64 0, c.vs, .int .i64 node, vs, rlV rl, skV sk, .slice bn next.length cn, .map (some tb), .int .u64 (base : Int), .bool worked, .int .u64 (total : Int), .bool known] 172, true) :: (tb, toldObj told, true) :: (skMem sk ++ rlMem rl)) w)) ?_ (fun iu w hW => ?_)
    · refine WC.seq (WC.region (WO.step rfl (OR.move rfl (WO.step rfl (OR.nilCheck rfl ?_)))))
      cases sk with
      | none =>
        refine WO.step rfl (OR.fieldAddr FA172_5 rfl (WO.step rfl (OR.load T27 rfl rfl (hs.cellM (i := 0) rfl rfl) (WO.step rfl (OR.neqNilP T27.und rfl rfl (WO.done (WX.seq ?_)))))))
        refine WC.no rfl rfl ?_
        refine WC.skip ?_
        refine WX.arrive (()) ⟨rfl, rfl,  trivial⟩ ?_
        exact ⟨H, hle, hs⟩
      | some x =>
        refine WO.step rfl (OR.fieldAddr FA172_5 rfl (WO.step rfl (OR.load T27 rfl rfl (hs.cellM (i := 0) rfl rfl) (WO.step rfl (OR.neqNilP T27.und rfl rfl (WO.done (WX.seq ?_)))))))
        refine WC.yes rfl rfl ?_
        have hkm := hs.mem x.1 _ true (List.mem_cons_of_mem _ (List.mem_cons_of_mem _ (List.mem_append_left _ (List.mem_cons_self ..))))
        refine WC.region (WO.step rfl (OR.move rfl (WO.step rfl (OR.nilCheck rfl (WO.step rfl (OR.fieldAddr FA172_5 rfl (WO.step rfl ?_)))))))
        refine OR.load T27 rfl rfl (hs.cellM (i := 0) rfl rfl) ?_
        refine WO.step rfl (OR.call hs body24 rfl rfl (kdel_ok x.1 x.2 _ _ hs.toSub hkm.1 hkm.2.1) ?_)
        clear hs; rintro _ H w hs hle1 rfl; replace hle := hle.trans hle1; (try replace hlb := hlb.trans hle1)
        refine WO.step rfl (OR.assign rfl (WO.done ?_))
        refine WX.arrive (()) ⟨rfl, rfl,  trivial⟩ ?_
        exact ⟨H, hle, hs⟩
    · clear hs hle hlt
      obtain ⟨H, hle, hs⟩ := hW
      refine WC.seq (WC.seq (WC.region (WO.step rfl (OR.move rfl (WO.step rfl (OR.nilCheck rfl (WO.step rfl ?_)))))))
      refine OR.fieldAddr FA172_7 rfl (WO.step rfl (OR.load T85 rfl rfl (hs.cellM (i := 0) rfl rfl) ?_))
      have hkt := hs.blk (i := 1) rfl
      rw [hob] at hkt
      refine WO.step rfl (OR.rangeM hs hkt T85.und rfl ?_)
      clear hs hkt; intro r w hr hs
      refine WO.done (WX.seq (WC.block ?_))
      refine WC.loop (ι := Array Nat × Nat) (fun ix => [(0, ptr xb), (2, .int .u64 (ix.2 : Int)), (30, .pointer (some ⟨r, 0, none⟩))]) (fun ix w => (Seen (skBase sk) told ix.1 ix.2 ∧ ∃ last, told.length ≤ last ∧ HS xs H0 w0 H ((r, .mapIter (some tb) told.length ix.1 last, true) :: (xb, .cells #[.int .i64 (c.nodes : Int), c.vf, .int .i64 (c.win : Int), .int .i64 (c.que : Int), .int .i64 (c.g : Int), .int .i64 (c.s : Int), .int .i64 0, c.vs, .int .i64 node, vs, rlV rl, skV sk, .slice bn next.length cn, .map (some tb), .int .u64 (base : Int), .bool worked, .int .u64 (total : Int), .bool known] 172, true) :: (tb, toldObj told, true) :: (skMem sk ++ rlMem rl)) w)) (fun ix => unseen told.length ix.1) (#[], skBase sk) ⟨rfl, rfl, rfl,  trivial⟩ ?_ (fun ix w hW => ?_)
      · exact ⟨⟨Nat.le_refl _, fun j _ h => absurd h (by simp), .inl rfl⟩, told.length, Nat.le_refl _, hs⟩
      clear hs
      obtain ⟨seen, m⟩ := ix
      obtain ⟨hsn, last, hlast, hs⟩ := hW
      simp only at hsn hs
      have hkt := hs.blk (i := 2) rfl
      rw [hob] at hkt
      refine WC.seq (WC.region ?_)
      refine WO.step rfl (OR.nextM' hs hkt rfl (fun e he => by obtain ⟨j, hj, rfl⟩ := toldC_at he; exact hj) hlast ?_)
      clear hs hkt; intro v w hv
      rcases hv with ⟨hall, rfl, hs⟩ | ⟨e, he, hns, rfl, hs⟩
      · have hm := hsn.done hall
        refine WO.step rfl (OR.extract rfl rfl (WO.done (WX.seq (WC.seq ?_))))
        refine WC.no rfl rfl ?_
        subst hm
        replace hs := hs.drop 0
        have hwk : d.work (skBase sk) = ⟨node, next, .slice bn next.length cn, told, leastN (skBase sk) told, true, total, known⟩ := by rw [FD.work, if_neg hid', hdd]
        have hmb := (leastN_le (skBase sk) told).1
        cases rl with
        | none =>
          refine WC.exit (WX.seq_exit (WX.loop_exit (WX.block_hit (WX.seq (WC.seq (WC.region (WO.step rfl ?_)))))))
          refine OR.move rfl (WO.step rfl (OR.move rfl (WO.step rfl (OR.move rfl (WO.step rfl (OR.nilCheck rfl (WO.step rfl ?_)))))))
          refine OR.fieldAddr FA172_8 rfl (WO.stepN (OR.store hs T22 rfl rfl rfl (Nat.le_of_ble_eq_true rfl) rfl ?_))
          clear hs; intro w hs
          refine WO.step rfl (OR.nilCheck rfl (WO.step rfl (OR.fieldAddr FA172_9 rfl (WO.stepN (OR.store hs T4 rfl rfl rfl (Nat.le_of_ble_eq_true rfl) rfl ?_)))))
          clear hs; intro w hs
          refine WO.done (WX.seq (WC.seq (WC.region (WO.step rfl (OR.move rfl (WO.step rfl (OR.nilCheck rfl ?_)))))))
          refine WO.step rfl (OR.fieldAddr FA172_4 rfl (WO.step rfl (OR.load T34 rfl rfl (hs.cellM (i := 0) rfl rfl) (WO.step rfl (OR.neqNilP T34.und rfl rfl (WO.done (WX.seq ?_)))))))
          refine WC.no rfl rfl ?_
          refine WC.skip ?_
          refine WX.end0 rfl ?_
          replace hs : HS xs H0 w0 H (fMem c (d.work (skBase sk)) xb tb vs none sk) w := by rw [hwk]; exact hs
          exact ⟨_, H, _, rfl, hs, fun p hp => List.all_eq_true.1 (fMem_flags _ _ _ _ _ _ _) p hp, [], rfl, trivial⟩
        | some x =>
          refine WC.exit (WX.seq_exit (WX.loop_exit (WX.block_hit (WX.seq (WC.seq (WC.region (WO.step rfl ?_)))))))
          refine OR.move rfl (WO.step rfl (OR.move rfl (WO.step rfl (OR.move rfl (WO.step rfl (OR.nilCheck rfl (WO.step rfl ?_)))))))
          refine OR.fieldAddr FA172_8 rfl (WO.stepN (OR.store hs T22 rfl rfl rfl (Nat.le_of_ble_eq_true rfl) rfl ?_))
          clear hs; intro w hs
          refine WO.step rfl (OR.nilCheck rfl (WO.step rfl (OR.fieldAddr FA172_9 rfl (WO.stepN (OR.store hs T4 rfl rfl rfl (Nat.le_of_ble_eq_true rfl) rfl ?_)))))
          clear hs; intro w hs
          refine WO.done (WX.seq (WC.seq (WC.region (WO.step rfl (OR.move rfl (WO.step rfl (OR.nilCheck rfl ?_)))))))
          refine WO.step rfl (OR.fieldAddr FA172_4 rfl (WO.step rfl (OR.load T34 rfl rfl (hs.cellM (i := 0) rfl rfl) (WO.step rfl (OR.neqNilP T34.und rfl rfl (WO.done (WX.seq ?_)))))))
          refine WC.yes rfl rfl ?_
          refine WC.region (WO.step rfl (OR.move rfl (WO.step rfl (OR.nilCheck rfl (WO.step rfl (OR.fieldAddr FA172_4 rfl (WO.step rfl ?_)))))))
          refine OR.load T34 rfl rfl (hs.cellM (i := 0) rfl rfl) (WO.step rfl (OR.move rfl ?_))
          have hsR : HS xs H0 w0 H (relMem true x.y x.rb x.wb x.l ++ ([(xb, .cells #[.int .i64 (c.nodes : Int), c.vf, .int .i64 (c.win : Int), .int .i64 (c.que : Int), .int .i64 (c.g : Int), .int .i64 (c.s : Int), .int .i64 0, c.vs, .int .i64 node, vs, ptr x.rb, skV sk, .slice bn next.length cn, .map (some tb), .int .u64 (leastN (skBase sk) told : Int), .bool true, .int .u64 (total : Int), .bool known] 172, true), (tb, toldObj told, true)] ++ skMem sk)) w := hs.perm (permSR [(xb, .cells #[.int .i64 (c.nodes : Int), c.vf, .int .i64 (c.win : Int), .int .i64 (c.que : Int), .int .i64 (c.g : Int), .int .i64 (c.s : Int), .int .i64 0, c.vs, .int .i64 node, vs, ptr x.rb, skV sk, .slice bn next.length cn, .map (some tb), .int .u64 (leastN (skBase sk) told : Int), .bool true, .int .u64 (total : Int), .bool known] 172, true), (tb, toldObj told, true)] (skMem sk) (relMem true x.y x.rb x.wb x.l)).symm
          clear hs
          refine WO.step rfl (OR.callX (Mx := relMem true x.y x.rb x.wb x.l) (Mr := [(xb, .cells #[.int .i64 (c.nodes : Int), c.vf, .int .i64 (c.win : Int), .int .i64 (c.que : Int), .int .i64 (c.g : Int), .int .i64 (c.s : Int), .int .i64 0, c.vs, .int .i64 node, vs, ptr x.rb, skV sk, .slice bn next.length cn, .map (some tb), .int .u64 (leastN (skBase sk) told : Int), .bool true, .int .u64 (total : Int), .bool known] 172, true), (tb, toldObj told, true)] ++ skMem sk) hsR body21 rfl rfl (rmove_ok x.rb x.wb (leastN (skBase sk) told) x.y x.l _ _ (HS.relRW hsR) (hok.1.mono hle) hok.2 (by omega)) rfl (relMem_flags _ _ _ _) ?_)
          clear hsR; rintro v H2 M w hs hle1 hnew ⟨rfl, l2, rfl, hsl2⟩
          have hs2 : HS xs H0 w0 H2 ((xb, .cells #[.int .i64 (c.nodes : Int), c.vf, .int .i64 (c.win : Int), .int .i64 (c.que : Int), .int .i64 (c.g : Int), .int .i64 (c.s : Int), .int .i64 0, c.vs, .int .i64 node, vs, ptr x.rb, skV sk, .slice bn next.length cn, .map (some tb), .int .u64 (leastN (skBase sk) told : Int), .bool true, .int .u64 (total : Int), .bool known] 172, true) :: (tb, toldObj told, true) :: (skMem sk ++ relMem true (x.y.moveTo (leastN (skBase sk) told)) x.rb x.wb l2)) w := hs.perm (permSR [(xb, .cells #[.int .i64 (c.nodes : Int), c.vf, .int .i64 (c.win : Int), .int .i64 (c.que : Int), .int .i64 (c.g : Int), .int .i64 (c.s : Int), .int .i64 0, c.vs, .int .i64 node, vs, ptr x.rb, skV sk, .slice bn next.length cn, .map (some tb), .int .u64 (leastN (skBase sk) told : Int), .bool true, .int .u64 (total : Int), .bool known] 172, true), (tb, toldObj told, true)] (skMem sk) (relMem true (x.y.moveTo (leastN (skBase sk) told)) x.rb x.wb l2))
          refine WO.done ?_
          refine WX.end0 rfl ?_
          have hrw : workR d (skBase sk) l2 (some x) = some ⟨x.y.moveTo (leastN (skBase sk) told), x.rb, x.wb, l2⟩ := by rw [workR, RelS.work, if_neg hid', hdt]
          replace hs2 : HS xs H0 w0 H2 (fMem c (d.work (skBase sk)) xb tb vs (workR d (skBase sk) l2 (some x)) sk) w := by rw [hwk, hrw]; exact hs2
          refine ⟨_, H2, _, rfl, hs2, fun p hp => List.all_eq_true.1 (fMem_flags _ _ _ _ _ _ _) p hp, l2, rfl, ?_⟩
          rw [hrw]
          exact ⟨hsl2, hok.2.moveTo _⟩
      · have he2 := he
        refine WO.step rfl (OR.extract rfl rfl (WO.done (WX.seq (WC.seq ?_))))
        refine WC.yes rfl rfl ?_
        obtain ⟨j, hj, rfl⟩ := toldC_at he
        have hkt := hs.blk (i := 2) rfl
        rw [hob] at hkt
        refine WC.skip (WX.seq (WC.block (WC.seq (WC.region ?_))))
        refine WO.step rfl (OR.entryM (hs.blk (i := 0) rfl) hkt rfl (by simpa using mEnt_nodup .i64 (toldC told) 0) he2 ?_)
        refine WO.step rfl (OR.extract rfl rfl (WO.step rfl (OR.assign rfl (WO.done (WX.seq (WC.region (WO.step rfl ?_)))))))
        refine OR.move rfl (WO.step rfl (OR.move rfl ?_))
        refine WO.step rfl (OR.minI rfl rfl ?_)
        rw [min_u64]
        refine WO.step rfl (OR.assign rfl (WO.done (WX.block ?_)))
        refine WX.again ((seen.push j, min m told[j].2)) ⟨rfl, rfl, rfl,  trivial⟩ ?_ ?_
        · exact ⟨hsn.step hj, told.length, Nat.le_refl _, hs⟩
        · exact unseen_push hj hns
end Go.Bw
namespace Go.Bw
set_option linter.unusedVariables false
set_option linter.unusedSimpArgs false
open Go.Proofs
theorem HS.part {xs : List Nat} {H0 H : Hp} {w0 w : World} {M Mr : Mem} (hs : HS xs H0 w0 H (M ++ Mr) w) : HS (Mem.keys M) H w H M w := by
  refine HS.start _ hs.sub (fun b o t h => ?_) ?_
  · have h1 := hs.mem b o t (List.mem_append_left _ h)
    exact ⟨h1.1, h1.2.1, fun _ => List.mem_map.2 ⟨_, h, rfl⟩⟩
  · have h1 := hs.nd
    rw [Mem.keys, List.map_append] at h1
    exact (List.nodup_append.1 h1).1
/-- A part as it is made. -/
def fN (node : Int) (b : Nat) : FD := ⟨node, [], .slice none 0 0, [], b, true, 0, false⟩
def fN0 (node : Int) : FD := ⟨node, [], .slice none 0 0, [], 0, false, 0, false⟩
set_option maxRecDepth 20000 in
set_option maxHeartbeats 2000000 in
theorem fnew_src (c : CfgD) (hok : CfgOk c) (H0 : Hp) (w0 : World) (h0 : Sub H0 w0) (hf : CfgIn H0 c) :
    Calls Tryz.prog 35 #[cfgV c, .int .i64 0, .int .i64 0, .int .u64 0] w0 (Ret [] H0 w0 fun v H' M' => ∃ xb tb sb o, v = .tuple #[ptr xb, .int .i64 0] ∧ M' = fMem c (fN 0 1099511627776) xb tb (ptr sb) none none ++ [(sb, o, true)] ∧ SrcIn H' (newD c.g c.s [] [] false) o) := by
  have hs := HS.init h0
  have hle := Hp.le.refl H0
  have hlb := Hp.le.refl H0
  obtain ⟨nodes, g, s, win, que, sinks, vf, vs⟩ := c
  obtain ⟨fb, fo, cf, ef, hcf, hcc⟩ := hf.f
  replace ef : vf = .slice (some ⟨fb, fo, none⟩) 1 cf := ef
  subst ef
  have hk1 : 1 ≤ sinks.length ∧ sinks.length ≤ 8 := hok.k
  have hnn : 1 ≤ nodes ∧ nodes ≤ 64 := hok.n
  have hgs : 1 ≤ g ∧ g ≤ 255 ∧ 1 ≤ s ∧ s ≤ 65535 ∧ 4 < g * s := hok.gs
  have hww : 1 ≤ win ∧ win ≤ 16 := hok.w
  obtain ⟨bs, cz, hvs⟩ := hf.s.form
  replace hvs : vs = .slice bs sinks.length cz := hvs
  subst hvs
  obtain ⟨c, hcd⟩ : ∃ c : CfgD, c = ⟨nodes, g, s, win, que, sinks, .slice (some ⟨fb, fo, none⟩) 1 cf, (.slice bs sinks.length cz)⟩ := ⟨_, rfl⟩
  have hfs : Ints H0 (.slice bs sinks.length cz) sinks := hf.s
  have hlo : ∀ i (h : i < sinks.length), 1 ≤ sinks[i] ∧ sinks[i] ≤ (nodes : Int) - 1 := hok.lo
  rw [← hcd] at hok hf ⊢
  rw [show cfgV c = .agg #[.int .i64 (nodes : Int), .slice (some ⟨fb, fo, none⟩) 1 cf, .int .i64 (win : Int), .int .i64 (que : Int)] from by rw [hcd]; rfl]
  refine Calls.enter (args := [.agg #[.int .i64 (nodes : Int), .slice (some ⟨fb, fo, none⟩) 1 cf, .int .i64 (win : Int), .int .i64 (que : Int)], .int .i64 0, .int .i64 0, .int .u64 0]) Tryz.func35 rfl Tryz.ntmps35 rfl ?_
  refine WC.seq (WC.region (WO.step rfl (OR.box hs rfl ?_)))
  clear hs; intro g1 w hg1 hs
  refine WO.step rfl (OR.assign rfl (WO.step rfl (OR.assign rfl (WO.done (WX.seq (WC.seq (WC.seq ?_)))))))
  refine WC.region (WO.step rfl (OR.loadAll T81 rfl rfl (hs.blk (i := 0) rfl) rfl ?_))
  refine WO.step rfl (OR.call hs body47 rfl rfl (tconfig_ok ⟨nodes, g, s, win, que, sinks, .slice (some ⟨fb, fo, none⟩) 1 cf, (.slice bs sinks.length cz)⟩ (hcd ▸ hok) _ _ hs.toSub (hcd ▸ hf)) ?_)
  clear hs; rintro _ H w hs hle1 rfl; replace hle := hle.trans hle1; (try replace hlb := hlb.trans hle1)
  refine WO.step rfl (OR.not rfl (WO.step rfl (OR.move rfl ?_)))
  refine WO.guardYes rfl rfl rfl rfl (OR.move rfl (WO.guardYes rfl rfl rfl rfl (OR.lss rfl rfl (WO.step rfl (OR.pickF rfl rfl rfl (WO.step rfl (OR.move rfl ?_)))))))
  refine WO.guardYes rfl rfl rfl rfl (OR.move rfl (WO.guardYes rfl rfl rfl rfl (OR.fieldAddr FA81_1 rfl (WO.guardYes rfl rfl rfl rfl (OR.load T79 rfl rfl (hs.cellM (i := 0) rfl rfl) (WO.guardYes rfl rfl rfl rfl (OR.lenSlice T79.und rfl ?_)))))))
  refine WO.guardYes rfl rfl rfl rfl (OR.geq rfl rfl (WO.step rfl (OR.pickF rfl rfl rfl (WO.step rfl (OR.move rfl ?_)))))
  refine WO.guardYes rfl rfl rfl rfl (OR.move rfl (WO.guardYes rfl rfl rfl rfl (OR.lss rfl rfl (WO.step rfl (OR.pickF rfl rfl rfl (WO.step rfl (OR.move rfl ?_)))))))
  refine WO.guardYes rfl rfl rfl rfl (OR.move rfl (WO.guardYes rfl rfl rfl rfl (OR.fieldAddr FA81_0 rfl (WO.guardYes rfl rfl rfl rfl (OR.load T3 rfl rfl (hs.cellM (i := 0) rfl rfl) (WO.guardYes rfl rfl rfl rfl (OR.geq rfl rfl ?_)))))))
  refine WO.step rfl (OR.pickF rfl rfl rfl (WO.step rfl (OR.move rfl ?_)))
  refine WO.guardYes rfl (decide_eq_false (by omega : ¬ 0 ≥ (nodes : Int))) rfl rfl (OR.move rfl (WO.guardYes rfl (decide_eq_false (by omega : ¬ 0 ≥ (nodes : Int))) rfl rfl (OR.gtr rfl rfl (WO.step rfl (OR.pickF rfl (decide_eq_false (by omega : ¬ 0 ≥ (nodes : Int))) rfl (WO.done (WX.seq ?_)))))))
  refine WC.no rfl rfl ?_
  refine WC.skip (WX.seq (WC.seq (WC.region (WO.step rfl (OR.fieldAddr FA81_1 rfl (WO.step rfl (OR.load T79 rfl rfl (hs.cellM (i := 0) rfl rfl) ?_)))))))
  refine WO.step rfl (OR.move rfl ?_)
  refine WO.step rfl (OR.idxN 0 T79.und T78 rfl rfl rfl (by omega) ?_)
  refine WO.step rfl (OR.loadN (cs := [.int .i64 (g : Int), .int .i64 (s : Int), .int .i64 0, (.slice bs sinks.length cz)]) T78 rfl rfl rfl (fun j u hj => hs.cell (hcell.mono hle (by rw [Nat.zero_mul, Nat.add_zero]; exact hcc j u hj))) ?_)
  refine WO.step rfl (OR.alloc hs T78 ?_)
  clear hs; intro g2 w hg2 hs
  refine WO.stepN (OR.storeAll hs T78 rfl rfl rfl rfl rfl ?_)
  clear hs; intro w hs
  refine WO.done (WX.seq (WC.seq (WC.region (WO.step rfl (OR.fieldAddr FA78_3 rfl (WO.step rfl (OR.load T76 rfl rfl (hs.cellM (i := 0) rfl rfl) ?_)))))))
  refine WO.step rfl (OR.move rfl ?_)
  refine WO.step rfl (OR.call hs body94 rfl rfl (contains_ok' (.slice bs sinks.length cz) sinks 0 _ _ hs.toSub (hfs.mono hle) (by omega)) ?_)
  clear hs; rintro _ H w hs hle1 rfl; replace hle := hle.trans hle1; (try replace hlb := hlb.trans hle1)
  have hno : decide ((0 : Int) ∈ sinks) = false := decide_eq_false (fun h => by
    obtain ⟨j, hj, he⟩ := List.getElem_of_mem h
    have := (hlo j hj).1
    omega)
  rw [hno]
  refine WO.step rfl (OR.assign rfl (WO.done (WX.seq (WC.seq (WC.seq (WC.region (WO.step rfl ?_)))))))
  refine OR.move rfl (WO.step rfl (OR.gtr rfl rfl (WO.step rfl (OR.move rfl ?_))))
  refine WO.guardNo rfl rfl rfl rfl (WO.guardNo rfl rfl rfl rfl (WO.step rfl (OR.pickF rfl rfl rfl (WO.done (WX.seq (WC.no rfl rfl (WC.skip ?_)))))))
  refine WX.seq (WC.seq (WC.region (WO.step rfl (OR.loadAll T81 rfl rfl (hs.blk (i := 1) rfl) rfl (WO.step rfl (OR.loadAll T78 rfl rfl (hs.blk (i := 0) rfl) rfl (WO.step rfl ?_)))))))
  refine OR.move rfl ?_
  refine WO.step rfl (OR.makeMap hs ?_)
  clear hs; intro tb w htb hs
  refine WO.step rfl (OR.build (cs := #[.int .i64 (nodes : Int), .slice (some ⟨fb, fo, none⟩) 1 cf, .int .i64 (win : Int), .int .i64 (que : Int), .int .i64 (g : Int), .int .i64 (s : Int), .int .i64 0, (.slice bs sinks.length cz), .int .i64 0, .pointer none, .pointer none, .pointer none, .slice none 0 0, .map (some tb), .int .u64 0, .bool false, .int .u64 0, .bool false]) rfl (by intro w; kernel_rfl) ?_)
  refine WO.step rfl (OR.box hs rfl ?_)
  clear hs; intro g3 w hg3 hs
  refine WO.step rfl (OR.assign rfl (WO.done (WX.seq (WC.seq (WC.seq (WC.region (WO.step rfl ?_)))))))
  refine OR.move rfl (WO.step rfl (OR.fieldAddr FA78_2 rfl (WO.step rfl (OR.load T3 rfl rfl (hs.cellM (i := 2) rfl rfl) (WO.step rfl (OR.eql rfl rfl (WO.done ?_)))))))
  refine WX.seq ?_
  refine WC.yes rfl (decide_eq_true rfl) ?_
  refine WC.region (WO.step rfl (OR.move rfl (WO.step rfl (OR.fieldAddr FA78_0 rfl (WO.step rfl (OR.load T3 rfl rfl (hs.cellM (i := 2) rfl rfl) (WO.step rfl ?_)))))))
  refine OR.fieldAddr FA78_1 rfl (WO.step rfl (OR.load T3 rfl rfl (hs.cellM (i := 2) rfl rfl) ?_))
  refine WO.step rfl (OR.callX (Mx := []) hs body28 rfl rfl (snew_ok g s _ _ hs.toSub ⟨by omega, by omega, by omega, by omega, by have := hgs.2.2.2.2; exact_mod_cast this⟩) rfl rfl ?_)
  clear hs; rintro _ H M w hs hle1 hnew ⟨sb, o, rfl, rfl, _, hx⟩; replace hle := hle.trans hle1; (try replace hlb := hlb.trans hle1)
  refine WO.step rfl (OR.move rfl (WO.step rfl (OR.extract rfl rfl (WO.step rfl (OR.extract rfl rfl (WO.step rfl (OR.nilCheck rfl ?_)))))))
  refine WO.step rfl (OR.fieldAddr FA172_3 rfl ?_)
  replace hs := hs.front (i := 1) rfl
  refine WO.stepN (OR.store hs T66 rfl rfl rfl (Nat.le_of_ble_eq_true rfl) rfl ?_)
  clear hs; intro w hs
  refine WO.done (WX.seq (WC.seq (WC.seq (WC.region (WO.step rfl (OR.move rfl (WO.done ?_)))))))
  refine WX.seq ?_
  refine WC.no rfl rfl ?_
  refine WC.skip (WX.seq (WC.seq (WC.region (WO.step rfl (OR.move rfl ?_)))))
  have hs3 := (hs.drop 4).drop 3
  have hsF : HS [] H0 w0 H (fMem c (fN0 0) g3 tb (ptr sb) none none ++ [(sb, o, true)]) w := by
    rw [hcd]
    exact hs3.perm (List.Perm.cons _ (List.Perm.swap _ _ _))
  clear hs hs3
  refine WO.step rfl (OR.callX (Mx := fMem c (fN0 0) g3 tb (ptr sb) none none) (Mr := [(sb, o, true)]) hsF body95 rfl rfl (fwork_ok c (fN0 0) g3 tb (ptr sb) none none _ _ (HS.part hsF) trivial (Ints.nil _) (by show 0 ≤ 1000; omega) (by show 1099511627776 ≤ 1099511627776; omega) (fun p hp => by cases hp)) rfl (fMem_flags _ _ _ _ _ _ _) ?_)
  clear hsF; rintro v H2 M w hs hle2 hnew2 ⟨l', rfl, _⟩
  refine WO.done (WX.seq (WC.seq (WC.region (WO.step rfl (OR.move rfl (WO.step rfl (OR.assign rfl ?_)))))))
  refine WO.step rfl (OR.assign rfl (WO.done (WX.seq (WC.ret ?_))))
  refine WX.ret2 rfl rfl rfl ?_
  refine ⟨_, H2, _, rfl, hs, ?_, g3, tb, sb, o, rfl, rfl, by rw [hcd]; exact hx.mono hle2⟩
  intro p hp
  rcases List.mem_append.1 hp with hp | hp
  · exact List.all_eq_true.1 (fMem_flags _ _ _ _ _ _ _) p hp
  · rw [List.mem_singleton.1 hp]
set_option maxRecDepth 20000 in
set_option maxHeartbeats 2000000 in
theorem fnew_rel (c : CfgD) (hok : CfgOk c) (node : Int) (H0 : Hp) (w0 : World) (h0 : Sub H0 w0) (hf : CfgIn H0 c) (hnd : 1 ≤ node ∧ node < (c.nodes : Int)) (hns : node ∉ c.sinks) :
    Calls Tryz.prog 35 #[cfgV c, .int .i64 0, .int .i64 node, .int .u64 0] w0 (Ret [] H0 w0 fun v H' M' => ∃ xb tb rb wb l, v = .tuple #[ptr xb, .int .i64 0] ∧ M' = fMem c (fN node 1099511627776) xb tb (.pointer none) (some ⟨(newR c.g c.s c.win).moveTo 1099511627776, rb, wb, l⟩) none ∧ RlOk H' (some ⟨(newR c.g c.s c.win).moveTo 1099511627776, rb, wb, l⟩)) := by
  have hs := HS.init h0
  have hle := Hp.le.refl H0
  have hlb := Hp.le.refl H0
  obtain ⟨nodes, g, s, win, que, sinks, vf, vs⟩ := c
  obtain ⟨fb, fo, cf, ef, hcf, hcc⟩ := hf.f
  replace ef : vf = .slice (some ⟨fb, fo, none⟩) 1 cf := ef
  subst ef
  have hk1 : 1 ≤ sinks.length ∧ sinks.length ≤ 8 := hok.k
  have hnn : 1 ≤ nodes ∧ nodes ≤ 64 := hok.n
  have hgs : 1 ≤ g ∧ g ≤ 255 ∧ 1 ≤ s ∧ s ≤ 65535 ∧ 4 < g * s := hok.gs
  have hww : 1 ≤ win ∧ win ≤ 16 := hok.w
  obtain ⟨bs, cz, hvs⟩ := hf.s.form
  replace hvs : vs = .slice bs sinks.length cz := hvs
  subst hvs
  replace hnd : 1 ≤ node ∧ node < (nodes : Int) := hnd
  replace hns : node ∉ sinks := hns
  obtain ⟨c, hcd⟩ : ∃ c : CfgD, c = ⟨nodes, g, s, win, que, sinks, .slice (some ⟨fb, fo, none⟩) 1 cf, (.slice bs sinks.length cz)⟩ := ⟨_, rfl⟩
  have hfs : Ints H0 (.slice bs sinks.length cz) sinks := hf.s
  have hlo : ∀ i (h : i < sinks.length), 1 ≤ sinks[i] ∧ sinks[i] ≤ (nodes : Int) - 1 := hok.lo
  rw [← hcd] at hok hf ⊢
  rw [show cfgV c = .agg #[.int .i64 (nodes : Int), .slice (some ⟨fb, fo, none⟩) 1 cf, .int .i64 (win : Int), .int .i64 (que : Int)] from by rw [hcd]; rfl]
  refine Calls.enter (args := [.agg #[.int .i64 (nodes : Int), .slice (some ⟨fb, fo, none⟩) 1 cf, .int .i64 (win : Int), .int .i64 (que : Int)], .int .i64 0, .int .i64 node, .int .u64 0]) Tryz.func35 rfl Tryz.ntmps35 rfl ?_
  refine WC.seq (WC.region (WO.step rfl (OR.box hs rfl ?_)))
  clear hs; intro g1 w hg1 hs
  refine WO.step rfl (OR.assign rfl (WO.step rfl (OR.assign rfl (WO.done (WX.seq (WC.seq (WC.seq ?_)))))))
  refine WC.region (WO.step rfl (OR.loadAll T81 rfl rfl (hs.blk (i := 0) rfl) rfl ?_))
  refine WO.step rfl (OR.call hs body47 rfl rfl (tconfig_ok ⟨nodes, g, s, win, que, sinks, .slice (some ⟨fb, fo, none⟩) 1 cf, (.slice bs sinks.length cz)⟩ (hcd ▸ hok) _ _ hs.toSub (hcd ▸ hf)) ?_)
  clear hs; rintro _ H w hs hle1 rfl; replace hle := hle.trans hle1; (try replace hlb := hlb.trans hle1)
  refine WO.step rfl (OR.not rfl (WO.step rfl (OR.move rfl ?_)))
  refine WO.guardYes rfl rfl rfl rfl (OR.move rfl (WO.guardYes rfl rfl rfl rfl (OR.lss rfl rfl (WO.step rfl (OR.pickF rfl rfl rfl (WO.step rfl (OR.move rfl ?_)))))))
  refine WO.guardYes rfl rfl rfl rfl (OR.move rfl (WO.guardYes rfl rfl rfl rfl (OR.fieldAddr FA81_1 rfl (WO.guardYes rfl rfl rfl rfl (OR.load T79 rfl rfl (hs.cellM (i := 0) rfl rfl) (WO.guardYes rfl rfl rfl rfl (OR.lenSlice T79.und rfl ?_)))))))
  refine WO.guardYes rfl rfl rfl rfl (OR.geq rfl rfl (WO.step rfl (OR.pickF rfl rfl rfl (WO.step rfl (OR.move rfl ?_)))))
  refine WO.guardYes rfl rfl rfl rfl (OR.move rfl (WO.guardYes rfl rfl rfl rfl (OR.lss rfl rfl (WO.step rfl (OR.pickF rfl rfl rfl (WO.step rfl (OR.move rfl ?_)))))))
  refine WO.guardYes rfl (decide_eq_false (by omega : ¬ node < 0)) rfl rfl (OR.move rfl (WO.guardYes rfl (decide_eq_false (by omega : ¬ node < 0)) rfl rfl (OR.fieldAddr FA81_0 rfl (WO.guardYes rfl (decide_eq_false (by omega : ¬ node < 0)) rfl rfl (OR.load T3 rfl rfl (hs.cellM (i := 0) rfl rfl) (WO.guardYes rfl (decide_eq_false (by omega : ¬ node < 0)) rfl rfl (OR.geq rfl rfl ?_)))))))
  refine WO.step rfl (OR.pickF rfl (decide_eq_false (by omega : ¬ node < 0)) rfl (WO.step rfl (OR.move rfl ?_)))
  refine WO.guardYes rfl (decide_eq_false (by omega : ¬ node ≥ (nodes : Int))) rfl rfl (OR.move rfl (WO.guardYes rfl (decide_eq_false (by omega : ¬ node ≥ (nodes : Int))) rfl rfl (OR.gtr rfl rfl (WO.step rfl (OR.pickF rfl (decide_eq_false (by omega : ¬ node ≥ (nodes : Int))) rfl (WO.done (WX.seq ?_)))))))
  refine WC.no rfl rfl ?_
  refine WC.skip (WX.seq (WC.seq (WC.region (WO.step rfl (OR.fieldAddr FA81_1 rfl (WO.step rfl (OR.load T79 rfl rfl (hs.cellM (i := 0) rfl rfl) ?_)))))))
  refine WO.step rfl (OR.move rfl ?_)
  refine WO.step rfl (OR.idxN 0 T79.und T78 rfl rfl rfl (by omega) ?_)
  refine WO.step rfl (OR.loadN (cs := [.int .i64 (g : Int), .int .i64 (s : Int), .int .i64 0, (.slice bs sinks.length cz)]) T78 rfl rfl rfl (fun j u hj => hs.cell (hcell.mono hle (by rw [Nat.zero_mul, Nat.add_zero]; exact hcc j u hj))) ?_)
  refine WO.step rfl (OR.alloc hs T78 ?_)
  clear hs; intro g2 w hg2 hs
  refine WO.stepN (OR.storeAll hs T78 rfl rfl rfl rfl rfl ?_)
  clear hs; intro w hs
  refine WO.done (WX.seq (WC.seq (WC.region (WO.step rfl (OR.fieldAddr FA78_3 rfl (WO.step rfl (OR.load T76 rfl rfl (hs.cellM (i := 0) rfl rfl) ?_)))))))
  refine WO.step rfl (OR.move rfl ?_)
  refine WO.step rfl (OR.call hs body94 rfl rfl (contains_ok' (.slice bs sinks.length cz) sinks node _ _ hs.toSub (hfs.mono hle) (by omega)) ?_)
  clear hs; rintro _ H w hs hle1 rfl; replace hle := hle.trans hle1; (try replace hlb := hlb.trans hle1)
  rw [decide_eq_false hns]
  refine WO.step rfl (OR.assign rfl (WO.done (WX.seq (WC.seq (WC.seq (WC.region (WO.step rfl ?_)))))))
  refine OR.move rfl (WO.step rfl (OR.gtr rfl rfl (WO.step rfl (OR.move rfl ?_))))
  refine WO.guardNo rfl rfl rfl rfl (WO.guardNo rfl rfl rfl rfl (WO.step rfl (OR.pickF rfl rfl rfl (WO.done (WX.seq (WC.no rfl rfl (WC.skip ?_)))))))
  refine WX.seq (WC.seq (WC.region (WO.step rfl (OR.loadAll T81 rfl rfl (hs.blk (i := 1) rfl) rfl (WO.step rfl (OR.loadAll T78 rfl rfl (hs.blk (i := 0) rfl) rfl (WO.step rfl ?_)))))))
  refine OR.move rfl ?_
  refine WO.step rfl (OR.makeMap hs ?_)
  clear hs; intro tb w htb hs
  refine WO.step rfl (OR.build (cs := #[.int .i64 (nodes : Int), .slice (some ⟨fb, fo, none⟩) 1 cf, .int .i64 (win : Int), .int .i64 (que : Int), .int .i64 (g : Int), .int .i64 (s : Int), .int .i64 0, (.slice bs sinks.length cz), .int .i64 node, .pointer none, .pointer none, .pointer none, .slice none 0 0, .map (some tb), .int .u64 0, .bool false, .int .u64 0, .bool false]) rfl (by intro w; kernel_rfl) ?_)
  refine WO.step rfl (OR.box hs rfl ?_)
  clear hs; intro g3 w hg3 hs
  refine WO.step rfl (OR.assign rfl (WO.done (WX.seq (WC.seq (WC.seq (WC.region (WO.step rfl ?_)))))))
  refine OR.move rfl (WO.step rfl (OR.fieldAddr FA78_2 rfl (WO.step rfl (OR.load T3 rfl rfl (hs.cellM (i := 2) rfl rfl) (WO.step rfl (OR.eql rfl rfl (WO.done ?_)))))))
  refine WX.seq ?_
  refine WC.no rfl (decide_eq_false (by omega)) ?_
  refine WC.region (WO.step rfl (OR.move rfl (WO.step rfl (OR.fieldAddr FA78_0 rfl (WO.step rfl (OR.load T3 rfl rfl (hs.cellM (i := 2) rfl rfl) (WO.step rfl ?_)))))))
  refine OR.fieldAddr FA78_1 rfl (WO.step rfl (OR.load T3 rfl rfl (hs.cellM (i := 2) rfl rfl) (WO.step rfl (OR.fieldAddr FA81_2 rfl (WO.step rfl (OR.load T3 rfl rfl (hs.cellM (i := 3) rfl rfl) ?_))))))
  refine WO.step rfl (OR.callX (Mx := []) hs body12 rfl rfl (rnew_ok g s win _ _ hs.toSub ⟨by omega, by omega, by omega, by omega⟩ (by omega)) rfl rfl ?_)
  clear hs; rintro _ H M w hs hle1 hnew ⟨hHH, rb, wb, rfl, rfl⟩; replace hle := hle.trans hle1; (try replace hlb := hlb.trans hle1)
  subst hHH
  replace hs := HS.mtail (A := relMem true (newR g s win) rb wb (List.replicate 16 none)) hs
  refine WO.step rfl (OR.move rfl (WO.step rfl (OR.extract rfl rfl (WO.step rfl (OR.extract rfl rfl (WO.step rfl (OR.nilCheck rfl ?_)))))))
  refine WO.step rfl (OR.fieldAddr FA172_4 rfl (WO.stepN (OR.store hs T34 rfl rfl rfl (Nat.le_of_ble_eq_true rfl) rfl ?_)))
  clear hs; intro w hs
  refine WO.done (WX.seq (WC.seq (WC.seq (WC.region (WO.step rfl (OR.move rfl (WO.done ?_)))))))
  refine WX.seq ?_
  refine WC.no rfl rfl ?_
  refine WC.skip (WX.seq (WC.seq (WC.region (WO.step rfl (OR.move rfl ?_)))))
  have hs3 := (hs.drop 2).drop 2
  have hsF : HS [] H0 w0 H (fMem c (fN0 node) g3 tb (.pointer none) (some ⟨newR g s win, rb, wb, List.replicate 16 none⟩) none ++ []) w := by
    rw [hcd, List.append_nil]
    exact hs3
  clear hs hs3
  refine WO.step rfl (OR.callX (Mx := fMem c (fN0 node) g3 tb (.pointer none) (some ⟨newR g s win, rb, wb, List.replicate 16 none⟩) none) (Mr := []) hsF body95 rfl rfl (fwork_ok c (fN0 node) g3 tb (.pointer none) (some ⟨newR g s win, rb, wb, List.replicate 16 none⟩) none _ _ (HS.part hsF) ⟨slots_new _ _ _ _, newR_ok (by omega) hww⟩ (Ints.nil _) (by show 0 ≤ 1000; omega) (by show 1099511627776 ≤ 1099511627776; omega) (fun p hp => by cases hp)) rfl (fMem_flags _ _ _ _ _ _ _) ?_)
  clear hsF; rintro v H2 M w hs hle2 hnew2 ⟨l', rfl, hro⟩
  refine WO.done (WX.seq (WC.seq (WC.region (WO.step rfl (OR.move rfl (WO.step rfl (OR.assign rfl ?_)))))))
  refine WO.step rfl (OR.assign rfl (WO.done (WX.seq (WC.ret ?_))))
  refine WX.ret2 rfl rfl rfl ?_
  refine ⟨_, H2, _, rfl, hs, ?_, g3, tb, rb, wb, l', rfl, ?_, ?_⟩
  · intro p hp
    rw [List.append_nil] at hp
    exact List.all_eq_true.1 (fMem_flags _ _ _ _ _ _ _) p hp
  · rw [List.append_nil, hcd]
    rfl
  · rw [hcd]
    exact hro
set_option maxRecDepth 20000 in
set_option maxHeartbeats 2000000 in
theorem fnew_sink (c : CfgD) (hok : CfgOk c) (node : Int) (dl : Nat) (H0 : Hp) (w0 : World) (h0 : Sub H0 w0) (hf : CfgIn H0 c) (hnd : 1 ≤ node ∧ node < (c.nodes : Int)) (hns : node ∈ c.sinks) (hdl : dl ≤ 1099511627776) :
    Calls Tryz.prog 35 #[cfgV c, .int .i64 0, .int .i64 node, .int .u64 (dl : Int)] w0 (Ret [] H0 w0 fun v H' M' => ∃ xb tb rb wb l kb, v = .tuple #[ptr xb, .int .i64 0] ∧ M' = fMem c (fN node dl) xb tb (.pointer none) (some ⟨(newR c.g c.s c.win).moveTo dl, rb, wb, l⟩) (some (kb, ⟨c.g, c.s, dl, 0, false, false⟩)) ∧ RlOk H' (some ⟨(newR c.g c.s c.win).moveTo dl, rb, wb, l⟩)) := by
  have hs := HS.init h0
  have hle := Hp.le.refl H0
  have hlb := Hp.le.refl H0
  obtain ⟨nodes, g, s, win, que, sinks, vf, vs⟩ := c
  obtain ⟨fb, fo, cf, ef, hcf, hcc⟩ := hf.f
  replace ef : vf = .slice (some ⟨fb, fo, none⟩) 1 cf := ef
  subst ef
  have hk1 : 1 ≤ sinks.length ∧ sinks.length ≤ 8 := hok.k
  have hnn : 1 ≤ nodes ∧ nodes ≤ 64 := hok.n
  have hgs : 1 ≤ g ∧ g ≤ 255 ∧ 1 ≤ s ∧ s ≤ 65535 ∧ 4 < g * s := hok.gs
  have hww : 1 ≤ win ∧ win ≤ 16 := hok.w
  obtain ⟨bs, cz, hvs⟩ := hf.s.form
  replace hvs : vs = .slice bs sinks.length cz := hvs
  subst hvs
  replace hnd : 1 ≤ node ∧ node < (nodes : Int) := hnd
  replace hns : node ∈ sinks := hns
  obtain ⟨c, hcd⟩ : ∃ c : CfgD, c = ⟨nodes, g, s, win, que, sinks, .slice (some ⟨fb, fo, none⟩) 1 cf, (.slice bs sinks.length cz)⟩ := ⟨_, rfl⟩
  have hfs : Ints H0 (.slice bs sinks.length cz) sinks := hf.s
  have hlo : ∀ i (h : i < sinks.length), 1 ≤ sinks[i] ∧ sinks[i] ≤ (nodes : Int) - 1 := hok.lo
  rw [← hcd] at hok hf ⊢
  rw [show cfgV c = .agg #[.int .i64 (nodes : Int), .slice (some ⟨fb, fo, none⟩) 1 cf, .int .i64 (win : Int), .int .i64 (que : Int)] from by rw [hcd]; rfl]
  refine Calls.enter (args := [.agg #[.int .i64 (nodes : Int), .slice (some ⟨fb, fo, none⟩) 1 cf, .int .i64 (win : Int), .int .i64 (que : Int)], .int .i64 0, .int .i64 node, .int .u64 (dl : Int)]) Tryz.func35 rfl Tryz.ntmps35 rfl ?_
  refine WC.seq (WC.region (WO.step rfl (OR.box hs rfl ?_)))
  clear hs; intro g1 w hg1 hs
  refine WO.step rfl (OR.assign rfl (WO.step rfl (OR.assign rfl (WO.done (WX.seq (WC.seq (WC.seq ?_)))))))
  refine WC.region (WO.step rfl (OR.loadAll T81 rfl rfl (hs.blk (i := 0) rfl) rfl ?_))
  refine WO.step rfl (OR.call hs body47 rfl rfl (tconfig_ok ⟨nodes, g, s, win, que, sinks, .slice (some ⟨fb, fo, none⟩) 1 cf, (.slice bs sinks.length cz)⟩ (hcd ▸ hok) _ _ hs.toSub (hcd ▸ hf)) ?_)
  clear hs; rintro _ H w hs hle1 rfl; replace hle := hle.trans hle1; (try replace hlb := hlb.trans hle1)
  refine WO.step rfl (OR.not rfl (WO.step rfl (OR.move rfl ?_)))
  refine WO.guardYes rfl rfl rfl rfl (OR.move rfl (WO.guardYes rfl rfl rfl rfl (OR.lss rfl rfl (WO.step rfl (OR.pickF rfl rfl rfl (WO.step rfl (OR.move rfl ?_)))))))
  refine WO.guardYes rfl rfl rfl rfl (OR.move rfl (WO.guardYes rfl rfl rfl rfl (OR.fieldAddr FA81_1 rfl (WO.guardYes rfl rfl rfl rfl (OR.load T79 rfl rfl (hs.cellM (i := 0) rfl rfl) (WO.guardYes rfl rfl rfl rfl (OR.lenSlice T79.und rfl ?_)))))))
  refine WO.guardYes rfl rfl rfl rfl (OR.geq rfl rfl (WO.step rfl (OR.pickF rfl rfl rfl (WO.step rfl (OR.move rfl ?_)))))
  refine WO.guardYes rfl rfl rfl rfl (OR.move rfl (WO.guardYes rfl rfl rfl rfl (OR.lss rfl rfl (WO.step rfl (OR.pickF rfl rfl rfl (WO.step rfl (OR.move rfl ?_)))))))
  refine WO.guardYes rfl (decide_eq_false (by omega : ¬ node < 0)) rfl rfl (OR.move rfl (WO.guardYes rfl (decide_eq_false (by omega : ¬ node < 0)) rfl rfl (OR.fieldAddr FA81_0 rfl (WO.guardYes rfl (decide_eq_false (by omega : ¬ node < 0)) rfl rfl (OR.load T3 rfl rfl (hs.cellM (i := 0) rfl rfl) (WO.guardYes rfl (decide_eq_false (by omega : ¬ node < 0)) rfl rfl (OR.geq rfl rfl ?_)))))))
  refine WO.step rfl (OR.pickF rfl (decide_eq_false (by omega : ¬ node < 0)) rfl (WO.step rfl (OR.move rfl ?_)))
  refine WO.guardYes rfl (decide_eq_false (by omega : ¬ node ≥ (nodes : Int))) rfl rfl (OR.move rfl (WO.guardYes rfl (decide_eq_false (by omega : ¬ node ≥ (nodes : Int))) rfl rfl (OR.gtr rfl rfl (WO.step rfl (OR.pickF rfl (decide_eq_false (by omega : ¬ node ≥ (nodes : Int))) rfl (WO.done (WX.seq ?_)))))))
  refine WC.no rfl (decide_eq_false (by omega : ¬ (dl : Int) > 1099511627776)) ?_
  refine WC.skip (WX.seq (WC.seq (WC.region (WO.step rfl (OR.fieldAddr FA81_1 rfl (WO.step rfl (OR.load T79 rfl rfl (hs.cellM (i := 0) rfl rfl) ?_)))))))
  refine WO.step rfl (OR.move rfl ?_)
  refine WO.step rfl (OR.idxN 0 T79.und T78 rfl rfl rfl (by omega) ?_)
  refine WO.step rfl (OR.loadN (cs := [.int .i64 (g : Int), .int .i64 (s : Int), .int .i64 0, (.slice bs sinks.length cz)]) T78 rfl rfl rfl (fun j u hj => hs.cell (hcell.mono hle (by rw [Nat.zero_mul, Nat.add_zero]; exact hcc j u hj))) ?_)
  refine WO.step rfl (OR.alloc hs T78 ?_)
  clear hs; intro g2 w hg2 hs
  refine WO.stepN (OR.storeAll hs T78 rfl rfl rfl rfl rfl ?_)
  clear hs; intro w hs
  refine WO.done (WX.seq (WC.seq (WC.region (WO.step rfl (OR.fieldAddr FA78_3 rfl (WO.step rfl (OR.load T76 rfl rfl (hs.cellM (i := 0) rfl rfl) ?_)))))))
  refine WO.step rfl (OR.move rfl ?_)
  refine WO.step rfl (OR.call hs body94 rfl rfl (contains_ok' (.slice bs sinks.length cz) sinks node _ _ hs.toSub (hfs.mono hle) (by omega)) ?_)
  clear hs; rintro _ H w hs hle1 rfl; replace hle := hle.trans hle1; (try replace hlb := hlb.trans hle1)
  rw [decide_eq_true hns]
  refine WO.step rfl (OR.assign rfl (WO.done (WX.seq (WC.seq ?_))))
  refine WC.joinK (ι := Unit) (fun iu => [(2, .int .i64 node), (3, .int .u64 (dl : Int)), (4, ptr g1), (10, ptr g2), (11, .bool true)]) (fun iu w => (∃ H, Hp.le H0 H ∧ HS [] H0 w0 H [(g2, .cells #[.int .i64 (g : Int), .int .i64 (s : Int), .int .i64 0, (.slice bs sinks.length cz)] 78, true), (g1, .cells #[.int .i64 (nodes : Int), .slice (some ⟨fb, fo, none⟩) 1 cf, .int .i64 (win : Int), .int .i64 (que : Int)] 81, true)] w)) ?_ (fun iu w hW => ?_)
  · refine WC.seq (WC.region (WO.step rfl (OR.move rfl (WO.step rfl (OR.gtr rfl rfl (WO.step rfl (OR.move rfl ?_)))))))
    refine WO.guardSplit (j := 2) rfl (fun hpos => ?_) (fun hpos => ?_)
    · refine WO.guardYes rfl (decide_eq_true hpos) rfl rfl (OR.move rfl (WO.guardYes rfl (decide_eq_true hpos) rfl rfl (OR.not rfl (WO.step rfl (OR.pickT rfl (decide_eq_true hpos) rfl (WO.done (WX.seq ?_)))))))
      refine WC.no rfl rfl ?_
      refine WC.skip ?_
      refine WX.arrive (()) ⟨rfl, rfl, rfl, rfl, rfl,  trivial⟩ ?_
      exact ⟨H, hle, hs⟩
    · refine WO.guardNo rfl (decide_eq_false hpos) rfl rfl (WO.guardNo rfl (decide_eq_false hpos) rfl rfl (WO.step rfl (OR.pickF rfl (decide_eq_false hpos) rfl (WO.done (WX.seq (WC.no rfl rfl (WC.skip ?_)))))))
      refine WX.arrive (()) ⟨rfl, rfl, rfl, rfl, rfl,  trivial⟩ ?_
      exact ⟨H, hle, hs⟩
  · clear hs hle
    obtain ⟨H, hle, hs⟩ := hW
    refine WC.seq (WC.region (WO.step rfl (OR.loadAll T81 rfl rfl (hs.blk (i := 1) rfl) rfl (WO.step rfl (OR.loadAll T78 rfl rfl (hs.blk (i := 0) rfl) rfl (WO.step rfl (OR.move rfl ?_)))))))
    refine WO.step rfl (OR.makeMap hs ?_)
    clear hs; intro tb w htb hs
    refine WO.step rfl (OR.build (cs := #[.int .i64 (nodes : Int), .slice (some ⟨fb, fo, none⟩) 1 cf, .int .i64 (win : Int), .int .i64 (que : Int), .int .i64 (g : Int), .int .i64 (s : Int), .int .i64 0, (.slice bs sinks.length cz), .int .i64 node, .pointer none, .pointer none, .pointer none, .slice none 0 0, .map (some tb), .int .u64 0, .bool false, .int .u64 0, .bool false]) rfl (by intro w; kernel_rfl) ?_)
    refine WO.step rfl (OR.box hs rfl ?_)
    clear hs; intro g3 w hg3 hs
    refine WO.step rfl (OR.assign rfl (WO.done (WX.seq (WC.seq (WC.seq (WC.region (WO.step rfl ?_)))))))
    refine OR.move rfl (WO.step rfl (OR.fieldAddr FA78_2 rfl (WO.step rfl (OR.load T3 rfl rfl (hs.cellM (i := 2) rfl rfl) (WO.step rfl (OR.eql rfl rfl (WO.done ?_)))))))
    refine WX.seq ?_
    refine WC.no rfl (decide_eq_false (by omega)) ?_
    refine WC.region (WO.step rfl (OR.move rfl (WO.step rfl (OR.fieldAddr FA78_0 rfl (WO.step rfl (OR.load T3 rfl rfl (hs.cellM (i := 2) rfl rfl) (WO.step rfl ?_)))))))
    refine OR.fieldAddr FA78_1 rfl (WO.step rfl (OR.load T3 rfl rfl (hs.cellM (i := 2) rfl rfl) (WO.step rfl (OR.fieldAddr FA81_2 rfl (WO.step rfl (OR.load T3 rfl rfl (hs.cellM (i := 3) rfl rfl) ?_))))))
    refine WO.step rfl (OR.callX (Mx := []) hs body12 rfl rfl (rnew_ok g s win _ _ hs.toSub ⟨by omega, by omega, by omega, by omega⟩ (by omega)) rfl rfl ?_)
    clear hs; rintro _ H M w hs hle1 hnew ⟨hHH, rb, wb, rfl, rfl⟩; replace hle := hle.trans hle1; (try replace hlb := hlb.trans hle1)
    subst hHH
    replace hs := HS.mtail (A := relMem true (newR g s win) rb wb (List.replicate 16 none)) hs
    refine WO.step rfl (OR.move rfl (WO.step rfl (OR.extract rfl rfl (WO.step rfl (OR.extract rfl rfl (WO.step rfl (OR.nilCheck rfl ?_)))))))
    refine WO.step rfl (OR.fieldAddr FA172_4 rfl (WO.stepN (OR.store hs T34 rfl rfl rfl (Nat.le_of_ble_eq_true rfl) rfl ?_)))
    clear hs; intro w hs
    refine WO.done (WX.seq (WC.seq (WC.seq (WC.region (WO.step rfl (OR.move rfl (WO.done ?_)))))))
    refine WX.seq ?_
    refine WC.yes rfl rfl ?_
    refine WC.region (WO.step rfl (OR.move rfl (WO.step rfl (OR.fieldAddr FA78_0 rfl (WO.step rfl (OR.load T3 rfl rfl (hs.cellM (i := 2) rfl rfl) (WO.step rfl ?_)))))))
    refine OR.fieldAddr FA78_1 rfl (WO.step rfl (OR.load T3 rfl rfl (hs.cellM (i := 2) rfl rfl) (WO.step rfl (OR.move rfl ?_))))
    refine WO.step rfl (OR.callX (Mx := []) hs body10 rfl rfl (knew_ok g s dl _ _ hs.toSub) rfl rfl ?_)
    clear hs; rintro _ H M w hs hle1 hnew hkn; replace hle := hle.trans hle1; (try replace hlb := hlb.trans hle1)
    rw [if_pos ⟨by omega, hdl⟩] at hkn
    obtain ⟨kb, rfl, rfl⟩ := hkn
    replace hs : HS [] H0 w0 H ((kb, sinkObj ⟨g, s, dl, 0, false, false⟩, true) :: (g3, .cells #[.int .i64 (nodes : Int), .slice (some ⟨fb, fo, none⟩) 1 cf, .int .i64 (win : Int), .int .i64 (que : Int), .int .i64 (g : Int), .int .i64 (s : Int), .int .i64 0, (.slice bs sinks.length cz), .int .i64 node, .pointer none, ptr rb, .pointer none, .slice none 0 0, .map (some tb), .int .u64 0, .bool false, .int .u64 0, .bool false] 172, true) :: (tb, .map #[] 0, true) :: (g2, .cells #[.int .i64 (g : Int), .int .i64 (s : Int), .int .i64 0, (.slice bs sinks.length cz)] 78, true) :: (g1, .cells #[.int .i64 (nodes : Int), .slice (some ⟨fb, fo, none⟩) 1 cf, .int .i64 (win : Int), .int .i64 (que : Int)] 81, true) :: relMem true (newR g s win) rb wb (List.replicate 16 none)) w := hs
    refine WO.step rfl (OR.move rfl (WO.step rfl (OR.extract rfl rfl (WO.step rfl (OR.extract rfl rfl (WO.step rfl (OR.nilCheck rfl ?_)))))))
    refine WO.step rfl (OR.fieldAddr FA172_5 rfl ?_)
    replace hs := hs.front (i := 1) rfl
    refine WO.stepN (OR.store hs T27 rfl rfl rfl (Nat.le_of_ble_eq_true rfl) rfl ?_)
    clear hs; intro w hs
    refine WO.done (WX.seq (WC.seq (WC.region (WO.step rfl (OR.move rfl ?_)))))
    have hs3 := (hs.drop 3).drop 3
    have hsF : HS [] H0 w0 H (fMem c (fN0 node) g3 tb (.pointer none) (some ⟨newR g s win, rb, wb, List.replicate 16 none⟩) (some (kb, ⟨g, s, dl, 0, false, false⟩)) ++ []) w := by
      rw [hcd, List.append_nil]
      exact hs3.perm (List.Perm.cons _ (List.Perm.swap _ _ _))
    clear hs hs3
    refine WO.step rfl (OR.callX (Mx := fMem c (fN0 node) g3 tb (.pointer none) (some ⟨newR g s win, rb, wb, List.replicate 16 none⟩) (some (kb, ⟨g, s, dl, 0, false, false⟩))) (Mr := []) hsF body95 rfl rfl (fwork_ok c (fN0 node) g3 tb (.pointer none) (some ⟨newR g s win, rb, wb, List.replicate 16 none⟩) (some (kb, ⟨g, s, dl, 0, false, false⟩)) _ _ (HS.part hsF) ⟨slots_new _ _ _ _, newR_ok (by omega) hww⟩ (Ints.nil _) (by show 0 ≤ 1000; omega) (by show dl ≤ 1099511627776; omega) (fun p hp => by cases hp)) rfl (fMem_flags _ _ _ _ _ _ _) ?_)
    clear hsF; rintro v H2 M w hs hle2 hnew2 ⟨l', rfl, hro⟩
    refine WO.done (WX.seq (WC.seq (WC.region (WO.step rfl (OR.move rfl (WO.step rfl (OR.assign rfl ?_)))))))
    refine WO.step rfl (OR.assign rfl (WO.done (WX.seq (WC.ret ?_))))
    refine WX.ret2 rfl rfl rfl ?_
    refine ⟨_, H2, _, rfl, hs, ?_, g3, tb, rb, wb, l', kb, rfl, ?_, ?_⟩
    · intro p hp
      rw [List.append_nil] at hp
      exact List.all_eq_true.1 (fMem_flags _ _ _ _ _ _ _) p hp
    · rw [List.append_nil, hcd]
      rfl
    · rw [hcd]
      exact hro
end Go.Bw
namespace Go.Bw
set_option linter.unusedVariables false
set_option linter.unusedSimpArgs false
open Go.Proofs
def FD.epoch (d : FD) (next : List Int) (nv : Value) : FD := { d with next := next, nv := nv, told := [], worked := false }
def toldPut (l : List (Int × Nat)) (a : Int) (b : Nat) : List (Int × Nat) := match l.findIdx? (fun p => p.1 == a) with
  | some i => l.set i (a, b)
  | none => l ++ [(a, b)]
theorem toldPut_C (l : List (Int × Nat)) (a : Int) (b : Nat) : toldC (toldPut l a b) = assocPut (toldC l) a (.int .u64 (b : Int)) := by
  unfold toldPut assocPut toldC
  rw [List.findIdx?_map]
  show List.map _ (match l.findIdx? (fun p => p.1 == a) with | some i => l.set i (a, b) | none => l ++ [(a, b)]) = match l.findIdx? (fun p => p.1 == a) with | some i => _ | none => _
  cases l.findIdx? (fun p => p.1 == a) with
  | none => simp
  | some i => simp [List.map_set]
theorem toldPut_len (l : List (Int × Nat)) (a : Int) (b : Nat) : (toldPut l a b).length ≤ l.length + 1 := by
  unfold toldPut
  split <;> simp
theorem toldPut_mem {l : List (Int × Nat)} {a : Int} {b : Nat} {p : Int × Nat} (h : p ∈ toldPut l a b) : p = (a, b) ∨ p ∈ l := by
  unfold toldPut at h
  split at h
  · exact (List.mem_or_eq_of_mem_set h).symm
  · rcases List.mem_append.1 h with h | h
    · exact .inr h
    · exact .inl (List.mem_singleton.1 h)
def FD.hop (d : FD) (a : Int) (b : Nat) : FD := { d with told := toldPut d.told a b }
set_option maxRecDepth 20000 in
set_option maxHeartbeats 2000000 in
theorem fepoch_ok (c : CfgD) (d : FD) (xb tb : Nat) (vs : Value) (rl : Option RelS) (sk : SinkS) (v : Value) (next : List Int) (H0 : Hp) (w0 : World) (hs : HS (Mem.keys (fMem c d xb tb vs rl sk)) H0 w0 H0 (fMem c d xb tb vs rl sk) w0) (hok : RlOk H0 rl) (hb : skBase sk ≤ 1099511627776)
    (hv : Ints H0 v next) (hn : next.length ≤ 1000) (hr : ∀ i (h : i < next.length), 0 ≤ next[i] ∧ next[i] < (c.nodes : Int) ∧ next[i] ≠ d.node) (hup : ∀ i (h : i < next.length), 0 < i → next[i - 1]'(by omega) < next[i]) :
    Calls Tryz.prog 38 #[ptr xb, v] w0 (Ret (Mem.keys (fMem c d xb tb vs rl sk)) H0 w0 fun u H' M' => ∃ nv tb' l', u = .int .i64 0 ∧ M' = fMem c ((d.epoch next nv).work (skBase sk)) xb tb' vs (workR (d.epoch next nv) (skBase sk) l' rl) sk ∧ Ints H' nv next ∧ RlOk H' (workR (d.epoch next nv) (skBase sk) l' rl)) := by
  have hle := Hp.le.refl H0
  have h00 := hs.toSub
  have hlb := Hp.le.refl H0
  obtain ⟨bv, cv, rfl⟩ := hv.form
  obtain ⟨xs, hxs⟩ : ∃ xs, xs = Mem.keys (fMem c d xb tb vs rl sk) := ⟨_, rfl⟩
  rw [← hxs] at hs ⊢
  clear hxs
  replace hs : HS xs H0 w0 H0 ((xb, fObj c d tb vs (rlV rl) (skV sk), true) :: (tb, toldObj d.told, true) :: (skMem sk ++ rlMem rl)) w0 := hs
  refine Calls.enter (args := [ptr xb, .slice bv next.length cv]) Tryz.func38 rfl Tryz.ntmps38 rfl ?_
  refine WC.seq (WC.region (WO.step rfl (OR.assign rfl (WO.done (WX.seq (WC.seq (WC.seq ?_)))))))
  refine WC.region (WO.step rfl (OR.move rfl ?_))
  refine WO.step rfl (OR.call hs body96 rfl rfl (fmade_ok c d xb tb vs _ _ _ _ hs.toSub (hs.blk (i := 0) rfl) (hs.nh (i := 0) rfl)) ?_)
  clear hs; rintro _ H w hs hle1 rfl; replace hle := hle.trans hle1; (try replace hlb := hlb.trans hle1)
  refine WO.step rfl (OR.not rfl (WO.done (WX.seq ?_)))
  refine WC.no rfl rfl ?_
  refine WC.skip (WX.seq (WC.seq (WC.seq (WC.region (WO.step rfl (OR.move rfl (WO.step rfl ?_)))))))
  refine OR.lenSlice T76.und rfl (WO.step rfl (OR.move rfl (WO.done (WX.seq (WC.block ?_)))))
  refine WC.loop (ι := Nat) (fun k => [(0, ptr xb), (1, .slice bv next.length cv), (10, .slice bv next.length cv), (11, .int .i64 (next.length : Int)), (12, .int .i64 (k : Int))]) (fun k w => (k ≤ next.length ∧ HS xs H0 w0 H ((xb, fObj c d tb vs (rlV rl) (skV sk), true) :: (tb, toldObj d.told, true) :: (skMem sk ++ rlMem rl)) w)) (fun k => next.length - k) 0 ⟨rfl, rfl, rfl, rfl, rfl,  trivial⟩ ?_ (fun k w hW => ?_)
  · exact ⟨by omega, hs⟩
  clear hs
  obtain ⟨hk, hs⟩ := hW
  refine WC.seq (WC.region (WO.step rfl (OR.lss rfl rfl (WO.done (WX.seq (WC.seq ?_))))))
  refine WC.condD rfl (fun hlt => ?_) (fun hlt => ?_)
  · have hk' : k < next.length := by omega
    obtain ⟨yb, yo, rfl, hcx⟩ := hv.pos (by omega)
    have hck := hcx k hk'
    obtain ⟨r1, r2, r3⟩ := hr k hk'
    refine WC.skip (WX.seq (WC.seq (WC.block (WC.seq (WC.region (WO.step rfl (OR.move rfl ?_)))))))
    refine WO.step rfl (OR.idx k T76.und T3 rfl rfl rfl hk' ?_)
    refine WO.step rfl (OR.load T3 rfl rfl (hs.cell (hcell.mono hle hck)) ?_)
    refine WO.step rfl (OR.assign rfl (WO.step rfl (OR.assign rfl (WO.done (WX.seq (WC.seq (WC.region ?_)))))))
    refine WO.step rfl (OR.move rfl (WO.step rfl (OR.lss rfl rfl (WO.step rfl (OR.move rfl ?_)))))
    refine WO.guardYes rfl (decide_eq_false (by omega : ¬ next[k] < 0)) rfl rfl (OR.move rfl (WO.guardYes rfl (decide_eq_false (by omega : ¬ next[k] < 0)) rfl rfl (OR.move rfl (WO.guardYes rfl (decide_eq_false (by omega : ¬ next[k] < 0)) rfl rfl (OR.nilCheck rfl (WO.guardYes rfl (decide_eq_false (by omega : ¬ next[k] < 0)) rfl rfl (OR.fieldAddr FA172_0 rfl ?_)))))))
    refine WO.guardYes rfl (decide_eq_false (by omega : ¬ next[k] < 0)) rfl rfl (OR.fieldAddr FA81_0 rfl (WO.guardYes rfl (decide_eq_false (by omega : ¬ next[k] < 0)) rfl rfl (OR.load T3 rfl rfl (hs.cellM (i := 0) rfl rfl) (WO.guardYes rfl (decide_eq_false (by omega : ¬ next[k] < 0)) rfl rfl (OR.geq rfl rfl (WO.step rfl (OR.pickF rfl (decide_eq_false (by omega : ¬ next[k] < 0)) rfl ?_)))))))
    refine WO.step rfl (OR.move rfl ?_)
    refine WO.guardYes rfl (decide_eq_false (by omega : ¬ next[k] ≥ (c.nodes : Int))) rfl rfl (OR.move rfl (WO.guardYes rfl (decide_eq_false (by omega : ¬ next[k] ≥ (c.nodes : Int))) rfl rfl (OR.move rfl (WO.guardYes rfl (decide_eq_false (by omega : ¬ next[k] ≥ (c.nodes : Int))) rfl rfl (OR.nilCheck rfl (WO.guardYes rfl (decide_eq_false (by omega : ¬ next[k] ≥ (c.nodes : Int))) rfl rfl (OR.fieldAddr FA172_2 rfl ?_)))))))
    refine WO.guardYes rfl (decide_eq_false (by omega : ¬ next[k] ≥ (c.nodes : Int))) rfl rfl (OR.load T3 rfl rfl (hs.cellM (i := 0) rfl rfl) (WO.guardYes rfl (decide_eq_false (by omega : ¬ next[k] ≥ (c.nodes : Int))) rfl rfl (OR.eql rfl rfl (WO.step rfl (OR.pickF rfl (decide_eq_false (by omega : ¬ next[k] ≥ (c.nodes : Int))) rfl (WO.step rfl (OR.move rfl ?_)))))))
    refine WO.guardYes rfl (decide_eq_false r3) rfl rfl (OR.move rfl (WO.guardYes rfl (decide_eq_false r3) rfl rfl (OR.gtr rfl rfl (WO.guardYes rfl (decide_eq_false r3) rfl rfl (OR.move rfl ?_)))))
    refine WO.guardSplit (j := 22) rfl (fun hpos => ?_) (fun hpos => ?_)
    · have hp : 0 < k := by omega
      have hu := hup k hk' hp
      have hck1 := hcx (k - 1) (by omega)
      refine WO.guardYes rfl (decide_eq_true hpos) rfl rfl (OR.move rfl (WO.guardYes rfl (decide_eq_true hpos) rfl rfl (OR.move rfl (WO.guardYes rfl (decide_eq_true hpos) rfl rfl (OR.subI rfl rfl (by omega) (by omega) ?_)))))
      rw [show (k : Int) - 1 = ((k - 1 : Nat) : Int) by omega]
      refine WO.guardYes rfl (decide_eq_true hpos) rfl rfl (OR.idx (k - 1) T76.und T3 rfl rfl rfl (by omega) ?_)
      refine WO.guardYes rfl (decide_eq_true hpos) rfl rfl (OR.load T3 rfl rfl (hs.cell (hcell.mono hle hck1)) ?_)
      refine WO.guardYes rfl (decide_eq_true hpos) rfl rfl (OR.move rfl (WO.guardYes rfl (decide_eq_true hpos) rfl rfl (OR.geq rfl rfl (WO.guardYes rfl (decide_eq_false r3) rfl rfl (OR.pickT rfl (decide_eq_true hpos) rfl (WO.step rfl (OR.pickF rfl (decide_eq_false r3) rfl ?_)))))))
      refine WO.done (WX.seq ?_)
      refine WC.no rfl (decide_eq_false (by omega : ¬ next[k - 1] ≥ next[k])) ?_
      refine WC.skip (WX.block (WX.seq (WC.region (WO.step rfl (OR.addI rfl rfl (by omega) (by omega) (WO.step rfl (OR.move rfl ?_)))))))
      refine WO.done ?_
      refine WX.again (k + 1) ⟨rfl, rfl, rfl, rfl, rfl,  trivial⟩ ?_ ?_
      · exact ⟨by omega, hs⟩
      · omega
    · refine WO.guardNo rfl (decide_eq_false hpos) rfl rfl (WO.guardNo rfl (decide_eq_false hpos) rfl rfl (WO.guardNo rfl (decide_eq_false hpos) rfl rfl (WO.guardNo rfl (decide_eq_false hpos) rfl rfl (WO.guardNo rfl (decide_eq_false hpos) rfl rfl (WO.guardNo rfl (decide_eq_false hpos) rfl rfl (WO.guardNo rfl (decide_eq_false hpos) rfl rfl (WO.guardYes rfl (decide_eq_false r3) rfl rfl ?_)))))))
      refine OR.pickF rfl (decide_eq_false hpos) rfl (WO.step rfl (OR.pickF rfl (decide_eq_false r3) rfl (WO.done (WX.seq (WC.no rfl rfl (WC.skip (WX.block ?_)))))))
      refine WX.seq (WC.region (WO.step rfl (OR.addI rfl rfl (by omega) (by omega) (WO.step rfl (OR.move rfl (WO.done ?_))))))
      refine WX.again (k + 1) ⟨rfl, rfl, rfl, rfl, rfl,  trivial⟩ ?_ ?_
      · exact ⟨by omega, hs⟩
      · omega
  · refine WC.exit (WX.seq_exit (WX.loop_exit (WX.block_hit (WX.seq (WC.seq (WC.region (WO.step rfl ?_)))))))
    refine OR.move rfl (WO.step rfl (OR.move rfl (WO.step rfl (OR.move rfl (WO.step rfl (OR.move rfl ?_))))))
    refine WO.step rfl (OR.callX (Mx := []) (Mr := (xb, fObj c d tb vs (rlV rl) (skV sk), true) :: (tb, toldObj d.told, true) :: (skMem sk ++ rlMem rl)) hs body97 rfl rfl (cloneInts_ok _ next _ _ hs.toSub (hv.mono hle) (by omega)) rfl rfl ?_)
    have hsz := hs.size
    clear hs; rintro nv H2 Mo w hs hle2 hnew2 ⟨rfl, ho⟩
    replace ho := ho.mono hsz
    obtain ⟨H3, hle3, hs, hsl3, _⟩ := HS.pub hs ho
    replace hle := hle.trans hle3
    refine WO.step rfl (OR.makeMap hs ?_)
    clear hs; intro tb' w htb hs
    obtain ⟨bn, cn, rfl⟩ := Sl.form hsl3
    refine WO.step rfl (OR.nilCheck rfl (WO.step rfl (OR.fieldAddr FA172_6 rfl ?_)))
    replace hs := hs.front (i := 1) rfl
    refine WO.stepN (OR.store hs T76 rfl rfl rfl (Nat.le_of_ble_eq_true rfl) rfl ?_)
    clear hs; intro w hs
    refine WO.step rfl (OR.nilCheck rfl (WO.step rfl (OR.fieldAddr FA172_7 rfl (WO.stepN (OR.store hs T85 rfl rfl rfl (Nat.le_of_ble_eq_true rfl) rfl ?_)))))
    clear hs; intro w hs
    refine WO.step rfl (OR.nilCheck rfl (WO.step rfl (OR.fieldAddr FA172_9 rfl (WO.stepN (OR.store hs T4 rfl rfl rfl (Nat.le_of_ble_eq_true rfl) rfl ?_)))))
    clear hs; intro w hs
    refine WO.done (WX.seq (WC.seq (WC.region (WO.step rfl (OR.move rfl ?_)))))
    obtain ⟨nv, hnv⟩ : ∃ nv : Value, nv = .slice bn next.length cn := ⟨_, rfl⟩
    have hF : HS xs H0 w0 H3 (fMem c (d.epoch next nv) xb tb' vs rl sk ++ []) w := by
      rw [List.append_nil, hnv]
      exact hs.drop 2
    clear hs
    refine WO.step rfl (OR.callX (Mx := fMem c (d.epoch next nv) xb tb' vs rl sk) (Mr := []) hF body95 rfl rfl (fwork_ok c (d.epoch next nv) xb tb' vs rl sk _ _ (HS.part hF) (hok.mono hle) (by rw [hnv]; exact hsl3) (by show 0 ≤ 1000; omega) hb (fun p hp => by cases hp)) rfl (fMem_flags _ _ _ _ _ _ _) ?_)
    clear hF; rintro v H4 M w hs hle4 hnew4 ⟨l', rfl, hro⟩
    refine WO.done (WX.seq (WC.seq (WC.region (WO.step rfl (OR.assign rfl (WO.done (WX.seq ?_)))))))
    refine WC.ret ?_
    refine WX.ret1 rfl rfl ?_
    rw [List.append_nil] at hs
    refine ⟨_, H4, _, rfl, hs, fun p hp => List.all_eq_true.1 (fMem_flags _ _ _ _ _ _ _) p hp, nv, tb', l', rfl, rfl, ?_, hro⟩
    rw [hnv]
    exact Ints.mono hsl3 hle4
set_option maxRecDepth 20000 in
set_option maxHeartbeats 2000000 in
theorem fhop_ok (c : CfgD) (d : FD) (xb tb : Nat) (vs : Value) (rl : Option RelS) (sk : SinkS) (a : Int) (b : Nat) (H0 : Hp) (w0 : World) (hs : HS (Mem.keys (fMem c d xb tb vs rl sk)) H0 w0 H0 (fMem c d xb tb vs rl sk) w0) (hok : RlOk H0 rl) (hb : skBase sk ≤ 1099511627776)
    (hnx : Ints H0 d.nv d.next) (hd : d.told.length ≤ 900) (hdn : d.next.length ≤ 1000) (ht : ∀ p ∈ d.told, p.2 ≤ 1099511627776) (ha : a ∈ d.next) (hbm : b ≤ 1099511627776) :
    Calls Tryz.prog 39 #[ptr xb, .int .i64 a, .int .u64 (b : Int)] w0 (Ret (Mem.keys (fMem c d xb tb vs rl sk)) H0 w0 fun u H' M' => ∃ l', u = .int .i64 0 ∧ M' = fMem c ((d.hop a b).work (skBase sk)) xb tb vs (workR (d.hop a b) (skBase sk) l' rl) sk ∧ RlOk H' (workR (d.hop a b) (skBase sk) l' rl)) := by
  have hle := Hp.le.refl H0
  have h00 := hs.toSub
  obtain ⟨xs, hxs⟩ : ∃ xs, xs = Mem.keys (fMem c d xb tb vs rl sk) := ⟨_, rfl⟩
  rw [← hxs] at hs ⊢
  clear hxs
  replace hs : HS xs H0 w0 H0 ((xb, fObj c d tb vs (rlV rl) (skV sk), true) :: (tb, toldObj d.told, true) :: (skMem sk ++ rlMem rl)) w0 := hs
  refine Calls.enter (args := [ptr xb, .int .i64 a, .int .u64 (b : Int)]) Tryz.func39 rfl Tryz.ntmps39 rfl ?_
  refine WC.seq (WC.region (WO.step rfl (OR.assign rfl (WO.done (WX.seq (WC.seq (WC.block ?_)))))))
  refine WC.seq (WC.region (WO.step rfl (OR.move rfl ?_)))
  refine WO.step rfl (OR.call hs body96 rfl rfl (fmade_ok c d xb tb vs _ _ _ _ hs.toSub (hs.blk (i := 0) rfl) (hs.nh (i := 0) rfl)) ?_)
  clear hs; rintro _ H w hs hle1 rfl; replace hle := hle.trans hle1; (try replace hlb := hlb.trans hle1)
  refine WO.step rfl (OR.not rfl (WO.step rfl (OR.assign rfl (WO.done (WX.seq ?_)))))
  refine WC.no rfl rfl ?_
  refine WC.seq (WC.region (WO.step rfl (OR.move rfl (WO.step rfl (OR.nilCheck rfl (WO.step rfl (OR.fieldAddr FA172_6 rfl ?_)))))))
  refine WO.step rfl (OR.load T76 rfl rfl (hs.cellM (i := 0) rfl rfl) (WO.step rfl (OR.move rfl ?_)))
  refine WO.step rfl (OR.call hs body94 rfl rfl (contains_ok' d.nv d.next a _ _ hs.toSub (hnx.mono hle) (by omega)) ?_)
  clear hs; rintro _ H w hs hle1 rfl; replace hle := hle.trans hle1; (try replace hlb := hlb.trans hle1)
  rw [decide_eq_true ha]
  refine WO.step rfl (OR.not rfl (WO.step rfl (OR.assign rfl (WO.done (WX.seq ?_)))))
  refine WC.no rfl rfl ?_
  refine WC.seq (WC.region (WO.step rfl (OR.move rfl (WO.step rfl (OR.gtr rfl rfl (WO.step rfl (OR.assign rfl ?_)))))))
  refine WO.done (WX.seq ?_)
  refine WC.no rfl (decide_eq_false (by omega : ¬ (b : Int) > 1099511627776)) ?_
  refine WC.skip (WX.block (WX.seq (WC.seq (WC.region (WO.step rfl (OR.move rfl (WO.step rfl ?_)))))))
  refine OR.nilCheck rfl (WO.step rfl (OR.fieldAddr FA172_7 rfl (WO.step rfl (OR.load T85 rfl rfl (hs.cellM (i := 0) rfl rfl) (WO.step rfl (OR.move rfl (WO.step rfl ?_)))))))
  refine OR.move rfl ?_
  replace hs := hs.front (i := 1) rfl
  refine WO.stepN (OR.mapPut (K := .i64) (l := toldC d.told) hs T85.und T3.und rfl rfl rfl ?_)
  clear hs; intro w hs
  refine WO.done (WX.seq (WC.seq (WC.region (WO.step rfl (OR.move rfl ?_)))))
  have hF : HS xs H0 w0 H (fMem c (d.hop a b) xb tb vs rl sk ++ []) w := by
    rw [List.append_nil]
    rw [← toldPut_C] at hs
    exact hs.perm (List.Perm.swap _ _ _)
  clear hs
  have htt : ∀ p ∈ (d.hop a b).told, p.2 ≤ 1099511627776 := fun p hp => by
    rcases toldPut_mem hp with rfl | hp
    · exact hbm
    · exact ht p hp
  refine WO.step rfl (OR.callX (Mx := fMem c (d.hop a b) xb tb vs rl sk) (Mr := []) hF body95 rfl rfl (fwork_ok c (d.hop a b) xb tb vs rl sk _ _ (HS.part hF) (hok.mono hle) (hnx.mono hle) (by have := toldPut_len d.told a b; show (toldPut d.told a b).length ≤ 1000; omega) hb htt) rfl (fMem_flags _ _ _ _ _ _ _) ?_)
  clear hF; rintro v H4 M w hs hle4 hnew4 ⟨l', rfl, hro⟩
  refine WO.done (WX.seq (WC.seq (WC.region (WO.step rfl (OR.assign rfl (WO.done (WX.seq ?_)))))))
  refine WC.ret ?_
  refine WX.ret1 rfl rfl ?_
  rw [List.append_nil] at hs
  exact ⟨_, H4, _, rfl, hs, fun p hp => List.all_eq_true.1 (fMem_flags _ _ _ _ _ _ _) p hp, l', rfl, rfl, hro⟩
set_option maxRecDepth 20000 in
set_option maxHeartbeats 2000000 in
theorem fhop_none (c : CfgD) (d : FD) (xb tb : Nat) (vs vr vk : Value) (a : Int) (b : Nat) (H0 : Hp) (w0 : World) (h0 : Sub H0 w0) (hb : w0.heap[xb]? = some (fObj c d tb vs vr vk)) (hn : H0 xb = none) (hnx : Ints H0 d.nv d.next) (hdn : d.next.length ≤ 1000) (ha : a ∉ d.next) :
    Calls Tryz.prog 39 #[ptr xb, .int .i64 a, .int .u64 (b : Int)] w0 (Pure H0 w0 fun u _ => u = .int .i64 6) := by
  have hs := HS.startR h0 hb hn
  have hle := Hp.le.refl H0
  refine Calls.enter (args := [ptr xb, .int .i64 a, .int .u64 (b : Int)]) Tryz.func39 rfl Tryz.ntmps39 rfl ?_
  refine WC.seq (WC.region (WO.step rfl (OR.assign rfl (WO.done (WX.seq (WC.seq (WC.block ?_)))))))
  refine WC.seq (WC.region (WO.step rfl (OR.move rfl ?_)))
  refine WO.step rfl (OR.call hs body96 rfl rfl (fmade_ok c d xb tb vs _ _ _ _ hs.toSub (hs.blk (i := 0) rfl) (hs.nh (i := 0) rfl)) ?_)
  clear hs; rintro _ H w hs hle1 rfl; replace hle := hle.trans hle1; (try replace hlb := hlb.trans hle1)
  refine WO.step rfl (OR.not rfl (WO.step rfl (OR.assign rfl (WO.done (WX.seq ?_)))))
  refine WC.no rfl rfl ?_
  refine WC.seq (WC.region (WO.step rfl (OR.move rfl (WO.step rfl (OR.nilCheck rfl (WO.step rfl (OR.fieldAddr FA172_6 rfl ?_)))))))
  refine WO.step rfl (OR.load T76 rfl rfl (hs.cellM (i := 0) rfl rfl) (WO.step rfl (OR.move rfl ?_)))
  refine WO.step rfl (OR.call hs body94 rfl rfl (contains_ok' d.nv d.next a _ _ hs.toSub (hnx.mono hle) (by omega)) ?_)
  clear hs; rintro _ H w hs hle1 rfl; replace hle := hle.trans hle1; (try replace hlb := hlb.trans hle1)
  rw [decide_eq_false ha]
  refine WO.step rfl (OR.not rfl (WO.step rfl (OR.assign rfl (WO.done (WX.seq ?_)))))
  refine WC.yes rfl rfl ?_
  refine WC.seq (WC.region (WO.step rfl (OR.assign rfl (WO.done (WX.seq (WC.ret (WX.block_ret ?_)))))))
  refine WX.seq_ret ?_
  refine WX.ret1 rfl rfl ?_
  exact .mk (hs.drop 0) rfl
end Go.Bw
namespace Go.Bw
set_option linter.unusedVariables false
set_option linter.unusedSimpArgs false
open Go.Proofs
/-- What is known, seen from a call: some of the blocks, some of them writable. -/
theorem HS.view {xs xs' : List Nat} {H0 H : Hp} {w0 w : World} {M : Mem} (hs : HS xs H0 w0 H M w) (M' : Mem) (h : ∀ p ∈ M', (∃ t, (p.1, p.2.1, t) ∈ M) ∧ (p.2.2 = true → p.1 ∈ xs')) (hk : List.Sublist (Mem.keys M') (Mem.keys M)) : HS xs' H w H M' w :=
  HS.start xs' hs.sub (fun b o t hm => by
    obtain ⟨⟨t', h1⟩, h2⟩ := h _ hm
    have h3 := hs.mem b o t' h1
    exact ⟨h3.1, h3.2.1, h2⟩) (hk.nodup hs.nd)
theorem permOwn {a b c : Nat × Obj × Bool} : List.Perm [c, a, b] [a, b, c] := (List.Perm.swap a c [b]).trans (List.Perm.cons a (List.Perm.swap b c []))
set_option maxRecDepth 20000 in
set_option maxHeartbeats 2000000 in
theorem fsub1_ok (c : CfgD) (d : FD) (xb tb sb gb gx : Nat) (vr vk bv : Value) (D : SrcD) (o : Obj) (l : List UInt8) (H0 : Hp) (w0 : World) (hs : HS [sb] H0 w0 H0 [(sb, o, true), (xb, fObj c d tb (ptr sb) vr vk, false), (gb, .cells #[bv] 43, false), (gx, .cells #[ptr xb] 82, false)] w0)
    (hx : SrcIn H0 D o) (hok : SrcOk D) (hl : Bytes H0 bv l) (hll : l.length ≤ 9223372036854775807) (hcl : D.cuts.length ≤ 1000000000) (hw : c.win ≤ 16) (hb : d.base ≤ 1099511627776) :
    Calls Tryz.prog 99 #[ptr sb, ptr gb, ptr gx] w0 (Ret [sb] H0 w0 fun v H' M' => v = .int .i64 (subE D l (d.base + 2 * c.win)) ∧ ∃ o', M' = [(sb, o', true)] ∧ SrcIn H' (subD D l (d.base + 2 * c.win)) o') := by
  have hle := Hp.le.refl H0
  obtain ⟨bb, cb, rfl⟩ := hl.form
  refine Calls.enter (args := [ptr sb, ptr gb, ptr gx]) Tryz.func99 rfl Tryz.ntmps99 rfl ?_
  refine WC.seq (WC.region (WO.step rfl (OR.assign rfl (WO.done (WX.seq (WC.seq ?_))))))
  refine WC.draw 14 mixed hs (by kernel_rfl) ?_
  refine ⟨MF.eq _, by intro Mx H w hle hs; refine forVals_nil (ORg.plain (OR.move rfl ?_)); exact ⟨_, [], Hp.le.refl _, hs, rfl, rfl⟩, ?_⟩
  refine ⟨MF.eq _, by intro Mx H w hle hs; refine forVals_nil (ORg.plain (OR.load T43 rfl rfl (hs.right.cellM (i := 2) rfl rfl) ?_)); exact ⟨_, [], Hp.le.refl _, hs, rfl, rfl⟩, ?_⟩
  refine ⟨MF.eq _, by intro Mx H w hle hs; refine forVals_nil (ORg.plain (OR.load T82 rfl rfl (hs.right.cellM (i := 3) rfl rfl) ?_)); exact ⟨_, [], Hp.le.refl _, hs, rfl, rfl⟩, ?_⟩
  refine ⟨MF.eq _, by intro Mx H w hle hs; refine forVals_eq rfl rfl rfl ?_; refine forVals_nil (ORg.plain (OR.nilCheck rfl ?_)); exact ⟨_, [], Hp.le.refl _, hs, rfl, rfl⟩, ?_⟩
  refine ⟨MF.eq _, by intro Mx H w hle hs; refine forVals_eq rfl rfl rfl ?_; refine forVals_nil (ORg.plain (OR.fieldAddr FA172_8 rfl ?_)); exact ⟨_, [], Hp.le.refl _, hs, rfl, rfl⟩, ?_⟩
  refine ⟨MF.eq _, by intro Mx H w hle hs; refine forVals_eq rfl rfl rfl ?_; refine forVals_nil (ORg.plain (OR.load T22 rfl rfl (hs.right.cellM (i := 1) rfl rfl) ?_)); exact ⟨_, [], Hp.le.refl _, hs, rfl, rfl⟩, ?_⟩
  refine ⟨MF.eq _, by intro Mx H w hle hs; refine forVals_nil (ORg.plain (OR.load T82 rfl rfl (hs.right.cellM (i := 3) rfl rfl) ?_)); exact ⟨_, [], Hp.le.refl _, hs, rfl, rfl⟩, ?_⟩
  refine ⟨MF.eq _, by intro Mx H w hle hs; refine forVals_eq rfl rfl rfl ?_; refine forVals_nil (ORg.plain (OR.nilCheck rfl ?_)); exact ⟨_, [], Hp.le.refl _, hs, rfl, rfl⟩, ?_⟩
  refine ⟨MF.eq _, by intro Mx H w hle hs; refine forVals_eq rfl rfl rfl ?_; refine forVals_nil (ORg.plain (OR.fieldAddr FA172_0 rfl ?_)); exact ⟨_, [], Hp.le.refl _, hs, rfl, rfl⟩, ?_⟩
  refine ⟨MF.eq _, by intro Mx H w hle hs; refine forVals_eq rfl rfl rfl ?_; refine forVals_nil (ORg.plain (OR.fieldAddr FA81_2 rfl ?_)); exact ⟨_, [], Hp.le.refl _, hs, rfl, rfl⟩, ?_⟩
  refine ⟨MF.eq _, by intro Mx H w hle hs; refine forVals_eq rfl rfl rfl ?_; refine forVals_nil (ORg.plain (OR.load T3 rfl rfl (hs.right.cellM (i := 1) rfl rfl) ?_)); exact ⟨_, [], Hp.le.refl _, hs, rfl, rfl⟩, ?_⟩
  refine ⟨MF.eq (.int .u64 (c.win : Int)), ?_, ?_⟩
  · intro Mx H w hle2 hs; (try replace hle := hle.trans hle2); (try replace hlb := hlb.trans hle2); refine forVals_eq rfl rfl rfl ?_
    refine forVals_nil (ORg.plain (OR.convI T3.und T22.und rfl ?_))
    exact ⟨_, [], Hp.le.refl _, hs, (by rw [u64_wrap c.win (by omega)]), rfl⟩
  refine ⟨MF.eq (.int .u64 ((2 * c.win : Nat) : Int)), ?_, ?_⟩
  · intro Mx H w hle2 hs; (try replace hle := hle.trans hle2); (try replace hlb := hlb.trans hle2); refine forVals_eq rfl rfl rfl ?_
    refine forVals_nil (ORg.plain (OR.mul rfl rfl ?_))
    exact ⟨_, [], Hp.le.refl _, hs, (by rw [show ((2 : Int) * (c.win : Int)) = ((2 * c.win : Nat) : Int) by omega, u64_wrap (2 * c.win) (by omega)]), rfl⟩
  refine ⟨MF.eq (.int .u64 ((d.base + 2 * c.win : Nat) : Int)), ?_, ?_⟩
  · intro Mx H w hle2 hs; (try replace hle := hle.trans hle2); (try replace hlb := hlb.trans hle2); refine forVals_eq rfl rfl rfl ?_; refine forVals_eq rfl rfl rfl ?_
    refine forVals_nil (ORg.plain (OR.add rfl rfl ?_))
    exact ⟨_, [], Hp.le.refl _, hs, (by rw [show ((d.base : Int) + ((2 * c.win : Nat) : Int)) = ((d.base + 2 * c.win : Nat) : Int) by omega, u64_wrap (d.base + 2 * c.win) (by omega)]), rfl⟩
  intro H w hle2; (try replace hle := hle.trans hle2); (try replace hlb := hlb.trans hle2)
  refine forAllVals_eq rfl ?_
  refine forAllVals_eq rfl ?_
  refine forAllVals_eq rfl ?_
  refine forAllVals_eq rfl ?_
  refine forAllVals_eq rfl ?_
  refine forAllVals_eq rfl ?_
  refine forAllVals_eq rfl ?_
  refine forAllVals_eq rfl ?_
  refine forAllVals_eq rfl ?_
  refine forAllVals_eq rfl ?_
  refine forAllVals_eq rfl ?_
  refine forAllVals_eq rfl ?_
  refine forAllVals_eq rfl ?_
  refine forAllVals_eq rfl ?_
  refine forAllVals_nil ?_; (try clear hs); intro hs
  refine WO.step rfl (OR.callX (Mx := [(sb, o, true)]) (Mr := [(xb, fObj c d tb (ptr sb) vr vk, false), (gb, .cells #[.slice bb l.length cb] 43, false), (gx, .cells #[ptr xb] 82, false)]) hs body29 rfl rfl (submit_ok sb D o _ l (d.base + 2 * c.win) _ _ hs.toSub (hs.blk (i := 0) rfl) (hs.nh (i := 0) rfl) (hx.mono hle) hok (hl.mono hle) hll hcl) rfl rfl ?_)
  clear hs; rintro v H2 M w hs hle1 hnew ⟨rfl, o2, rfl, hx2⟩
  refine WO.step rfl (OR.assign rfl (WO.done (WX.seq (WC.ret ?_))))
  refine WX.ret1 rfl rfl ?_
  exact ⟨_, H2, [(sb, o2, true)], rfl, hs.sublist (List.sublist_append_left _ _), by simp, rfl, o2, rfl, hx2⟩
set_option maxRecDepth 20000 in
set_option maxHeartbeats 2000000 in
theorem fown_sub (c : CfgD) (d : FD) (xb tb sb gb gx : Nat) (vr vk bv : Value) (D : SrcD) (o : Obj) (l : List UInt8) (H0 : Hp) (w0 : World) (hs : HS [sb] H0 w0 H0 [(sb, o, true), (xb, fObj c d tb (ptr sb) vr vk, false), (gb, .cells #[bv] 43, false), (gx, .cells #[ptr xb] 82, false)] w0)
    (hx : SrcIn H0 D o) (hok : SrcOk D) (hl : Bytes H0 bv l) (hll : l.length ≤ 9223372036854775807) (hw : c.win ≤ 16) (hb : d.base ≤ 1099511627776) (hcl : D.cuts.length ≤ 1000000000) :
    Calls Tryz.prog 98 #[ptr xb, .func (.func 99) #[] #[ptr gb, ptr gx]] w0 (Ret [sb] H0 w0 fun v H' M' => v = .int .i64 (subE D l (d.base + 2 * c.win)) ∧ ∃ o', M' = [(sb, o', true)] ∧ SrcIn H' (subD D l (d.base + 2 * c.win)) o') := by
  have hle := Hp.le.refl H0
  refine Calls.enter (args := [ptr xb, .func (.func 99) #[] #[ptr gb, ptr gx]]) Tryz.func98 rfl Tryz.ntmps98 rfl ?_
  refine WC.seq (WC.region (WO.step rfl (OR.assign rfl (WO.done (WX.seq (WC.seq (WC.block ?_)))))))
  refine WC.seq (WC.region (WO.step rfl (OR.move rfl ?_)))
  refine WO.step rfl (OR.call hs body96 rfl rfl (fmade_ok c d xb tb _ _ _ _ _ hs.toSub (hs.blk (i := 1) rfl) (hs.nh (i := 1) rfl)) ?_)
  clear hs; rintro _ H w hs hle1 rfl; replace hle := hle.trans hle1; (try replace hlb := hlb.trans hle1)
  refine WO.step rfl (OR.not rfl (WO.step rfl (OR.assign rfl (WO.done (WX.seq ?_)))))
  refine WC.no rfl rfl ?_
  refine WC.seq (WC.region (WO.step rfl (OR.move rfl (WO.step rfl (OR.nilCheck rfl (WO.step rfl (OR.fieldAddr FA172_3 rfl ?_)))))))
  refine WO.step rfl (OR.load T66 rfl rfl (hs.cellM (i := 1) rfl rfl) (WO.step rfl (OR.eqlNilP T66.und rfl rfl (WO.step rfl (OR.assign rfl (WO.done (WX.seq ?_)))))))
  refine WC.no rfl rfl ?_
  refine WC.skip (WX.block (WX.seq (WC.seq (WC.region (WO.step rfl (OR.move rfl (WO.step rfl ?_)))))))
  refine OR.move rfl (WO.step rfl (OR.nilCheck rfl (WO.step rfl (OR.fieldAddr FA172_3 rfl (WO.step rfl (OR.load T66 rfl rfl (hs.cellM (i := 1) rfl rfl) ?_))))))
  refine WO.step rfl (OR.callX (Mx := [(sb, o, true)]) (Mr := [(xb, fObj c d tb (ptr sb) vr vk, false), (gb, .cells #[bv] 43, false), (gx, .cells #[ptr xb] 82, false)]) hs body99 rfl rfl (fsub1_ok c d xb tb sb gb gx vr vk bv D o l _ _ (hs.view [(sb, o, true), (xb, fObj c d tb (ptr sb) vr vk, false), (gb, .cells #[bv] 43, false), (gx, .cells #[ptr xb] 82, false)] (by simp) (List.Sublist.refl _)) (hx.mono hle) hok (hl.mono hle) hll hcl hw hb) rfl rfl ?_)
  clear hs; rintro v H2 M w hs hle1 hnew ⟨rfl, o2, rfl, hx2⟩
  refine WO.step rfl (OR.assign rfl (WO.done (WX.seq (WC.ret ?_))))
  refine WX.ret1 rfl rfl ?_
  exact ⟨_, H2, [(sb, o2, true)], rfl, hs.sublist (List.sublist_append_left _ _), by simp, rfl, o2, rfl, hx2⟩
set_option maxRecDepth 20000 in
set_option maxHeartbeats 2000000 in
theorem fown_close (c : CfgD) (d : FD) (xb tb sb : Nat) (vr vk : Value) (D : SrcD) (o : Obj) (H0 : Hp) (w0 : World) (hs : HS [sb] H0 w0 H0 [(sb, o, true), (xb, fObj c d tb (ptr sb) vr vk, false)] w0)
    (hx : SrcIn H0 D o) (hok : SrcOk D) (hcl : D.cuts.length ≤ 1000000000) :
    Calls Tryz.prog 98 #[ptr xb, .func (.func 113) #[] #[]] w0 (Ret [sb] H0 w0 fun v H' M' => v = .int .i64 (if D.cl = true then 27 else 0) ∧ ∃ o', M' = [(sb, o', true)] ∧ SrcIn H' (closeD D) o') := by
  have hle := Hp.le.refl H0
  refine Calls.enter (args := [ptr xb, .func (.func 113) #[] #[]]) Tryz.func98 rfl Tryz.ntmps98 rfl ?_
  refine WC.seq (WC.region (WO.step rfl (OR.assign rfl (WO.done (WX.seq (WC.seq (WC.block ?_)))))))
  refine WC.seq (WC.region (WO.step rfl (OR.move rfl ?_)))
  refine WO.step rfl (OR.call hs body96 rfl rfl (fmade_ok c d xb tb _ _ _ _ _ hs.toSub (hs.blk (i := 1) rfl) (hs.nh (i := 1) rfl)) ?_)
  clear hs; rintro _ H w hs hle1 rfl; replace hle := hle.trans hle1; (try replace hlb := hlb.trans hle1)
  refine WO.step rfl (OR.not rfl (WO.step rfl (OR.assign rfl (WO.done (WX.seq ?_)))))
  refine WC.no rfl rfl ?_
  refine WC.seq (WC.region (WO.step rfl (OR.move rfl (WO.step rfl (OR.nilCheck rfl (WO.step rfl (OR.fieldAddr FA172_3 rfl ?_)))))))
  refine WO.step rfl (OR.load T66 rfl rfl (hs.cellM (i := 1) rfl rfl) (WO.step rfl (OR.eqlNilP T66.und rfl rfl (WO.step rfl (OR.assign rfl (WO.done (WX.seq ?_)))))))
  refine WC.no rfl rfl ?_
  refine WC.skip (WX.block (WX.seq (WC.seq (WC.region (WO.step rfl (OR.move rfl (WO.step rfl ?_)))))))
  refine OR.move rfl (WO.step rfl (OR.nilCheck rfl (WO.step rfl (OR.fieldAddr FA172_3 rfl (WO.step rfl (OR.load T66 rfl rfl (hs.cellM (i := 1) rfl rfl) ?_))))))
  refine WO.step rfl (OR.callX (Mx := [(sb, o, true)]) (Mr := [(xb, fObj c d tb (ptr sb) vr vk, false)]) hs body113 rfl rfl (close_ok sb D o _ _ hs.toSub (hs.blk (i := 0) rfl) (hs.nh (i := 0) rfl) (hx.mono hle) hok hcl) rfl rfl ?_)
  clear hs; rintro v H2 M w hs hle1 hnew ⟨rfl, o2, rfl, hx2⟩
  refine WO.step rfl (OR.assign rfl (WO.done (WX.seq (WC.ret ?_))))
  refine WX.ret1 rfl rfl ?_
  exact ⟨_, H2, [(sb, o2, true)], rfl, hs.sublist (List.sublist_append_left _ _), by simp, rfl, o2, rfl, hx2⟩
set_option maxRecDepth 20000 in
set_option maxHeartbeats 2000000 in
theorem fsubmit_ok (c : CfgD) (d : FD) (xb tb sb : Nat) (vr vk bv : Value) (D : SrcD) (o : Obj) (l : List UInt8) (H0 : Hp) (w0 : World) (hs : HS [sb] H0 w0 H0 [(sb, o, true), (xb, fObj c d tb (ptr sb) vr vk, false)] w0)
    (hx : SrcIn H0 D o) (hok : SrcOk D) (hl : Bytes H0 bv l) (hll : l.length ≤ 9223372036854775807) (hcl : D.cuts.length ≤ 1000000000) (hw : c.win ≤ 16) (hb : d.base ≤ 1099511627776) :
    Calls Tryz.prog 41 #[ptr xb, bv] w0 (Ret [sb] H0 w0 fun v H' M' => v = .int .i64 (subE D l (d.base + 2 * c.win)) ∧ ∃ o', M' = [(sb, o', true)] ∧ SrcIn H' (subD D l (d.base + 2 * c.win)) o') := by
  have hle := Hp.le.refl H0
  obtain ⟨bb, cb, rfl⟩ := hl.form
  refine Calls.enter (args := [ptr xb, .slice bb l.length cb]) Tryz.func41 rfl Tryz.ntmps41 rfl ?_
  refine WC.seq (WC.region (WO.step rfl (OR.box hs rfl ?_)))
  clear hs; intro g1 w hg1 hs
  refine WO.step rfl (OR.box hs rfl ?_)
  clear hs; intro g2 w hg2 hs
  refine WO.step rfl (OR.assign rfl (WO.done (WX.seq (WC.seq (WC.region (WO.step rfl (OR.load T82 rfl rfl (hs.cellM (i := 1) rfl rfl) ?_)))))))
  refine WO.step rfl (OR.makeFunc rfl rfl ?_)
  have hsR : HS [sb] H0 w0 H0 ([(sb, o, true)] ++ [(g2, .cells #[.slice bb l.length cb] 43, true), (g1, .cells #[ptr xb] 82, true), (xb, fObj c d tb (ptr sb) vr vk, false)]) w := hs.front (i := 2) rfl
  clear hs
  refine WO.step rfl (OR.callX (Mx := [(sb, o, true)]) (Mr := [(g2, .cells #[.slice bb l.length cb] 43, true), (g1, .cells #[ptr xb] 82, true), (xb, fObj c d tb (ptr sb) vr vk, false)]) hsR body98 rfl rfl (fown_sub c d xb tb sb g2 g1 vr vk _ D o l _ _ ((hsR.perm (List.Perm.cons _ permOwn)).view [(sb, o, true), (xb, fObj c d tb (ptr sb) vr vk, false), (g2, .cells #[.slice bb l.length cb] 43, false), (g1, .cells #[ptr xb] 82, false)] (by simp) (List.Sublist.refl _)) hx hok hl hll hw hb hcl) rfl rfl ?_)
  clear hsR; rintro v H2 M w hs hle1 hnew ⟨rfl, o2, rfl, hx2⟩
  refine WO.step rfl (OR.assign rfl (WO.done (WX.seq (WC.ret ?_))))
  refine WX.ret1 rfl rfl ?_
  exact ⟨_, H2, [(sb, o2, true)], rfl, hs.sublist (List.sublist_append_left _ _), by simp, rfl, o2, rfl, hx2⟩
set_option maxRecDepth 20000 in
set_option maxHeartbeats 2000000 in
theorem fclose_ok (c : CfgD) (d : FD) (xb tb sb : Nat) (vr vk : Value) (D : SrcD) (o : Obj) (H0 : Hp) (w0 : World) (hs : HS [sb] H0 w0 H0 [(sb, o, true), (xb, fObj c d tb (ptr sb) vr vk, false)] w0)
    (hx : SrcIn H0 D o) (hok : SrcOk D) (hcl : D.cuts.length ≤ 1000000000) :
    Calls Tryz.prog 59 #[ptr xb] w0 (Ret [sb] H0 w0 fun v H' M' => v = .int .i64 (if D.cl = true then 27 else 0) ∧ ∃ o', M' = [(sb, o', true)] ∧ SrcIn H' (closeD D) o') := by
  have hle := Hp.le.refl H0
  refine Calls.enter (args := [ptr xb]) Tryz.func59 rfl Tryz.ntmps59 rfl ?_
  refine WC.seq (WC.region (WO.step rfl (OR.assign rfl (WO.done (WX.seq (WC.seq (WC.region ?_)))))))
  refine WO.step rfl (OR.move rfl ?_)
  refine WO.step rfl (OR.callX (Mx := [(sb, o, true)]) (Mr := [(xb, fObj c d tb (ptr sb) vr vk, false)]) hs body98 rfl rfl (fown_close c d xb tb sb vr vk D o _ _ (hs.view [(sb, o, true), (xb, fObj c d tb (ptr sb) vr vk, false)] (by simp) (List.Sublist.refl _)) hx hok hcl) rfl rfl ?_)
  clear hs; rintro v H2 M w hs hle1 hnew ⟨rfl, o2, rfl, hx2⟩
  refine WO.step rfl (OR.assign rfl (WO.done (WX.seq (WC.ret ?_))))
  refine WX.ret1 rfl rfl ?_
  exact ⟨_, H2, [(sb, o2, true)], rfl, hs.sublist (List.sublist_append_left _ _), by simp, rfl, o2, rfl, hx2⟩
end Go.Bw
namespace Go.Bw
set_option linter.unusedVariables false
set_option linter.unusedSimpArgs false
open Go.Proofs
theorem meth_src (v : Option Addr) (w : World) : (method (Tryz.prog.types.size + Made.depth) 66 (.pointer v) "Send").run Tryz.prog w = .ok (212, .pointer v) w := by kernel_rfl
set_option maxRecDepth 20000 in
set_option maxHeartbeats 2000000 in
theorem fsend_src (c : CfgD) (d : FD) (xb tb sb gen sent : Nat) (vr : Option Addr) (vk vd : Value) (D : SrcD) (o : Obj) (l : List UInt8) (H0 : Hp) (w0 : World) (hs : HS [] H0 w0 H0 [(sb, o, false), (xb, fObj c d tb (ptr sb) (.pointer vr) vk, false)] w0)
    (hx : SrcIn H0 D o) (hok : SrcOk D) (hl : Bytes H0 vd l) (hst : sent < 18446744073709551616) :
    Calls Tryz.prog 45 #[ptr xb, .int .u64 (gen : Int), .int .u64 (sent : Int), vd] w0 (Pure H0 w0 fun v H' => TupR H' v (rowF D gen (sendC D sent l)) (thereE D gen)) := by
  have hle := Hp.le.refl H0
  refine Calls.enter (args := [ptr xb, .int .u64 (gen : Int), .int .u64 (sent : Int), vd]) Tryz.func45 rfl Tryz.ntmps45 rfl ?_
  refine WC.seq (WC.region (WO.step rfl (OR.alloc hs T45 ?_)))
  clear hs; intro g1 w hg1 hs
  refine WO.step rfl (OR.assign rfl (WO.done (WX.seq (WC.seq (WC.seq (WC.region (WO.step rfl ?_)))))))
  refine OR.move rfl ?_
  refine WO.step rfl (OR.call hs body96 rfl rfl (fmade_ok c d xb tb _ _ _ _ _ hs.toSub (hs.blk (i := 2) rfl) (hs.nh (i := 2) rfl)) ?_)
  clear hs; rintro _ H w hs hle1 rfl; replace hle := hle.trans hle1; (try replace hlb := hlb.trans hle1)
  refine WO.step rfl (OR.not rfl (WO.done (WX.seq ?_)))
  refine WC.no rfl rfl ?_
  refine WC.skip (WX.seq (WC.seq (WC.region (WO.step rfl (OR.move rfl (WO.step rfl (OR.nilCheck rfl ?_)))))))
  refine WO.step rfl (OR.fieldAddr FA172_4 rfl (WO.step rfl (OR.load T34 rfl rfl (hs.cellM (i := 2) rfl rfl) ?_)))
  refine WO.step rfl (OR.makeIface T34.und rfl rfl ?_)
  refine WO.step rfl (OR.assign rfl (WO.done (WX.seq (WC.seq (WC.seq (WC.region (WO.step rfl ?_)))))))
  refine OR.move rfl (WO.step rfl (OR.nilCheck rfl (WO.step rfl (OR.fieldAddr FA172_3 rfl (WO.step rfl (OR.load T66 rfl rfl (hs.cellM (i := 2) rfl rfl) (WO.step rfl ?_)))))))
  refine OR.neqNilP T66.und rfl rfl (WO.done (WX.seq ?_))
  refine WC.yes rfl rfl ?_
  refine WC.region (WO.step rfl (OR.move rfl (WO.step rfl (OR.nilCheck rfl (WO.step rfl (OR.fieldAddr FA172_3 rfl (WO.step rfl ?_)))))))
  refine OR.load T66 rfl rfl (hs.cellM (i := 2) rfl rfl) ?_
  refine WO.step rfl (OR.makeIface T66.und rfl rfl ?_)
  refine WO.step rfl (OR.assign rfl (WO.done (WX.seq (WC.seq (WC.region (WO.step rfl (OR.move rfl ?_)))))))
  refine WO.step rfl (OR.move rfl (WO.step rfl (OR.move rfl (WO.step rfl (OR.move rfl ?_)))))
  refine WO.step rfl (OR.invoke hs body212 (meth_src _ _) rfl rfl (ssend_ok sb gen sent vd l D o _ _ hs.toSub (hs.blk (i := 1) rfl) (hs.nh (i := 1) rfl) (hx.mono hle) hok (hl.mono hle) hst) ?_)
  clear hs; rintro v H2 w hs hle1 ⟨r, rfl, r1, r2, rfl, hr1, hr2⟩
  obtain ⟨b1, c1, rfl⟩ := hr1.form
  obtain ⟨b2, c2, rfl⟩ := hr2.form
  refine WO.step rfl (OR.extract rfl rfl (WO.step rfl (OR.extract rfl rfl (WO.stepN (OR.storeAll hs T45 rfl rfl rfl rfl rfl ?_)))))
  clear hs; intro w hs
  refine WO.step rfl (OR.assign rfl (WO.done (WX.seq (WC.ret ?_))))
  refine WX.retCT T45 rfl rfl rfl rfl rfl (hs.blk (i := 0) rfl) ?_
  exact .mk (((hs.drop 0).drop 0).drop 0) ⟨_, rfl, _, _, rfl, hr1, hr2⟩
set_option maxRecDepth 20000 in
set_option maxHeartbeats 2000000 in
/-- A row that comes. -/
theorem ftake_ok (c : CfgD) (d : FD) (xb tb rb wb gen : Nat) (vs vk vr : Value) (x : RelD) (sl : Slots) (r : RowD) (H0 : Hp) (w0 : World) (hs : HS (Mem.keys (relMem true x rb wb sl)) H0 w0 H0 ((xb, fObj c d tb vs (ptr rb) vk, false) :: relMem true x rb wb sl) w0)
    (hx : SlotsOk H0 x sl) (hok : RelOk x) (hg : gen < 18446744073709551616) (hr : RowV H0 vr r) :
    Calls Tryz.prog 43 #[ptr xb, .int .u64 (gen : Int), vr] w0 (Ret (Mem.keys (relMem true x rb wb sl)) H0 w0 fun v H' M' => v = .tuple #[.bool (x.takeI gen r), .int .i64 (x.takeE gen r)] ∧ ∃ l', M' = relMem true (x.take gen r) rb wb l' ∧ SlotsOk H' (x.take gen r) l') := by
  have hle := Hp.le.refl H0
  obtain ⟨xs, hxs⟩ : ∃ xs, xs = Mem.keys (relMem true x rb wb sl) := ⟨_, rfl⟩
  rw [← hxs] at hs ⊢
  clear hxs
  obtain ⟨rc, rp, rfl, hrc, hrp⟩ := hr
  obtain ⟨b1, c1, rfl⟩ := hrc.form
  obtain ⟨b2, c2, rfl⟩ := hrp.form
  refine Calls.enter (args := [ptr xb, .int .u64 (gen : Int), .agg #[.slice b1 r.1.length c1, .slice b2 r.2.length c2]]) Tryz.func43 rfl Tryz.ntmps43 rfl ?_
  refine WC.seq (WC.region (WO.step rfl (OR.box hs rfl ?_)))
  clear hs; intro g1 w hg1 hs
  refine WO.step rfl (OR.assign rfl (WO.step rfl (OR.assign rfl (WO.done (WX.seq (WC.seq (WC.block ?_)))))))
  refine WC.seq (WC.region (WO.step rfl (OR.move rfl ?_)))
  refine WO.step rfl (OR.call hs body96 rfl rfl (fmade_ok c d xb tb _ _ _ _ _ hs.toSub (hs.blk (i := 1) rfl) (hs.nh (i := 1) rfl)) ?_)
  clear hs; rintro _ H w hs hle1 rfl; replace hle := hle.trans hle1; (try replace hlb := hlb.trans hle1)
  refine WO.step rfl (OR.not rfl (WO.step rfl (OR.assign rfl (WO.done (WX.seq ?_)))))
  refine WC.no rfl rfl ?_
  refine WC.seq (WC.region (WO.step rfl (OR.move rfl (WO.step rfl (OR.nilCheck rfl (WO.step rfl (OR.fieldAddr FA172_4 rfl ?_)))))))
  refine WO.step rfl (OR.load T34 rfl rfl (hs.cellM (i := 1) rfl rfl) (WO.step rfl (OR.eqlNilP T34.und rfl rfl (WO.step rfl (OR.assign rfl (WO.done (WX.seq ?_)))))))
  refine WC.no rfl rfl ?_
  refine WC.skip (WX.block (WX.seq (WC.seq ?_)))
  refine WC.sub [(0, ptr xb), (1, .int .u64 (gen : Int)), (5, ptr g1)] ⟨rfl, rfl, rfl,  trivial⟩ ?_
  refine WA.enter mixed ?_
  replace hs := hs.drew
  refine WA.draw 6 hs (by kernel_rfl) ?_
  refine ⟨MF.eq _, by intro Mx H w hle hs; refine forVals_nil (ORg.plain (OR.move rfl ?_)); exact ⟨_, [], Hp.le.refl _, hs, rfl, rfl⟩, ?_⟩
  refine ⟨MF.eq _, by intro Mx H w hle hs; refine forVals_eq rfl rfl rfl ?_; refine forVals_nil (ORg.plain (OR.nilCheck rfl ?_)); exact ⟨_, [], Hp.le.refl _, hs, rfl, rfl⟩, ?_⟩
  refine ⟨MF.eq _, by intro Mx H w hle hs; refine forVals_eq rfl rfl rfl ?_; refine forVals_nil (ORg.plain (OR.fieldAddr FA172_4 rfl ?_)); exact ⟨_, [], Hp.le.refl _, hs, rfl, rfl⟩, ?_⟩
  refine ⟨MF.eq _, by intro Mx H w hle hs; refine forVals_eq rfl rfl rfl ?_; refine forVals_nil (ORg.plain (OR.load T34 rfl rfl (hs.right.cellM (i := 1) rfl rfl) ?_)); exact ⟨_, [], Hp.le.refl _, hs, rfl, rfl⟩, ?_⟩
  refine ⟨MF.eq _, by intro Mx H w hle hs; refine forVals_nil (ORg.plain (OR.move rfl ?_)); exact ⟨_, [], Hp.le.refl _, hs, rfl, rfl⟩, ?_⟩
  refine ⟨MF.eq _, by intro Mx H w hle hs; refine forVals_nil (ORg.plain (OR.loadAll T45 rfl rfl (hs.right.blk (i := 0) rfl) rfl ?_)); exact ⟨_, [], Hp.le.refl _, hs, rfl, rfl⟩, ?_⟩
  intro H w hle2; (try replace hle := hle.trans hle2); (try replace hlb := hlb.trans hle2)
  refine forAllVals_eq rfl ?_
  refine forAllVals_eq rfl ?_
  refine forAllVals_eq rfl ?_
  refine forAllVals_eq rfl ?_
  refine forAllVals_eq rfl ?_
  refine forAllVals_eq rfl ?_
  refine forAllVals_nil ?_; (try clear hs); intro hs
  replace hs := HS.mtail (A := [_, _]) hs
  refine WA.step (by kernel_rfl) rfl rfl rfl (ORg.plain (OR.callX (Mx := relMem true x rb wb sl) (Mr := [_, _]) hs body15 rfl rfl (rtake_ok' rb wb gen _ _ x sl r _ _ (HS.relRW hs) (hx.mono hle) hok hg (hrc.mono hle) (hrp.mono hle)) rfl (relMem_flags _ _ _ _) ?_))
  clear hs; rintro v H2 M w hs hle1 hnew ⟨rfl, l', rfl, hso⟩
  refine WA.sub [(24, .tuple #[.bool (x.takeI gen r), .int .i64 (x.takeE gen r)])] ⟨rfl,  trivial⟩ ?_
  refine WA.draw 9 hs (by kernel_rfl) ?_
  refine ⟨MF.eq _, by intro Mx H w hle hs; refine forVals_nil (ORg.plain (OR.extract rfl rfl ?_)); exact ⟨_, [], Hp.le.refl _, hs, rfl, rfl⟩, ?_⟩
  refine ⟨MF.eq _, by intro Mx H w hle hs; refine forVals_nil (ORg.plain (OR.extract rfl rfl ?_)); exact ⟨_, [], Hp.le.refl _, hs, rfl, rfl⟩, ?_⟩
  intro H w hle2; (try replace hle := hle.trans hle2); (try replace hlb := hlb.trans hle2)
  refine forAllVals_eq rfl ?_
  refine forAllVals_eq rfl ?_
  refine forAllVals_nil ?_; (try clear hs); intro hs
  replace hso := hso.mono hle2
  refine WA.rest (by kernel_rfl) ?_
  refine WO.step rfl (OR.assign rfl (WO.step rfl (OR.assign rfl (WO.done (WX.seq (WC.ret ?_))))))
  refine WX.ret2 rfl rfl rfl ?_
  exact ⟨_, H, relMem true (x.take gen r) rb wb l', rfl, hs.sublist (List.sublist_append_left _ _), List.all_eq_true.1 (relMem_flags _ _ _ _), rfl, l', rfl, hso⟩
theorem permK3 {k a b : Nat × Obj × Bool} {R : Mem} : List.Perm (a :: b :: k :: R) (k :: a :: b :: R) :=
  ((List.Perm.swap k b R).cons a).trans (List.Perm.swap k a _)
set_option maxRecDepth 20000 in
set_option maxHeartbeats 2000000 in
/-- What is ready is released. -/
theorem frel_ok (c : CfgD) (d : FD) (xb tb kb d0 tot : Nat) (kn : Bool) (vs : Value) (R : RelS) (H0 : Hp) (w0 : World)
    (hs : HS (Mem.keys (fMem c d xb tb vs (some R) (some (kb, skD R.y tot kn false d0)))) H0 w0 H0 (fMem c d xb tb vs (some R) (some (kb, skD R.y tot kn false d0))) w0) (hok : RlOk H0 (some R)) (hgs4 : 4 < R.y.g * R.y.s) (hd0 : d0 ≤ 1099511627776)
    (hnx : Ints H0 d.nv d.next) (hd : d.told.length ≤ 1000) (ht : ∀ p ∈ d.told, p.2 ≤ 1099511627776) :
    Calls Tryz.prog 54 #[ptr xb] w0 (Ret (Mem.keys (fMem c d xb tb vs (some R) (some (kb, skD R.y tot kn false d0)))) H0 w0 fun v H' M' => ∃ n r e br l', v = .tuple #[r, .int .i64 e] ∧ BytesL H' r (rdyL R.y d0 n) ∧ goodTo R.y d0 n ∧ d0 + n ≤ 1099511627776 ∧ relEnd R.y d0 n e br ∧
      M' = fMem c (d.work (d0 + n)) xb tb vs (workR d (d0 + n) l' (some R)) (some (kb, skD R.y tot kn br (d0 + n))) ∧ RlOk H' (workR d (d0 + n) l' (some R))) := by
  have hle := Hp.le.refl H0
  obtain ⟨xs, hxs⟩ : ∃ xs, xs = Mem.keys (fMem c d xb tb vs (some R) (some (kb, skD R.y tot kn false d0))) := ⟨_, rfl⟩
  rw [← hxs] at hs ⊢
  clear hxs
  replace hs : HS xs H0 w0 H0 ((xb, fObj c d tb vs (ptr R.rb) (ptr kb), true) :: (tb, toldObj d.told, true) :: (kb, sinkObj (skD R.y tot kn false d0), true) :: relMem true R.y R.rb R.wb R.l) w0 := hs
  refine Calls.enter (args := [ptr xb]) Tryz.func54 rfl Tryz.ntmps54 rfl ?_
  refine WC.seq (WC.region (WO.step rfl (OR.assign rfl (WO.step rfl (OR.assign rfl (WO.done (WX.seq ?_)))))))
  refine WC.seq (WC.block (WC.seq (WC.region (WO.step rfl (OR.move rfl ?_)))))
  refine WO.step rfl (OR.call hs body96 rfl rfl (fmade_ok c d xb tb vs _ _ _ _ hs.toSub (hs.blk (i := 0) rfl) (hs.nh (i := 0) rfl)) ?_)
  clear hs; rintro _ H w hs hle1 rfl; replace hle := hle.trans hle1; (try replace hlb := hlb.trans hle1)
  refine WO.step rfl (OR.not rfl (WO.step rfl (OR.assign rfl (WO.done (WX.seq ?_)))))
  refine WC.no rfl rfl ?_
  refine WC.seq (WC.region (WO.step rfl (OR.move rfl (WO.step rfl (OR.nilCheck rfl (WO.step rfl (OR.fieldAddr FA172_5 rfl ?_)))))))
  refine WO.step rfl (OR.load T27 rfl rfl (hs.cellM (i := 0) rfl rfl) (WO.step rfl (OR.eqlNilP T27.und rfl rfl (WO.step rfl (OR.assign rfl (WO.done (WX.seq ?_)))))))
  refine WC.no rfl rfl ?_
  refine WC.skip (WX.block (WX.seq (WC.seq ?_)))
  refine WC.sub [(0, ptr xb)] ⟨rfl,  trivial⟩ ?_
  refine WA.enter mixed ?_
  replace hs := hs.drew
  refine WA.draw 8 hs (by kernel_rfl) ?_
  refine ⟨MF.eq _, by intro Mx H w hle hs; refine forVals_nil (ORg.plain (OR.move rfl ?_)); exact ⟨_, [], Hp.le.refl _, hs, rfl, rfl⟩, ?_⟩
  refine ⟨MF.eq _, by intro Mx H w hle hs; refine forVals_eq rfl rfl rfl ?_; refine forVals_nil (ORg.plain (OR.nilCheck rfl ?_)); exact ⟨_, [], Hp.le.refl _, hs, rfl, rfl⟩, ?_⟩
  refine ⟨MF.eq _, by intro Mx H w hle hs; refine forVals_eq rfl rfl rfl ?_; refine forVals_nil (ORg.plain (OR.fieldAddr FA172_5 rfl ?_)); exact ⟨_, [], Hp.le.refl _, hs, rfl, rfl⟩, ?_⟩
  refine ⟨MF.eq _, by intro Mx H w hle hs; refine forVals_eq rfl rfl rfl ?_; refine forVals_nil (ORg.plain (OR.load T27 rfl rfl (hs.right.cellM (i := 0) rfl rfl) ?_)); exact ⟨_, [], Hp.le.refl _, hs, rfl, rfl⟩, ?_⟩
  refine ⟨MF.eq _, by intro Mx H w hle hs; refine forVals_nil (ORg.plain (OR.move rfl ?_)); exact ⟨_, [], Hp.le.refl _, hs, rfl, rfl⟩, ?_⟩
  refine ⟨MF.eq _, by intro Mx H w hle hs; refine forVals_eq rfl rfl rfl ?_; refine forVals_nil (ORg.plain (OR.nilCheck rfl ?_)); exact ⟨_, [], Hp.le.refl _, hs, rfl, rfl⟩, ?_⟩
  refine ⟨MF.eq _, by intro Mx H w hle hs; refine forVals_eq rfl rfl rfl ?_; refine forVals_nil (ORg.plain (OR.fieldAddr FA172_4 rfl ?_)); exact ⟨_, [], Hp.le.refl _, hs, rfl, rfl⟩, ?_⟩
  refine ⟨MF.eq _, by intro Mx H w hle hs; refine forVals_eq rfl rfl rfl ?_; refine forVals_nil (ORg.plain (OR.load T34 rfl rfl (hs.right.cellM (i := 0) rfl rfl) ?_)); exact ⟨_, [], Hp.le.refl _, hs, rfl, rfl⟩, ?_⟩
  intro H w hle2; (try replace hle := hle.trans hle2); (try replace hlb := hlb.trans hle2)
  refine forAllVals_eq rfl ?_
  refine forAllVals_eq rfl ?_
  refine forAllVals_eq rfl ?_
  refine forAllVals_eq rfl ?_
  refine forAllVals_eq rfl ?_
  refine forAllVals_eq rfl ?_
  refine forAllVals_eq rfl ?_
  refine forAllVals_eq rfl ?_
  refine forAllVals_nil ?_; (try clear hs); intro hs
  replace hs := hs.perm permK3.symm
  refine WA.step (by kernel_rfl) rfl rfl rfl (ORg.plain (OR.callX (Mx := [(kb, sinkObj (skD R.y tot kn false d0), true)]) (Mr := (xb, fObj c d tb vs (ptr R.rb) (ptr kb), true) :: (tb, toldObj d.told, true) :: relMem true R.y R.rb R.wb R.l) hs body14 rfl rfl (krel_ok kb R.rb R.wb d0 tot kn R.y R.l _ _ (HS.relKB (A := [_, _]) hs) (hok.1.mono hle) hok.2 hgs4 hd0) rfl rfl ?_))
  clear hs; rintro v H2 M w hs hle1 hnew ⟨n, r, e, br, rfl, hbl, hgood, hdn, rfl, hend⟩
  replace hle := hle.trans hle1
  replace hs : HS xs H0 w0 H2 (fMem c d xb tb vs (some R) (some (kb, skD R.y tot kn br (d0 + n))) ++ []) w := by
    rw [List.append_nil]
    exact hs.perm permK3
  obtain ⟨b1, c1, rfl⟩ := hbl.form
  refine WA.step (by kernel_rfl) rfl rfl rfl (ORg.plain (OR.move rfl ?_))
  refine WA.draw 13 hs (by kernel_rfl) ?_
  refine ⟨MF.eq _, by intro Mx H w hle hs; refine forVals_nil (ORg.plain (OR.extract rfl rfl ?_)); exact ⟨_, [], Hp.le.refl _, hs, rfl, rfl⟩, ?_⟩
  refine ⟨MF.eq _, by intro Mx H w hle hs; refine forVals_nil (ORg.plain (OR.extract rfl rfl ?_)); exact ⟨_, [], Hp.le.refl _, hs, rfl, rfl⟩, ?_⟩
  refine ⟨MF.eq _, by intro Mx H w hle hs; refine forVals_eq rfl rfl rfl ?_; refine forVals_nil (ORg.plain (OR.assign rfl ?_)); exact ⟨_, [], Hp.le.refl _, hs, rfl, rfl⟩, ?_⟩
  intro H w hle2; (try replace hle := hle.trans hle2); (try replace hlb := hlb.trans hle2)
  refine forAllVals_eq rfl ?_
  refine forAllVals_eq rfl ?_
  refine forAllVals_eq rfl ?_
  refine forAllVals_nil ?_; (try clear hs); intro hs
  replace hbl := hbl.mono hle2
  refine WA.step (by kernel_rfl) rfl rfl rfl (ORg.plain (OR.assign rfl ?_))
  refine WA.rest (by kernel_rfl) ?_
  refine WO.done (WX.seq (WC.seq (WC.region (WO.step rfl (OR.move rfl ?_)))))
  refine WO.step rfl (OR.callX (Mx := fMem c d xb tb vs (some R) (some (kb, skD R.y tot kn br (d0 + n)))) (Mr := []) hs body95 rfl rfl (fwork_ok c d xb tb vs (some R) (some (kb, skD R.y tot kn br (d0 + n))) _ _ (HS.part hs) (hok.mono hle) (hnx.mono hle) hd hdn ht) rfl (fMem_flags _ _ _ _ _ _ _) ?_)
  clear hs; rintro v H3 M w hs hle2 hnew2 ⟨l', rfl, hro⟩
  rw [List.append_nil] at hs
  refine WO.done (WX.seq (WC.seq (WC.region (WO.step rfl (OR.move rfl (WO.step rfl (OR.move rfl ?_)))))))
  refine WO.step rfl (OR.assign rfl (WO.step rfl (OR.assign rfl (WO.done (WX.seq (WC.ret ?_))))))
  refine WX.ret2 rfl rfl rfl ?_
  exact ⟨_, H3, _, rfl, hs, fun p hp => List.all_eq_true.1 (fMem_flags _ _ _ _ _ _ _) p hp, n, _, e, br, l', rfl, hbl.mono hle2, hgood, hdn, hend, rfl, hro⟩
end Go.Bw
namespace Go.Bw
set_option linter.unusedVariables false
set_option linter.unusedSimpArgs false
open Go.Proofs
def srcRks (base n g : Nat) : List (Nat × Nat) := (List.range n).map fun i => (base + i, g)
theorem srcRks_succ (base n g : Nat) : srcRks base (n + 1) g = srcRks base n g ++ [(base + n, g)] := by
  simp [srcRks, List.range_succ]
theorem srcRks_len (base n g : Nat) : (srcRks base n g).length = n := by simp [srcRks]
set_option maxRecDepth 20000 in
set_option maxHeartbeats 2000000 in
theorem franks_src (c : CfgD) (d : FD) (xb tb sb : Nat) (vr vk : Value) (D : SrcD) (o : Obj) (H0 : Hp) (w0 : World) (hs : HS [] H0 w0 H0 [(xb, fObj c d tb (ptr sb) vr vk, false), (sb, o, false)] w0)
    (hx : SrcIn H0 D o) (hl : D.chunks.length ≤ 1000000000) (hw : c.win ≤ 16) (hb : d.base ≤ 1099511627776) :
    Calls Tryz.prog 61 #[ptr xb] w0 (Pure H0 w0 fun v H' => RkL H' v (srcRks d.base (min c.win (D.chunks.length - d.base)) c.g)) := by
  have hle := Hp.le.refl H0
  refine Calls.enter (args := [ptr xb]) Tryz.func61 rfl Tryz.ntmps61 rfl ?_
  refine WC.seq (WC.region (WO.step rfl (OR.assign rfl (WO.done (WX.seq (WC.seq (WC.region ?_)))))))
  refine WO.step rfl (OR.assign rfl (WO.done (WX.seq (WC.seq (WC.block (WC.seq (WC.region ?_)))))))
  refine WO.step rfl (OR.move rfl ?_)
  refine WO.step rfl (OR.call hs body96 rfl rfl (fmade_ok c d xb tb _ _ _ _ _ hs.toSub (hs.blk (i := 0) rfl) (hs.nh (i := 0) rfl)) ?_)
  clear hs; rintro _ H w hs hle1 rfl; replace hle := hle.trans hle1; (try replace hlb := hlb.trans hle1)
  refine WO.step rfl (OR.not rfl (WO.step rfl (OR.assign rfl (WO.done (WX.seq ?_)))))
  refine WC.no rfl rfl ?_
  refine WC.seq (WC.region (WO.step rfl (OR.move rfl (WO.step rfl (OR.nilCheck rfl (WO.step rfl (OR.fieldAddr FA172_3 rfl ?_)))))))
  refine WO.step rfl (OR.load T66 rfl rfl (hs.cellM (i := 0) rfl rfl) (WO.step rfl (OR.eqlNilP T66.und rfl rfl (WO.step rfl (OR.assign rfl (WO.done (WX.seq ?_)))))))
  refine WC.no rfl rfl (WC.seq (WC.region (WO.step rfl (OR.move rfl (WO.step rfl (OR.nilCheck rfl (WO.step rfl ?_)))))))
  refine OR.fieldAddr FA172_8 rfl (WO.step rfl (OR.load T22 rfl rfl (hs.cellM (i := 0) rfl rfl) (WO.step rfl (OR.assign rfl (WO.done (WX.seq (WC.block ?_)))))))
  refine WC.loop (ι := Nat × Value) (fun ix => [(0, ptr xb), (3, ix.2), (4, .int .u64 ((d.base + ix.1 : Nat) : Int))]) (fun ix w => (ix.1 ≤ c.win ∧ ix.1 ≤ D.chunks.length - d.base ∧ ∃ H Mo, Hp.le H0 H ∧ Own w0.heap.size 174 2 ix.2 ix.1 (rowCells (rkC (srcRks d.base ix.1 c.g))) Mo ∧ HS [] H0 w0 H ([(xb, fObj c d tb (ptr sb) vr vk, false), (sb, o, false)] ++ Mo) w)) (fun ix => c.win - ix.1) (0, .slice none 0 0) ⟨rfl, rfl, rfl,  trivial⟩ ?_ (fun ix w hW => ?_)
  · exact ⟨by omega, by omega, H, [], hle, Own.nil _ _ _, by rw [List.append_nil]; exact hs⟩
  clear hs hle
  obtain ⟨i, vo⟩ := ix
  obtain ⟨hi, hi2, H, Mo, hle, ho, hs⟩ := hW
  simp only at hi hi2 ho
  replace hs : HS [] H0 w0 H ((xb, fObj c d tb (ptr sb) vr vk, false) :: (sb, o, false) :: Mo) w := hs
  by_cases hg : d.base + i < D.chunks.length
  · have hg1 := hg
    refine WC.seq (WC.seq ?_)
    refine WC.draw 22 mixed hs (by kernel_rfl) ?_
    refine ⟨MF.eq _, by intro Mx H w hle hs; refine forVals_nil (ORg.plain (OR.move rfl ?_)); exact ⟨_, [], Hp.le.refl _, hs, rfl, rfl⟩, ?_⟩
    refine ⟨MF.eq _, by intro Mx H w hle hs; refine forVals_nil (ORg.plain (OR.move rfl ?_)); exact ⟨_, [], Hp.le.refl _, hs, rfl, rfl⟩, ?_⟩
    refine ⟨MF.eq _, by intro Mx H w hle hs; refine forVals_eq rfl rfl rfl ?_; refine forVals_nil (ORg.plain (OR.nilCheck rfl ?_)); exact ⟨_, [], Hp.le.refl _, hs, rfl, rfl⟩, ?_⟩
    refine ⟨MF.eq _, by intro Mx H w hle hs; refine forVals_eq rfl rfl rfl ?_; refine forVals_nil (ORg.plain (OR.fieldAddr FA172_3 rfl ?_)); exact ⟨_, [], Hp.le.refl _, hs, rfl, rfl⟩, ?_⟩
    refine ⟨MF.eq _, by intro Mx H w hle hs; refine forVals_eq rfl rfl rfl ?_; refine forVals_nil (ORg.plain (OR.load T66 rfl rfl (hs.right.cellM (i := 0) rfl rfl) ?_)); exact ⟨_, [], Hp.le.refl _, hs, rfl, rfl⟩, ?_⟩
    refine ⟨MF.eq (.int .u64 (D.chunks.length : Int)), ?_, ?_⟩
    · intro Mx H w hle2 hs; (try replace hle := hle.trans hle2); (try replace hlb := hlb.trans hle2); refine forVals_eq rfl rfl rfl ?_
      refine forVals_nil (ORg.plain (OR.call hs body31 rfl rfl (gens_ok sb D o _ _ hs.toSub (hs.right.blk (i := 1) rfl) (hs.right.nh (i := 1) rfl) (hx.mono hle) (by omega)) ?_))
      clear hs; rintro _ H w hs hle1 rfl
      exact ⟨_, [], hle1, hs, rfl, rfl⟩
    refine ⟨MF.eq _, by intro Mx H w hle hs; refine forVals_eq rfl rfl rfl ?_; refine forVals_eq rfl rfl rfl ?_; refine forVals_nil (ORg.plain (OR.lss rfl rfl ?_)); exact ⟨_, [], Hp.le.refl _, hs, rfl, rfl⟩, ?_⟩
    refine ⟨MF.eq _, by intro Mx H w hle hs; refine forVals_eq rfl rfl rfl ?_; refine forVals_nil (ORg.plain (OR.move rfl ?_)); exact ⟨_, [], Hp.le.refl _, hs, rfl, rfl⟩, ?_⟩
    refine ⟨MF.eq _, by intro Mx H w hle hs; refine forVals_eq rfl rfl rfl ?_; refine forVals_nil (ORg.yes rfl (decide_eq_true (by omega : ((d.base + i : Nat) : Int) < (D.chunks.length : Int))) rfl (OR.move rfl ?_)); exact ⟨_, [], Hp.le.refl _, hs, rfl, rfl⟩, ?_⟩
    refine ⟨MF.eq _, by intro Mx H w hle hs; refine forVals_eq rfl rfl rfl ?_; refine forVals_nil (ORg.yes rfl (decide_eq_true (by omega : ((d.base + i : Nat) : Int) < (D.chunks.length : Int))) rfl (OR.move rfl ?_)); exact ⟨_, [], Hp.le.refl _, hs, rfl, rfl⟩, ?_⟩
    refine ⟨MF.eq _, by intro Mx H w hle hs; refine forVals_eq rfl rfl rfl ?_; refine forVals_eq rfl rfl rfl ?_; refine forVals_nil (ORg.yes rfl (decide_eq_true (by omega : ((d.base + i : Nat) : Int) < (D.chunks.length : Int))) rfl (OR.nilCheck rfl ?_)); exact ⟨_, [], Hp.le.refl _, hs, rfl, rfl⟩, ?_⟩
    refine ⟨MF.eq _, by intro Mx H w hle hs; refine forVals_eq rfl rfl rfl ?_; refine forVals_eq rfl rfl rfl ?_; refine forVals_nil (ORg.yes rfl (decide_eq_true (by omega : ((d.base + i : Nat) : Int) < (D.chunks.length : Int))) rfl (OR.fieldAddr FA172_8 rfl ?_)); exact ⟨_, [], Hp.le.refl _, hs, rfl, rfl⟩, ?_⟩
    refine ⟨MF.eq _, by intro Mx H w hle hs; refine forVals_eq rfl rfl rfl ?_; refine forVals_eq rfl rfl rfl ?_; refine forVals_nil (ORg.yes rfl (decide_eq_true (by omega : ((d.base + i : Nat) : Int) < (D.chunks.length : Int))) rfl (OR.load T22 rfl rfl (hs.right.cellM (i := 0) rfl rfl) ?_)); exact ⟨_, [], Hp.le.refl _, hs, rfl, rfl⟩, ?_⟩
    refine ⟨MF.eq (.int .u64 (i : Int)), ?_, ?_⟩
    · intro Mx H w hle2 hs; (try replace hle := hle.trans hle2); (try replace hlb := hlb.trans hle2); refine forVals_eq rfl rfl rfl ?_; refine forVals_eq rfl rfl rfl ?_; refine forVals_eq rfl rfl rfl ?_
      refine forVals_nil (ORg.yes rfl (decide_eq_true (by omega : ((d.base + i : Nat) : Int) < (D.chunks.length : Int))) rfl (OR.sub rfl rfl ?_))
      exact ⟨_, [], Hp.le.refl _, hs, (by rw [show (((d.base + i : Nat) : Int) - (d.base : Int)) = ((i : Nat) : Int) by omega, u64_wrap i (by omega)]), rfl⟩
    refine ⟨MF.eq _, by intro Mx H w hle hs; refine forVals_eq rfl rfl rfl ?_; refine forVals_nil (ORg.yes rfl (decide_eq_true (by omega : ((d.base + i : Nat) : Int) < (D.chunks.length : Int))) rfl (OR.move rfl ?_)); exact ⟨_, [], Hp.le.refl _, hs, rfl, rfl⟩, ?_⟩
    refine ⟨MF.eq _, by intro Mx H w hle hs; refine forVals_eq rfl rfl rfl ?_; refine forVals_eq rfl rfl rfl ?_; refine forVals_nil (ORg.yes rfl (decide_eq_true (by omega : ((d.base + i : Nat) : Int) < (D.chunks.length : Int))) rfl (OR.nilCheck rfl ?_)); exact ⟨_, [], Hp.le.refl _, hs, rfl, rfl⟩, ?_⟩
    refine ⟨MF.eq _, by intro Mx H w hle hs; refine forVals_eq rfl rfl rfl ?_; refine forVals_eq rfl rfl rfl ?_; refine forVals_nil (ORg.yes rfl (decide_eq_true (by omega : ((d.base + i : Nat) : Int) < (D.chunks.length : Int))) rfl (OR.fieldAddr FA172_0 rfl ?_)); exact ⟨_, [], Hp.le.refl _, hs, rfl, rfl⟩, ?_⟩
    refine ⟨MF.eq _, by intro Mx H w hle hs; refine forVals_eq rfl rfl rfl ?_; refine forVals_eq rfl rfl rfl ?_; refine forVals_nil (ORg.yes rfl (decide_eq_true (by omega : ((d.base + i : Nat) : Int) < (D.chunks.length : Int))) rfl (OR.fieldAddr FA81_2 rfl ?_)); exact ⟨_, [], Hp.le.refl _, hs, rfl, rfl⟩, ?_⟩
    refine ⟨MF.eq _, by intro Mx H w hle hs; refine forVals_eq rfl rfl rfl ?_; refine forVals_eq rfl rfl rfl ?_; refine forVals_nil (ORg.yes rfl (decide_eq_true (by omega : ((d.base + i : Nat) : Int) < (D.chunks.length : Int))) rfl (OR.load T3 rfl rfl (hs.right.cellM (i := 0) rfl rfl) ?_)); exact ⟨_, [], Hp.le.refl _, hs, rfl, rfl⟩, ?_⟩
    refine ⟨MF.eq (.int .u64 (c.win : Int)), ?_, ?_⟩
    · intro Mx H w hle2 hs; (try replace hle := hle.trans hle2); (try replace hlb := hlb.trans hle2); refine forVals_eq rfl rfl rfl ?_; refine forVals_eq rfl rfl rfl ?_
      refine forVals_nil (ORg.yes rfl (decide_eq_true (by omega : ((d.base + i : Nat) : Int) < (D.chunks.length : Int))) rfl (OR.convI T3.und T22.und rfl ?_))
      exact ⟨_, [], Hp.le.refl _, hs, (by rw [u64_wrap c.win (by omega)]), rfl⟩
    refine ⟨MF.eq _, by intro Mx H w hle hs; refine forVals_eq rfl rfl rfl ?_; refine forVals_eq rfl rfl rfl ?_; refine forVals_eq rfl rfl rfl ?_; refine forVals_nil (ORg.yes rfl (decide_eq_true (by omega : ((d.base + i : Nat) : Int) < (D.chunks.length : Int))) rfl (OR.lss rfl rfl ?_)); exact ⟨_, [], Hp.le.refl _, hs, rfl, rfl⟩, ?_⟩
    refine ⟨MF.eq _, by intro Mx H w hle hs; refine forVals_eq rfl rfl rfl ?_; refine forVals_eq rfl rfl rfl ?_; refine forVals_nil (ORg.plain (OR.pickT rfl (decide_eq_true (by omega : ((d.base + i : Nat) : Int) < (D.chunks.length : Int))) rfl ?_)); exact ⟨_, [], Hp.le.refl _, hs, rfl, rfl⟩, ?_⟩
    intro H w hle2; (try replace hle := hle.trans hle2); (try replace hlb := hlb.trans hle2)
    refine forAllVals_eq rfl ?_
    refine forAllVals_eq rfl ?_
    refine forAllVals_eq rfl ?_
    refine forAllVals_eq rfl ?_
    refine forAllVals_eq rfl ?_
    refine forAllVals_eq rfl ?_
    refine forAllVals_eq rfl ?_
    refine forAllVals_eq rfl ?_
    refine forAllVals_eq rfl ?_
    refine forAllVals_eq rfl ?_
    refine forAllVals_eq rfl ?_
    refine forAllVals_eq rfl ?_
    refine forAllVals_eq rfl ?_
    refine forAllVals_eq rfl ?_
    refine forAllVals_eq rfl ?_
    refine forAllVals_eq rfl ?_
    refine forAllVals_eq rfl ?_
    refine forAllVals_eq rfl ?_
    refine forAllVals_eq rfl ?_
    refine forAllVals_eq rfl ?_
    refine forAllVals_eq rfl ?_
    refine forAllVals_eq rfl ?_
    refine forAllVals_nil ?_; (try clear hs); intro hs
    refine WO.done (WX.seq ?_)
    refine WC.condD rfl (fun hlt => ?_) (fun hlt => ?_)
    · refine WC.skip (WX.seq (WC.seq (WC.block (WC.region (WO.step rfl (OR.move rfl (WO.step rfl ?_)))))))
      refine OR.move rfl (WO.step rfl (OR.move rfl (WO.step rfl (OR.nilCheck rfl (WO.step rfl (OR.fieldAddr FA172_1 rfl (WO.step rfl ?_)))))))
      refine OR.fieldAddr FA78_0 rfl (WO.step rfl (OR.load T3 rfl rfl (hs.cellM (i := 0) rfl rfl) (WO.step rfl (OR.buildAll T174 rfl rfl PL174 rfl rfl ?_))))
      refine WO.step rfl (OR.buildSlice (vs := [_]) hs T115.und T174 rfl rfl rfl rfl (by simp) ?_)
      clear hs; intro q1 w hq1 hs
      obtain ⟨H, hle1, hp_q1, hs9⟩ := hs.pub1 hq1; clear hs; have hs := hs9; clear hs9; replace hle := hle.trans hle1; (try replace hlb := hlb.trans hle1)
      have hone : RkL H (.slice (some ⟨q1, 0, none⟩) 1 1) [(d.base + i, c.g)] := Sl.block hp_q1 rfl rfl (by simp)
      obtain ⟨bo, co, rfl⟩ := ho.form
      have hs9 : HS [] H0 w0 H (Mo ++ [(xb, fObj c d tb (ptr sb) vr vk, false), (sb, o, false)]) w := HS.mtail (A := [_, _]) hs
      clear hs
      refine WO.step rfl (OR.append (m := 1) (news := rowCells (rkC [(d.base + i, c.g)])) (Mo := Mo) (M := [_, _]) hs9 ho T115.und T174 rfl (by omega) rfl rfl rfl (Sl.src hone hs9) (Sl.src0 hone) rfl (by omega) (by omega) ?_)
      clear hs9 ho; intro v' w Mo' hs ho hge
      replace hs := HS.mtail (B := [_, _]) hs
      refine WO.step rfl (OR.assign rfl (WO.done (WX.block (WX.seq (WC.region (WO.step rfl (OR.move rfl ?_)))))))
      refine WO.step rfl (OR.add rfl rfl ?_)
      rw [show IntKind.u64.wrap (((d.base + i : Nat) : Int) + 1) = ((d.base + (i + 1) : Nat) : Int) by rw [show (((d.base + i : Nat) : Int) + 1) = ((d.base + (i + 1) : Nat) : Int) by omega, u64_wrap _ (by omega)]]
      refine WO.step rfl (OR.assign rfl (WO.done ?_))
      refine WX.again ((i + 1, v')) ⟨rfl, rfl, rfl,  trivial⟩ ?_ ?_
      · refine ⟨by omega, by omega, H, Mo', hle, ?_, hs⟩
        simp only
        rw [srcRks_succ, show rkC (srcRks d.base i c.g ++ [(d.base + i, c.g)]) = rkC (srcRks d.base i c.g) ++ rkC [(d.base + i, c.g)] by simp [rkC], rowCells_append]
        exact ho
      · simp only; omega
    · refine WC.exit (WX.seq_exit (WX.loop_exit (WX.block_hit (WX.block (WX.seq (WC.seq (WC.region ?_)))))))
      refine WO.step rfl (OR.move rfl (WO.step rfl (OR.assign rfl (WO.done (WX.seq (WC.ret ?_))))))
      refine WX.ret1 rfl rfl ?_
      obtain ⟨H4, hle4, hs4, hsl, _⟩ := HS.pub (HS.mtail (A := [_, _]) hs) ho
      refine .mk (hs4.sublist (List.nil_sublist _)) ?_
      rw [show min c.win (D.chunks.length - d.base) = i by omega]
      unfold RkL
      rw [srcRks_len]
      exact hsl
  · have hg1 := hg
    refine WC.seq (WC.seq ?_)
    refine WC.draw 22 mixed hs (by kernel_rfl) ?_
    refine ⟨MF.eq _, by intro Mx H w hle hs; refine forVals_nil (ORg.plain (OR.move rfl ?_)); exact ⟨_, [], Hp.le.refl _, hs, rfl, rfl⟩, ?_⟩
    refine ⟨MF.eq _, by intro Mx H w hle hs; refine forVals_nil (ORg.plain (OR.move rfl ?_)); exact ⟨_, [], Hp.le.refl _, hs, rfl, rfl⟩, ?_⟩
    refine ⟨MF.eq _, by intro Mx H w hle hs; refine forVals_eq rfl rfl rfl ?_; refine forVals_nil (ORg.plain (OR.nilCheck rfl ?_)); exact ⟨_, [], Hp.le.refl _, hs, rfl, rfl⟩, ?_⟩
    refine ⟨MF.eq _, by intro Mx H w hle hs; refine forVals_eq rfl rfl rfl ?_; refine forVals_nil (ORg.plain (OR.fieldAddr FA172_3 rfl ?_)); exact ⟨_, [], Hp.le.refl _, hs, rfl, rfl⟩, ?_⟩
    refine ⟨MF.eq _, by intro Mx H w hle hs; refine forVals_eq rfl rfl rfl ?_; refine forVals_nil (ORg.plain (OR.load T66 rfl rfl (hs.right.cellM (i := 0) rfl rfl) ?_)); exact ⟨_, [], Hp.le.refl _, hs, rfl, rfl⟩, ?_⟩
    refine ⟨MF.eq (.int .u64 (D.chunks.length : Int)), ?_, ?_⟩
    · intro Mx H w hle2 hs; (try replace hle := hle.trans hle2); (try replace hlb := hlb.trans hle2); refine forVals_eq rfl rfl rfl ?_
      refine forVals_nil (ORg.plain (OR.call hs body31 rfl rfl (gens_ok sb D o _ _ hs.toSub (hs.right.blk (i := 1) rfl) (hs.right.nh (i := 1) rfl) (hx.mono hle) (by omega)) ?_))
      clear hs; rintro _ H w hs hle1 rfl
      exact ⟨_, [], hle1, hs, rfl, rfl⟩
    refine ⟨MF.eq _, by intro Mx H w hle hs; refine forVals_eq rfl rfl rfl ?_; refine forVals_eq rfl rfl rfl ?_; refine forVals_nil (ORg.plain (OR.lss rfl rfl ?_)); exact ⟨_, [], Hp.le.refl _, hs, rfl, rfl⟩, ?_⟩
    refine ⟨MF.eq _, by intro Mx H w hle hs; refine forVals_eq rfl rfl rfl ?_; refine forVals_nil (ORg.plain (OR.move rfl ?_)); exact ⟨_, [], Hp.le.refl _, hs, rfl, rfl⟩, ?_⟩
    refine ⟨MF.eq undef, by intro Mx H w hle hs; refine forVals_eq rfl rfl rfl ?_; refine forVals_nil (ORg.no rfl (decide_eq_false (by omega : ¬ ((d.base + i : Nat) : Int) < (D.chunks.length : Int))) rfl ?_); exact ⟨_, [], Hp.le.refl _, hs, rfl, rfl⟩, ?_⟩
    refine ⟨MF.eq undef, by intro Mx H w hle hs; refine forVals_eq rfl rfl rfl ?_; refine forVals_nil (ORg.no rfl (decide_eq_false (by omega : ¬ ((d.base + i : Nat) : Int) < (D.chunks.length : Int))) rfl ?_); exact ⟨_, [], Hp.le.refl _, hs, rfl, rfl⟩, ?_⟩
    refine ⟨MF.eq undef, by intro Mx H w hle hs; refine forVals_eq rfl rfl rfl ?_; refine forVals_eq rfl rfl rfl ?_; refine forVals_nil (ORg.no rfl (decide_eq_false (by omega : ¬ ((d.base + i : Nat) : Int) < (D.chunks.length : Int))) rfl ?_); exact ⟨_, [], Hp.le.refl _, hs, rfl, rfl⟩, ?_⟩
    refine ⟨MF.eq undef, by intro Mx H w hle hs; refine forVals_eq rfl rfl rfl ?_; refine forVals_eq rfl rfl rfl ?_; refine forVals_nil (ORg.no rfl (decide_eq_false (by omega : ¬ ((d.base + i : Nat) : Int) < (D.chunks.length : Int))) rfl ?_); exact ⟨_, [], Hp.le.refl _, hs, rfl, rfl⟩, ?_⟩
    refine ⟨MF.eq undef, by intro Mx H w hle hs; refine forVals_eq rfl rfl rfl ?_; refine forVals_eq rfl rfl rfl ?_; refine forVals_nil (ORg.no rfl (decide_eq_false (by omega : ¬ ((d.base + i : Nat) : Int) < (D.chunks.length : Int))) rfl ?_); exact ⟨_, [], Hp.le.refl _, hs, rfl, rfl⟩, ?_⟩
    refine ⟨MF.eq undef, by intro Mx H w hle hs; refine forVals_eq rfl rfl rfl ?_; refine forVals_eq rfl rfl rfl ?_; refine forVals_eq rfl rfl rfl ?_; refine forVals_nil (ORg.no rfl (decide_eq_false (by omega : ¬ ((d.base + i : Nat) : Int) < (D.chunks.length : Int))) rfl ?_); exact ⟨_, [], Hp.le.refl _, hs, rfl, rfl⟩, ?_⟩
    refine ⟨MF.eq undef, by intro Mx H w hle hs; refine forVals_eq rfl rfl rfl ?_; refine forVals_nil (ORg.no rfl (decide_eq_false (by omega : ¬ ((d.base + i : Nat) : Int) < (D.chunks.length : Int))) rfl ?_); exact ⟨_, [], Hp.le.refl _, hs, rfl, rfl⟩, ?_⟩
    refine ⟨MF.eq undef, by intro Mx H w hle hs; refine forVals_eq rfl rfl rfl ?_; refine forVals_eq rfl rfl rfl ?_; refine forVals_nil (ORg.no rfl (decide_eq_false (by omega : ¬ ((d.base + i : Nat) : Int) < (D.chunks.length : Int))) rfl ?_); exact ⟨_, [], Hp.le.refl _, hs, rfl, rfl⟩, ?_⟩
    refine ⟨MF.eq undef, by intro Mx H w hle hs; refine forVals_eq rfl rfl rfl ?_; refine forVals_eq rfl rfl rfl ?_; refine forVals_nil (ORg.no rfl (decide_eq_false (by omega : ¬ ((d.base + i : Nat) : Int) < (D.chunks.length : Int))) rfl ?_); exact ⟨_, [], Hp.le.refl _, hs, rfl, rfl⟩, ?_⟩
    refine ⟨MF.eq undef, by intro Mx H w hle hs; refine forVals_eq rfl rfl rfl ?_; refine forVals_eq rfl rfl rfl ?_; refine forVals_nil (ORg.no rfl (decide_eq_false (by omega : ¬ ((d.base + i : Nat) : Int) < (D.chunks.length : Int))) rfl ?_); exact ⟨_, [], Hp.le.refl _, hs, rfl, rfl⟩, ?_⟩
    refine ⟨MF.eq undef, by intro Mx H w hle hs; refine forVals_eq rfl rfl rfl ?_; refine forVals_eq rfl rfl rfl ?_; refine forVals_nil (ORg.no rfl (decide_eq_false (by omega : ¬ ((d.base + i : Nat) : Int) < (D.chunks.length : Int))) rfl ?_); exact ⟨_, [], Hp.le.refl _, hs, rfl, rfl⟩, ?_⟩
    refine ⟨MF.eq undef, by intro Mx H w hle hs; refine forVals_eq rfl rfl rfl ?_; refine forVals_eq rfl rfl rfl ?_; refine forVals_nil (ORg.no rfl (decide_eq_false (by omega : ¬ ((d.base + i : Nat) : Int) < (D.chunks.length : Int))) rfl ?_); exact ⟨_, [], Hp.le.refl _, hs, rfl, rfl⟩, ?_⟩
    refine ⟨MF.eq undef, by intro Mx H w hle hs; refine forVals_eq rfl rfl rfl ?_; refine forVals_eq rfl rfl rfl ?_; refine forVals_eq rfl rfl rfl ?_; refine forVals_nil (ORg.no rfl (decide_eq_false (by omega : ¬ ((d.base + i : Nat) : Int) < (D.chunks.length : Int))) rfl ?_); exact ⟨_, [], Hp.le.refl _, hs, rfl, rfl⟩, ?_⟩
    refine ⟨MF.eq _, by intro Mx H w hle hs; refine forVals_eq rfl rfl rfl ?_; refine forVals_eq rfl rfl rfl ?_; refine forVals_nil (ORg.plain (OR.pickF rfl (decide_eq_false (by omega : ¬ ((d.base + i : Nat) : Int) < (D.chunks.length : Int))) rfl ?_)); exact ⟨_, [], Hp.le.refl _, hs, rfl, rfl⟩, ?_⟩
    intro H w hle2; (try replace hle := hle.trans hle2); (try replace hlb := hlb.trans hle2)
    refine forAllVals_eq rfl ?_
    refine forAllVals_eq rfl ?_
    refine forAllVals_eq rfl ?_
    refine forAllVals_eq rfl ?_
    refine forAllVals_eq rfl ?_
    refine forAllVals_eq rfl ?_
    refine forAllVals_eq rfl ?_
    refine forAllVals_eq rfl ?_
    refine forAllVals_eq rfl ?_
    refine forAllVals_eq rfl ?_
    refine forAllVals_eq rfl ?_
    refine forAllVals_eq rfl ?_
    refine forAllVals_eq rfl ?_
    refine forAllVals_eq rfl ?_
    refine forAllVals_eq rfl ?_
    refine forAllVals_eq rfl ?_
    refine forAllVals_eq rfl ?_
    refine forAllVals_eq rfl ?_
    refine forAllVals_eq rfl ?_
    refine forAllVals_eq rfl ?_
    refine forAllVals_eq rfl ?_
    refine forAllVals_eq rfl ?_
    refine forAllVals_nil ?_; (try clear hs); intro hs
    refine WO.done (WX.seq (WC.no rfl rfl (WC.exit (WX.seq_exit (WX.loop_exit (WX.block_hit (WX.block ?_)))))))
    refine WX.seq (WC.seq (WC.region (WO.step rfl (OR.move rfl (WO.step rfl (OR.assign rfl (WO.done ?_)))))))
    refine WX.seq (WC.ret ?_)
    refine WX.ret1 rfl rfl ?_
    obtain ⟨H4, hle4, hs4, hsl, _⟩ := HS.pub (HS.mtail (A := [_, _]) hs) ho
    refine .mk (hs4.sublist (List.nil_sublist _)) ?_
    rw [show min c.win (D.chunks.length - d.base) = i by omega]
    unfold RkL
    rw [srcRks_len]
    exact hsl
end Go.Bw
namespace Go.Bw
set_option linter.unusedVariables false
set_option linter.unusedSimpArgs false
open Go.Proofs
-- left out, for this seat has no braidworklaw07.awake: theorem awake_ok (H0
end Go.Bw
namespace Go.Bw
set_option linter.unusedVariables false
set_option linter.unusedSimpArgs false
open Go.Proofs
theorem newD_ok {g s : Nat} (h : goodGS g s) : SrcOk (newD g s [] [] false) := ⟨h, rfl, rfl, rfl, Nat.zero_le _⟩
theorem SrcOk.sub {x : SrcD} (h : SrcOk x) (l : List UInt8) (most : Nat) : SrcOk (subD x l most) := by
  unfold subD
  split
  · exact h
  · split
    · rename_i hf
      exact h.long hf.1
    · exact h
theorem SrcOk.close {x : SrcD} (h : SrcOk x) : SrcOk (closeD x) := by
  unfold closeD
  split
  · exact h
  · exact ⟨h.cut.gs, h.cut.cuts, h.cut.ch, h.cut.op, h.cut.len⟩

-- left out, for this seat has no braidworklaw13.awake: theorem awake13_ok (H0
end Go.Bw
namespace Go.Bw
set_option linter.unusedVariables false
set_option linter.unusedSimpArgs false
theorem whole_flat (room : Nat) (st : List UInt8) (a : Nat) : ∀ n, a + n * room ≤ st.length → (wholeL room st a n).flatten = (st.drop a).take (n * room)
  | 0, _ => by simp [wholeL]
  | n + 1, h => by
    rw [Nat.add_mul, Nat.one_mul] at h
    rw [wholeL_succ, List.flatten_append, whole_flat room st a n (by omega), List.flatten_cons, List.flatten_nil, List.append_nil, Nat.add_mul, Nat.one_mul, List.take_add, List.drop_drop]
theorem step_flat {room : Nat} {st : List UInt8} {p : List (List UInt8) × Nat} {cut : Nat} (hp : p.1.flatten = st.take p.2) (h1 : p.2 ≤ cut) (h2 : cut ≤ st.length) :
    (chunkStep room st p ((cut : Nat) : Int)).1.flatten = st.take cut := by
  have hd : (cut - p.2) / room * room ≤ cut - p.2 := Nat.div_mul_le_self _ _
  rw [chunkStep, List.flatten_append, List.flatten_append, hp, Int.toNat_natCast, whole_flat _ _ _ _ (by omega)]
  generalize (cut - p.2) / room * room = k at *
  rw [← List.take_add]
  have hc : (cutPiece st (p.2 + k) cut).flatten = (st.drop (p.2 + k)).take (cut - (p.2 + k)) := by
    unfold cutPiece
    split
    · simp
    · rw [show cut - (p.2 + k) = 0 by omega]; simp
  rw [hc, ← List.take_add]
  congr 1
  omega
theorem chunkP_flat {room : Nat} {st : List UInt8} : ∀ (cuts : List Int) (p : List (List UInt8) × Nat), p.1.flatten = st.take p.2 → p.2 ≤ st.length → cutsOk st.length (p.2 : Int) cuts = true →
    (cuts.foldl (chunkStep room st) p).1.flatten = st.take (cuts.foldl (chunkStep room st) p).2 ∧ (cuts.foldl (chunkStep room st) p).2 ≤ st.length
  | [], p, h1, h2, _ => ⟨h1, h2⟩
  | c :: cs, p, h1, h2, h => by
    simp only [cutsOk, Bool.and_eq_true, decide_eq_true_eq] at h
    obtain ⟨⟨h3, h4⟩, h5⟩ := h
    obtain ⟨k, rfl⟩ := Int.eq_ofNat_of_zero_le (show 0 ≤ c by omega)
    have hk : (chunkStep room st p ((k : Nat) : Int)).2 = k := rfl
    exact chunkP_flat cs _ (by rw [hk]; exact step_flat h1 (by omega) (by omega)) (by rw [hk]; omega) (by rw [hk]; exact h5)
theorem chunks_flat {room : Nat} {st : List UInt8} {cuts : List Int} (h : cutsOk st.length 0 cuts = true) : (chunksF room st cuts).flatten ++ openF room st cuts = st := by
  have h1 := chunkP_flat (room := room) (st := st) cuts ([], 0) (by simp) (Nat.zero_le _) h
  have h2 : (chunkP room st cuts).1.flatten = st.take (chunkP room st cuts).2 := h1.1
  have h3 : (chunkP room st cuts).2 ≤ st.length := h1.2
  have hd : (st.length - (chunkP room st cuts).2) / room * room ≤ st.length - (chunkP room st cuts).2 := Nat.div_mul_le_self _ _
  rw [chunksF, openF, List.flatten_append, h2, whole_flat _ _ _ _ (by omega), ← List.take_add, List.take_append_drop]
theorem SrcOk.flat {x : SrcD} (h : SrcOk x) : x.chunks.flatten ++ x.opn = x.st := by
  rw [h.ch, h.op]
  exact chunks_flat h.cuts
end Go.Bw
namespace Go.Bw
set_option linter.unusedVariables false
set_option linter.unusedSimpArgs false
open Go.Proofs
theorem HS.relV {xs : List Nat} {H0 H : Hp} {w0 w : World} {x : RelD} {rb wb xb : Nat} {l : Slots} {A B : Mem} {o : Obj} {t : Bool} (hs : HS xs H0 w0 H (A ++ ((xb, o, t) :: (B ++ relMem true x rb wb l))) w) : HS (Mem.keys (relMem true x rb wb l)) H w H ((xb, o, false) :: relMem true x rb wb l) w := by
  have h1 : HS xs H0 w0 H ((xb, o, t) :: relMem true x rb wb l) w := hs.sublist ((List.Sublist.cons_cons _ (List.sublist_append_right _ _)).trans (List.sublist_append_right _ _))
  refine h1.view _ ?_ (List.Sublist.refl _)
  intro p hp
  rcases List.mem_cons.1 hp with rfl | hp
  · exact ⟨⟨t, List.mem_cons_self ..⟩, fun h => by cases h⟩
  · exact ⟨⟨p.2.2, List.mem_cons_of_mem _ hp⟩, fun _ => List.mem_map.2 ⟨p, hp, rfl⟩⟩
set_option maxRecDepth 20000 in
set_option maxHeartbeats 2000000 in
theorem fconfig_ok (H0 : Hp) (w0 : World) (h0 : Sub H0 w0) :
    Calls Tryz.prog 56 #[] w0 (Pure H0 w0 fun v H' => ∃ vf vs, v = cfgV ⟨3, 2, 3, 4, 4, [2], vf, vs⟩ ∧ CfgIn H' ⟨3, 2, 3, 4, 4, [2], vf, vs⟩) := by
  have hs := HS.init h0
  have hle := Hp.le.refl H0
  refine Calls.enter (args := []) Tryz.func56 rfl Tryz.ntmps56 rfl ?_
  refine WC.seq (WC.region (WO.step rfl (OR.alloc hs T81 ?_)))
  clear hs; intro g1 w hg1 hs
  refine WO.done (WX.seq (WC.seq (WC.region ?_)))
  refine WO.step rfl (OR.buildSlice (vs := [.int .i64 2]) hs T76.und T3 rfl rfl rfl rfl (by simp) ?_)
  clear hs; intro q1 w hq1 hs
  refine WO.step rfl (OR.buildAll T78 rfl rfl PL78 rfl rfl ?_)
  obtain ⟨H, hle1, hp_q1, hs9⟩ := hs.pub1 hq1; clear hs; have hs := hs9; clear hs9; replace hle := hle.trans hle1; (try replace hlb := hlb.trans hle1)
  have hi1 : Ints H (.slice (some ⟨q1, 0, none⟩) 1 1) [2] := Sl.block hp_q1 rfl rfl (by simp)
  refine WO.step rfl (OR.buildSlice (vs := [_]) hs T79.und T78 rfl rfl rfl rfl (by simp) ?_)
  clear hs; intro q2 w hq2 hs
  refine WO.step rfl (OR.buildAll T81 rfl rfl PL81 rfl rfl ?_)
  replace hs := hs.front (i := 1) rfl
  refine WO.stepN (OR.storeAll hs T81 rfl rfl rfl rfl rfl ?_)
  clear hs; intro w hs
  refine WO.done (WX.seq (WC.ret ?_))
  replace hs := hs.front (i := 1) rfl
  obtain ⟨H, hle1, hp_q2, hs9⟩ := hs.pub1 hq2; clear hs; have hs := hs9; clear hs9; replace hle := hle.trans hle1; (try replace hlb := hlb.trans hle1)
  have hf1 : ∀ j u, [Value.int .i64 2, .int .i64 3, .int .i64 0, .slice (some ⟨q1, 0, none⟩) 1 1][j]? = some u → hcell H ((⟨q2, 0, none⟩ : Addr).add j) = some u := fun j u hj => by
    rw [add_off, Nat.zero_add]
    exact hcell_of hp_q2 (by rw [nth_eq]; exact hj)
  refine WX.retCell T81 rfl rfl rfl rfl (hs.blk (i := 0) rfl) ?_
  exact .mk (hs.drop 0) ⟨_, _, rfl, ⟨q2, 0, 1, rfl, by omega, hf1⟩, hi1.mono hle1⟩
theorem cfg24_ok (vf vs : Value) : CfgOk ⟨3, 2, 3, 4, 4, [2], vf, vs⟩ :=
  ⟨⟨by show 1 ≤ 3; omega, by show 3 ≤ 64; omega⟩, ⟨by show 1 ≤ 2; omega, by show 2 ≤ 255; omega, by show 1 ≤ 3; omega, by show 3 ≤ 65535; omega, by show 4 < 2 * 3; omega⟩, ⟨by show 1 ≤ 4; omega, by show 4 ≤ 16; omega⟩, ⟨by show 1 ≤ 4; omega, by show 4 ≤ 64; omega⟩, ⟨by show 1 ≤ 1; omega, by show 1 ≤ 8; omega⟩,
   fun i h => by have : i = 0 := by simp at h; omega
                 subst this; exact ⟨by show (1 : Int) ≤ 2; omega, by show (2 : Int) ≤ 3 - 1; omega⟩, fun i h hi => by simp at h; omega⟩
theorem permOwn2 {a b c : Nat × Obj × Bool} {R : Mem} : List.Perm (a :: b :: c :: R) (c :: a :: b :: R) := permK3
theorem next1 {a n m : Int} (h : 0 ≤ a ∧ a < n ∧ a ≠ m) : ∀ i (_ : i < [a].length), 0 ≤ [a][i] ∧ [a][i] < n ∧ [a][i] ≠ m := by
  intro i hi
  have : i = 0 := by simpa using hi
  subst this
  exact h
theorem up1 (a : Int) : ∀ i (h : i < [a].length), 0 < i → [a][i - 1]'(by omega) < [a][i] := by
  intro i hi h0
  simp at hi
  omega
def fwM : Nat := 1099511627776
def fwD : SrcD := subD (newD 2 3 [] [] false) [97, 98] (fwM + 2 * 4)
theorem fwD_ok : subE (newD 2 3 [] [] false) [97, 98] (fwM + 2 * 4) = 0 ∧ fwD.chunks = [[97, 98]] ∧ rowF fwD 0 (sendC fwD 0 []) = ([1, 0], [0, 0, 0]) ∧ rowF fwD 0 (sendC fwD 1 []) = ([0, 1], [2, 97, 98]) ∧ thereE fwD 0 = 0 := by decide +kernel
def fwA : RelD := (newR 2 3 4).moveTo 0
def fwB : RelD := fwA.take 0 ([1, 0], [0, 0, 0])
def fwC : RelD := fwB.take 0 ([0, 1], [2, 97, 98])
theorem fwR_g : (fwA.g = 2 ∧ fwA.s = 3) ∧ (fwB.g = 2 ∧ fwB.s = 3) ∧ fwC.g = 2 ∧ fwC.s = 3 := by decide +kernel
theorem fwC_0 : fwC.solE 0 = 0 ∧ rdyE fwC 0 = 0 ∧ rdyF fwC 0 = [97, 98] ∧ fwC.solE 1 ≠ 0 := by decide +kernel
theorem fwA_ok : RelOk fwA ∧ RelOk fwB ∧ RelOk fwC := by
  have h1 : RelOk fwA := (newR_ok (g := 2) (s := 3) (width := 4) (by omega) (by omega)).moveTo 0
  exact ⟨h1, h1.take _ _, (h1.take _ _).take _ _⟩
def fwD1 (nv : Value) : FD := ⟨0, [1], nv, [], fwM, false, 0, false⟩
def fwD2 (nv : Value) : FD := ⟨0, [1], nv, [(1, 0)], 0, true, 0, false⟩
def fwD3 (nv : Value) : FD := ⟨0, [1], nv, [(1, 1)], 1, true, 0, false⟩
theorem gs23 : goodGS (2 : Nat) (3 : Nat) := by unfold goodGS; decide
set_option maxHeartbeats 8000000 in
set_option maxRecDepth 20000 in
set_option maxHeartbeats 2000000 in
theorem fawake_ok (H0 : Hp) (w0 : World) (h0 : Sub H0 w0) :
    Calls Tryz.prog 36 #[] w0 (Pure H0 w0 fun v _ => v = .bool true) := by
  have hs := HS.init h0
  have hle := Hp.le.refl H0
  obtain ⟨e1, e2, e3, e4, e5⟩ := fwD_ok
  obtain ⟨gA, gB, gC⟩ := fwR_g
  obtain ⟨okA, okB, okC⟩ := fwA_ok
  have hokD0 : SrcOk (newD 2 3 [] [] false) := newD_ok gs23
  have hokD : SrcOk fwD := hokD0.sub _ _
  refine Calls.enter (args := []) Tryz.func36 rfl Tryz.ntmps36 rfl ?_
  refine WC.seq (WC.region (WO.step rfl (OR.assign rfl (WO.done (WX.seq (WC.seq (WC.region ?_)))))))
  refine WO.step rfl (OR.call hs body56 rfl rfl (fconfig_ok _ _ hs.toSub) ?_)
  clear hs; rintro _ H w hs hle1 ⟨vf, vs, rfl, hcf⟩; replace hle := hle.trans hle1; (try replace hlb := hlb.trans hle1)
  have hcok := cfg24_ok vf vs
  obtain ⟨c, hc⟩ : ∃ c : CfgD, c = ⟨3, 2, 3, 4, 4, [2], vf, vs⟩ := ⟨_, rfl⟩
  rw [← hc] at hcf hcok ⊢
  have hcn : c.win = 4 := by rw [hc]
  have hcg : c.g = 2 ∧ c.s = 3 := by rw [hc]; exact ⟨rfl, rfl⟩
  refine WO.step rfl (OR.callX (Mx := []) hs body35 rfl rfl (fnew_src c hcok _ _ hs.toSub hcf) rfl rfl ?_)
  clear hs; rintro _ H M w hs hle1 hnew ⟨xb, tb, sb, o, rfl, rfl, hx⟩; replace hle := hle.trans hle1; (try replace hlb := hlb.trans hle1)
  rw [hcg.1, hcg.2] at hx
  replace hs : HS [] H0 w0 H [(xb, fObj c (fN 0 fwM) tb (ptr sb) (.pointer none) (.pointer none), true), (tb, toldObj [], true), (sb, o, true)] w := hs
  refine WO.step rfl (OR.move rfl (WO.step rfl (OR.extract rfl rfl (WO.step rfl (OR.extract rfl rfl (WO.step rfl (OR.assign rfl ?_)))))))
  refine WO.step rfl (OR.assign rfl (WO.done (WX.seq (WC.seq (WC.region ?_)))))
  refine WO.step rfl (OR.call hs body56 rfl rfl (fconfig_ok _ _ hs.toSub) ?_)
  clear hs; rintro _ H w hs hle1 ⟨vf2, vs2, rfl, hcf2⟩; replace hle := hle.trans hle1; (try replace hlb := hlb.trans hle1)
  have hcok2 := cfg24_ok vf2 vs2
  obtain ⟨c2, hc2⟩ : ∃ c : CfgD, c = ⟨3, 2, 3, 4, 4, [2], vf2, vs2⟩ := ⟨_, rfl⟩
  rw [← hc2] at hcf2 hcok2 ⊢
  replace hx := hx.mono hle1
  refine WO.step rfl (OR.callX (Mx := []) hs body35 rfl rfl (fnew_sink c2 hcok2 2 0 _ _ hs.toSub hcf2 (by rw [hc2]; exact ⟨by omega, by show (2 : Int) < 3; omega⟩) (by rw [hc2]; exact List.mem_singleton.2 rfl) (by omega)) rfl rfl ?_)
  clear hs; rintro _ H M w hs hle1 hnew ⟨yb, ub, rb, wb, l0, kb, rfl, rfl, hro⟩; replace hle := hle.trans hle1; (try replace hlb := hlb.trans hle1)
  rw [show (newR c2.g c2.s c2.win).moveTo 0 = fwA by rw [hc2]; rfl] at hs hro
  rw [show (⟨c2.g, c2.s, 0, 0, false, false⟩ : SinkD) = skD fwA 0 false false 0 by rw [hc2, skD, gA.1, gA.2]] at hs
  replace hx := hx.mono hle1
  replace hs := HS.mtail (A := fMem c2 (fN 2 0) yb ub (.pointer none) (some ⟨fwA, rb, wb, l0⟩) (some (kb, skD fwA 0 false false 0))) hs
  replace hs : HS [] H0 w0 H ((xb, fObj c (fN 0 fwM) tb (ptr sb) (.pointer none) (.pointer none), true) :: (tb, toldObj [], true) :: (sb, o, true) :: (yb, fObj c2 (fN 2 0) ub (.pointer none) (ptr rb) (ptr kb), true) :: (ub, toldObj [], true) :: (kb, sinkObj (skD fwA 0 false false 0), true) :: relMem true fwA rb wb l0) w := hs
  refine WO.step rfl (OR.move rfl (WO.step rfl (OR.extract rfl rfl (WO.step rfl (OR.extract rfl rfl (WO.step rfl (OR.assign rfl ?_)))))))
  refine WO.step rfl (OR.assign rfl (WO.done (WX.seq (WC.seq (WC.seq (WC.region (WO.step rfl ?_)))))))
  refine OR.move rfl (WO.step rfl (OR.neq rfl rfl (WO.step rfl (OR.move rfl ?_))))
  refine WO.guardYes rfl rfl rfl rfl (OR.move rfl (WO.guardYes rfl rfl rfl rfl (OR.neq rfl rfl (WO.step rfl (OR.pickF rfl rfl rfl (WO.step rfl (OR.move rfl ?_)))))))
  refine WO.guardYes rfl rfl rfl rfl (OR.move rfl ?_)
  refine WO.guardYes rfl rfl rfl rfl (OR.buildSlice (vs := [B 97, B 98]) hs T43.und T5 rfl rfl rfl rfl (by simp) ?_)
  clear hs; intro q1 w hq1 hs
  refine WO.guardYes rfl rfl rfl rfl (OR.convText hs T43.und T5.und rfl ?_)
  clear hs; intro w hs
  obtain ⟨H, hle1, hp_q1, hs9⟩ := hs.pub1 hq1; clear hs; have hs := hs9; clear hs9; replace hle := hle.trans hle1; (try replace hlb := hlb.trans hle1)
  have hab : Bytes H (.slice (some ⟨q1, 0, none⟩) 2 2) [97, 98] := Bytes.block (l := [97, 98]) (cap := 2) hp_q1 rfl (by simp)
  replace hx := hx.mono hle1
  replace hro := hro.mono hle1
  replace hs := hs.front (i := 2) rfl
  refine WO.guardYes rfl rfl rfl rfl (OR.callX (Mx := [(sb, o, true)]) (Mr := (xb, fObj c (fN 0 fwM) tb (ptr sb) (.pointer none) (.pointer none), true) :: (tb, toldObj [], true) :: (yb, fObj c2 (fN 2 0) ub (.pointer none) (ptr rb) (ptr kb), true) :: (ub, toldObj [], true) :: (kb, sinkObj (skD fwA 0 false false 0), true) :: relMem true fwA rb wb l0) hs body41 rfl rfl (fsubmit_ok c (fN 0 fwM) xb tb sb _ _ _ (newD 2 3 [] [] false) o [97, 98] _ _ (hs.view [(sb, o, true), (xb, fObj c (fN 0 fwM) tb (ptr sb) (.pointer none) (.pointer none), false)] (by simp [dropAt]) (.cons_cons _ (.cons_cons _ (List.nil_sublist _)))) hx hokD0 hab (by decide) (by decide) (by omega) (Nat.le_refl _)) rfl rfl ?_)
  clear hs; rintro v H M w hs hle1 hnew ⟨rfl, o2, rfl, hx⟩
  rw [hcn] at hx ⊢
  replace hx : SrcIn H fwD o2 := hx
  replace hle := hle.trans hle1
  replace hro := hro.mono hle1
  rw [show subE (newD 2 3 [] [] false) [97, 98] ((fN 0 fwM).base + 2 * 4) = 0 from e1]
  refine WO.guardYes rfl rfl rfl rfl (OR.neq rfl rfl (WO.step rfl (OR.pickF rfl rfl rfl (WO.done (WX.seq ?_)))))
  refine WC.no rfl rfl ?_
  refine WC.skip (WX.seq (WC.seq (WC.region (WO.step rfl (OR.move rfl ?_)))))
  refine WO.step rfl (OR.buildSlice (vs := [.int .i64 1]) hs T76.und T3 rfl rfl rfl rfl (by simp) ?_)
  clear hs; intro q2 w hq2 hs
  obtain ⟨H, hle1, hp_q2, hs9⟩ := hs.pub1 hq2; clear hs; have hs := hs9; clear hs9; replace hle := hle.trans hle1; (try replace hlb := hlb.trans hle1)
  have hi1 : Ints H (.slice (some ⟨q2, 0, none⟩) 1 1) [1] := Sl.block hp_q2 rfl rfl (by simp)
  replace hx := hx.mono hle1
  replace hro := hro.mono hle1
  replace hs : HS [] H0 w0 H ((sb, o2, true) :: (xb, fObj c (fN 0 fwM) tb (ptr sb) (.pointer none) (.pointer none), true) :: (tb, toldObj [], true) :: (yb, fObj c2 (fN 2 0) ub (.pointer none) (ptr rb) (ptr kb), true) :: (ub, toldObj [], true) :: (kb, sinkObj (skD fwA 0 false false 0), true) :: relMem true fwA rb wb l0) w := hs
  replace hs := hs.perm permOwn2
  refine WO.step rfl (OR.callX (Mx := fMem c (fN 0 fwM) xb tb (ptr sb) none none) (Mr := (sb, o2, true) :: (yb, fObj c2 (fN 2 0) ub (.pointer none) (ptr rb) (ptr kb), true) :: (ub, toldObj [], true) :: (kb, sinkObj (skD fwA 0 false false 0), true) :: relMem true fwA rb wb l0) hs body38 rfl rfl (fepoch_ok c (fN 0 fwM) xb tb (ptr sb) none none _ [1] _ _ (HS.part (M := fMem c (fN 0 fwM) xb tb (ptr sb) none none) hs) trivial (Nat.le_refl _) hi1 (by decide) (next1 (by rw [hc]; exact ⟨by decide, by show (1 : Int) < 3; omega, by show (1 : Int) ≠ 0; decide⟩)) (up1 _)) rfl (fMem_flags _ _ _ _ _ _ _) ?_)
  clear hs; rintro v H M w hs hle1 hnew ⟨nv, tb2, l9, rfl, rfl, hnx, -⟩
  replace hx := hx.mono hle1
  replace hle := hle.trans hle1
  replace hro := hro.mono hle1
  replace hs : HS [] H0 w0 H ((xb, fObj c (fwD1 nv) tb2 (ptr sb) (.pointer none) (.pointer none), true) :: (tb2, toldObj [], true) :: (sb, o2, true) :: (yb, fObj c2 (fN 2 0) ub (.pointer none) (ptr rb) (ptr kb), true) :: (ub, toldObj [], true) :: (kb, sinkObj (skD fwA 0 false false 0), true) :: relMem true fwA rb wb l0) w := hs
  have hlb := Hp.le.refl H
  refine WO.done (WX.seq (WC.seq (WC.region (WO.step rfl (OR.move rfl ?_)))))
  refine WO.step rfl (OR.call hs body37 rfl rfl (fbase_ok c (fwD1 nv) xb tb2 _ _ _ _ _ hs.toSub (hs.blk (i := 0) rfl) (hs.nh (i := 0) rfl)) ?_)
  clear hs; rintro _ H w hs hle1 rfl; replace hle := hle.trans hle1; (try replace hlb := hlb.trans hle1)
  refine WO.step rfl (OR.move rfl (WO.step rfl (OR.extract rfl rfl (WO.step rfl (OR.extract rfl rfl (WO.step rfl (OR.assign rfl ?_)))))))
  refine WO.step rfl (OR.assign rfl (WO.done (WX.seq (WC.seq (WC.region (WO.step rfl (OR.move rfl ?_)))))))
  refine WO.step rfl (OR.callX (Mx := fMem c (fwD1 nv) xb tb2 (ptr sb) none none) (Mr := (sb, o2, true) :: (yb, fObj c2 (fN 2 0) ub (.pointer none) (ptr rb) (ptr kb), true) :: (ub, toldObj [], true) :: (kb, sinkObj (skD fwA 0 false false 0), true) :: relMem true fwA rb wb l0) hs body39 rfl rfl (fhop_ok c (fwD1 nv) xb tb2 (ptr sb) none none 1 0 _ _ (HS.part (M := fMem c (fwD1 nv) xb tb2 (ptr sb) none none) hs) trivial (Nat.le_refl _) (hnx.mono hlb) (by show 0 ≤ 900; omega) (by show 1 ≤ 1000; omega) (fun p hp => by cases hp) (List.mem_singleton.2 rfl) (by omega)) rfl (fMem_flags _ _ _ _ _ _ _) ?_)
  clear hs; rintro v H M w hs hle1 hnew ⟨l9, rfl, rfl, -⟩
  replace hle := hle.trans hle1
  replace hlb := hlb.trans hle1
  replace hs : HS [] H0 w0 H ((xb, fObj c (fwD2 nv) tb2 (ptr sb) (.pointer none) (.pointer none), true) :: (tb2, toldObj [(1, 0)], true) :: (sb, o2, true) :: (yb, fObj c2 (fN 2 0) ub (.pointer none) (ptr rb) (ptr kb), true) :: (ub, toldObj [], true) :: (kb, sinkObj (skD fwA 0 false false 0), true) :: relMem true fwA rb wb l0) w := hs
  refine WO.done (WX.seq (WC.seq (WC.region (WO.step rfl (OR.move rfl ?_)))))
  refine WO.step rfl (OR.call hs body61 rfl rfl (franks_src c (fwD2 nv) xb tb2 sb _ _ fwD o2 _ _ (hs.view [(xb, fObj c (fwD2 nv) tb2 (ptr sb) (.pointer none) (.pointer none), false), (sb, o2, false)] (by simp) (.cons_cons _ (.cons _ (.cons_cons _ (List.nil_sublist _))))) (hx.mono hlb) (by rw [e2]; decide) (by omega) (by show 0 ≤ _; omega)) ?_)
  clear hs; rintro _ H w hs hle1 hrk; replace hle := hle.trans hle1; (try replace hlb := hlb.trans hle1)
  rw [e2, hcn, hcg.1] at hrk
  replace hrk : RkL H _ [(0, 2)] := hrk
  have hlk := Hp.le.refl H
  refine WO.step rfl (OR.assign rfl (WO.done (WX.seq (WC.seq (WC.region (WO.step rfl (OR.move rfl ?_)))))))
  refine WO.step rfl (OR.call hs body45 rfl rfl (fsend_src c (fwD2 nv) xb tb2 sb 0 0 none _ (.slice none 0 0) fwD o2 [] _ _ ((hs.perm permK3.symm).view [(sb, o2, false), (xb, fObj c (fwD2 nv) tb2 (ptr sb) (.pointer none) (.pointer none), false)] (by simp) (.cons_cons _ (.cons_cons _ (List.nil_sublist _)))) (hx.mono hlb) hokD (Sl.empty _ _ _) (by omega)) ?_)
  clear hs; rintro _ H w hs hle1 ⟨_, rfl, p1, p2, rfl, hp1, hp2⟩; replace hle := hle.trans hle1; (try replace hlb := hlb.trans hle1)
  rw [e3] at hp1 hp2
  obtain ⟨bp1, cp1, rfl⟩ := hp1.form
  obtain ⟨bp2, cp2, rfl⟩ := hp2.form
  rw [e5]
  replace hlk := hlk.trans hle1
  have hlp := Hp.le.refl H
  refine WO.step rfl (OR.move rfl (WO.step rfl (OR.extract rfl rfl (WO.step rfl (OR.extract rfl rfl (WO.step rfl (OR.alloc hs T45 ?_)))))))
  clear hs; intro g1 w hg1 hs
  refine WO.stepN (OR.storeAll hs T45 rfl rfl rfl rfl rfl ?_)
  clear hs; intro w hs
  refine WO.step rfl (OR.assign rfl (WO.done (WX.seq (WC.seq (WC.region (WO.step rfl (OR.move rfl ?_)))))))
  refine WO.step rfl (OR.call hs body45 rfl rfl (fsend_src c (fwD2 nv) xb tb2 sb 0 1 none _ (.slice none 0 0) fwD o2 [] _ _ (((hs.drop 0).perm permK3.symm).view [(sb, o2, false), (xb, fObj c (fwD2 nv) tb2 (ptr sb) (.pointer none) (.pointer none), false)] (by simp) (.cons_cons _ (.cons_cons _ (List.nil_sublist _)))) (hx.mono hlb) hokD (Sl.empty _ _ _) (by omega)) ?_)
  clear hs; rintro _ H w hs hle1 ⟨_, rfl, q1, q2, rfl, hq1, hq2⟩; replace hle := hle.trans hle1; (try replace hlb := hlb.trans hle1)
  rw [e4] at hq1 hq2
  obtain ⟨bq1, cq1, rfl⟩ := hq1.form
  obtain ⟨bq2, cq2, rfl⟩ := hq2.form
  rw [e5]
  replace hlk := hlk.trans hle1
  replace hlp := hlp.trans hle1
  have hlq := Hp.le.refl H
  refine WO.step rfl (OR.move rfl (WO.step rfl (OR.extract rfl rfl (WO.step rfl (OR.extract rfl rfl (WO.step rfl (OR.alloc hs T45 ?_)))))))
  clear hs; intro g2 w hg2 hs
  refine WO.stepN (OR.storeAll hs T45 rfl rfl rfl rfl rfl ?_)
  clear hs; intro w hs
  refine WO.step rfl (OR.assign rfl (WO.done (WX.seq (WC.seq (WC.region (WO.step rfl (OR.move rfl ?_)))))))
  refine WO.step rfl (OR.loadAll T45 rfl rfl (hs.blk (i := 1) rfl) rfl ?_)
  have hs9 := HS.mtail (A := [_, _, _, _, _, _, _, _]) hs
  refine WO.step rfl (OR.callX (Mx := relMem true fwA rb wb l0) (Mr := [_, _, _, _, _, _, _, _]) hs9 body43 rfl rfl (ftake_ok c2 (fN 2 0) yb ub rb wb 0 _ _ _ fwA l0 ([1, 0], [0, 0, 0]) _ _ (HS.relV (A := [_, _, _, _, _]) (B := [_, _]) hs) (hro.1.mono hlb) okA (by omega) ⟨_, _, rfl, hp1.mono hlp, hp2.mono hlp⟩) rfl (relMem_flags _ _ _ _) ?_)
  clear hs hs9; rintro v H M w hs hle1 hnew ⟨rfl, l1, rfl, hso1⟩
  replace hle := hle.trans hle1
  replace hlb := hlb.trans hle1
  replace hlk := hlk.trans hle1
  replace hlq := hlq.trans hle1
  replace hs := HS.mtail (B := [_, _, _, _, _, _, _, _]) hs
  refine WO.done (WX.seq (WC.seq (WC.region (WO.step rfl (OR.move rfl (WO.step rfl (OR.loadAll T45 rfl rfl (hs.blk (i := 0) rfl) rfl ?_)))))))
  have hs9 := HS.mtail (A := [_, _, _, _, _, _, _, _]) hs
  refine WO.step rfl (OR.callX (Mx := relMem true fwB rb wb l1) (Mr := [_, _, _, _, _, _, _, _]) hs9 body43 rfl rfl (ftake_ok c2 (fN 2 0) yb ub rb wb 0 _ _ _ fwB l1 ([0, 1], [2, 97, 98]) _ _ (HS.relV (A := [_, _, _, _, _]) (B := [_, _]) hs) hso1 okB (by omega) ⟨_, _, rfl, hq1.mono hlq, hq2.mono hlq⟩) rfl (relMem_flags _ _ _ _) ?_)
  clear hs hs9; rintro v H M w hs hle1 hnew ⟨rfl, l2, rfl, hso2⟩
  replace hle := hle.trans hle1
  replace hlb := hlb.trans hle1
  replace hlk := hlk.trans hle1
  replace hs := HS.mtail (B := [_, _, _, _, _, _, _, _]) hs
  rw [show skD fwA 0 false false 0 = skD fwC 0 false false 0 by rw [skD, skD, gA.1, gA.2, gC.1, gC.2]] at hs
  replace hs := ((hs.drop 0).drop 0)
  replace hs : HS [] H0 w0 H ([(xb, fObj c (fwD2 nv) tb2 (ptr sb) (.pointer none) (.pointer none), true), (tb2, toldObj [(1, 0)], true), (sb, o2, true)] ++ fMem c2 (fN 2 0) yb ub (.pointer none) (some ⟨fwC, rb, wb, l2⟩) (some (kb, skD fwC 0 false false 0))) w := hs
  replace hs := HS.mtail hs
  refine WO.done (WX.seq (WC.seq (WC.region (WO.step rfl (OR.move rfl ?_)))))
  refine WO.step rfl (OR.callX (Mx := fMem c2 (fN 2 0) yb ub (.pointer none) (some ⟨fwC, rb, wb, l2⟩) (some (kb, skD fwC 0 false false 0))) (Mr := [_, _, _]) hs body54 rfl rfl (frel_ok c2 (fN 2 0) yb ub kb 0 0 false (.pointer none) ⟨fwC, rb, wb, l2⟩ _ _ (HS.part hs) ⟨hso2, okC⟩ (by show 4 < fwC.g * fwC.s; rw [gC.1, gC.2]; decide) (by decide) (Ints.nil _) (by show 0 ≤ 1000; omega) (fun p hp => by cases hp)) rfl (fMem_flags _ _ _ _ _ _ _) ?_)
  clear hs; rintro v H M w hs hle1 hnew ⟨n, r, e, br, l3, rfl, hr, hgood, hdn, hend, rfl, hro2⟩
  replace hle := hle.trans hle1
  replace hlb := hlb.trans hle1
  replace hlk := hlk.trans hle1
  obtain ⟨rfl, rfl, rfl⟩ := rel_stop (m := 1) hgood hend (good1 fwC_0.1 fwC_0.2.1) (by decide) fwC_0.2.2.2
  rw [show rdyL (RelS.y ⟨fwC, rb, wb, l2⟩) 0 1 = [[97, 98]] by rw [← fwC_0.2.2.1]; rfl] at hr
  have hlr := Hp.le.refl H
  replace hs := HS.mtail hs
  replace hs : HS [] H0 w0 H (fMem c (fwD2 nv) xb tb2 (ptr sb) none none ++ ((sb, o2, true) :: fMem c2 (fN 2 1) yb ub (.pointer none) (workR (fN 2 0) (0 + 1) l3 (some ⟨fwC, rb, wb, l2⟩)) (some (kb, skD fwC 0 false false (0 + 1))))) w := hs
  refine WO.step rfl (OR.move rfl (WO.step rfl (OR.extract rfl rfl (WO.step rfl (OR.extract rfl rfl (WO.step rfl (OR.assign rfl ?_)))))))
  refine WO.step rfl (OR.assign rfl (WO.done (WX.seq (WC.seq (WC.region (WO.step rfl (OR.move rfl ?_)))))))
  refine WO.step rfl (OR.callX (Mx := fMem c (fwD2 nv) xb tb2 (ptr sb) none none) (Mr := (sb, o2, true) :: fMem c2 (fN 2 1) yb ub (.pointer none) (workR (fN 2 0) (0 + 1) l3 (some ⟨fwC, rb, wb, l2⟩)) (some (kb, skD fwC 0 false false (0 + 1)))) hs body39 rfl rfl (fhop_ok c (fwD2 nv) xb tb2 (ptr sb) none none 1 1 _ _ (HS.part (M := fMem c (fwD2 nv) xb tb2 (ptr sb) none none) hs) trivial (Nat.le_refl _) (hnx.mono hlb) (by show 1 ≤ 900; omega) (by show 1 ≤ 1000; omega) (fun p hp => by rw [List.mem_singleton.1 hp]; show 0 ≤ _; omega) (List.mem_singleton.2 rfl) (by omega)) rfl (fMem_flags _ _ _ _ _ _ _) ?_)
  clear hs; rintro v H M w hs hle1 hnew ⟨l9, rfl, rfl, -⟩
  replace hle := hle.trans hle1
  replace hlk := hlk.trans hle1
  replace hlr := hlr.trans hle1
  replace hs : HS [] H0 w0 H ((xb, fObj c (fwD3 nv) tb2 (ptr sb) (.pointer none) (.pointer none), true) :: (tb2, toldObj [(1, 1)], true) :: (sb, o2, true) :: (yb, fObj c2 (fN 2 1) ub (.pointer none) (rlV (workR (fN 2 0) (0 + 1) l3 (some ⟨fwC, rb, wb, l2⟩))) (ptr kb), true) :: (ub, toldObj [], true) :: (skMem (some (kb, skD fwC 0 false false (0 + 1))) ++ rlMem (workR (fN 2 0) (0 + 1) l3 (some ⟨fwC, rb, wb, l2⟩)))) w := hs
  refine WO.done (WX.seq (WC.seq (WC.region (WO.step rfl (OR.move rfl ?_)))))
  refine WO.step rfl (OR.call hs body37 rfl rfl (fbase_ok c (fwD3 nv) xb tb2 _ _ _ _ _ hs.toSub (hs.blk (i := 0) rfl) (hs.nh (i := 0) rfl)) ?_)
  clear hs; rintro _ H w hs hle1 rfl; replace hle := hle.trans hle1; (try replace hlb := hlb.trans hle1)
  replace hlk := hlk.trans hle1
  replace hlr := hlr.trans hle1
  refine WO.step rfl (OR.move rfl (WO.step rfl (OR.extract rfl rfl (WO.step rfl (OR.extract rfl rfl (WO.step rfl (OR.assign rfl ?_)))))))
  refine WO.step rfl (OR.assign rfl (WO.done (WX.seq (WC.seq (WC.region (WO.step rfl (OR.move rfl ?_)))))))
  refine WO.step rfl (OR.call hs body37 rfl rfl (fbase_ok c2 (fN 2 1) yb ub _ _ _ _ _ hs.toSub (hs.blk (i := 3) rfl) (hs.nh (i := 3) rfl)) ?_)
  clear hs; rintro _ H w hs hle1 rfl; replace hle := hle.trans hle1; (try replace hlb := hlb.trans hle1)
  replace hlk := hlk.trans hle1
  replace hlr := hlr.trans hle1
  obtain ⟨b1, c1, rfl⟩ := Sl.form hrk
  obtain ⟨b2, c2', rfl⟩ := hr.form
  obtain ⟨kb1, ko1, rfl, hcr⟩ := hrk.pos (by decide)
  obtain ⟨rb1, ro1, rfl, hcb⟩ := hr.pos (by decide)
  obtain ⟨v97, hv97, hb97⟩ := hcb 0 (by decide)
  refine WO.step rfl (OR.move rfl (WO.step rfl (OR.extract rfl rfl (WO.step rfl (OR.extract rfl rfl (WO.step rfl (OR.assign rfl ?_)))))))
  refine WO.step rfl (OR.assign rfl (WO.done (WX.seq (WC.seq (WC.region (WO.step rfl (OR.move rfl ?_)))))))
  refine WO.step rfl (OR.not rfl (WO.step rfl (OR.move rfl ?_)))
  refine WO.guardYes rfl rfl rfl rfl (OR.move rfl (WO.guardYes rfl rfl rfl rfl (OR.lenSlice T115.und rfl (WO.guardYes rfl rfl rfl rfl (OR.eql rfl rfl (WO.step rfl (OR.pickT rfl rfl rfl ?_)))))))
  refine WO.step rfl (OR.move rfl ?_)
  refine WO.guardYes rfl rfl rfl rfl (OR.move rfl ?_)
  refine WO.guardYes rfl rfl rfl rfl (OR.idxN 0 T115.und T174 rfl rfl rfl (by decide) ?_)
  refine WO.guardYes rfl rfl rfl rfl (OR.loadN (cs := [.int .u64 0, .int .i64 2]) T174 rfl rfl rfl (fun j u hj => hs.cell (hcell.mono hlk (hcr 0 (by decide) j u hj))) ?_)
  refine WO.guardYes rfl rfl rfl rfl (OR.buildAll T174 rfl rfl PL174 rfl rfl ?_)
  refine WO.guardYes rfl rfl rfl rfl (OR.eqlAgg Tryz.eqGuardType174 rfl rfl (rank_eq _ _ _) ?_)
  refine WO.step rfl (OR.pickT rfl rfl rfl (WO.step rfl (OR.move rfl ?_)))
  refine WO.guardYes rfl rfl rfl rfl (OR.move rfl (WO.guardYes rfl rfl rfl rfl (OR.eql rfl rfl (WO.step rfl (OR.pickT rfl rfl rfl (WO.step rfl (OR.move rfl ?_)))))))
  refine WO.guardYes rfl rfl rfl rfl (OR.move rfl (WO.guardYes rfl rfl rfl rfl (OR.lenSlice T40.und rfl (WO.guardYes rfl rfl rfl rfl (OR.eql rfl rfl (WO.step rfl (OR.pickT rfl rfl rfl ?_)))))))
  refine WO.step rfl (OR.move rfl ?_)
  refine WO.guardYes rfl rfl rfl rfl (OR.move rfl ?_)
  refine WO.guardYes rfl rfl rfl rfl (OR.idx 0 T40.und T43 rfl rfl rfl (by decide) ?_)
  refine WO.guardYes rfl rfl rfl rfl (OR.load T43 rfl rfl (hs.cell (hcell.mono hlr hv97)) ?_)
  refine WO.guardYes rfl rfl rfl rfl (OR.toStr hs T43.und T9.und T5.und rfl (hb97.mono hlr) ?_)
  refine WO.guardYes rfl rfl rfl rfl (OR.eqlStr rfl rfl (WO.step rfl (OR.pickT rfl rfl rfl (WO.step rfl (OR.move rfl ?_)))))
  refine WO.guardYes rfl rfl rfl rfl (OR.move rfl (WO.guardYes rfl rfl rfl rfl (OR.eql rfl rfl (WO.step rfl (OR.pickT rfl rfl rfl (WO.step rfl (OR.move rfl ?_)))))))
  refine WO.guardYes rfl rfl rfl rfl (OR.move rfl (WO.step rfl (OR.pickT rfl rfl rfl (WO.step rfl (OR.move rfl ?_)))))
  refine WO.guardYes rfl rfl rfl rfl (OR.move rfl (WO.guardYes rfl rfl rfl rfl (OR.eql rfl rfl (WO.step rfl (OR.pickT rfl rfl rfl (WO.step rfl (OR.move rfl ?_)))))))
  refine WO.guardYes rfl rfl rfl rfl (OR.move rfl (WO.step rfl (OR.pickT rfl rfl rfl (WO.step rfl (OR.assign rfl (WO.done (WX.seq ?_)))))))
  refine WC.ret ?_
  refine WX.ret1 rfl rfl ?_
  exact .mk (hs.sublist (List.nil_sublist _)) rfl
end Go.Bw
namespace Go.Bw
set_option linter.unusedVariables false
set_option linter.unusedSimpArgs false
open Go.Proofs
theorem RowsOk.takeS {H : Hp} {cs : List (Value × Value)} {rs : List RowD} (h : RowsOk H cs rs) (k : Nat) : RowsOk H (cs.take k) (rs.take k) := by
  refine ⟨by simp [h.1], fun i a b => ?_⟩
  simp only [List.length_take] at a b
  simp only [List.getElem_take]
  exact h.2 i (by omega) (by omega)
theorem RowsOk.dropS {H : Hp} {cs : List (Value × Value)} {rs : List RowD} (h : RowsOk H cs rs) (k : Nat) : RowsOk H (cs.drop k) (rs.drop k) := by
  refine ⟨by simp [h.1], fun i a b => ?_⟩
  simp only [List.length_drop] at a b
  simp only [List.getElem_drop]
  exact h.2 (k + i) (by omega) (by omega)
-- left out, for this seat has no braidwork/braidworklaw07.Mix: abbrev mixObj (G S
-- left out, for this seat has no braidworklaw07.BasisOne: theorem one_ok (G S
end Go.Bw
namespace Go.Bw
set_option linter.unusedVariables false
set_option linter.unusedSimpArgs false
open Go.Proofs
theorem HS.relVm {xs : List Nat} {H0 H : Hp} {w0 w : World} {x : RelD} {rb wb yb : Nat} {l : Slots} {A : Mem} {o : Obj} {t : Bool} (hs : HS xs H0 w0 H (A ++ relMem true x rb wb l) w) (hm : (yb, o, t) ∈ A) : HS (Mem.keys (relMem true x rb wb l)) H w H ((yb, o, false) :: relMem true x rb wb l) w := by
  have hy := hs.mem yb o t (List.mem_append_left _ hm)
  refine HS.start _ hs.sub (fun b u q h => ?_) ?_
  · rcases List.mem_cons.1 h with e | h
    · cases e
      exact ⟨hy.1, hy.2.1, fun h => by cases h⟩
    · have h1 := hs.mem b u q (List.mem_append_right _ h)
      exact ⟨h1.1, h1.2.1, fun _ => List.mem_map.2 ⟨_, h, rfl⟩⟩
  · have h1 := hs.nd
    simp only [Mem.keys, List.map_append, List.nodup_append] at h1
    refine List.nodup_cons.2 ⟨fun h9 => h1.2.2 yb (List.mem_map.2 ⟨_, hm, rfl⟩) yb h9 rfl, h1.2.1⟩
end Go.Bw
namespace Go.Bw
set_option linter.unusedVariables false
set_option linter.unusedSimpArgs false
open Go.Proofs
theorem HS.mid {xs : List Nat} {H0 H : Hp} {w0 w : World} {A B C : Mem} (h : HS xs H0 w0 H (A ++ (B ++ C)) w) : HS xs H0 w0 H (B ++ (A ++ C)) w :=
  h.perm (by rw [← List.append_assoc, ← List.append_assoc]; exact List.Perm.append_right _ List.perm_append_comm)
theorem Calls.lift {P : Program} {f : FuncId} {args : Array Value} {xs xs' : List Nat} {H0 H : Hp} {w0 w : World} {Mx Mr : Mem} {C : Value → Hp → Mem → Prop} {R : Ending → World → Prop} (hs : HS xs H0 w0 H (Mx ++ Mr) w) (hc : Calls P f args w (Ret xs' H w C)) (hk : Mem.keys Mx = xs') (ht : ∀ p ∈ Mx, p.2.2 = true)
    (hR : ∀ v H' M' w', HS xs H0 w0 H' (M' ++ Mr) w' → H.le H' → C v H' M' → R (.returned v) w') : Calls P f args w R := by
  refine hc.mono ?_
  rintro e w' ⟨v, H', M', rfl, k, hM, hC⟩
  exact hR v H' M' w' (hs.after k rfl hk ht hM) k.le hC
structure FtD where
  dx : FD
  dy : FD
  txb : Nat
  tyb : Nat
  tzb : Nat
  o : Obj
  X : SrcD
  Ry : RelS
  Rz : RelS
  dl : Nat
  kb : Nat
  Ma : Mem
  Mg : Mem
section
variable {c : CfgD} {i N : Nat} {H0 HB H : Hp} {q : FtD} {st gl : List UInt8} {va vg : Value} {w0 w : World} {sb xb yb zb : Nat}
theorem work_y {R : RelS} {d : FD} {B : Nat} {l : Slots} (h : ¬ (d.idle = true)) : (R.work d B l).y = R.y.moveTo (leastN B d.told) ∧ (R.work d B l).rb = R.rb := by
  unfold RelS.work
  rw [if_neg h]
  exact ⟨rfl, rfl⟩
end
end Go.Bw
