/- What law_FlowKnown needs: laid out of own texts. No condition. -/
import Derived.Test.YtdibepkfgemddaaGreatKFlowKnown1
namespace Go.Bw
set_option linter.unusedVariables false
set_option linter.unusedSimpArgs false
section
variable {P : Program} {n : Nat} {ds : List Deferred} {env : Env} {w : World}
variable {dst : Option Nat} {ty : TypeId} {pos : String} {aft : Array Edge} {gd : Option (Nat × Bool)} {R : Value → World → Prop}
variable {xs : List Nat} {H0 H : Hp} {w0 : World} {M : Mem}
variable {x y u : Operand} {t e : TypeId} {d : TypeDesc} {sz by_ : Nat} {z : Value}
theorem OR.sliceLoG (m : Nat) {k : IntKind} {i : Int} {a : Option Addr} {len cap : Nat} (ht : P.underlying t = some (.slice e)) (he : TI P e d sz by_ z) (hx : look env x = some (.slice a len cap))
    (hy : look env y = some (.int k i)) (hi : i = (m : Int)) (h1 : m ≤ len) (hR : R (.slice (if cap = m then a else a.map (·.add (m * sz))) (len - m) (cap - m)) w) :
    OR P n ds ⟨dst, .slice t x (some y) none none, ty, pos, aft, gd⟩ env w R := by
  subst hi
  refine .run (fun aa ha => ?_) hR
  simp [execOp, ha.look hx, ha.look hy, Instr.sliceAt, run_underlying ht, Instr.slice, Instr.sliceBounds, he.run_size, Instr.sliceBound, asIntOf, h1]
theorem OR.sliceLo (m : Nat) {k : IntKind} {i : Int} {b o len cap : Nat} (ht : P.underlying t = some (.slice e)) (he : TI P e d sz by_ z) (hx : look env x = some (.slice (some ⟨b, o, none⟩) len cap))
    (hy : look env y = some (.int k i)) (hi : i = (m : Int)) (h1 : m ≤ len) (h2 : m < cap) (hR : R (.slice (some ⟨b, o + m * sz, none⟩) (len - m) (cap - m)) w) :
    OR P n ds ⟨dst, .slice t x (some y) none none, ty, pos, aft, gd⟩ env w R :=
  .sliceLoG m ht he hx hy hi h1 (by rw [if_neg (by omega), Option.map_some, add_off]; exact hR)
theorem OR.sliceHiG (m : Nat) {k : IntKind} {i : Int} {a : Option Addr} {len cap : Nat} (ht : P.underlying t = some (.slice e)) (he : TI P e d sz by_ z) (hx : look env x = some (.slice a len cap))
    (hy : look env y = some (.int k i)) (hi : i = (m : Int)) (h1 : m ≤ cap) (hR : R (.slice a m cap) w) :
    OR P n ds ⟨dst, .slice t x none (some y) none, ty, pos, aft, gd⟩ env w R := by
  subst hi
  have h9 : (if cap = 0 then a else a.map (·.add 0)) = a := by
    split
    · rfl
    · cases a with
      | none => rfl
      | some b => rfl
  refine .run (v := .slice a m cap) (w' := w) (fun aa ha => ?_) hR
  simp [execOp, ha.look hx, ha.look hy, Instr.sliceAt, run_underlying ht, Instr.slice, Instr.sliceBounds, he.run_size, Instr.sliceBound, asIntOf, h1]
  intro h0
  rwa [if_neg h0] at h9
theorem OR.sliceHi (m : Nat) {k : IntKind} {i : Int} {b o len cap : Nat} (ht : P.underlying t = some (.slice e)) (he : TI P e d sz by_ z) (hx : look env x = some (.slice (some ⟨b, o, none⟩) len cap))
    (hy : look env y = some (.int k i)) (hi : i = (m : Int)) (h1 : m ≤ cap) (hR : R (.slice (some ⟨b, o, none⟩) m cap) w) :
    OR P n ds ⟨dst, .slice t x none (some y) none, ty, pos, aft, gd⟩ env w R :=
  .sliceHiG m ht he hx hy hi h1 hR

theorem OR.capSlice {base : Option Addr} {m c : Nat} (ht : P.underlying t = some (.slice e)) (hx : look env x = some (.slice base m c)) (hR : R (.int .i64 c) w) :
    OR P n ds ⟨dst, .call { callee := .builtin .cap, args := #[x], argTypes := #[t] }, ty, pos, aft, gd⟩ env w R :=
  .run (fun a ha => by simp [execOp, resolve, invoke, builtin, Builtin.cap_, ha.look hx, run_underlying ht, goInt]) hR

/-- copy into the block that comes first. -/
theorem OR.copy {g o dLen dCap sLen sCap : Nat} {a : Addr} {c : Array Value} {e' t' : TypeId} (hs : HS xs H0 w0 H ((g, .cells c e', true) :: M) w) (news : List Value) (ht : P.underlying t = some (.slice e)) (he : TI P e d sz by_ z)
    (hx : look env x = some (.slice (some ⟨g, o, none⟩) dLen dCap)) (hy : look env y = some (.slice (some a) sLen sCap)) (hl : news.length = Nat.min sLen dLen * sz)
    (hsrc : ∀ j u, news[j]? = some u → w.cell? (a.add j) = some u) (hfit : o + news.length ≤ c.size) (h1 : news.all (·.oneCell') = true)
    (hR : ∀ w', HS xs H0 w0 H ((g, .cells (setL c.toList o news).toArray e', true) :: M) w' → R (.int .i64 (Nat.min sLen dLen : Nat)) w') :
    OR P n ds ⟨dst, .call { callee := .builtin .copy, args := #[x, y], argTypes := #[t, t'] }, ty, pos, aft, gd⟩ env w R := by
  have hg := (hs.mem g (.cells c e') true (by simp)).1
  obtain ⟨w', h2, h3, h4, h5, h6⟩ := run_storeCells_in (P := P) g e' news c o 0 w hg (by simpa using hfit) (List.all_eq_true.1 h1)
  rw [Nat.add_zero, setFrom_list] at h3
  have hld := run_loadCells_list (P := P) w a news hsrc
  rw [hl] at hld
  refine .run (v := .int .i64 (Nat.min sLen dLen : Nat)) (w' := w') (fun aa ha => ?_) (hR w' (hs.write _ h3 h4 h5 h6))
  simp [execOp, resolve, invoke, builtin, Builtin.copy_, ha.look hx, ha.look hy, run_underlying ht, Builtin.lenOf, he.run_size, Builtin.firstCells, hld, h2, goInt]

/-- append(s, make([]T, m)...) where there is no room: a new block. -/
theorem OR.appendZeros {N : Nat} (hN : N ≤ w0.heap.size) {l m cap : Nat} {a : Option Addr} {cs : List Value} {tn : TypeId} (hs : HS xs H0 w0 H M w)
    (ht : P.underlying t = some (.slice e)) (he : TI P e d sz by_ z) (hzs : z.cells.size = sz) (hsz : 0 < sz) (htn : P.underlying tn = some (.int .i64))
    (hx : look env x = some (.slice a l cap)) {i : Int} (hy : look env y = some (.int .i64 i)) (hi : i = (m : Int)) (hl : cs.length = l * sz) (hcs : ∀ b, a = some b → ∀ j u, cs[j]? = some u → w.cell? (b.add j) = some u) (ha0 : a = none → l = 0)
    (hm : 0 < m) (hgrow : cap < l + m) (hbytes : (l + m) * by_ ≤ 140737488355328) (h63 : l + m ≤ 9223372036854775807)
    (hR : ∀ g w' c' Z, N ≤ g → l + m ≤ c' → Z.length = (c' - l) * sz → HS xs H0 w0 H ((g, .cells (cs ++ Z).toArray e, true) :: M) w' → R (.slice (some ⟨g, 0, none⟩) (l + m) c') w') :
    OR P n ds ⟨dst, .call { callee := .builtin .append, args := #[x, y], argTypes := #[t, tn] }, ty, pos, aft, gd⟩ env w R := by
  subst hi
  obtain ⟨inf, hi1, hi2, hi3, hi4⟩ := he.inf
  have hge := grownCap_ge w (l + m) cap e
  have hw : IntKind.i64.wrap (m : Int) = m := wrap_i64 (by omega) (by omega)
  have hneg : ¬ ((m : Int) < 0) := by omega
  have hmb : m * by_ ≤ (l + m) * by_ := Nat.mul_le_mul_right _ (by omega)
  have h48i : ¬ (281474976710656 < (m : Int) * (by_ : Int)) := by
    rw [← Int.natCast_mul]; omega
  have h63' : ¬ (9223372036854775807 < ((l + m : Nat) : Int)) := by omega
  have h48' : ¬ (281474976710656 < Builtin.nextslicecap (l + m) cap * by_) := by
    have := growslice_fits (need := l + m) (old := cap) (by omega) hbytes
    omega
  have hroom : ¬ (l + m ≤ cap) := by omega
  have hzl : ∀ k, (Builtin.zeroCells z.cells k).toList.length = k * sz := fun k => by rw [Array.length_toList, size_zeroCells, hzs]
  have hne : m ≠ 0 → ¬ (m * sz = 0) := fun h => Nat.mul_ne_zero h (by omega)
  have hfc : (Builtin.firstCells sz l (.slice a l cap)).run P w.drew = .ok cs.toArray w.drew := by
    cases a with
    | none =>
      have : cs = [] := List.eq_nil_of_length_eq_zero (by rw [hl, ha0 rfl]; simp)
      subst this
      simp [Builtin.firstCells]
    | some b => exact run_firstCells_some w.drew sz l b l cap cs hl (hcs b rfl)
  have hZ : ∃ Z : List Value, Z.length = (grownCap w (l + m) cap e - l) * sz ∧
      (Builtin.append_ #[t, tn] ty #[.slice a l cap, .int .i64 (m : Int)]).run P w = .ok (.slice (some ⟨w.heap.size, 0, none⟩) (l + m) (grownCap w (l + m) cap e)) (w.drew.alloc (.cells (cs ++ Z).toArray e)) := by
    refine ⟨(Builtin.zeroCells z.cells m).toList ++ (Builtin.zeroCells z.cells (grownCap w (l + m) cap e - (l + m))).toList, ?_, ?_⟩
    · rw [List.length_append, hzl, hzl, ← Nat.add_mul]
      congr 1; omega
    · have e1 : (cs ++ ((Builtin.zeroCells z.cells m).toList ++ (Builtin.zeroCells z.cells (grownCap w (l + m) cap e - (l + m))).toList)).toArray = cs.toArray ++ Builtin.zeroCells z.cells m ++ Builtin.zeroCells z.cells (grownCap w (l + m) cap e - (l + m)) := by
        apply Array.ext'
        simp
      rw [e1]
      have hns : ¬ (m * sz = 0) := hne (by omega)
      have h63'' : ¬ (9223372036854775807 < (l : Int) + (m : Int)) := by omega
      simp [Builtin.append_, run_underlying ht, run_underlying htn, sizeOf, typeInfo, zeroValue, hi1, hi2, hi3, hi4, asInt, asIntOf, hw, hneg, hns, h48i, hroom, h63'', h48', Question.forced, hfc, newRow, grownCap]
  obtain ⟨Z, hZ1, hZ2⟩ := hZ
  exact .run (fun aa ha => execOp_append rfl (by rw [ha.look hx, ha.look hy]; exact hZ2)) (hR _ _ _ Z (Nat.le_trans hN hs.size) (by omega) hZ1 (hs.drew.alloc _))

end
end Go.Bw
namespace Go.Bw
set_option linter.unusedVariables false
set_option linter.unusedSimpArgs false
section
variable {P : Program} {n : Nat} {ds : List Deferred} {env : Env} {w : World}
variable {dst : Option Nat} {ty : TypeId} {pos : String} {aft : Array Edge} {gd : Option (Nat × Bool)} {R : Value → World → Prop}
variable {t e : TypeId} {d : TypeDesc} {sz by_ : Nat} {z : Value}
/-- A call that is done at once. -/
theorem OR.callAt {f : FuncId} {args : List Operand} {vs : List Value} {tys : Array TypeId} {x : Operand} {v : Value} (hx : look env x = some (.func (.func f) #[] #[])) (ha : lookAll env args = some vs)
    (hc : (callFunc f vs.toArray).run P w = .ok (.value v) w) (hR : R v w) : OR P n ds ⟨dst, .call { callee := .value x, args := args.toArray, argTypes := tys }, ty, pos, aft, gd⟩ env w R := by
  refine .run (fun a hs' => ?_) hR
  simp [execOp, resolve, hs'.look hx, Deferred.ofValue, invoke, List.map_toArray, hs'.lookAll _ _ ha, hc]
/-- Two slices in two blocks do not lie over one another. -/
theorem apart_run {f : FuncId} {fn : Func} {tR : TypeId} {g g' o o' l l' c c' : Nat} {cs cs' : Array Value} {e1 e2 : TypeId} (hf : P.funcs[f]? = some fn) (hname : (fn.name == "runtime.NumGoroutine") = false) (hb : fn.body.isNone = true) (hn : Extern.findNext fn = none)
    (he : Extern.find fn = some (Extern.SlicesOverlaps.overlaps #[t, t] #[tR])) (ht : P.underlying t = some (.slice e)) (hi : TI P e d sz by_ z) (hg : w.heap[g]? = some (.cells cs e1)) (hg' : w.heap[g']? = some (.cells cs' e2)) (hne : g ≠ g') (h0 : cs'.size ≠ 0) :
    (callFunc f #[.slice (some ⟨g, o, none⟩) l c, .slice (some ⟨g', o', none⟩) l' c']).run P w = .ok (.value (.bool false)) w := by
  rw [run_callFunc_extern hf hname hb hn he, Lib.run_overlaps_apart w t tR e ht sz (fun w => hi.run_size w) ⟨g, o, none⟩ ⟨g', o', none⟩ l c l' c' hne e1 e2 cs.size cs'.size (by simp [World.shape?, hg]) (by simp [World.shape?, hg']) h0
    (by simp [World.frozen?, hg]) (by simp [World.frozen?, hg])]
  rfl
end
theorem setL_at : ∀ (vs l : List Value) (k : Nat), k + vs.length ≤ l.length → setL l k vs = l.take k ++ vs ++ l.drop (k + vs.length) := by
  intro vs
  induction vs with
  | nil => intro l k _; simp [setL_nil]
  | cons v vs ih =>
    intro l k hk
    simp only [List.length_cons] at hk ⊢
    rw [setL_step, ih _ _ (by simp; omega), List.take_succ_eq_append_getElem (by simp; omega), List.take_set, List.set_eq_of_length_le (by rw [List.length_take]; omega), List.drop_set_of_lt (by omega)]
    simp [Nat.add_comm, Nat.add_left_comm]
end Go.Bw
namespace Go.Bw
set_option linter.unusedVariables false
set_option linter.unusedSimpArgs false
theorem HS.start2 {H : Hp} {w : World} {g g' : Nat} {o o' : Obj} {t' : Bool} (h : Sub H w) (hg : w.heap[g]? = some o) (hn : H g = none) (hg' : w.heap[g']? = some o') (hn' : H g' = none) (hne : g' ≠ g) (ht : t' = false) : HS [g] H w H [(g, o, true), (g', o', t')] w := by
  subst ht
  refine HS.start [g] h (fun q o2 t hm => ?_) (by simp [Mem.keys]; exact Ne.symm hne)
  rcases List.mem_cons.1 hm with e | hm
  · cases e; exact ⟨hg, hn, fun _ => by simp⟩
  · have := List.mem_singleton.1 hm; cases this; exact ⟨hg', hn', fun h => by cases h⟩
end Go.Bw
namespace Go.Bw
set_option linter.unusedVariables false
set_option linter.unusedSimpArgs false
theorem get_take {α : Type} {l : List α} {k j : Nat} {u : α} (h : (l.take k)[j]? = some u) : l[j]? = some u := by
  rw [List.getElem?_take] at h
  split at h
  · exact h
  · cases h
theorem get_drop {α : Type} {l : List α} {k j : Nat} {u : α} (h : (l.drop k)[j]? = some u) : l[k + j]? = some u := by rwa [List.getElem?_drop] at h
theorem cells_at {w : World} {g : Nat} {c : Array Value} {e : TypeId} {fr : Nat × Nat} (hb : w.heap[g]? = some (.cells c e fr)) {o j : Nat} {u : Value} (hj : c.toList[o + j]? = some u) : w.cell? ((⟨g, o, none⟩ : Addr).add j) = some u := by
  rw [add_off]
  simpa [World.cell?, hb] using hj
end Go.Bw
namespace Go.Bw
set_option linter.unusedVariables false
set_option linter.unusedSimpArgs false
theorem natmin {a b c : Nat} (h : (a ≤ b ∧ c = a) ∨ (b ≤ a ∧ c = b)) : Nat.min a b = c := by
  show min a b = c
  omega
end Go.Bw
namespace Go.Bw
set_option linter.unusedVariables false
set_option linter.unusedSimpArgs false
/-- A slice of a whole new block. -/
def MF.sl (N n : Nat) (o : Obj) : MF := ⟨fun v M _ => ∃ g, N ≤ g ∧ v = .slice (some ⟨g, 0, none⟩) n n ∧ M = [(g, o, true)], fun _ _ _ _ _ h => h⟩
/-- A slice that is owned. -/
def MF.own (N : Nat) (e : TypeId) (sz n : Nat) (xs : List Value) : MF := ⟨fun v M _ => Own N e sz v n xs M, fun _ _ _ _ _ h => h⟩
theorem forAllVals_sl {ops : List Oper} {H : Hp} {i N n : Nat} {o : Obj} {Fs : List MF} {env : Env} {M : Mem} {K : Env → Mem → Prop} {d : Nat} (hd : dstOf ops i = some d)
    (h : ∀ g, N ≤ g → forAllVals ops H (i + 1) Fs ((d, .slice (some ⟨g, 0, none⟩) n n) :: env) ((g, o, true) :: M) K) : forAllVals ops H i (MF.sl N n o :: Fs) env M K :=
  forAllVals_cons hd (by rintro v My ⟨g, hg, rfl, rfl⟩; exact h g hg)
end Go.Bw
namespace Go.Bw
set_option linter.unusedVariables false
set_option linter.unusedSimpArgs false
theorem HS.apart {xs : List Nat} {H0 H : Hp} {w0 w : World} {Mo Mr : Mem} {p : Nat × Obj × Bool} (h : HS xs H0 w0 H (Mo ++ (p :: Mr)) w) : ∀ q ∈ Mo, p.1 ≠ q.1 := by
  intro q hq e
  have := h.nd
  simp only [Mem.keys, List.map_append, List.map_cons, List.nodup_append] at this
  exact this.2.2 q.1 (List.mem_map.2 ⟨q, hq, rfl⟩) p.1 (by simp) e.symm
theorem HS.known {xs : List Nat} {H0 H : Hp} {w0 w : World} {Mo Mr : Mem} (h : HS xs H0 w0 H (Mo ++ Mr) w) : ∀ q ∈ Mo, w.heap[q.1]? = some q.2.1 ∧ H q.1 = none :=
  fun _ hq => ⟨(h.mem _ _ _ (List.mem_append_left _ hq)).1, (h.mem _ _ _ (List.mem_append_left _ hq)).2.1⟩
theorem RowsOk.get {H : Hp} {cs : List (Value × Value)} {rs : List RowD} (h : RowsOk H cs rs) (k : Nat) (hk : k < rs.length) :
    ∃ ec ep, (rowCells cs)[k * 2]? = some ec ∧ (rowCells cs)[k * 2 + 1]? = some ep ∧ Bytes H ec rs[k].1 ∧ Bytes H ep rs[k].2 := by
  have hk' : k < cs.length := by rw [h.1]; exact hk
  have h1 := rowCells_get cs k hk'
  exact ⟨cs[k].1, cs[k].2, h1.1, h1.2, (h.2 k hk hk').1, (h.2 k hk hk').2⟩
end Go.Bw
namespace Go.Bw
set_option linter.unusedVariables false
set_option linter.unusedSimpArgs false
theorem Own.mono {N N' : Nat} {e : TypeId} {sz n : Nat} {v : Value} {xs : List Value} {Mo : Mem} (h : Own N e sz v n xs Mo) (hN : N' ≤ N) : Own N' e sz v n xs Mo := by
  obtain ⟨h1, h2 | ⟨g, c, cap, q1, q2, q3, q4, q5, q6⟩⟩ := h
  · exact ⟨h1, .inl h2⟩
  · exact ⟨h1, .inr ⟨g, c, cap, q1, q2, q3, q4, q5, by omega⟩⟩

theorem Sl.takeS {H : Hp} {sz n c : Nat} {b : Option Addr} {xs : List Value} (h : Sl H sz (.slice b n c) n xs) (m : Nat) (hm : m ≤ n) : Sl H sz (.slice b m c) m (xs.take (m * sz)) := by
  obtain ⟨h1, b', c', h2, h3, h4, h5⟩ := h
  cases h2
  have hms := Nat.mul_le_mul_right sz hm
  refine ⟨by rw [List.length_take]; omega, b, c, rfl, by omega, fun hb => ⟨by have := (h4 hb).1; omega, (h4 hb).2⟩, fun a ha => ⟨fun h0 => (h5 a ha).1 (by omega), fun i u hi => (h5 a ha).2 i u (get_take hi)⟩⟩
theorem Sl.dropS {H : Hp} {sz n c : Nat} {b : Option Addr} {xs : List Value} (h : Sl H sz (.slice b n c) n xs) (m : Nat) (hm : m ≤ n) :
    Sl H sz (.slice (if c = m then b else b.map (·.add (m * sz))) (n - m) (c - m)) (n - m) (xs.drop (m * sz)) := by
  obtain ⟨h1, b', c', h2, h3, h4, h5⟩ := h
  cases h2
  have hms := Nat.mul_le_mul_right sz hm
  refine ⟨by rw [List.length_drop, h1, Nat.sub_mul], _, _, rfl, by omega, fun hb => ?_, fun a ha => ?_⟩
  · split at hb
    · rename_i e; omega
    · cases b with
      | none => have := h4 rfl; omega
      | some a => cases hb
  · split at ha
    · rename_i e
      refine ⟨fun h0 => by omega, fun i u hi => ?_⟩
      have := (List.getElem?_eq_some_iff.1 hi).1
      rw [List.length_drop, h1, ← Nat.sub_mul, show n - m = 0 by omega, Nat.zero_mul] at this
      omega
    · cases b with
      | none => cases ha
      | some a0 =>
        simp only [Option.map_some, Option.some.injEq] at ha
        subst ha
        have key : 0 < n - m → (a0.add (m * sz)).spot = none := by
          intro h0
          have h6 := (h5 a0 rfl).1 (by omega)
          unfold Addr.add
          split
          · exact h6
          · rfl
        have hblk : (a0.add (m * sz)).block = a0.block ∧ (a0.add (m * sz)).off = a0.off + m * sz := by
          unfold Addr.add
          split
          · rename_i e; exact ⟨rfl, by rw [e]; rfl⟩
          · exact ⟨rfl, rfl⟩
        refine ⟨key, fun i u hi => ?_⟩
        rw [hblk.1, hblk.2, Nat.add_assoc]
        exact (h5 a0 rfl).2 _ u (get_drop hi)

theorem Own.tt {N : Nat} {e : TypeId} {sz n : Nat} {v : Value} {xs : List Value} {Mo : Mem} (h : Own N e sz v n xs Mo) : ∀ p ∈ Mo, p.2.2 = true := by
  rcases h.2 with ⟨rfl, _⟩ | ⟨g, c, cap, rfl, _⟩ <;> simp

def setFlags : Mem → List Bool → Mem
  | [], _ => []
  | p :: M, [] => (p.1, p.2.1, false) :: setFlags M []
  | p :: M, b :: bs => (p.1, p.2.1, b) :: setFlags M bs
def wKeys : Mem → List Nat
  | [] => []
  | (g, _, true) :: M => g :: wKeys M
  | (_, _, false) :: M => wKeys M
theorem setFlags_keys : ∀ (M : Mem) (bs : List Bool), Mem.keys (setFlags M bs) = Mem.keys M
  | [], _ => rfl
  | p :: M, [] => by simp only [setFlags, Mem.keys, List.map_cons]; exact congrArg _ (setFlags_keys M [])
  | p :: M, b :: bs => by simp only [setFlags, Mem.keys, List.map_cons]; exact congrArg _ (setFlags_keys M bs)
theorem setFlags_mem : ∀ (M : Mem) (bs : List Bool) (g : Nat) (o : Obj) (t : Bool), (g, o, t) ∈ setFlags M bs → ∃ t', (g, o, t') ∈ M
  | [], _, _, _, _, h => by simp [setFlags] at h
  | p :: M, [], g, o, t, h => by
    simp only [setFlags, List.mem_cons] at h
    rcases h with h | h
    · cases h; exact ⟨p.2.2, by simp⟩
    · obtain ⟨t', h'⟩ := setFlags_mem M [] g o t h; exact ⟨t', by simp [h']⟩
  | p :: M, b :: bs, g, o, t, h => by
    simp only [setFlags, List.mem_cons] at h
    rcases h with h | h
    · cases h; exact ⟨p.2.2, by simp⟩
    · obtain ⟨t', h'⟩ := setFlags_mem M bs g o t h; exact ⟨t', by simp [h']⟩
theorem mem_wKeys : ∀ (M : Mem) (g : Nat) (o : Obj), (g, o, true) ∈ M → g ∈ wKeys M
  | [], _, _, h => by simp at h
  | (g', o', true) :: M, g, o, h => by
    rcases List.mem_cons.1 h with h | h
    · cases h; simp [wKeys]
    · simp [wKeys, mem_wKeys M g o h]
  | (g', o', false) :: M, g, o, h => by
    rcases List.mem_cons.1 h with h | h
    · cases h
    · simp [wKeys, mem_wKeys M g o h]
theorem HS.begin {xs : List Nat} {H0 H : Hp} {w0 w : World} {M : Mem} (hs : HS xs H0 w0 H M w) (bs : List Bool) : HS (wKeys (setFlags M bs)) H w H (setFlags M bs) w := by
  refine HS.start _ hs.sub (fun g o t h => ?_) (by rw [setFlags_keys]; exact hs.nd)
  obtain ⟨t', h'⟩ := setFlags_mem M bs g o t h
  have h1 := hs.mem g o t' h'
  exact ⟨h1.1, h1.2.1, fun ht => mem_wKeys _ g o (by rw [← ht]; exact h)⟩
theorem Pure.step {xs : List Nat} {H0 H : Hp} {w0 w w' : World} {M : Mem} {R : Value → Hp → Prop} {e : Ending} (hs : HS xs H0 w0 H M w) (h : Pure H w R e w') : ∃ v H', e = .returned v ∧ HS xs H0 w0 H' M w' ∧ Hp.le H H' ∧ R v H' := by
  obtain ⟨v, H', M', rfl, hk, hM, rfl, hr⟩ := h
  exact ⟨v, H', rfl, hs.after (Mx := []) (Mr := M) hk rfl rfl (by simp) (by simp), hk.le, hr⟩
theorem Ret.step {xs xs' : List Nat} {H0 H : Hp} {w0 w w' : World} {Mx Mr : Mem} {R : Value → Hp → Mem → Prop} {e : Ending} (hs : HS xs H0 w0 H (Mx ++ Mr) w) (h : Ret xs' H w R e w') (hk : Mem.keys Mx = xs') (ht : Mx.all (·.2.2) = true) :
    ∃ v H' M', e = .returned v ∧ HS xs H0 w0 H' (M' ++ Mr) w' ∧ Hp.le H H' ∧ R v H' M' := by
  obtain ⟨v, H', M', rfl, hk', hM, hr⟩ := h
  exact ⟨v, H', M', rfl, hs.after hk' rfl hk (by simpa using ht) hM, hk'.le, hr⟩

/-- A slice of numbers. -/
def Ints (H : Hp) (v : Value) (l : List Int) : Prop := Sl H 1 v l.length (l.map fun i => .int .i64 i)
theorem Ints.mono {H H' : Hp} {v : Value} {l : List Int} (h : Ints H v l) (hle : Hp.le H H') : Ints H' v l := Sl.mono h hle
theorem Ints.nil (H : Hp) : Ints H (.slice none 0 0) [] := Sl.nil H 1
theorem Ints.form {H : Hp} {v : Value} {l : List Int} (h : Ints H v l) : ∃ base cap, v = .slice base l.length cap := Sl.form h
theorem Ints.pos {H : Hp} {l : List Int} {base : Option Addr} {cap : Nat} (h : Ints H (.slice base l.length cap) l) (hn : 0 < l.length) :
    ∃ b o, base = some ⟨b, o, none⟩ ∧ ∀ i (hi : i < l.length), hcell H ⟨b, o + i, none⟩ = some (.int .i64 l[i]) := by
  obtain ⟨b, o, h1, h2⟩ := Sl.pos h hn
  exact ⟨b, o, h1, fun i hi => h2 i _ (by simp [hi])⟩
theorem ints_one (l : List Int) : (l.map fun i => Value.int .i64 i).all (·.oneCell') = true := by
  rw [List.all_eq_true]
  intro v hv
  obtain ⟨b, _, rfl⟩ := List.mem_map.1 hv
  rfl
def MF.ints (l : List Int) : MF := MF.of (fun v H => Ints H v l) fun _ _ _ hle h => Ints.mono h hle
def MF.bytesL (l : List (List UInt8)) : MF := MF.of (fun v H => BytesL H v l) fun _ _ _ hle h => BytesL.mono h hle

end Go.Bw
namespace Go.Bw
set_option linter.unusedVariables false
set_option linter.unusedSimpArgs false
section
variable {P : Program} {n : Nat} {ds : List Deferred} {env : Env} {w : World}
variable {dst : Option Nat} {ty : TypeId} {pos : String} {aft : Array Edge} {gd : Option (Nat × Bool)} {R : Value → World → Prop}
variable {xs : List Nat} {H0 H : Hp} {w0 : World} {M : Mem}
variable {x y u : Operand} {t e : TypeId} {d : TypeDesc} {sz by_ : Nat} {z : Value}
theorem OR.convI {t' : TypeId} {k k' : IntKind} {i : Int} (h1 : P.underlying t = some d) (h2 : P.underlying t' = some (.int k')) (hx : look env x = some (.int k i)) (hR : R (.int k' (k'.wrap i)) w) :
    OR P n ds ⟨dst, .convert t t' x, ty, pos, aft, gd⟩ env w R :=
  .run (fun a ha => by
    simp only [execOp, ha.look hx, convert, Sem.run_bind, run_underlying h1, run_underlying h2, Result.andThen_ok]
    cases d <;> simp [Conv.intToInt]) hR
theorem OR.copyO {g o dLen dCap sLen sCap : Nat} {a : Option Addr} {c : Array Value} {e' t' : TypeId} (hs : HS xs H0 w0 H ((g, .cells c e', true) :: M) w) (news : List Value) (ht : P.underlying t = some (.slice e)) (he : TI P e d sz by_ z)
    (hx : look env x = some (.slice (some ⟨g, o, none⟩) dLen dCap)) (hy : look env y = some (.slice a sLen sCap)) (hl : news.length = Nat.min sLen dLen * sz) (ha0 : a = none → sLen = 0)
    (hsrc : ∀ b, a = some b → ∀ j u, news[j]? = some u → w.cell? (b.add j) = some u) (hfit : o + news.length ≤ c.size) (h1 : news.all (·.oneCell') = true)
    (hR : ∀ w', HS xs H0 w0 H ((g, .cells (setL c.toList o news).toArray e', true) :: M) w' → R (.int .i64 (Nat.min sLen dLen : Nat)) w') :
    OR P n ds ⟨dst, .call { callee := .builtin .copy, args := #[x, y], argTypes := #[t, t'] }, ty, pos, aft, gd⟩ env w R := by
  cases a with
  | some b => exact .copy hs news ht he hx hy hl (hsrc b rfl) hfit h1 hR
  | none =>
    have h0 := ha0 rfl
    subst h0
    have hn : news = [] := List.eq_nil_of_length_eq_zero (by rw [hl, natmin (c := 0) (by omega)]; simp)
    subst hn
    have h9 := hR w (by rw [setL_nil]; simpa using hs)
    rw [natmin (a := 0) (b := dLen) (c := 0) (by omega)] at h9
    refine .run (v := .int .i64 0) (w' := w) (fun aa ha => ?_) h9
    have hmin : Nat.min 0 dLen = 0 := natmin (by omega)
    simp [execOp, resolve, invoke, builtin, Builtin.copy_, ha.look hx, ha.look hy, run_underlying ht, Builtin.lenOf, he.run_size, Builtin.firstCells, hmin, storeCells, goInt]
end
theorem WX.ret3 {P : Program} {n : Nat} {env : Env} {w : World} {f : Func} {C : Ending → World → Prop} {t1 t2 t3 : Nat} {v1 v2 v3 : Value} (hf : f.results = #[.tmp t1, .tmp t2, .tmp t3]) (h1 : env.get t1 = some v1) (h2 : env.get t2 = some v2) (h3 : env.get t3 = some v3)
    (h : C (.returned (.tuple #[v1, v2, v3])) w) : WX P n [] .ret (.fn f C) env w := by
  refine WX.end_ret (vs := fun _ => True) rfl fun a ha => ⟨_, ?_, h⟩
  have g1 := ha.get _ _ h1
  have g2 := ha.get _ _ h2
  have g3 := ha.get _ _ h3
  rw [Array.getD_eq_getD_getElem?] at g1 g2 g3
  simp [results, hf, g1, g2, g3]

/-- Bytes cut or filled up with noughts to a length. -/
def padTo (n : Nat) (l : List UInt8) : List UInt8 := l.take n ++ List.replicate (n - l.length) 0
theorem padTo_length (n : Nat) (l : List UInt8) : (padTo n l).length = n := by simp [padTo]; omega
theorem padTo_cells (n : Nat) (l : List UInt8) : setL (List.replicate n (B 0)) 0 ((l.take n).map B) = (padTo n l).map B := by
  have h : n - ((l.take n).map B).length = n - l.length := by simp; omega
  rw [setL_at _ _ _ (by simp; omega), padTo, Nat.zero_add, List.drop_replicate, h, List.map_append, List.map_replicate, List.take_zero, List.nil_append]
end Go.Bw
namespace Go.Bw
set_option linter.unusedVariables false
set_option linter.unusedSimpArgs false
section
variable {P : Program} {n : Nat} {ds : List Deferred} {env : Env} {w : World}
variable {dst : Option Nat} {ty : TypeId} {pos : String} {aft : Array Edge} {gd : Option (Nat × Bool)} {R : Value → World → Prop}
variable {xs : List Nat} {H0 H : Hp} {w0 : World} {M : Mem}
variable {x y u z' : Operand} {t e : TypeId} {d : TypeDesc} {sz by_ : Nat} {z : Value}
theorem OR.slice2G (m k : Nat) {k1 k2 : IntKind} {i j : Int} {a : Option Addr} {len cap : Nat} (ht : P.underlying t = some (.slice e)) (he : TI P e d sz by_ z) (hx : look env x = some (.slice a len cap))
    (hy : look env y = some (.int k1 i)) (hi : i = (m : Int)) (hu : look env u = some (.int k2 j)) (hj : j = (k : Int)) (h1 : m ≤ k) (h2 : k ≤ cap)
    (hR : R (.slice (if cap = m then a else a.map (·.add (m * sz))) (k - m) (cap - m)) w) :
    OR P n ds ⟨dst, .slice t x (some y) (some u) none, ty, pos, aft, gd⟩ env w R := by
  subst hi hj
  refine .run (fun aa ha => ?_) hR
  simp [execOp, ha.look hx, ha.look hy, ha.look hu, Instr.sliceAt, run_underlying ht, Instr.slice, Instr.sliceBounds, he.run_size, Instr.sliceBound, asIntOf, h1, h2]
theorem OR.slice3G (m k l : Nat) {k1 k2 k3 : IntKind} {i j q : Int} {a : Option Addr} {len cap : Nat} (ht : P.underlying t = some (.slice e)) (he : TI P e d sz by_ z) (hx : look env x = some (.slice a len cap))
    (hy : look env y = some (.int k1 i)) (hi : i = (m : Int)) (hu : look env u = some (.int k2 j)) (hj : j = (k : Int)) (hz : look env z' = some (.int k3 q)) (hq : q = (l : Int)) (h1 : m ≤ k) (h2 : k ≤ l) (h3 : l ≤ cap)
    (hR : R (.slice (if l = m then a else a.map (·.add (m * sz))) (k - m) (l - m)) w) :
    OR P n ds ⟨dst, .slice t x (some y) (some u) (some z'), ty, pos, aft, gd⟩ env w R := by
  subst hi hj hq
  refine .run (fun aa ha => ?_) hR
  simp [execOp, ha.look hx, ha.look hy, ha.look hu, ha.look hz, Instr.sliceAt, run_underlying ht, Instr.slice, Instr.sliceBounds, he.run_size, Instr.sliceBound, asIntOf, h1, h2, h3]
theorem OR.sliceArrHi (m : Nat) {k1 : IntKind} {i : Int} {b len : Nat} (ht : P.underlying t = some (.array len e)) (he : TI P e d sz by_ z) (hx : look env x = some (.pointer (some ⟨b, 0, none⟩)))
    (hy : look env y = some (.int k1 i)) (hi : i = (m : Int)) (h1 : m ≤ len)
    (hR : R (.slice (some ⟨b, 0, none⟩) m len) w) :
    OR P n ds ⟨dst, .slice t x none (some y) none, ty, pos, aft, gd⟩ env w R := by
  subst hi
  have h9 : (if len = 0 then (⟨b, 0, none⟩ : Addr) else (⟨b, 0, none⟩ : Addr).add (0 * sz)) = ⟨b, 0, none⟩ := by
    rw [Nat.zero_mul]; split <;> rfl
  simp only [Nat.zero_mul] at h9
  refine .run (v := .slice (some ⟨b, 0, none⟩) m len) (w' := w) (fun aa ha => ?_) hR
  simp [execOp, ha.look hx, ha.look hy, Instr.sliceAt, run_underlying ht, Instr.sureAddr, Instr.sliceBounds, he.run_size, Instr.sliceBound, asIntOf, h1, asAddr]
  intro h0; rwa [if_neg h0] at h9
theorem OR.sliceArrLo (m : Nat) {k1 : IntKind} {i : Int} {b len : Nat} (ht : P.underlying t = some (.array len e)) (he : TI P e d sz by_ z) (hx : look env x = some (.pointer (some ⟨b, 0, none⟩)))
    (hy : look env y = some (.int k1 i)) (hi : i = (m : Int)) (h1 : m < len)
    (hR : R (.slice (some ⟨b, m * sz, none⟩) (len - m) (len - m)) w) :
    OR P n ds ⟨dst, .slice t x (some y) none none, ty, pos, aft, gd⟩ env w R := by
  subst hi
  have h2 : ¬ len = m := by omega
  refine .run (v := .slice (some ⟨b, m * sz, none⟩) (len - m) (len - m)) (w' := w) (fun aa ha => ?_) hR
  simp [execOp, ha.look hx, ha.look hy, Instr.sliceAt, run_underlying ht, Instr.sureAddr, Instr.sliceBounds, he.run_size, Instr.sliceBound, asIntOf, Nat.le_of_lt h1, asAddr, h2, add_off]
end
theorem HS.beginR {xs : List Nat} {H0 H : Hp} {w0 w : World} {Mo Mr : Mem} (hs : HS xs H0 w0 H (Mr ++ Mo) w) (bs : List Bool) : HS (wKeys (setFlags Mr bs) ++ Mem.keys Mo) H w H (setFlags Mr bs ++ Mo) w := by
  refine HS.start _ hs.sub (fun g o t h => ?_) ?_
  · rcases List.mem_append.1 h with h | h
    · obtain ⟨t', h'⟩ := setFlags_mem Mr bs g o t h
      have h1 := hs.mem g o t' (List.mem_append_left _ h')
      exact ⟨h1.1, h1.2.1, fun ht => List.mem_append_left _ (mem_wKeys _ g o (by rw [← ht]; exact h))⟩
    · have h1 := hs.mem g o t (List.mem_append_right _ h)
      exact ⟨h1.1, h1.2.1, fun _ => List.mem_append_right _ (List.mem_map.2 ⟨_, h, rfl⟩)⟩
  · have := hs.nd
    simp only [Mem.keys, List.map_append] at this ⊢
    have e : (setFlags Mr bs).map (·.1) = Mr.map (·.1) := setFlags_keys Mr bs
    rw [e]
    exact this

theorem Sl.part {H : Hp} {sz n c : Nat} {b : Option Addr} {xs : List Value} (h : Sl H sz (.slice b n c) n xs) (m k : Nat) (h1 : m ≤ k) (h2 : k ≤ n) :
    Sl H sz (.slice (if c = m then b else b.map (·.add (m * sz))) (k - m) (c - m)) (k - m) ((xs.take (k * sz)).drop (m * sz)) := (h.takeS k h2).dropS m h1
/-- A smaller capacity. -/
theorem Sl.cap {H : Hp} {sz n c : Nat} {b : Option Addr} {xs : List Value} (h : Sl H sz (.slice b n c) n xs) (c' : Nat) (h1 : n ≤ c') (h2 : c' ≤ c) : Sl H sz (.slice b n c') n xs := by
  obtain ⟨h3, b', q, h4, h5, h6, h7⟩ := h
  cases h4
  exact ⟨h3, b, c', rfl, h1, fun hb => ⟨(h6 hb).1, by have := (h6 hb).2; omega⟩, h7⟩
theorem Bytes.part {H : Hp} {c : Nat} {b : Option Addr} {l : List UInt8} (h : Bytes H (.slice b l.length c) l) (m k : Nat) (h1 : m ≤ k) (h2 : k ≤ l.length) :
    Bytes H (.slice (if c = m then b else b.map (·.add (m * 1))) (k - m) (c - m)) ((l.drop m).take (k - m)) := by
  have := Sl.part h m k h1 h2
  unfold Bytes
  have e : ((l.drop m).take (k - m)).length = k - m := by simp; omega
  rw [e]
  rw [Nat.mul_one, Nat.mul_one] at this
  rw [Nat.mul_one, ← List.drop_take, List.map_drop, List.map_take]
  exact this
theorem Bytes.cap_le {H : Hp} {c : Nat} {b : Option Addr} {l : List UInt8} (h : Bytes H (.slice b l.length c) l) : l.length ≤ c := by
  obtain ⟨_, b', c', q, h2, _⟩ := h
  cases q
  exact h2

end Go.Bw
namespace Go.Bw
set_option linter.unusedVariables false
set_option linter.unusedSimpArgs false
section
variable {P : Program} {n' : Nat} {ds : List Deferred} {env : Env} {w : World}
variable {dst : Option Nat} {ty : TypeId} {pos : String} {aft : Array Edge} {gd : Option (Nat × Bool)} {R : Value → World → Prop}
variable {xs : List Nat} {H0 H : Hp} {w0 : World} {M : Mem}
variable {x y : Operand} {t e : TypeId} {d : TypeDesc} {by_ : Nat} {z : Value}
theorem zeroCells_one (k : Nat) (h : z.oneCell' = true) : Builtin.zeroCells z.cells k = (List.replicate k z).toArray := by
  rw [one_cells h]
  apply Array.ext
  · simp [size_zeroCells]
  · intro i h1 h2
    simp [Builtin.zeroCells, Nat.mod_one]

/-- append of noughts to a slice that is owned, an element being one cell. -/
theorem OR.appendZ {N n m : Nat} (hN : N ≤ w0.heap.size) {v : Value} {cs : List Value} {Mo : Mem} {tn : TypeId} (hs : HS xs H0 w0 H (Mo ++ M) w) (ho : Own N e 1 v n cs Mo)
    (ht : P.underlying t = some (.slice e)) (he : TI P e d 1 by_ z) (hz : z.oneCell' = true) (htn : P.underlying tn = some (.int .i64))
    (hx : look env x = some v) {i : Int} (hy : look env y = some (.int .i64 i)) (hi : i = (m : Int)) (hbytes : (n + m) * by_ ≤ 140737488355328) (h63 : n + m ≤ 9223372036854775807)
    (hR : ∀ v' w' Mo', HS xs H0 w0 H (Mo' ++ M) w' → Own N e 1 v' (n + m) (cs ++ List.replicate m z) Mo' → R v' w') :
    OR P n' ds ⟨dst, .call { callee := .builtin .append, args := #[x, y], argTypes := #[t, tn] }, ty, pos, aft, gd⟩ env w R := by
  subst hi
  obtain ⟨inf, hi1, hi2, hi3, hi4⟩ := he.inf
  have hw : IntKind.i64.wrap (m : Int) = m := wrap_i64 (by omega) (by omega)
  have hneg : ¬ ((m : Int) < 0) := by omega
  have hmb : m * by_ ≤ (n + m) * by_ := Nat.mul_le_mul_right _ (by omega)
  have h48i : ¬ (281474976710656 < (m : Int) * (by_ : Int)) := by
    rw [← Int.natCast_mul]; omega
  have hzo : (List.replicate m z).all (·.oneCell') = true := by
    rw [List.all_eq_true]; intro u hu; rw [(List.mem_replicate.1 hu).2]; exact hz
  have happ : ∀ ww : World, (if m * 1 = 0 then (pure #[] : Sem (Array Value)) else do pure (Builtin.zeroCells (← zeroValue e).cells m)).run P ww = .ok (List.replicate m z).toArray ww := by
    intro ww
    by_cases h : m = 0
    · subst h; simp
    · rw [if_neg (by omega)]
      simp [he.run_zero, zeroCells_one m hz]
  have hrun : ∀ (b : Option Addr) (cap : Nat), (Builtin.append_ #[t, tn] ty #[.slice b n cap, .int .i64 (m : Int)]).run P w = (if n + m ≤ cap then
      ((match b with | some a => storeCells (a.add (n * 1)) (List.replicate m z) | none => pure ()).run P w).andThen fun _ w' => .ok (.slice b (n + m) cap) w'
      else (Builtin.append_ #[t, tn] ty #[.slice b n cap, .int .i64 (m : Int)]).run P w) := by
    intro b cap
    split
    · rename_i hr
      by_cases hm : m = 0
      · subst hm
        have hw0 : IntKind.i64.wrap 0 = 0 := wrap_i64 (by omega) (by omega)
        have hr' : n ≤ cap := hr
        cases b <;> simp [Builtin.append_, run_underlying ht, run_underlying htn, sizeOf, typeInfo, hi1, hi2, hi3, asInt, asIntOf, hw0, hr']
      · cases b <;> simp [Builtin.append_, run_underlying ht, run_underlying htn, sizeOf, typeInfo, zeroValue, hi1, hi2, hi3, hi4, asInt, asIntOf, hw, hneg, h48i, hr, hm, zeroCells_one m hz]
    · rfl
  have hgrow : ∀ (b : Option Addr) (cap : Nat), cap < n + m → n ≤ cap → cs.length = n * 1 → (∀ a, b = some a → ∀ j u, cs[j]? = some u → w.cell? (a.add j) = some u) → (b = none → n = 0) →
      (Builtin.append_ #[t, tn] ty #[.slice b n cap, .int .i64 (m : Int)]).run P w = .ok (.slice (some ⟨w.heap.size, 0, none⟩) (n + m) (grownCap w (n + m) cap e))
        (w.drew.alloc (.cells (cs.toArray ++ (List.replicate m z).toArray ++ Builtin.zeroCells z.cells (grownCap w (n + m) cap e - (n + m))) e)) := by
    intro b cap hc hnc hl hcs hb0
    have h63' : ¬ (9223372036854775807 < (n : Int) + (m : Int)) := by omega
    have h48' : ¬ (281474976710656 < Builtin.nextslicecap (n + m) cap * by_) := by
      have := growslice_fits (need := n + m) (old := cap) (by omega) hbytes
      omega
    have hroom : ¬ (n + m ≤ cap) := by omega
    have hm0 : ¬ m = 0 := by omega
    have hfc : (Builtin.firstCells 1 n (.slice b n cap)).run P w.drew = .ok cs.toArray w.drew := by
      cases b with
      | none =>
        have : cs = [] := List.eq_nil_of_length_eq_zero (by rw [hl, hb0 rfl])
        subst this
        simp [Builtin.firstCells]
      | some a => exact run_firstCells_some w.drew 1 n a n cap cs hl (hcs a rfl)
    simp [Builtin.append_, run_underlying ht, run_underlying htn, sizeOf, typeInfo, zeroValue, hi1, hi2, hi3, hi4, asInt, asIntOf, hw, hneg, hm0, h48i, hroom, h63', h48', Question.forced, hfc, newRow, grownCap, zeroCells_one m hz]
  have hown : ∀ cap, cs.length = n → Own N e 1 (.slice (some ⟨w.heap.size, 0, none⟩) (n + m) (grownCap w (n + m) cap e)) (n + m) (cs ++ List.replicate m z)
      [(w.heap.size, .cells (cs.toArray ++ (List.replicate m z).toArray ++ Builtin.zeroCells z.cells (grownCap w (n + m) cap e - (n + m))) e, true)] := by
    intro cap hl
    have hge := grownCap_ge w (n + m) cap e
    refine Own.block hge ?_ ?_ (Nat.le_trans hN hs.size)
    · simp only [Array.size_append, List.size_toArray, size_zeroCells, one_cells hz, hl, List.length_replicate]
      simp
      omega
    · simp only [Array.toList_append, List.append_assoc]
      rw [← List.append_assoc]
      have : (n + m) * 1 = (cs ++ List.replicate m z).length := by simp [hl]
      rw [this]
      exact List.take_left
  obtain ⟨hcl, ⟨rfl, ⟨b9, rfl⟩, rfl⟩ | ⟨g, cc, cap, rfl, rfl, hnc, hc, hxs, hg⟩⟩ := ho
  · have hcs : cs = [] := List.eq_nil_of_length_eq_zero (by simpa using hcl)
    subst hcs
    by_cases hm : m = 0
    · subst hm
      have h1 := hrun b9 0
      rw [if_pos (by omega)] at h1
      refine .run (v := .slice b9 0 0) (w' := w) (fun aa ha => execOp_append rfl ?_) (hR _ w [] hs (by simpa using Own.empty N e 1 b9))
      rw [ha.look hx, ha.look hy, h1]
      cases b9 <;> simp [storeCells]
    · have h1 := hgrow b9 0 (by omega) (by omega) rfl (fun a _ j u hj => by simp at hj) (fun _ => rfl)
      exact .run (fun aa ha => execOp_append rfl (by rw [ha.look hx, ha.look hy]; exact h1)) (hR _ _ [_] (hs.drew.alloc _) (hown 0 rfl))
  · have hgb := (hs.mem g (.cells cc e) true (by simp)).1
    have hcl' : cs.length = n := by simpa using hcl
    by_cases hroom : n + m ≤ cap
    · have h1 := hrun (some ⟨g, 0, none⟩) cap
      rw [if_pos hroom] at h1
      have hfit : n + (List.replicate m z).length ≤ cc.size := by rw [List.length_replicate, hc]; omega
      obtain ⟨w', q1, q2, q3, q4, q5⟩ := run_storeCells_in (P := P) g e (List.replicate m z) cc n 0 w hgb (by simpa using hfit) (List.all_eq_true.1 hzo)
      have hs2 := HS.write (g := g) (o := .cells cc e) hs (.cells (setFrom cc n (List.replicate m z)) e) (by simpa using q2) q3 q4 q5
      refine .run (v := .slice (some ⟨g, 0, none⟩) (n + m) cap) (w' := w') (fun aa ha => execOp_append rfl ?_) (hR _ w' [(g, _, true)] hs2 (Own.block hroom (by rw [setFrom_size, hc]) ?_ hg))
      · rw [ha.look hx, ha.look hy, h1]
        simp only [add_off, Nat.mul_one] at q1 ⊢
        simp only [Nat.zero_add, Nat.add_zero] at q1 ⊢
        rw [q1]
        rfl
      · rw [setFrom_list, setL_at _ _ _ (by simpa using hfit), List.take_append, List.take_append]
        have e1 : cc.toList.take n = cs := by rw [← hxs, Nat.mul_one]
        rw [e1]
        simp [hcl']
        exact List.take_of_length_le (by omega)
    · have h1 := hgrow (some ⟨g, 0, none⟩) cap (by omega) hnc hcl (fun a ha j u hj => by
        cases ha
        rw [add_off, ← hxs, List.getElem?_take] at *
        split at hj
        · simpa [World.cell?, hgb] using hj
        · cases hj) (fun h => by cases h)
      have hs2 : HS xs H0 w0 H M w := hs.sublist (List.sublist_append_right _ _)
      exact .run (fun aa ha => execOp_append rfl (by rw [ha.look hx, ha.look hy]; exact h1)) (hR _ _ [_] (hs2.drew.alloc _) (hown cap hcl'))
end
end Go.Bw
namespace Go.Bw
set_option linter.unusedVariables false
set_option linter.unusedSimpArgs false
def Hp.del (H : Hp) (g : Nat) : Hp := fun b => if b = g then none else H b
theorem HS.lent {xs : List Nat} {H0 H H' : Hp} {w0 w w' : World} {M : Mem} {g : Nat} {o : Obj} {t : Bool} (hs : HS xs H0 w0 H ((g, o, t) :: M) w) (k : HS [] (H.put g o) w H' [] w') :
    HS xs H0 w0 (H'.del g) ((g, o, t) :: M) w' ∧ H.le (H'.del g) := by
  have hgm := hs.mem g o t (by simp)
  have hle1 : H.le (H'.del g) := by
    intro b u hb
    have hne : b ≠ g := fun e => by rw [e, hgm.2.1] at hb; cases hb
    unfold Hp.del
    rw [if_neg hne]
    exact k.le b u (by unfold Hp.put; rw [if_neg hne]; exact hb)
  refine ⟨⟨hs.le.trans hle1, ?_, ?_, ?_, Nat.le_trans hs.size k.size, k.os.trans hs.os, k.tape.trans hs.tape, k.out.trans hs.out, ?_, hs.nd⟩, hle1⟩
  · intro b u hb
    unfold Hp.del at hb
    split at hb
    · cases hb
    · exact k.sub b u hb
  · intro b u hb
    unfold Hp.del at hb
    split at hb
    · cases hb
    · rename_i hne
      rcases k.new b u hb with h | h
      · unfold Hp.put at h
        rw [if_neg hne] at h
        exact hs.new b u h
      · exact .inr (Nat.le_trans hs.size h)
  · intro b hb hx
    rw [← hs.keep b hb hx]
    exact k.keep b (Nat.lt_of_lt_of_le hb hs.size) (by simp)
  · intro g' u t' hm
    have h1 := hs.mem g' u t' hm
    refine ⟨?_, ?_, h1.2.2⟩
    · rw [k.keep g' (lt_of_heap h1.1) (by simp)]; exact h1.1
    · unfold Hp.del
      split
      · rfl
      · rename_i hne
        cases hh : H' g' with
        | none => rfl
        | some q =>
          rcases k.new g' q hh with h | h
          · unfold Hp.put at h
            rw [if_neg hne, h1.2.1] at h
            cases h
          · have := lt_of_heap h1.1
            omega
theorem Sub.put {H : Hp} {w : World} {g : Nat} {o : Obj} (h : Sub H w) (hg : w.heap[g]? = some o) : Sub (H.put g o) w := by
  intro b u hb
  unfold Hp.put at hb
  split at hb
  · rename_i e; subst e; rw [← hb]; exact hg
  · exact h b u hb
theorem OR.callL {P : Program} {n : Nat} {ds : List Deferred} {env : Env} {w w0 : World} {dst : Option Nat} {ty : TypeId} {pos : String} {aft : Array Edge} {gd : Option (Nat × Bool)} {R : Value → World → Prop} {xs : List Nat} {H0 H : Hp} {M : Mem} {g : Nat} {o : Obj} {t : Bool}
    {f : FuncId} {args : List Operand} {vs : List Value} {tys : Array TypeId} {x : Operand} {cap first : List Value} {C : Value → Prop}
    (hs : HS xs H0 w0 H ((g, o, t) :: M) w) (hb : Body P f) (hx : look env x = some (.func (.func f) first.toArray cap.toArray)) (ha : lookAll env args = some vs)
    (hc : Calls P f (first ++ vs ++ cap).toArray w (Pure (H.put g o) w fun v _ => C v))
    (hR : ∀ v H' w', HS xs H0 w0 H' ((g, o, t) :: M) w' → H.le H' → C v → R v w') :
    OR P n ds ⟨dst, .call { callee := .value x, args := args.toArray, argTypes := tys }, ty, pos, aft, gd⟩ env w R :=
  .callW hb hx ha hc (by
    rintro e w' ⟨v, H', M', rfl, hk, _, rfl, hC⟩
    obtain ⟨h1, h2⟩ := hs.lent hk
    exact ⟨v, rfl, hR v _ w' h1 h2 hC⟩)
end Go.Bw
namespace Go.Bw
set_option linter.unusedVariables false
set_option linter.unusedSimpArgs false
/-- The guard's operation was passed over. -/
def guardGone (ops : List Oper) (env : Env) (j : Nat) : Bool :=
  match ops[j]? with
  | some o => match o.dst with
    | some d => match env.get d with
      | some (.tuple a) => a.size == 0
      | _ => false
    | none => false
  | none => false

theorem yielded_gone {n : Nat} {ds : List Deferred} {env : Env} {a : Act} {ops : List Oper} (ha : St n ds env a) {j : Nat} (h : guardGone ops env j = true)
    (hn : ∀ o d, ops[j]? = some o → o.dst = some d → Nat.blt d n = true) : yielded ops.toArray a.tmps j = none := by
  unfold guardGone at h
  cases ho : ops[j]? with
  | none => simp [ho] at h
  | some o =>
    cases hd : o.dst with
    | none => simp [ho, hd] at h
    | some d =>
      have hlt : d < n := by simpa [Nat.blt_eq] using hn o d ho hd
      simp only [ho, hd] at h
      split at h
      · rename_i b' hb'
        have hget := ha.get d _ hb'
        have hsz : d < a.tmps.size := by rw [ha.sz]; exact hlt
        rw [Array.getD_eq_getD_getElem?, Array.getElem?_eq_getElem hsz] at hget
        simp at hget
        simp [yielded, ho, hd, Array.getElem?_eq_getElem hsz, hget]
      · simp at h

theorem WO.guardGone {P : Program} {n : Nat} {ds : List Deferred} {env : Env} {w : World} {k : Kont} {op : Op} {ty : TypeId} {pos : String} {aft : Array Edge} {ops : List Oper} {l : List Oper} {d j : Nat} {b : Bool}
    (hb : guardGone ops env j = true) (hj : guardDst ops n j = true)
    (hd : Nat.blt d n = true) (h : WO P n ds ops.toArray l k ((d, undef) :: env) w) : WO P n ds ops.toArray (⟨some d, op, ty, pos, aft, some (j, b)⟩ :: l) k env w := by
  intro a ha
  have hy := yielded_gone ha hb (by intro o' d h1 h2; simpa [guardDst, h1, h2, dstOk] using hj)
  refine wpList_step fun K hK => ?_
  have : ((none : Option Bool) == some b) = false := rfl
  simp only [Region.wanted, hy, this, if_false, Bool.false_eq_true]
  exact hK _ _ (h _ (ha.put hd undef))

/-- A slice of bytes, told as a string's bytes: the block is marked. -/
theorem OR.convText {P : Program} {n : Nat} {ds : List Deferred} {env : Env} {w : World} {dst : Option Nat} {ty : TypeId} {pos : String} {aft : Array Edge} {gd : Option (Nat × Bool)} {R : Value → World → Prop}
    {xs : List Nat} {H0 H : Hp} {w0 : World} {M : Mem} {x : Operand} {t e e' : TypeId} {g len cap : Nat} {c : Array Value} (hs : HS xs H0 w0 H ((g, .cells c e', true) :: M) w)
    (h1 : P.underlying t = some (.slice e)) (h2 : P.underlying e = some (.int .u8)) (hx : look env x = some (.slice (some ⟨g, 0, none⟩) len cap))
    (hR : ∀ w', HS xs H0 w0 H ((g, .cells c e' (c.size, c.size + 1), true) :: M) w' → R (.slice (some ⟨g, 0, none⟩) len cap) w') :
    OR P n ds ⟨dst, .convert t t x, ty, pos, aft, gd⟩ env w R := by
  have hg := (hs.mem g (.cells c e') true (by simp)).1
  have hlt := lt_of_heap hg
  refine .run (w' := w.freeze ⟨g, c.size, none⟩ 1) (fun a ha => ?_) (hR _ (hs.write _ ?_ rfl rfl rfl))
  · simp [execOp, ha.look hx, convert, Sem.run_bind, run_underlying h1, run_underlying h2, Result.andThen_ok, markStringish, World.shape?, hg]
  · simp only [World.freeze, Nat.one_ne_zero, if_false]
    apply Array.ext_getElem?
    intro i
    rw [Array.getElem?_modify, Array.getElem?_setIfInBounds]
    by_cases e : g = i
    · subst e
      have hw : w.heap[g] = .cells c e' := by rw [Array.getElem?_eq_getElem hlt] at hg; exact Option.some.inj hg
      simp [hlt, hw]
    · simp [e]

theorem OR.minI {P : Program} {n : Nat} {ds : List Deferred} {env : Env} {w : World} {dst : Option Nat} {ty : TypeId} {pos : String} {aft : Array Edge} {gd : Option (Nat × Bool)} {R : Value → World → Prop}
    {x y : Operand} {t1 t2 : TypeId} {k k' : IntKind} {i j : Int} (hx : look env x = some (.int k i)) (hy : look env y = some (.int k' j)) (hR : R (.int k (if j < i then j else i)) w) :
    OR P n ds ⟨dst, .call { callee := .builtin .min, args := #[x, y], argTypes := #[t1, t2] }, ty, pos, aft, gd⟩ env w R :=
  .run (fun a ha => by simp [execOp, resolve, invoke, builtin, Builtin.min_, Builtin.min2, ha.look hx, ha.look hy]) hR
end Go.Bw
namespace Go.Bw
set_option linter.unusedVariables false
set_option linter.unusedSimpArgs false
section
variable {P : Program} {n : Nat} {ds : List Deferred} {env : Env} {w : World} {k : Kont} {op : Op} {ty : TypeId} {pos : String} {aft : Array Edge}
theorem args_st {m : Nat} {args : List Value} (ha : Nat.ble args.length m = true) :
    St m [] (argsEnv 0 args) { tmps := args.toArray ++ Array.replicate (m - args.toArray.size) undef, defers := [] } := by
  refine ⟨rfl, ?_, ?_⟩
  · have : args.length ≤ m := Nat.le_of_ble_eq_true ha
    simp; omega
  · intro t v hv
    have := (argsEnv_get 0 args t v hv).2
    simp at this
    rw [Array.getD_eq_getD_getElem?, Array.getElem?_append]
    have hlt : t < args.length := by
      rcases Nat.lt_or_ge t args.length with h | h
      · exact h
      · rw [List.getElem?_eq_none h] at this; cases this
    have h2 : args[t] = v := by rw [List.getElem?_eq_getElem hlt] at this; exact Option.some.inj this
    simp [hlt, h2]

/-- A function that defers. -/
theorem Calls.enterD {f : FuncId} {fn : Func} {c : Code} {args : List Value} {R : Ending → World → Prop} {m : Nat}
    (hf : P.funcs[f]? = some fn) (hb : fn.body = some c) (hm : fn.ntmps = m) (ha : Nat.ble args.length m = true)
    (h : WC P m [] c (.cut (bodyPostD P fn R)) (argsEnv 0 args) w) : Calls P f args.toArray w R := by
  subst hm
  exact calls_of_wp_defers hf hb (h _ (args_st ha))
/-- A deferred call. -/
theorem CallsD.enter {f : FuncId} {fn : Func} {c : Code} {args : List Value} {u : FrameMode} {R : Ending → World → Prop} {m : Nat}
    (hf : P.funcs[f]? = some fn) (hb : fn.body = some c) (hm : fn.ntmps = m) (ha : Nat.ble args.length m = true)
    (h : WC P m [] c (.fn fn R) (argsEnv 0 args) w) : CallsD P f args.toArray u w fun e u' w' => u' = u ∧ R e w' := by
  subst hm
  exact callsD_of_wp hf hb (h _ (args_st ha))

theorem WO.defer {ops : Array Oper} {l : List Oper} {f : FuncId} {args : List Operand} {vs first cap : List Value} {tys : Array TypeId} {x : Operand}
    (hx : look env x = some (.func (.func f) first.toArray cap.toArray)) (ha : lookAll env args = some vs)
    (h : WO P n (⟨.fn (.func f) cap.toArray, (first ++ vs).toArray⟩ :: ds) ops l k env w) :
    WO P n ds ops (⟨none, .defer { callee := .value x, args := args.toArray, argTypes := tys }, ty, pos, aft, none⟩ :: l) k env w := by
  intro a hs
  refine wpList_plain rfl fun K hK => ?_
  have hr : (execOp a.eval ⟨none, .defer { callee := .value x, args := args.toArray, argTypes := tys }, ty, pos, aft, none⟩).run P w = .ok (.defer ⟨.fn (.func f) cap.toArray, (first ++ vs).toArray⟩) w := by
    simp [execOp, resolve, hs.look hx, Deferred.ofValue, List.map_toArray, hs.lookAll _ _ ha]
  show Oper.upon P _ a K _ _
  rw [hr]
  exact hK _ _ (h _ ⟨by show _ :: a.defers = _; rw [hs.dfr], hs.sz, hs.get⟩)

/-- The end, with one deferred call that changes nothing that is known. -/
theorem WX.retD {fn : Func} {R : Ending → World → Prop} {f : FuncId} {dargs cap : List Value} {S : Ending → World → Prop} (hb : Body P f)
    (hc : CallsD P f (dargs ++ cap).toArray .returning w fun e u' w' => u' = .returning ∧ S e w')
    (hS : ∀ e w', S e w' → ∃ v, e = .returned v ∧ ∀ a : Act, (∀ t v, env.get t = some v → a.tmps.getD t undef = v) → ∃ u, (results fn a.tmps).run P w' = .ok u w' ∧ R (.returned u) w') :
    WX P n [⟨.fn (.func f) cap.toArray, dargs.toArray⟩] .ret (.cut (bodyPostD P fn R)) env w := by
  intro a ha
  show Leaves P fn a.tmps R a.defers .returning w
  rw [ha.dfr]
  refine leaves_cons (f := f) (args := (dargs ++ cap).toArray) (by simp) (by simp [invoke, hb _ w]) (hc.mono ?_)
  rintro e u' w' ⟨rfl, hs⟩
  obtain ⟨v, rfl, h⟩ := hS e w' hs
  exact h a ha.get

theorem results_TC {fn : Func} {t u : Nat} {T : TypeId} {v x : Value} {d : TypeDesc} {sz by_ : Nat} {z : Value} {tmps : Array Value} {ad : Addr} (ht : TI P T d sz by_ z) (hd : isAggD d = false) (hf : fn.results = #[.tmp t, .cell u T])
    (hv : tmps.getD t undef = v) (hu : tmps.getD u undef = .pointer (some ad)) (hc : w.cell? ad = some x) : (results fn tmps).run P w = .ok (.tuple #[v, x]) w := by
  rw [Array.getD_eq_getD_getElem?] at hv hu
  simp [results, hf, hv, hu, asAddr, loadVar, ht.run_agg, hd, hc]
end
theorem OR.or {P : Program} {n : Nat} {ds : List Deferred} {env : Env} {w : World} {dst : Option Nat} {ty : TypeId} {pos : String} {aft : Array Edge} {gd : Option (Nat × Bool)} {R : Value → World → Prop}
    {x y : Operand} {tx tyy : TypeId} {k : IntKind} {i j : Int} (hx : look env x = some (.int k i)) (hy : look env y = some (.int k j)) (hR : R (.int k (k.wrap ((BitVec.ofInt k.bits i ||| BitVec.ofInt k.bits j).toNat))) w) :
    OR P n ds ⟨dst, .binOp .or tx x y tyy, ty, pos, aft, gd⟩ env w R :=
  .run (fun a ha => by simp [execOp, ha.look hx, ha.look hy, run_guard_int, binOp, Op.intBits]) hR
theorem or_u64 (a b : Nat) (hb : b < 256) (ha : a * 256 + b < 18446744073709551616) : IntKind.u64.wrap ((BitVec.ofInt IntKind.u64.bits ((a * 256 : Nat) : Int) ||| BitVec.ofInt IntKind.u64.bits ((b : Nat) : Int)).toNat) = ((a * 256 + b : Nat) : Int) := by
  have h3 : a * 256 < 2 ^ 64 := Nat.lt_of_lt_of_eq (Nat.lt_of_le_of_lt (Nat.le_add_right _ b) ha) (by decide)
  have h4 : b < 2 ^ 64 := Nat.lt_of_lt_of_eq (Nat.lt_of_lt_of_le hb (by decide : 256 ≤ 18446744073709551616)) (by decide)
  have h1 : (BitVec.ofInt IntKind.u64.bits ((a * 256 : Nat) : Int) ||| BitVec.ofInt IntKind.u64.bits ((b : Nat) : Int)).toNat = a * 256 + b := by
    show (BitVec.ofInt 64 ((a * 256 : Nat) : Int) ||| BitVec.ofInt 64 ((b : Nat) : Int)).toNat = _
    have h2 : a * 256 % 2 ^ 64 = a * 256 := Nat.mod_eq_of_lt h3
    have h5 : b % 2 ^ 64 = b := Nat.mod_eq_of_lt h4
    rw [BitVec.ofInt_natCast, BitVec.ofInt_natCast, BitVec.toNat_or, BitVec.toNat_ofNat, BitVec.toNat_ofNat, h2, h5]
    have := Nat.shiftLeft_add_eq_or_of_lt (i := 8) (b := b) (by omega) a
    rw [Nat.shiftLeft_eq, show (2 : Nat) ^ 8 = 256 from rfl] at this
    omega
  rw [h1]
  exact IntWalk.u64_in _ (by omega)

/-- New bytes, whatever they are. -/
theorem OR.makeNoZero {P : Program} {n : Nat} {ds : List Deferred} {env : Env} {w : World} {dst : Option Nat} {ty : TypeId} {pos : String} {aft : Array Edge} {gd : Option (Nat × Bool)} {R : Value → World → Prop}
    {xs : List Nat} {H0 H : Hp} {w0 : World} {M : Mem} {x y : Operand} {t e : TypeId} {ps tys : Array TypeId} {f : FuncId} {fn : Func} {m : Nat} (hs : HS xs H0 w0 H M w)
    (hf : P.funcs[f]? = some fn) (hname : (fn.name == "runtime.NumGoroutine") = false) (hb : fn.body.isNone = true) (hn : Extern.findNext fn = none) (he : Extern.find fn = some (Extern.BytealgMakeNoZero.makeNoZero ps #[t]))
    (ht : P.underlying t = some (.slice e)) (hx : look env x = some (.func (.func f) #[] #[])) (hy : look env y = some (.int .i64 (m : Int))) (hm : m ≤ 281474976710656)
    (hR : ∀ g c w', w0.heap.size ≤ g → m ≤ c.size → HS xs H0 w0 H ((g, .cells c e, true) :: M) w' → R (.slice (some ⟨g, 0, none⟩) m c.size) w') :
    OR P n ds ⟨dst, .call { callee := .value x, args := #[y], argTypes := tys }, ty, pos, aft, gd⟩ env w R := by
  obtain ⟨cs, hrun, hle, _⟩ := Lib.run_makeNoZero (P := P) w ps t e ht m hm
  refine .run (w' := w.drew.drew.alloc (.cells cs e)) (fun a ha => ?_) (hR w.heap.size cs _ hs.size hle (hs.drew.drew.alloc (.cells cs e)))
  have hc := run_callFunc_extern hf hname hb hn he #[.int .i64 (m : Int)] w
  rw [hrun] at hc
  simp [execOp, resolve, ha.look hx, ha.look hy, Deferred.ofValue, invoke, hc]
theorem OR.sliceMax {P : Program} {n : Nat} {ds : List Deferred} {env : Env} {w : World} {dst : Option Nat} {ty : TypeId} {pos : String} {aft : Array Edge} {gd : Option (Nat × Bool)} {R : Value → World → Prop}
    {x y u : Operand} {t e : TypeId} {d : TypeDesc} {sz by_ : Nat} {z : Value} (m : Nat) {k : IntKind} {i : Int} {a : Option Addr} {len cap : Nat} (ht : P.underlying t = some (.slice e)) (he : TI P e d sz by_ z) (hx : look env x = some (.slice a len cap))
    (hy : look env y = some (.int k i)) (hu : look env u = some (.int k i)) (hi : i = (m : Int)) (h1 : m ≤ cap) (hR : R (.slice a m m) w) :
    OR P n ds ⟨dst, .slice t x none (some y) (some u), ty, pos, aft, gd⟩ env w R := by
  subst hi
  have h9 : (if m = 0 then a else a.map (·.add 0)) = a := by
    split
    · rfl
    · cases a with
      | none => rfl
      | some a => rfl
  refine .run (fun aa ha => ?_) hR
  simp [execOp, ha.look hx, ha.look hy, ha.look hu, Instr.sliceAt, run_underlying ht, Instr.slice, Instr.sliceBounds, he.run_size, Instr.sliceBound, asIntOf, h1]
  intro h
  rw [if_neg h] at h9
  exact h9
end Go.Bw
namespace Go.Bw
set_option linter.unusedVariables false
set_option linter.unusedSimpArgs false
theorem HS.nh {xs : List Nat} {H0 H : Hp} {w0 w : World} {M : Mem} (h : HS xs H0 w0 H M w) {i g : Nat} {o : Obj} {t : Bool} (hm : nth M i = some (g, o, t)) : H g = none :=
  (h.mem g o t (List.mem_of_getElem? (by rw [← nth_eq]; exact hm))).2.1

section
variable {P : Program} {n : Nat} {ds : List Deferred} {env : Env} {w w0 : World} {dst : Option Nat} {ty : TypeId} {pos : String} {aft : Array Edge} {gd : Option (Nat × Bool)} {R : Value → World → Prop}
variable {xs : List Nat} {H0 H : Hp} {M : Mem} {x y : Operand} {t e : TypeId} {d : TypeDesc} {sz by_ : Nat} {z v : Value}
/-- A new map. -/
theorem OR.makeMap (hs : HS xs H0 w0 H M w) (hR : ∀ g w', w0.heap.size ≤ g → HS xs H0 w0 H ((g, .map #[] 0, true) :: M) w' → R (.map (some g)) w') :
    OR P n ds ⟨dst, .makeMap t none, ty, pos, aft, gd⟩ env w R :=
  .run (v := .map (some w.heap.size)) (w' := w.alloc (.map #[] 0)) (fun a ha => by simp [execOp, Instr.makeMap, newObj, Sem.run]) (hR _ _ hs.size (hs.alloc _))
/-- A key that is new to a map. -/
theorem OR.mapNew {g : Nat} {kt et : TypeId} {clk : Nat} {es : Array MapEntry} {kv u : Value} {z : Operand} (hs : HS xs H0 w0 H ((g, .map es clk, true) :: M) w) (ht : P.underlying t = some (.map kt et)) (hx : look env x = some (.map (some g))) (hy : look env y = some kv) (hz : look env z = some u)
    (hck : ∀ w : World, (Instr.checkKey false 10000 kt kv).run P w = .ok () w) (hfk : ∀ w : World, (Instr.findKey kt kv es.toList).run P w = .ok none w)
    (hR : ∀ w', HS xs H0 w0 H ((g, .map (es.push { key := kv, val := u, born := clk }) (clk + 1), true) :: M) w' → R undef w') :
    OR P n ds ⟨dst, .mapUpdate t x y z, ty, pos, aft, gd⟩ env w R := by
  have hg := (hs.mem g (.map es clk) true (by simp)).1
  have hgo : (getObj g).run P w = .ok (.map es clk) w := by simp [getObj, Sem.run, hg]
  refine .runU (w' := { w with heap := w.heap.setIfInBounds g (.map (es.push { key := kv, val := u, born := clk }) (clk + 1)) }) (fun a ha => ?_) (hR _ (hs.write _ rfl rfl rfl rfl))
  simp [execOp, ha.look hx, ha.look hy, ha.look hz, Instr.mapUpdate, Sem.run_bind, run_underlying ht, hgo, hck, hfk, setObj, Sem.run, hg]
/-- A key that is there gets another value. -/
theorem OR.mapSet {g i : Nat} {kt et : TypeId} {clk : Nat} {es : Array MapEntry} {kv u u0 : Value} {z : Operand} (hs : HS xs H0 w0 H ((g, .map es clk, true) :: M) w) (ht : P.underlying t = some (.map kt et)) (hx : look env x = some (.map (some g))) (hy : look env y = some kv) (hz : look env z = some u)
    (hck : ∀ w : World, (Instr.checkKey false 10000 kt kv).run P w = .ok () w) (hfk : ∀ w : World, (Instr.findKey kt kv es.toList).run P w = .ok (some (i, u0)) w)
    (hks : ∀ w : World, (Instr.keyThatStays (((es[i]?).map (·.key)).getD kv) kv).run P w = .ok kv w)
    (hR : ∀ w', HS xs H0 w0 H ((g, .map (es.modify i fun e => { e with key := kv, val := u }) clk, true) :: M) w' → R undef w') :
    OR P n ds ⟨dst, .mapUpdate t x y z, ty, pos, aft, gd⟩ env w R := by
  have hg := (hs.mem g (.map es clk) true (by simp)).1
  have hgo : (getObj g).run P w = .ok (.map es clk) w := by simp [getObj, Sem.run, hg]
  refine .runU (w' := { w with heap := w.heap.setIfInBounds g (.map (es.modify i fun e => { e with key := kv, val := u }) clk) }) (fun a ha => ?_) (hR _ (hs.write _ rfl rfl rfl rfl))
  simp only [execOp, ha.look hx, ha.look hy, ha.look hz, Instr.mapUpdate, Sem.run_bind, run_underlying ht, hgo, hck, hfk, hks, Result.andThen_ok]
  simp [setObj, Sem.run, hg]
end
end Go.Bw
namespace Go.Bw
set_option linter.unusedVariables false
set_option linter.unusedSimpArgs false
section
variable {P : Program} {n : Nat} {ds : List Deferred} {dst : Option Nat} {t tyy ty : TypeId} {x y : Operand} {pos : String} {aft : Array Edge} {gd : Option (Nat × Bool)} {env : Env} {w : World} {R : Value → World → Prop}
theorem OR.eqlAgg {xs ys : Array Value} {b : Bool} (hm : P.eqGuardType P.depth t = false) (hx : look env x = some (.agg xs)) (hy : look env y = some (.agg ys)) (h : (Op.equalIn 10000 t (.agg xs) (.agg ys)).run P w = .ok b w) (hR : R (.bool b) w) :
    OR P n ds ⟨dst, .binOp .eql t x y tyy, ty, pos, aft, gd⟩ env w R :=
  .run (fun a ha => by simp [execOp, ha.look hx, ha.look hy, run_eqGuard_agg _ _ _ _ _ _ _ hm, run_eql_struct, h]) hR
end
end Go.Bw
namespace Go.Bw
set_option linter.unusedVariables false
set_option linter.unusedSimpArgs false
section
variable {P : Program} {n : Nat} {ds : List Deferred} {env : Env} {w : World} {f : Func} {C : Ending → World → Prop} {s u u2 : Nat} {t T : TypeId} {v x y : Value} {d : TypeDesc} {sz by_ : Nat} {z : Value} {ad : Addr}
theorem results_CT {tmps : Array Value} (ht : TI P T d sz by_ z) (hd : isAggD d = false) (hf : f.results = #[.cell u T, .tmp s])
    (hv : tmps.getD s undef = v) (hu : tmps.getD u undef = .pointer (some ad)) (hc : w.cell? ad = some x) : (results f tmps).run P w = .ok (.tuple #[x, v]) w := by
  rw [Array.getD_eq_getD_getElem?] at hv hu
  simp [results, hf, hv, hu, asAddr, loadVar, ht.run_agg, hd, hc]
theorem results_CC {tmps : Array Value} {T2 : TypeId} {d2 : TypeDesc} {sz2 by2 : Nat} {z2 : Value} {ad2 : Addr} (ht : TI P T d sz by_ z) (hd : isAggD d = false) (ht2 : TI P T2 d2 sz2 by2 z2) (hd2 : isAggD d2 = false) (hf : f.results = #[.cell u T, .cell u2 T2])
    (hu : tmps.getD u undef = .pointer (some ad)) (hc : w.cell? ad = some x) (hu2 : tmps.getD u2 undef = .pointer (some ad2)) (hc2 : w.cell? ad2 = some y) : (results f tmps).run P w = .ok (.tuple #[x, y]) w := by
  rw [Array.getD_eq_getD_getElem?] at hu hu2
  simp [results, hf, hu, hu2, asAddr, loadVar, ht.run_agg, hd, ht2.run_agg, hd2, hc, hc2]

theorem WX.retCTS (ht : TI P T d sz by_ z) (hd : isAggD d = false) (hf : f.results = #[.cell u T, .tmp s]) (hu : env.get u = some (.pointer (some ad))) (hv : env.get s = some v) (hc : w.cell? ad = some x) (h : C (.returned (.tuple #[x, v])) w) : WX P n [] .ret (.fn f C) env w :=
  WX.end_ret (vs := fun _ => True) rfl fun a ha => ⟨_, results_CT ht hd hf (ha.get s _ hv) (ha.get u _ hu) hc, h⟩
end
section
variable {P : Program} {n' : Nat} {ds : List Deferred} {env : Env} {w w0 : World} {dst : Option Nat} {ty : TypeId} {pos : String} {aft : Array Edge} {gd : Option (Nat × Bool)} {R : Value → World → Prop}
variable {xs : List Nat} {H0 H : Hp} {M : Mem} {x y : Operand} {t e : TypeId} {d : TypeDesc} {sz by_ : Nat} {z : Value}
end
end Go.Bw
namespace Go.Bw
set_option linter.unusedVariables false
set_option linter.unusedSimpArgs false
/-- The fence that lets all in, within a round or not. -/
def fen (ro : Option Nat) : Fence := { Fence.wide with round := ro }
section
variable {P : Program} {n : Nat} {ds : List Deferred} {env : Env} {w : World} {k : Kont} {ro : Option Nat}
theorem fen_fenced (P : Program) (ro : Option Nat) (m : Machine) : m.fenced P (fen ro) := fenced_wide P m
theorem callsIn_fen {m : Nat} {f : FuncId} {args : Array Value} {R : Ending → World → Prop} : CallsIn (fen ro) m P f args w R ↔ Calls P f args w R := callsIn_wide (n := m)
theorem stepsIn_fen {m m' : Machine} (h : Steps P m m') : StepsIn (Machine.fenced P (fen ro)) P m m' := (StepsIn.of_steps h).mono fun m _ => fen_fenced P ro m

def notDefer : Op → Bool
  | .defer _ => false
  | _ => true
theorem semAt_fen {o : Oper} (h : notDefer o.op = true) (ρ : Operand → Value) : Oper.semAt (fen ro).round ρ o = execOp ρ o := by
  refine Oper.semAt_eq _ ρ o fun c hc => ?_
  rw [hc] at h
  cases h

theorem upon_fen {o : Oper} {a : Act} {K : Act → World → Prop} {Q : Exit → Act → World → Prop} {r : Result Next} (h : o.upon P a K Q r) : o.uponIn (fen ro) 0 P a K Q r := by
  have hd : (fen ro).depth.isSome = true → 1 ≤ 0 := fun h => by cases h
  cases r with
  | ok nx w' =>
    cases nx with
    | value v => exact h
    | skip => exact h
    | defer d => exact h
    | enter f args =>
      refine ⟨hd, callsIn_fen.2 (Calls.mono h ?_)⟩
      intro e w'' he
      cases e <;> exact he
    | row row args =>
      refine ⟨hd, fun c cs _ => ?_⟩
      obtain ⟨v, w'', h1, h2⟩ := h c cs
      exact ⟨v, w'', h1, stepsIn_fen h2⟩
    | _ => exact False.elim h
  | halt s w' =>
    cases s with
    | panic v => exact h
    | _ => exact False.elim h

/-- What is to be done behind a piece of code, within a round. -/
def Kont.QR (ro : Option Nat) (P : Program) : Kont → Exit → Act → World → Prop
  | .fn _ _ => fun _ _ _ => False
  | .seq y k => Exit.then (fun a w => y.wpIn (fen ro) 0 P (k.QR ro P) a w) (k.QR ro P)
  | .block id k => Exit.inBlock id (k.QR ro P)
  | .loop I k => Exit.then I (k.QR ro P)
  | .scope k => Exit.noGoto (k.QR ro P)
  | .jump l J k => Exit.jump l J (k.QR ro P)
  | .cut X => X

def RC (ro : Option Nat) (P : Program) (n : Nat) (ds : List Deferred) (c : Code) (k : Kont) (env : Env) (w : World) : Prop :=
  ∀ a, St n ds env a → c.wpIn (fen ro) 0 P (k.QR ro P) a w
def RO (ro : Option Nat) (P : Program) (n : Nat) (ds : List Deferred) (ops : Array Oper) (l : List Oper) (k : Kont) (env : Env) (w : World) : Prop :=
  ∀ a, St n ds env a → wpListIn (fen ro) 0 P ops (k.QR ro P) l a w
def RX (ro : Option Nat) (P : Program) (n : Nat) (ds : List Deferred) (e : Exit) (k : Kont) (env : Env) (w : World) : Prop :=
  ∀ a, St n ds env a → k.QR ro P e a w

theorem RC.sub (env' : Env) {c : Code} (hs : env'.subB env) (h : RC ro P n ds c k env' w) : RC ro P n ds c k env w := fun a ha => h a (ha.sub hs.get)
theorem RX.sub (env' : Env) {e : Exit} (hs : env'.subB env) (h : RX ro P n ds e k env' w) : RX ro P n ds e k env w := fun a ha => h a (ha.sub hs.get)
theorem RC.seq {x y : Code} (h : RC ro P n ds x (.seq y k) env w) : RC ro P n ds (.seq x y) k env w := fun a ha => wpIn_seq (h a ha)
theorem RC.skip (h : RX ro P n ds .normal k env w) : RC ro P n ds .skip k env w := fun a ha => wpIn_skip (h a ha)
theorem RC.label {l : Nat} (h : RX ro P n ds .normal k env w) : RC ro P n ds (.label l) k env w := fun a ha => wpIn_label (h a ha)
theorem RC.exit {id : Nat} (h : RX ro P n ds (.exit id) k env w) : RC ro P n ds (.exit id) k env w := fun a ha => wpIn_exit (h a ha)
theorem RC.goto {l : Nat} (h : RX ro P n ds (.goto l) k env w) : RC ro P n ds (.goto l) k env w := fun a ha => wpIn_goto (h a ha)
theorem RC.ret (h : RX ro P n ds .ret k env w) : RC ro P n ds .ret k env w := fun a ha => wpIn_ret (h a ha)
theorem RC.block {id : Nat} {c : Code} (h : RC ro P n ds c (.block id k) env w) : RC ro P n ds (.block id c) k env w := fun a ha => wpIn_block (h a ha)
theorem RC.region {id : Nat} {l : List Oper} (h : RO ro P n ds l.toArray l k env w) : RC ro P n ds (.region id l.toArray false) k env w := fun a ha => wpIn_region_lit (h a ha)
theorem RC.cond {c : Operand} {x y : Code} {t : Bool} (hc : look env c = some (.bool t)) (h1 : t = true → RC ro P n ds x k env w) (h2 : t = false → RC ro P n ds y k env w) : RC ro P n ds (.cond c x y) k env w :=
  fun a ha => wpIn_cond_split (ha.look hc) (fun ht => h1 ht a ha) (fun ht => h2 ht a ha)
theorem RC.condD {c : Operand} {x y : Code} {p : Prop} [Decidable p] (hc : look env c = some (.bool (decide p))) (h1 : p → RC ro P n ds x k env w) (h2 : ¬p → RC ro P n ds y k env w) : RC ro P n ds (.cond c x y) k env w :=
  RC.cond hc (fun h => h1 (of_decide_eq_true h)) (fun h => h2 (of_decide_eq_false h))
theorem RC.yes {c : Operand} {x y : Code} {t : Bool} (hc : look env c = some (.bool t)) (ht : t = true) (h : RC ro P n ds x k env w) : RC ro P n ds (.cond c x y) k env w :=
  fun a ha => wpIn_cond (ha.look hc) (by rw [ht]; exact h a ha)
theorem RC.no {c : Operand} {x y : Code} {t : Bool} (hc : look env c = some (.bool t)) (ht : t = false) (h : RC ro P n ds y k env w) : RC ro P n ds (.cond c x y) k env w :=
  fun a ha => wpIn_cond (ha.look hc) (by rw [ht]; exact h a ha)
theorem RO.done {ops : Array Oper} (h : RX ro P n ds .normal k env w) : RO ro P n ds ops [] k env w := h
theorem RX.seq {y : Code} (h : RC ro P n ds y k env w) : RX ro P n ds .normal (.seq y k) env w := h
theorem RX.seq_exit {y : Code} {id : Nat} (h : RX ro P n ds (.exit id) k env w) : RX ro P n ds (.exit id) (.seq y k) env w := h
theorem RX.seq_goto {y : Code} {l : Nat} (h : RX ro P n ds (.goto l) k env w) : RX ro P n ds (.goto l) (.seq y k) env w := h
theorem RX.seq_ret {y : Code} (h : RX ro P n ds .ret k env w) : RX ro P n ds .ret (.seq y k) env w := h
theorem RX.block {id : Nat} (h : RX ro P n ds .normal k env w) : RX ro P n ds .normal (.block id k) env w := h
theorem RX.block_hit {id : Nat} (h : RX ro P n ds .normal k env w) : RX ro P n ds (.exit id) (.block id k) env w :=
  fun a ha => by show Exit.inBlock id (k.QR ro P) (.exit id) a w; simp only [Exit.inBlock, if_true]; exact h a ha
theorem RX.block_miss {id id' : Nat} (hne : Nat.beq id' id = false) (h : RX ro P n ds (.exit id') k env w) : RX ro P n ds (.exit id') (.block id k) env w :=
  fun a ha => by
    show Exit.inBlock id (k.QR ro P) (.exit id') a w
    have : id' ≠ id := fun e => by rw [e, Nat.beq_refl] at hne; exact Bool.noConfusion hne
    simp only [Exit.inBlock, this, if_false]
    exact h a ha
theorem RX.block_ret {id : Nat} (h : RX ro P n ds .ret k env w) : RX ro P n ds .ret (.block id k) env w := h

section
variable {op : Op} {ty : TypeId} {pos : String} {aft : Array Edge}
theorem RO.step {ops : Array Oper} {l : List Oper} {d : Nat} (hd : Nat.blt d n = true) (hnd : notDefer op = true)
    (h : OR P n ds ⟨some d, op, ty, pos, aft, none⟩ env w fun v w' => RO ro P n ds ops l k ((d, v) :: env) w') : RO ro P n ds ops (⟨some d, op, ty, pos, aft, none⟩ :: l) k env w := by
  intro a ha
  refine wpListIn_plain rfl fun K hK => ⟨fun _ _ => trivial, ?_⟩
  rw [semAt_fen (ro := ro) (o := ⟨some d, op, ty, pos, aft, none⟩) hnd]
  exact upon_fen (h a ha K _ fun v w' hR => hK _ _ (hR _ (ha.put hd v)))
theorem RO.stepN {ops : Array Oper} {l : List Oper} (hnd : notDefer op = true)
    (h : OR P n ds ⟨none, op, ty, pos, aft, none⟩ env w fun _ w' => RO ro P n ds ops l k env w') : RO ro P n ds ops (⟨none, op, ty, pos, aft, none⟩ :: l) k env w := by
  intro a ha
  refine wpListIn_plain rfl fun K hK => ⟨fun _ _ => trivial, ?_⟩
  rw [semAt_fen (ro := ro) (o := ⟨none, op, ty, pos, aft, none⟩) hnd]
  exact upon_fen (h a ha K _ fun v w' hR => hK _ _ (hR _ ha))
theorem RO.guardYes {ops : List Oper} {l : List Oper} {d j : Nat} {b c : Bool} (hb : guardOf ops env j = some c) (hc : c = b) (hj : guardDst ops n j = true)
    (hd : Nat.blt d n = true) (hnd : notDefer op = true) (h : OR P n ds ⟨some d, op, ty, pos, aft, some (j, b)⟩ env w fun v w' => RO ro P n ds ops.toArray l k ((d, v) :: env) w') :
    RO ro P n ds ops.toArray (⟨some d, op, ty, pos, aft, some (j, b)⟩ :: l) k env w := by
  subst hc
  intro a ha
  have hy := yielded_of ha hb (by intro o' d h1 h2; simpa [guardDst, h1, h2, dstOk] using hj)
  refine wpListIn_step fun K hK => ?_
  simp only [Region.wanted, hy, beq_self_eq_true, if_true]
  refine ⟨fun _ _ => trivial, ?_⟩
  rw [semAt_fen (ro := ro) (o := ⟨some d, op, ty, pos, aft, some (j, c)⟩) hnd]
  exact upon_fen (h a ha K _ fun v w' hR => hK _ _ (hR _ (ha.put hd v)))
theorem RO.guardNo {ops : List Oper} {l : List Oper} {d j : Nat} {b c : Bool} (hb : guardOf ops env j = some c) (hc : c = !b) (hj : guardDst ops n j = true)
    (hd : Nat.blt d n = true) (h : RO ro P n ds ops.toArray l k ((d, undef) :: env) w) : RO ro P n ds ops.toArray (⟨some d, op, ty, pos, aft, some (j, b)⟩ :: l) k env w := by
  subst hc
  intro a ha
  have hy := yielded_of ha hb (by intro o' d h1 h2; simpa [guardDst, h1, h2, dstOk] using hj)
  refine wpListIn_step fun K hK => ?_
  have : (some (!b) == some b) = false := by cases b <;> rfl
  simp only [Region.wanted, hy, this, if_false, Bool.false_eq_true]
  exact ⟨fun _ _ => trivial, hK _ _ (h _ (ha.put hd undef))⟩
theorem RO.guardSplit {ops : List Oper} {l : List Oper} {j : Nat} {p : Prop} [Decidable p] (_hb : guardOf ops env j = some (decide p))
    (h1 : p → RO ro P n ds ops.toArray l k env w) (h2 : ¬p → RO ro P n ds ops.toArray l k env w) : RO ro P n ds ops.toArray l k env w := by
  by_cases h : p
  · exact h1 h
  · exact h2 h
end
/-- A region of the walk outside of rounds, by this one. -/
theorem WC.regionR {id : Nat} {l : List Oper} (h : RO none P n ds l.toArray l (.cut (k.Q P)) env w) : WC P n ds (.region id l.toArray false) k env w :=
  fun a ha => wpIn_wide.1 (wpIn_region_lit (h a ha))
theorem RO.doneW {ops : Array Oper} (h : WX P n ds .normal k env w) : RO none P n ds ops [] (.cut (k.Q P)) env w := h

theorem St.param1 {tmps : Array Value} (h : St n [] env { tmps := tmps, defers := [] }) {p : Nat} (hp : Nat.blt p n = true) (v : Value) :
    St n [] ((p, v) :: env) { tmps := ((#[p] : Array Nat).zip #[v]).foldl (fun t (p, v) => t.setIfInBounds p v) tmps, defers := [] } := by
  have := h.put hp v
  simpa [Act.put] using this
theorem St.param2 {tmps : Array Value} (h : St n [] env { tmps := tmps, defers := [] }) {p q : Nat} (hp : Nat.blt p n = true) (hq : Nat.blt q n = true) (v u : Value) :
    St n [] ((q, u) :: (p, v) :: env) { tmps := ((#[p, q] : Array Nat).zip #[v, u]).foldl (fun t (p, v) => t.setIfInBounds p v) tmps, defers := [] } := by
  have := (h.put hp v).put hq u
  simpa [Act.put] using this
theorem HS.mtail {xs : List Nat} {H0 H : Hp} {w0 w : World} {A B : Mem} (h : HS xs H0 w0 H (A ++ B) w) : HS xs H0 w0 H (B ++ A) w := h.perm List.perm_append_comm
/-- What a range over a function keeps of itself. -/
def loopObj (st : LoopState) (pend : Option Code) (fn : FuncId) (tmps : Array Value) (ps : Array Tmp) (assign body : Code) (D : Nat) : Obj :=
  .loop { state := st, pending := pend, fn, tmps, params := ps, assign, body, defers := D }

section
variable {op : Op} {ty : TypeId} {pos : String} {aft : Array Edge} {x : Operand} {args : List Operand} {vs : List Value} {tys : Array TypeId} {lp : Nat} {C : Ending → World → Prop}
/-- A call of yield. -/
theorem RO.yield {ops : Array Oper} {l : List Oper} {d : Nat} (hd : Nat.blt d n = true) (hx : look env x = some (.func (.yield lp) #[] #[])) (ha : lookAll env args = some vs)
    (hy : YieldAt (fen none) 0 P lp vs.toArray w C) (hR : ∀ e w', C e w' → ∃ v, e = .returned v ∧ RO none P n ds ops l k ((d, v) :: env) w') :
    RO none P n ds ops (⟨some d, .call { callee := .value x, args := args.toArray, argTypes := tys }, ty, pos, aft, none⟩ :: l) k env w := by
  intro a hs
  obtain ⟨fn, tmps, assign, body, hrun, hround⟩ := hy
  refine wpListIn_plain rfl fun K hK => ⟨fun _ _ => trivial, ?_⟩
  rw [semAt_fen (ro := none) (o := ⟨some d, .call { callee := .value x, args := args.toArray, argTypes := tys }, ty, pos, aft, none⟩) rfl]
  have he : (execOp a.eval ⟨some d, .call { callee := .value x, args := args.toArray, argTypes := tys }, ty, pos, aft, none⟩).run P w = .ok (.round lp fn tmps assign body) w := by
    simp [execOp, resolve, hs.look hx, Deferred.ofValue, invoke, List.map_toArray, hs.lookAll _ _ ha, hrun]
  rw [he]
  refine ⟨(fun h => by cases h), hround.mono ?_⟩
  intro e w' hC
  obtain ⟨v, rfl, h⟩ := hR e w' hC
  exact hK _ _ (h _ (hs.put hd v))
theorem RO.yieldG {ops : List Oper} {l : List Oper} {d j : Nat} {b c : Bool} (hb : guardOf ops env j = some c) (hc : c = b) (hj : guardDst ops n j = true) (hd : Nat.blt d n = true) (hx : look env x = some (.func (.yield lp) #[] #[])) (ha : lookAll env args = some vs)
    (hy : YieldAt (fen none) 0 P lp vs.toArray w C) (hR : ∀ e w', C e w' → ∃ v, e = .returned v ∧ RO none P n ds ops.toArray l k ((d, v) :: env) w') :
    RO none P n ds ops.toArray (⟨some d, .call { callee := .value x, args := args.toArray, argTypes := tys }, ty, pos, aft, some (j, b)⟩ :: l) k env w := by
  subst hc
  intro a hs
  have hyy := yielded_of hs hb (by intro o' d h1 h2; simpa [guardDst, h1, h2, dstOk] using hj)
  obtain ⟨fn, tmps, assign, body, hrun, hround⟩ := hy
  refine wpListIn_step fun K hK => ?_
  simp only [Region.wanted, hyy, beq_self_eq_true, if_true]
  refine ⟨fun _ _ => trivial, ?_⟩
  rw [semAt_fen (ro := none) (o := ⟨some d, .call { callee := .value x, args := args.toArray, argTypes := tys }, ty, pos, aft, some (j, c)⟩) rfl]
  have he : (execOp a.eval ⟨some d, .call { callee := .value x, args := args.toArray, argTypes := tys }, ty, pos, aft, some (j, c)⟩).run P w = .ok (.round lp fn tmps assign body) w := by
    simp [execOp, resolve, hs.look hx, Deferred.ofValue, invoke, List.map_toArray, hs.lookAll _ _ ha, hrun]
  rw [he]
  refine ⟨(fun h => by cases h), hround.mono ?_⟩
  intro e w' hC
  obtain ⟨v, rfl, h⟩ := hR e w' hC
  exact hK _ _ (h _ (hs.put hd v))
end
section
variable {xs : List Nat} {H0 H : Hp} {w0 : World} {M : Mem} {lp D : Nat} {fn : FuncId} {tmps : Array Value} {ps : Array Tmp} {assign body : Code}
/-- How a round's body may be left. -/
def roundX (xs : List Nat) (H0 : Hp) (w0 : World) (lp : Nat) (fn : FuncId) (tmps : Array Value) (ps : Array Tmp) (assign body : Code) (D : Nat) (R : Ending → World → Prop) : Exit → Act → World → Prop := fun e _ w3 =>
  ∃ H3 M3 pend, (match e with | .normal => pend = none | .ret => pend = some .ret | .exit id => pend = some (.exit id) | .goto t => pend = some (.goto t) | _ => False) ∧
    HS xs H0 w0 H3 ((lp, loopObj .busy none fn tmps ps assign body D, true) :: M3) w3 ∧
    ∀ w4, HS xs H0 w0 H3 ((lp, loopObj (if pend.isNone then .ready else .done) pend fn tmps ps assign body D, true) :: M3) w4 → R (.returned (.bool pend.isNone)) w4
theorem yieldAt {args : List Value} {env' : Env} {R : Ending → World → Prop} (hs : HS xs H0 w0 H ((lp, loopObj .ready none fn tmps ps assign body D, true) :: M) w) (hsz : args.length = ps.size)
    (hst : St n [] env' { tmps := (ps.zip args.toArray).foldl (fun t (p, v) => t.setIfInBounds p v) tmps, defers := [] })
    (hwalk : RC (some lp) P n [] assign (.cut fun e a1 w1 => e = .normal ∧ ∃ env1 H1 M1, St n [] env1 a1 ∧ HS xs H0 w0 H1 ((lp, loopObj .ready none fn tmps ps assign body D, true) :: M1) w1 ∧
      ∀ w2, HS xs H0 w0 H1 ((lp, loopObj .busy none fn tmps ps assign body D, true) :: M1) w2 → RC (some lp) P n [] body (.cut (roundX xs H0 w0 lp fn tmps ps assign body D R)) env1 w2) env' w) :
    YieldAt (fen none) 0 P lp args.toArray w R := by
  have hb := (hs.mem lp (loopObj .ready none fn tmps ps assign body D) true (by simp)).1
  refine ⟨fn, _, assign, body, run_yield hb (by simpa using hsz), roundIn_of_wpIn (F := fen none) trivial ?_⟩
  refine wpIn_mono (hwalk _ hst) ?_
  rintro e a1 w1 ⟨rfl, env1, H1, M1, hst1, hs1, hwk⟩
  have hb1 := (hs1.mem lp (loopObj .ready none fn tmps ps assign body D) true (by simp)).1
  refine ⟨_, run_beginRound hb1 rfl, ?_⟩
  have hs2 : HS xs H0 w0 H1 ((lp, loopObj .busy none fn tmps ps assign body D, true) :: M1) (w1.putObj lp (loopObj .busy none fn tmps ps assign body D)) := hs1.write _ rfl rfl rfl rfl
  refine wpIn_mono (hwk _ hs2 a1 hst1) ?_
  rintro e a3 w3 ⟨H3, M3, pend, hp, hs3, hR⟩
  have hb3 := (hs3.mem lp (loopObj .busy none fn tmps ps assign body D) true (by simp)).1
  have fin : ∀ pe : Option Code, pe = pend → ∃ v w', (Instr.endRound lp pe).run P w3 = .ok v w' ∧ R (.returned v) w' := by
    rintro pe rfl
    exact ⟨_, _, run_endRound pe hb3, hR _ (hs3.write _ rfl rfl rfl rfl)⟩
  cases e with
  | normal => exact fin _ hp.symm
  | ret => exact fin _ hp.symm
  | exit id => exact fin _ hp.symm
  | goto t => exact fin _ hp.symm
  | panic ch => exact False.elim hp
  | outgrown => exact False.elim hp
theorem RC.assigned {R : Ending → World → Prop} (hs : HS xs H0 w0 H ((lp, loopObj .ready none fn tmps ps assign body D, true) :: M) w)
    (h : ∀ w2, HS xs H0 w0 H ((lp, loopObj .busy none fn tmps ps assign body D, true) :: M) w2 → RC (some lp) P n [] body (.cut (roundX xs H0 w0 lp fn tmps ps assign body D R)) env w2) :
    RX (some lp) P n [] .normal (.cut fun e a1 w1 => e = .normal ∧ ∃ env1 H1 M1, St n [] env1 a1 ∧ HS xs H0 w0 H1 ((lp, loopObj .ready none fn tmps ps assign body D, true) :: M1) w1 ∧
      ∀ w2, HS xs H0 w0 H1 ((lp, loopObj .busy none fn tmps ps assign body D, true) :: M1) w2 → RC (some lp) P n [] body (.cut (roundX xs H0 w0 lp fn tmps ps assign body D R)) env1 w2) env w :=
  fun a ha => ⟨rfl, env, H, M, ha, hs, h⟩
/-- The end of a round that goes on; that returns. -/
theorem RX.on {R : Ending → World → Prop} (hs : HS xs H0 w0 H ((lp, loopObj .busy none fn tmps ps assign body D, true) :: M) w)
    (h : ∀ w4, HS xs H0 w0 H ((lp, loopObj .ready none fn tmps ps assign body D, true) :: M) w4 → R (.returned (.bool true)) w4) :
    RX ro P n [] .normal (.cut (roundX xs H0 w0 lp fn tmps ps assign body D R)) env w :=
  fun a ha => ⟨H, M, none, rfl, hs, h⟩
theorem RX.out {R : Ending → World → Prop} (hs : HS xs H0 w0 H ((lp, loopObj .busy none fn tmps ps assign body D, true) :: M) w)
    (h : ∀ w4, HS xs H0 w0 H ((lp, loopObj .done (some .ret) fn tmps ps assign body D, true) :: M) w4 → R (.returned (.bool false)) w4) :
    RX ro P n [] .ret (.cut (roundX xs H0 w0 lp fn tmps ps assign body D R)) env w :=
  fun a ha => ⟨H, M, some .ret, rfl, hs, h⟩

/-- A range over a function. -/
theorem WC.rangeFunc {g : Operand} {gf : Nat} {fl lb : List Value} (hs : HS xs H0 w0 H M w) (hg : look env g = some (.func (.func gf) fl.toArray lb.toArray)) (hb : Body P gf)
    (hcall : ∀ fn tmps D lp w1, w0.heap.size ≤ D → w0.heap.size ≤ lp → St n [] env { tmps := tmps, defers := [] } →
      HS xs H0 w0 H ((lp, loopObj .ready none fn tmps ps assign body D, true) :: (D, .deferred (some []), true) :: M) w1 →
      Calls P gf (fl ++ .func (.yield lp) #[] #[] :: lb).toArray w1 (fun e w3 => (∃ v, e = .returned v) ∧ ∃ H3 M3 st pend, st ≠ .busy ∧ HS xs H0 w0 H3 ((lp, loopObj st pend fn tmps ps assign body D, true) :: M3) w3 ∧
        ∀ w4, HS xs H0 w0 H3 ((lp, loopObj .exhausted pend fn tmps ps assign body D, true) :: M3) w4 →
          (pend = none → WX P n (⟨.collected D, #[]⟩ :: ds) .normal k env w4) ∧ ∀ c, pend = some c → WC P n (⟨.collected D, #[]⟩ :: ds) c k env w4)) :
    WC P n ds (.rangeFunc g ps assign body) k env w := by
  intro a ha
  refine (wpIn_wide (n := 0)).1 (wpIn_rangeFunc ?_)
  intro fn _
  have hsA := (hs.alloc (.deferred (some []))).alloc (loopObj .ready none fn a.tmps ps assign body w.heap.size)
  rw [show (w.alloc (.deferred (some []))).heap.size = w.heap.size + 1 by simp] at hsA
  obtain ⟨W1, hW1⟩ : ∃ W1, (w.alloc (.deferred (some []))).alloc (loopObj .ready none fn a.tmps ps assign body w.heap.size) = W1 := ⟨_, rfl⟩
  rw [hW1] at hsA
  have hst : St n [] env { tmps := a.tmps, defers := [] } := ⟨rfl, ha.sz, ha.get⟩
  have hc := hcall fn a.tmps w.heap.size (w.heap.size + 1) W1 hs.size (Nat.le_succ_of_le hs.size) hst hsA
  refine ⟨w.heap.size + 1, [{ target := .collected w.heap.size, args := #[] }], W1, { target := .fn (.func gf) lb.toArray, args := fl.toArray ++ #[.func (.yield (w.heap.size + 1)) #[] #[]] }, W1, gf,
    (fl ++ .func (.yield (w.heap.size + 1)) #[] #[] :: lb).toArray, W1, (by rw [← hW1]; exact run_enterLoop_outer _ _ _ _ _), ?_, fun _ _ => trivial, ?_, (fun h => by cases h), callsIn_wide.2 (hc.mono ?_)⟩
  · simp only [resolve, rangeCall, ha.look hg]
    simp [go_sem]
  · have e : (fl.toArray ++ #[.func (.yield (w.heap.size + 1)) #[] #[]] ++ lb.toArray : Array Value) = (fl ++ .func (.yield (w.heap.size + 1)) #[] #[] :: lb).toArray := by simp
    simp [invoke, go_sem, e, hb _ _]
  · rintro e w3 ⟨⟨v, rfl⟩, H3, M3, st, pend, hst3, hs3, h⟩
    have hb3 := (hs3.mem (w.heap.size + 1) (loopObj st pend fn a.tmps ps assign body w.heap.size) true (by simp)).1
    obtain ⟨h1, h2⟩ := h (w3.putObj (w.heap.size + 1) (loopObj .exhausted pend fn a.tmps ps assign body w.heap.size)) (hs3.write (loopObj .exhausted pend fn a.tmps ps assign body w.heap.size) rfl rfl rfl rfl)
    have hst4 : St n (⟨.collected w.heap.size, #[]⟩ :: ds) env { a with defers := [{ target := .collected w.heap.size, args := #[] }] ++ a.defers } := ⟨by simp [ha.dfr], ha.sz, ha.get⟩
    refine ⟨pend, _, run_endLoop hb3 hst3, ?_⟩
    cases pend with
    | none => exact h1 rfl _ hst4
    | some c => exact wpIn_wide.2 (h2 c rfl _ hst4)

/-- A function that holds such a range. -/
theorem Calls.enterM {f : FuncId} {fn : Func} {c : Code} {args : List Value} {R : Ending → World → Prop} {m : Nat}
    (hf : P.funcs[f]? = some fn) (hb : fn.body = some c) (hm : fn.ntmps = m) (ha : Nat.ble args.length m = true)
    (h : WC P m [] c (.cut (bodyPostM Fence.wide 0 P fn R)) (argsEnv 0 args) w) : Calls P f args.toArray w R := by
  subst hm
  exact (callsIn_wide (n := 0)).1 (callsIn_of_wp_marks hf hb trivial (wpIn_wide.2 (h _ (args_st ha))))
/-- Its end, ahead of the range, and behind it. -/
theorem WX.retM0 {f : Func} {R : Ending → World → Prop} (hr : ∀ a : Act, (∀ t v, env.get t = some v → a.tmps.getD t undef = v) → ∃ u, (results f a.tmps).run P w = .ok u w ∧ R (.returned u) w) :
    WX P n [] .ret (.cut (bodyPostM Fence.wide 0 P f R)) env w := by
  intro a ha
  show LeavesInM Fence.wide 0 P f a.tmps R a.defers .returning w
  rw [ha.dfr]
  exact hr a ha.get
theorem WX.retM {f : Func} {R : Ending → World → Prop} (hs : HS xs H0 w0 H ((D, .deferred (some []), true) :: M) w)
    (hr : ∀ w', HS xs H0 w0 H ((D, .deferred none, true) :: M) w' → ∀ a : Act, (∀ t v, env.get t = some v → a.tmps.getD t undef = v) → ∃ u, (results f a.tmps).run P w' = .ok u w' ∧ R (.returned u) w') :
    WX P n [⟨.collected D, #[]⟩] .ret (.cut (bodyPostM Fence.wide 0 P f R)) env w := by
  intro a ha
  show LeavesInM Fence.wide 0 P f a.tmps R a.defers .returning w
  rw [ha.dfr]
  have hb := (hs.mem D (.deferred (some [])) true (by simp)).1
  have h9 := hr (w.putObj D (.deferred none)) (hs.write (.deferred none) rfl rfl rfl rfl) a ha.get
  exact ⟨by simp, .inl ⟨D, w.putObj D (.deferred none), rfl, run_takeDeferred hb, h9⟩⟩
end
end
end Go.Bw
namespace Go.Bw
set_option linter.unusedVariables false
set_option linter.unusedSimpArgs false
theorem extract_any {P : Program} (u : Value) (ix : Nat) : (∃ v, ∀ w : World, (Instr.extract u ix).run P w = .ok v w) ∨ ∃ why, Instr.extract u ix = stuck why := by
  cases u with
  | tuple vs =>
    simp only [Instr.extract]
    cases h : vs[ix]? with
    | none => exact .inr ⟨_, rfl⟩
    | some v => exact .inl ⟨v, fun w => rfl⟩
  | _ => exact .inr ⟨_, rfl⟩

def strayOp : Op → Bool
  | .move _ => true
  | .extract _ _ => true
  | _ => false

/-- A move or an extraction that yields something yields it in every world. -/
theorem stray_yields {P : Program} {o : Oper} {a : Act} {w : World} {K : Act → World → Prop} (hop : strayOp o.op = true) (h : o.wp P a w K (fun _ _ _ => False)) :
    ∃ v, (∀ w', (execOp a.eval o).run P w' = .ok (.value v) w') ∧ K (a.put o.dst v) w := by
  obtain ⟨dst, op, ty, pos, aft, gd⟩ := o
  cases op with
  | move x =>
    have hrun : ∀ w', (execOp a.eval (⟨dst, .move x, ty, pos, aft, gd⟩ : Oper)).run P w' = .ok (.value (a.eval x)) w' := fun w' => by simp [execOp]
    refine ⟨_, hrun, ?_⟩
    unfold Oper.wp at h
    rw [hrun] at h
    exact h
  | extract x ix =>
    rcases extract_any (P := P) (a.eval x) ix with ⟨v, hv⟩ | ⟨why, hv⟩
    · have hrun : ∀ w', (execOp a.eval (⟨dst, .extract x ix, ty, pos, aft, gd⟩ : Oper)).run P w' = .ok (.value v) w' := fun w' => by simp [execOp, hv]
      refine ⟨v, hrun, ?_⟩
      unfold Oper.wp at h
      rw [hrun] at h
      exact h
    · exfalso
      have hrun : (execOp a.eval (⟨dst, .extract x ix, ty, pos, aft, gd⟩ : Oper)).run P w = .halt (.stuck why) w := by simp [execOp, hv, stuck]
      unfold Oper.wp at h
      rw [hrun] at h
      exact h
  | _ => cases hop

/-- The late one's shape. -/
def lateOk (ops : List Oper) (m j : Nat) : Bool :=
  Nat.blt j m && (match nth ops j with
    | some o => strayOp o.op && (match o.guard with | none => true | some _ => false)
    | none => false) && Region.noSelect ops.toArray && Region.free .any ops.toArray (((List.range ops.length).map fun i => Nat.blt i m && !Nat.beq i j).toArray) j

section
variable {P : Program} {n : Nat} {ds : List Deferred} {ops : List Oper} {env : Env}
variable {xs : List Nat} {H0 H : Hp} {w0 : World} {M : Mem} {Fs : List MF}
theorem wpAny_firstL {k : Kont} {j : Nat} (hk : k.flat = true) (hlate : lateOk ops Fs.length j = true) (hsh : Shape ops Fs.length n env [j]) (howed : ∀ (i : Nat) (o : Oper) (F : MF), nth ops i = some o → nth Fs i = some F →
    ∀ Mx H' w', Hp.le H H' → HS xs H0 w0 H' (Mx ++ M) w' → forVals ops Fs H' (uniq (leans o)) env fun env' =>
      ORg P n ds ops o env' w' fun v w'' => ∃ H'' My, Hp.le H' H'' ∧ HS xs H0 w0 H'' (My ++ (Mx ++ M)) w'' ∧ F.F v My H'')
    (hfin : ∀ H' w', Hp.le H H' → forAllVals ops H' 0 Fs env M fun env' M' => HS xs H0 w0 H' M' w' → ∀ a, St n ds env' a → wpList P ops.toArray (k.Q P) (ops.drop Fs.length) a w') :
    ∀ (fuel : Nat) (L : Array Bool) (l : List Nat) (a : Act) (w : World) (H' : Hp) (Mx : Mem) (my : Nat → Mem), DInv n ds xs H0 w0 H M ops Fs env L a w H' Mx my →
      (∀ i, i < Fs.length → L.getD i true = false → i ∈ l) → l.length + (ops.length - Fs.length) ≤ fuel → wpAny P .any ops.toArray (k.Q P) fuel L a w := by
  unfold lateOk at hlate
  simp only [Bool.and_eq_true] at hlate
  obtain ⟨⟨⟨hjm, hjop⟩, hsel⟩, hfree⟩ := hlate
  have hjm : j < Fs.length := by simpa [Nat.blt_eq] using hjm
  have hm := hsh.le
  have hsome : ∃ o, nth ops j = some o ∧ strayOp o.op = true ∧ o.guard = none := by
    cases ho : nth ops j with
    | none => rw [ho] at hjop; cases hjop
    | some o =>
      rw [ho] at hjop
      simp only [Bool.and_eq_true] at hjop
      refine ⟨o, rfl, hjop.1, ?_⟩
      have h2 := hjop.2
      cases hg : o.guard with
      | none => rfl
      | some g => rw [hg] at h2; cases h2
  obtain ⟨oj, hoj, hstray, hguard⟩ := hsome
  -- once the late one is done
  have done : ∀ (fuel : Nat) (L : Array Bool) (l : List Nat) (a : Act) (w : World) (H' : Hp) (Mx : Mem) (my : Nat → Mem), L.getD j false = true → DInv n ds xs H0 w0 H M ops Fs env L a w H' Mx my →
      (∀ i, i < Fs.length → L.getD i true = false → i ∈ l) → l.length + (ops.length - Fs.length) ≤ fuel → wpAny P .any ops.toArray (k.Q P) fuel L a w := by
    intro fuel L l a w H' Mx my hj D hl hf
    exact wpAny_firstM (H := H) hsh howed hfin fuel L l a w H' Mx my (fun q hq => by rw [List.mem_singleton.1 hq]; exact hj) D hl hf
  intro fuel
  induction fuel with
  | zero =>
    intro L l a w H' Mx my D hl hlen
    refine done 0 L l a w H' Mx my ?_ D hl hlen
    have hl0 : l = [] := List.eq_nil_of_length_eq_zero (by omega)
    have hsz := D.sz
    rw [getD_of_lt (by omega) false true]
    cases h : L.getD j true with
    | true => rfl
    | false => have := hl j hjm h; rw [hl0] at this; cases this
  | succ fuel ih =>
    intro L l a w H' Mx my D hl hlen
    have D0 := D
    obtain ⟨hcl, hperm, hsz, hrest, hle, hs, ha, hf⟩ := D
    cases hLj : L.getD j true with
    | true =>
      refine done _ L l a w H' Mx my ?_ D0 hl hlen
      rw [getD_of_lt (by omega) false true]
      exact hLj
    | false =>
    have hFj : nth Fs j = some Fs[j] := by rw [nth_eq, List.getElem?_eq_getElem hjm]
    obtain ⟨dj, hdj, hdjn, hdjenv, hdjd⟩ := hsh.dst j oj hoj hjm
    by_cases hall : ∀ i, i < Fs.length → i ≠ j → L.getD i true = true
    · -- all others done: the late one is taken first
      have hL : L = ((List.range ops.length).map fun i => Nat.blt i Fs.length && !Nat.beq i j).toArray := by
        apply Array.ext
        · simp [hsz]
        · intro i h1 h2
          have e1 : L[i] = L.getD i true := by simp [Array.getD_eq_getD_getElem?, h1]
          rw [e1]
          simp only [List.getElem_toArray, List.getElem_map, List.getElem_range]
          by_cases e : i = j
          · subst e
            rw [hLj]
            simp
          · have hb : Nat.beq i j = false := by
              cases hb : Nat.beq i j with
              | false => rfl
              | true => exact absurd (Nat.eq_of_beq_eq_true hb) e
            rw [hb]
            rcases Nat.lt_or_ge i Fs.length with h4 | h4
            · rw [hall i h4 e]
              simp [h4]
            · rw [hrest i (by omega) h4]
              have hb2 : Nat.blt i Fs.length = false := by
                rw [Bool.eq_false_iff]
                intro h
                rw [Nat.blt_eq] at h
                omega
              rw [hb2]
              rfl
      have hready : j ∈ Region.ready .any ops.toArray L := by
        refine ready_iff.2 ⟨oj, hoj, hLj, ?_⟩
        intro e he hb
        have h3 := hsh.back j oj hoj e he hb
        rw [getD_of_lt (by omega) false true]
        exact hall e.on (by omega) (by omega)
      obtain ⟨o', ho', hr2, hr3⟩ := ready_iff.1 hready
      rw [hoj] at ho'
      cases ho'
      obtain ⟨env', hst, horg⟩ := forVals_elim (n := n) (ds := ds) (a := a) _ _ (howed j oj Fs[j] hoj hFj Mx H' w hle hs) ha (by
        intro i hi o' F' d' ho' hF' hd'
        obtain ⟨e, he, hb, hon⟩ := hsh.lean j oj hoj hjm i hi
        have h5 := hr3 e he hb
        have h6 := hsh.back j oj hoj e he hb
        rw [hon] at h5 h6
        rw [getD_of_lt (by omega) false true] at h5
        exact ⟨my i, hf i F' d' hF' (by simp [dstOf, ho', hd']) h5⟩)
      have hw : Region.wanted oj (yielded ops.toArray a.tmps) = true := by simp [Region.wanted, hguard]
      have hq := horg a hst (fun a' w' => ∃ v H'' My, a' = a.put oj.dst v ∧ Hp.le H' H'' ∧ HS xs H0 w0 H'' (My ++ (Mx ++ M)) w' ∧ Fs[j].F v My H'') (fun _ _ _ => False)
        (fun v w' ⟨H'', My, q1, q2, q3⟩ => ⟨v, H'', My, rfl, q1, q2, q3⟩)
      rw [if_pos hw] at hq
      obtain ⟨v, hrun, v2, H'', My, e, q1, q2, q3⟩ := stray_yields hstray hq
      have hv : v2 = v := by
        rw [hdj] at e
        have e1 : (a.put (some dj) v).tmps.getD dj undef = (a.put (some dj) v2).tmps.getD dj undef := by rw [e]
        have := e1.symm
        simpa [Act.put, Array.getD_eq_getD_getElem?, ha.sz, hdjn] using this
      subst hv
      have hD := D0.step hsh hoj hjm hFj hr2 hr3 q1 q2 q3
      have hy : Yields P ops.toArray oj v2 a := .inl ⟨hw, hrun⟩
      have ho2 := hoj
      rw [nth_eq] at ho2
      have hjl := hl j hjm hLj
      have hpos := List.length_pos_of_mem hjl
      refine wpAny_take (Q := k.Q P) (by simpa using ho2) hsel (by rw [hL]; exact hfree) (by simpa using hready) (fun c a w => Kont.panic_put k hk) hy ?_
      refine done fuel _ (l.erase j) _ w _ _ _ ?_ hD ?_ ?_
      · simp [Array.getD_eq_getD_getElem?, hsz, show j < ops.length by omega]
      · intro i hi hi2
        by_cases e : i = j
        · subst e
          simp [hsz, show i < ops.length by omega] at hi2
        · simp only [Array.getD_eq_getD_getElem?, Array.getElem?_setIfInBounds, show ¬ j = i from fun h => e h.symm, if_false] at hi2
          exact (List.mem_erase_of_ne e).2 (hl i hi (by rw [Array.getD_eq_getD_getElem?]; exact hi2))
      · rw [List.length_erase_of_mem hjl]
        omega
    · have hexj : ∃ i, i < Fs.length ∧ i ≠ j ∧ L.getD i true = false := by
        refine Classical.byContradiction fun hno => hall fun i hi hne => ?_
        cases h : L.getD i true with
        | true => rfl
        | false => exact absurd ⟨i, hi, hne, h⟩ hno
      have hex : ∃ i, i < Fs.length ∧ L.getD i true = false ∧ ∀ j, j < i → L.getD j true = true := by
        clear ih hf ha hs D0 done
        obtain ⟨i, hi0, hine, hi1⟩ := hexj
        have hi : i < Fs.length ∧ L.getD i true = false := ⟨hi0, hi1⟩
        clear hi0 hi1 hine
        induction i using Nat.strongRecOn with
        | _ i ihi =>
          by_cases hj : ∀ j, j < i → L.getD j true = true
          · exact ⟨i, hi.1, hi.2, hj⟩
          · have : ∃ j, j < i ∧ L.getD j true = false := by
              refine Classical.byContradiction fun hno => hj fun j hji => ?_
              cases h : L.getD j true with
              | true => rfl
              | false => exact absurd ⟨j, hji, h⟩ hno
            obtain ⟨j, hji, hj2⟩ := this
            exact ihi j hji ⟨by omega, hj2⟩
      refine ⟨?_, ?_⟩
      · intro hr
        exfalso
        obtain ⟨i, hi, h1, h2⟩ := hex
        have hio : i < ops.length := by omega
        have : i ∈ Region.ready .any ops.toArray L := by
          refine ready_iff.2 ⟨ops[i], by rw [nth_eq, List.getElem?_eq_getElem hio], h1, ?_⟩
          intro e he hb
          have h3 := hsh.back i ops[i] (by rw [nth_eq, List.getElem?_eq_getElem hio]) e he hb
          rw [getD_of_lt (by omega) false true]
          exact h2 e.on h3
        rw [hr] at this
        cases this
      · intro i hi
        obtain ⟨o, h1, h2, h3⟩ := ready_iff.1 hi
        have hlt : i < ops.length := by rw [nth_eq] at h1; exact (List.getElem?_eq_some_iff.1 h1).1
        have him : i < Fs.length := by
          rcases Nat.lt_or_ge i Fs.length with h4 | h4
          · exact h4
          · exfalso
            obtain ⟨q, hq, hqj, hq1⟩ := hexj
            have h5 : L.getD q false = true := by
              rcases hsh.last i o h1 h4 q (by omega) with h6 | h6
              · exact absurd (List.mem_singleton.1 h6) hqj
              · exact hcl.reach h6 (fun o' ho' e he hb => by rw [h1] at ho'; cases ho'; exact h3 e he hb)
            rw [getD_of_lt (by omega) false true, hq1] at h5
            cases h5
        obtain ⟨d, hd, hdn, hdenv, hdd⟩ := hsh.dst i o h1 him
        have hFi : nth Fs i = some Fs[i] := by rw [nth_eq, List.getElem?_eq_getElem him]
        have hdi : dstOf ops i = some d := by simp [dstOf, h1, hd]
        obtain ⟨env', hst, horg⟩ := forVals_elim (n := n) (ds := ds) (a := a) _ _ (howed i o Fs[i] h1 hFi Mx H' w hle hs) ha (by
          intro j hj o' F' d' ho' hF' hd'
          obtain ⟨e, he, hb, hon⟩ := hsh.lean i o h1 him j hj
          have h5 := h3 e he hb
          have h6 := hsh.back i o h1 e he hb
          rw [hon] at h5 h6
          rw [getD_of_lt (by omega) false true] at h5
          exact ⟨my j, hf j F' d' hF' (by simp [dstOf, ho', hd']) h5⟩)
        unfold wpOp
        have h1' := h1
        rw [nth_eq] at h1'
        simp only [List.getElem?_toArray, h1']
        have key := horg a hst (wpAny P .any ops.toArray (k.Q P) fuel (L.setIfInBounds i true)) (k.Q P) (by
          rintro v w'' ⟨H'', My, hle', hs', hF⟩
          refine ih _ (l.erase i) _ w'' H'' (My ++ Mx) _ (D0.step hsh h1 him hFi h2 h3 hle' hs' hF) ?_ ?_
          · intro k hk hk2
            by_cases e : k = i
            · subst e
              simp [hsz, hlt] at hk2
            · simp only [Array.getD_eq_getD_getElem?, Array.getElem?_setIfInBounds, show ¬ i = k from fun h => e h.symm, if_false] at hk2
              exact (List.mem_erase_of_ne e).2 (hl k hk (by rw [Array.getD_eq_getD_getElem?]; exact hk2))
          · have hmem := hl i him h2
            rw [List.length_erase_of_mem hmem]
            have := List.length_pos_of_mem hmem
            omega)
        split
        · rename_i hw; rw [if_pos hw] at key; exact .inl key
        · rename_i hw; rw [if_neg hw] at key; exact key

variable {w : World} {k : Kont}
theorem WC.drawL {id : Nat} (m j : Nat) (hm : P.follows .mixedOrders = true) (hs : HS xs H0 w0 H M w) (hok : (drawOk ops m n env [j] && lateOk ops m j && k.flat) = true)
    (howed : Owed P n ds xs H0 w0 M ops env H (fun Fs => ∀ H' w', Hp.le H H' → forAllVals ops H' 0 Fs env M fun env' M' => HS xs H0 w0 H' M' w' → WO P n ds ops.toArray (ops.drop m) k env' w') ops m []) :
    WC P n ds (.region id ops.toArray true) k env w := by
  simp only [Bool.and_eq_true] at hok
  obtain ⟨⟨h1, h2⟩, h3⟩ := hok
  intro a ha
  have hsh := Shape.of h1
  obtain ⟨Fs, h6, hfin, h7⟩ := OwedF.elim hsh.back m [] (Owed.toF _ _ [] howed)
  simp only [List.nil_append, List.length_nil, Nat.zero_add] at h6 hfin h7
  subst h6
  refine wp_region_any hm ?_
  have hrep : ∀ i, i < ops.length → (Array.replicate ops.length false).getD i true = false := by
    intro i hi
    simp [Array.getD_eq_getD_getElem?, hi]
  have hD : DInv n ds xs H0 w0 H M ops Fs env (Array.replicate ops.length false) a w.drew H [] (fun _ => []) := by
    refine ⟨?_, ?_, by simp, fun i hi _ => hrep i hi, Hp.le.refl H, hs.drew, ha, ?_⟩
    · intro i o ho hi
      have hlt : i < ops.length := by rw [nth_eq] at ho; exact (List.getElem?_eq_some_iff.1 ho).1
      rw [getD_of_lt (by simpa using hlt) false true, hrep i hlt] at hi
      cases hi
    · rw [List.flatMap_eq_nil_iff.2 (by intro j _; simp [madeBy])]
    · intro i F d hF hd hL
      have hi : i < Fs.length := by rw [nth_eq] at hF; exact (List.getElem?_eq_some_iff.1 hF).1
      rw [hrep i (Nat.lt_of_lt_of_le hi hsh.le)] at hL
      cases hL
  have hle := hsh.le
  simp only [List.size_toArray]
  exact wpAny_firstL (H := H) h3 h2 hsh (fun i o F => h7 i o F (Nat.zero_le i)) (fun H' w' h1 => hfin H' w' h1) ops.length _ (List.range Fs.length) a _ H [] (fun _ => []) hD (fun i hi _ => List.mem_range.2 hi) (by simp; omega)
end
end Go.Bw
namespace Go.Bw
set_option linter.unusedVariables false
set_option linter.unusedSimpArgs false
def backOk (ops : List Oper) : Bool := (List.range ops.length).all fun i => match nth ops i with
  | some o => o.after.toList.all fun e => !Region.binds .any e || Nat.blt e.on i
  | none => false
theorem backOk_get {ops : List Oper} (h : backOk ops = true) : ∀ i o, nth ops i = some o → ∀ e ∈ o.after.toList, Region.binds .any e = true → e.on < i := by
  intro i o ho e he hb
  have hlt : i < ops.length := by rw [nth_eq] at ho; exact (List.getElem?_eq_some_iff.1 ho).1
  have h1 := List.all_eq_true.1 h i (List.mem_range.2 hlt)
  rw [ho] at h1
  have h2 := List.all_eq_true.1 h1 e he
  simpa [hb, Nat.blt_eq] using h2
/-- All operations from m on wait for all from s to m. -/
def waitOk (ops : List Oper) (s m : Nat) : Bool := (List.range ops.length).all fun i => Nat.blt i m || (List.range m).all fun j => Nat.blt j s || reaches (reachTab ops []) i j
theorem reach_of {ops : List Oper} {i j : Nat} (h : reaches (reachTab ops []) i j = true) : Reach ops i j := reachTab_ok ops ops [] rfl (by intro i j h; simp [reaches, nth] at h) i j h
theorem waitOk_get {ops : List Oper} {s m : Nat} (h : waitOk ops s m = true) : ∀ i, i < ops.length → m ≤ i → ∀ j, s ≤ j → j < m → Reach ops i j := by
  intro i hi hm j hs hj
  have h1 := List.all_eq_true.1 h i (List.mem_range.2 hi)
  rw [Bool.or_eq_true] at h1
  rcases h1 with h1 | h1
  · rw [Nat.blt_eq] at h1; omega
  · have h2 := List.all_eq_true.1 h1 j (List.mem_range.2 hj)
    rw [Bool.or_eq_true] at h2
    rcases h2 with h2 | h2
    · rw [Nat.blt_eq] at h2; omega
    · exact reach_of h2

section
variable {P : Program} {n : Nat} {ds : List Deferred} {ops : List Oper} {env : Env} {k : Kont} {w : World}
/-- Of a drawn region the first s operations are done. -/
def WA (P : Program) (n : Nat) (ds : List Deferred) (ops : List Oper) (s : Nat) (k : Kont) (env : Env) (w : World) : Prop :=
  ∀ a, St n ds env a → ∀ (fuel : Nat) (L : Array Bool), L.size = ops.length → (∀ i, i < ops.length → (L.getD i true = true ↔ i < s)) → Closed ops L → s ≤ ops.length → ops.length - s ≤ fuel → wpAny P .any ops.toArray (k.Q P) fuel L a w

theorem WA.enter {id : Nat} (hm : P.follows .mixedOrders = true) (h : WA P n ds ops 0 k env w.drew) : WC P n ds (.region id ops.toArray true) k env w := by
  intro a ha
  refine wp_region_any hm ?_
  have hrep : ∀ i, i < ops.length → (Array.replicate ops.length false).getD i true = false := by
    intro i hi
    simp [Array.getD_eq_getD_getElem?, hi]
  simp only [List.size_toArray]
  refine h a ha _ _ (by simp) (fun i hi => ?_) ?_ (Nat.zero_le _) (by omega)
  · rw [hrep i hi]; simp
  · intro i o ho hi
    have hlt : i < ops.length := by rw [nth_eq] at ho; exact (List.getElem?_eq_some_iff.1 ho).1
    rw [getD_of_lt (by simpa using hlt) false true, hrep i hlt] at hi
    cases hi
theorem WA.sub {s : Nat} (env' : Env) (hs : env'.subB env) (h : WA P n ds ops s k env' w) : WA P n ds ops s k env w := fun a ha => h a (ha.sub hs.get)

theorem set_iff {L : Array Bool} {s len : Nat} (hsz : L.size = len) (hL : ∀ i, i < len → (L.getD i true = true ↔ i < s)) (hs : s < len) : ∀ i, i < len → ((L.setIfInBounds s true).getD i true = true ↔ i < s + 1) := by
  intro i hi
  by_cases e : s = i
  · subst e; simp [hsz, hi]
  · have h8 := hL i hi
    simp only [Array.getD_eq_getD_getElem?, Array.getElem?_setIfInBounds, e, if_false] at h8 ⊢
    rw [h8]; omega

/-- The next operation, that all the others wait for. -/
theorem WA.go1 {s : Nat} {o : Oper} (hok : (backOk ops && waitOk ops s (s + 1)) = true) (ho : nth ops s = some o)
    (h : ORg P n ds ops o env w fun v w' => ∀ a, St n ds env a → ∀ (fuel : Nat) (L : Array Bool), L.size = ops.length → (∀ i, i < ops.length → (L.getD i true = true ↔ i < s + 1)) → Closed ops L → s + 1 ≤ ops.length → ops.length - (s + 1) ≤ fuel → wpAny P .any ops.toArray (k.Q P) fuel L (a.put o.dst v) w') :
    WA P n ds ops s k env w := by
  rw [Bool.and_eq_true] at hok
  have hback := backOk_get hok.1
  have hw := waitOk_get hok.2
  have hlt : s < ops.length := by rw [nth_eq] at ho; exact (List.getElem?_eq_some_iff.1 ho).1
  intro a ha fuel L hsz hL hcl hle hf
  obtain ⟨fuel, rfl⟩ : ∃ f, fuel = f + 1 := ⟨fuel - 1, by omega⟩
  refine ⟨?_, ?_⟩
  · intro hr
    exfalso
    have : s ∈ Region.ready .any ops.toArray L := by
      refine ready_iff.2 ⟨o, ho, ?_, ?_⟩
      · cases hg : L.getD s true with
        | false => rfl
        | true => exact absurd ((hL s hlt).1 hg) (Nat.lt_irrefl s)
      · intro e he hb
        have h3 := hback s o ho e he hb
        rw [getD_of_lt (by omega) false true]
        exact (hL e.on (by omega)).2 h3
    rw [hr] at this
    cases this
  · intro i hi
    obtain ⟨o', h1, h2, h3⟩ := ready_iff.1 hi
    have hi' : i < ops.length := by rw [nth_eq] at h1; exact (List.getElem?_eq_some_iff.1 h1).1
    have e : i = s := by
      rcases Nat.lt_trichotomy i s with h4 | h4 | h4
      · rw [(hL i hi').2 h4] at h2; cases h2
      · exact h4
      · have h5 := hcl.reach (hw i hi' (by omega) s (Nat.le_refl _) (by omega)) (fun o'' ho' e he hb => by rw [h1] at ho'; cases ho'; exact h3 e he hb)
        rw [getD_of_lt (by omega) false true] at h5
        exact absurd ((hL s hlt).1 h5) (Nat.lt_irrefl s)
    subst e
    rw [ho] at h1
    cases h1
    unfold wpOp
    have ho' := ho
    rw [nth_eq] at ho'
    simp only [List.getElem?_toArray, ho']
    have key := h a ha (wpAny P .any ops.toArray (k.Q P) fuel (L.setIfInBounds i true)) (k.Q P) (fun v w' hR => hR a ha fuel _ (by simp [hsz]) (set_iff hsz hL hlt) (hcl.set ho h3) (by omega) (by omega))
    split
    · rename_i hw; rw [if_pos hw] at key; exact .inl key
    · rename_i hw; rw [if_neg hw] at key; exact key
theorem ORg.imp {o : Oper} {R R' : Value → World → Prop} (h : ORg P n ds ops o env w R) (hR : ∀ v w', R v w' → R' v w') : ORg P n ds ops o env w R' :=
  fun a ha K Q hK => h a ha K Q (fun v w' h' => hK v w' (hR v w' h'))
theorem WA.step {s d : Nat} {o : Oper} (hok : (backOk ops && waitOk ops s (s + 1)) = true) (ho : nth ops s = some o) (hd : o.dst = some d) (hdn : Nat.blt d n = true)
    (h : ORg P n ds ops o env w fun v w' => WA P n ds ops (s + 1) k ((d, v) :: env) w') : WA P n ds ops s k env w :=
  WA.go1 hok ho (h.imp fun v w' hA a ha fuel L h1 h2 h3 h4 h5 => by rw [hd]; exact hA _ (ha.put hdn v) fuel L h1 h2 h3 h4 h5)
theorem WA.stepN {s : Nat} {o : Oper} (hok : (backOk ops && waitOk ops s (s + 1)) = true) (ho : nth ops s = some o) (hd : o.dst = none)
    (h : ORg P n ds ops o env w fun v w' => WA P n ds ops (s + 1) k env w') : WA P n ds ops s k env w :=
  WA.go1 hok ho (h.imp fun v w' hA a ha fuel L h1 h2 h3 h4 h5 => by rw [hd]; exact hA _ ha fuel L h1 h2 h3 h4 h5)

/-- All that is left waits for all ahead of it. -/
def restOk (ops : List Oper) (s : Nat) : Bool := (List.range ops.length).all fun i => Nat.blt i s || (List.range i).all fun j => Nat.blt j s || reaches (reachTab ops []) i j
theorem restOk_get {ops : List Oper} {s : Nat} (h : restOk ops s = true) : ∀ i, i < ops.length → s ≤ i → ∀ j, s ≤ j → j < i → Reach ops i j := by
  intro i hi hm j hs hj
  have h1 := List.all_eq_true.1 h i (List.mem_range.2 hi)
  rw [Bool.or_eq_true] at h1
  rcases h1 with h1 | h1
  · rw [Nat.blt_eq] at h1; omega
  · have h2 := List.all_eq_true.1 h1 j (List.mem_range.2 hj)
    rw [Bool.or_eq_true] at h2
    rcases h2 with h2 | h2
    · rw [Nat.blt_eq] at h2; omega
    · exact reach_of h2
theorem wpAny_rest' {Q : Exit → Act → World → Prop} {s : Nat} (hback : ∀ i o, nth ops i = some o → ∀ e ∈ o.after.toList, Region.binds .any e = true → e.on < i) (hlast : ∀ i, i < ops.length → s ≤ i → ∀ j, s ≤ j → j < i → Reach ops i j) : ∀ (fuel j : Nat) (L : Array Bool) (a : Act) (w : World), L.size = ops.length → (∀ i, i < ops.length → (L.getD i true = true ↔ i < j)) → s ≤ j → j ≤ ops.length →
    ops.length - j ≤ fuel → Closed ops L → wpList P ops.toArray Q (ops.drop j) a w → wpAny P .any ops.toArray Q fuel L a w
  | 0, j, L, a, w, hsz, hL, hmj, hj, hf, _, h => by
    have e : j = ops.length := by omega
    subst e
    rw [List.drop_length] at h
    refine ⟨?_, h⟩
    cases hr : Region.ready .any ops.toArray L with
    | nil => rfl
    | cons i l =>
      have hi : i ∈ Region.ready .any ops.toArray L := by rw [hr]; simp
      obtain ⟨o, h1, h2, _⟩ := ready_iff.1 hi
      have hlt : i < ops.length := by rw [nth_eq] at h1; exact (List.getElem?_eq_some_iff.1 h1).1
      rw [(hL i hlt).2 hlt] at h2
      cases h2
  | fuel + 1, j, L, a, w, hsz, hL, hmj, hj, hf, hcl, h => by
    refine ⟨?_, ?_⟩
    · intro hr
      by_cases e : j = ops.length
      · subst e; rw [List.drop_length] at h; exact h
      · exfalso
        have hlt : j < ops.length := by omega
        have : j ∈ Region.ready .any ops.toArray L := by
          refine ready_iff.2 ⟨ops[j], by rw [nth_eq, List.getElem?_eq_getElem hlt], ?_, ?_⟩
          · cases hg : L.getD j true with
            | false => rfl
            | true => exact absurd ((hL j hlt).1 hg) (Nat.lt_irrefl j)
          · intro e he hb
            have h3 := hback j ops[j] (by rw [nth_eq, List.getElem?_eq_getElem hlt]) e he hb
            rw [getD_of_lt (by omega) false true]
            exact (hL e.on (by omega)).2 h3
        rw [hr] at this
        cases this
    · intro i hi
      obtain ⟨o, h1, h2, h3⟩ := ready_iff.1 hi
      have hlt : i < ops.length := by rw [nth_eq] at h1; exact (List.getElem?_eq_some_iff.1 h1).1
      have hij : j ≤ i := by
        rcases Nat.lt_or_ge i j with h4 | h4
        · rw [(hL i hlt).2 h4] at h2; cases h2
        · exact h4
      have e : i = j := by
        rcases Nat.lt_or_ge j i with h4 | h4
        · have h5 : L.getD j false = true := hcl.reach (hlast i hlt (by omega) j hmj h4) (fun o' ho' e he hb => by rw [h1] at ho'; cases ho'; exact h3 e he hb)
          rw [getD_of_lt (by omega) false true] at h5
          exact absurd ((hL j (by omega)).1 h5) (Nat.lt_irrefl j)
        · omega
      subst e
      have hg : ops[i] = o := by rw [nth_eq, List.getElem?_eq_getElem hlt] at h1; exact Option.some.inj h1
      rw [List.drop_eq_getElem_cons hlt, hg] at h
      have h6 : wpOp P ops.toArray Q i (wpList P ops.toArray Q (ops.drop (i + 1))) a w := by
        unfold wpOp
        rw [nth_eq] at h1
        simp only [List.getElem?_toArray, h1]
        exact h
      refine wpOp_mono ?_ h6
      intro a' w' h7
      exact wpAny_rest' hback hlast fuel (i + 1) _ a' w' (by simp [hsz]) (set_iff hsz hL hlt) (by omega) (by omega) (by omega) (hcl.set h1 h3) h7
theorem WA.rest {s : Nat} (hok : (backOk ops && restOk ops s) = true) (h : WO P n ds ops.toArray (ops.drop s) k env w) : WA P n ds ops s k env w := by
  rw [Bool.and_eq_true] at hok
  intro a ha fuel L hsz hL hcl hle hf
  exact wpAny_rest' (backOk_get hok.1) (restOk_get hok.2) fuel s L a w hsz hL (Nat.le_refl _) hle hf hcl (h a ha)

def leansFrom (s : Nat) (o : Oper) : List Nat := (uniq (leans o)).filter (Nat.ble s)
def drawOkA (ops : List Oper) (s m n : Nat) (env : Env) : Bool :=
  Nat.ble m ops.length && Nat.ble s m && backOk ops && waitOk ops s m &&
  (List.range m).all (fun i => Nat.blt i s || match nth ops i with
    | some o => (match o.dst with
            | some d => Nat.blt d n && env.all (fun p => !Nat.beq p.1 d) && (List.range m).all (fun j => Nat.blt j s || Nat.beq i j || (match dstOf ops j with | some d' => !Nat.beq d d' | none => false))
            | none => false) &&
          (uniq (leans o)).all (fun j => o.after.toList.any fun e => Region.binds .any e && Nat.beq e.on j)
    | none => false)
structure ShapeA (ops : List Oper) (s m n : Nat) (env : Env) : Prop where
  le : m ≤ ops.length
  sm : s ≤ m
  back : ∀ i o, nth ops i = some o → ∀ e ∈ o.after.toList, Region.binds .any e = true → e.on < i
  dst : ∀ i o, nth ops i = some o → s ≤ i → i < m → ∃ d, o.dst = some d ∧ d < n ∧ (∀ p ∈ env, p.1 ≠ d) ∧ ∀ j, s ≤ j → j < m → i ≠ j → ∀ d', dstOf ops j = some d' → d ≠ d'
  lean : ∀ i o, nth ops i = some o → s ≤ i → i < m → ∀ j ∈ uniq (leans o), ∃ e ∈ o.after.toList, Region.binds .any e = true ∧ e.on = j
  last : ∀ i, i < ops.length → m ≤ i → ∀ j, s ≤ j → j < m → Reach ops i j
theorem ShapeA.of {s m : Nat} (h : drawOkA ops s m n env = true) : ShapeA ops s m n env := by
  unfold drawOkA at h
  simp only [Bool.and_eq_true] at h
  obtain ⟨⟨⟨⟨h1, h2⟩, h3⟩, h4⟩, h5⟩ := h
  have key : ∀ i o, nth ops i = some o → s ≤ i → i < m → ((match o.dst with
            | some d => Nat.blt d n && env.all (fun p => !Nat.beq p.1 d) && (List.range m).all (fun j => Nat.blt j s || Nat.beq i j || (match dstOf ops j with | some d' => !Nat.beq d d' | none => false))
            | none => false) &&
          (uniq (leans o)).all (fun j => o.after.toList.any fun e => Region.binds .any e && Nat.beq e.on j)) = true := by
    intro i o ho hs hm
    have h6 := List.all_eq_true.1 h5 i (List.mem_range.2 hm)
    rw [ho, Bool.or_eq_true] at h6
    rcases h6 with h6 | h6
    · rw [Nat.blt_eq] at h6; omega
    · exact h6
  refine ⟨Nat.le_of_ble_eq_true h1, Nat.le_of_ble_eq_true h2, backOk_get h3, ?_, ?_, waitOk_get h4⟩
  · intro i o ho hs hi
    have this := key i o ho hs hi
    rw [Bool.and_eq_true] at this
    have h2 := this.1
    cases hd : o.dst with
    | none => rw [hd] at h2; exact absurd h2 (by simp)
    | some d =>
      rw [hd] at h2
      simp only [Bool.and_eq_true, List.all_eq_true] at h2
      obtain ⟨⟨h3, h4⟩, h5⟩ := h2
      refine ⟨d, rfl, by simpa [Nat.blt_eq] using h3, ?_, ?_⟩
      · intro p hp e
        have := h4 p hp
        rw [Bool.not_eq_true', ← Bool.not_eq_true, beq_iff] at this
        exact this e
      · intro j hjs hj hij d' hd' e
        have := h5 j (List.mem_range.2 hj)
        rw [hd', Bool.or_eq_true, Bool.or_eq_true, beq_iff, Bool.not_eq_true', ← Bool.not_eq_true, beq_iff, Nat.blt_eq] at this
        rcases this with (h6 | h6) | h6
        · omega
        · exact hij h6
        · exact h6 e
  · intro i o ho hs hi j hj
    have this := key i o ho hs hi
    rw [Bool.and_eq_true] at this
    have := (List.all_eq_true.1 this.2) j hj
    rw [List.any_eq_true] at this
    obtain ⟨e, he, h3⟩ := this
    rw [Bool.and_eq_true, beq_iff] at h3
    exact ⟨e, he, h3.1, h3.2⟩

variable {xs : List Nat} {H0 H : Hp} {w0 : World} {M : Mem}
def OwedAF (P : Program) (n : Nat) (ds : List Deferred) (s : Nat) (xs : List Nat) (H0 : Hp) (w0 : World) (M : Mem) (ops : List Oper) (env : Env) (H : Hp) (fin : List MF → Prop) : List Oper → Nat → List MF → Prop
  | _, 0, Fs => fin Fs
  | [], _ + 1, _ => False
  | o :: os, k + 1, Fs => ∃ F : MF, (∀ Mx H' w', Hp.le H H' → HS xs H0 w0 H' (Mx ++ M) w' → forVals ops Fs H' (leansFrom s o) env fun env' =>
      ORg P n ds ops o env' w' fun v w'' => ∃ H'' My, Hp.le H' H'' ∧ HS xs H0 w0 H'' (My ++ (Mx ++ M)) w'' ∧ F.F v My H'') ∧ OwedAF P n ds s xs H0 w0 M ops env H fin os k (Fs ++ [F])
def OwedA (P : Program) (n : Nat) (ds : List Deferred) (s : Nat) (xs : List Nat) (H0 : Hp) (w0 : World) (M : Mem) (ops : List Oper) (env : Env) (H : Hp) (fin : List MF → Prop) : List Oper → Nat → List MF → Prop
  | _, 0, Rs => fin Rs.reverse
  | [], _ + 1, _ => False
  | o :: os, k + 1, Rs => ∃ F : MF, (∀ Mx H' w', Hp.le H H' → HS xs H0 w0 H' (Mx ++ M) w' → forVals ops Rs.reverse H' (leansFrom s o) env fun env' =>
      ORg P n ds ops o env' w' fun v w'' => ∃ H'' My, Hp.le H' H'' ∧ HS xs H0 w0 H'' (My ++ (Mx ++ M)) w'' ∧ F.F v My H'') ∧ OwedA P n ds s xs H0 w0 M ops env H fin os k (F :: Rs)
theorem OwedA.toF {s : Nat} {fin : List MF → Prop} : ∀ (os : List Oper) (k : Nat) (Rs : List MF),
    OwedA P n ds s xs H0 w0 M ops env H fin os k Rs → OwedAF P n ds s xs H0 w0 M ops env H fin os k Rs.reverse
  | [], 0, _, h => h
  | _ :: _, 0, _, h => h
  | [], _ + 1, _, h => h
  | o :: os, k + 1, Rs, ⟨F, h1, h2⟩ => ⟨F, h1, by rw [← List.reverse_cons]; exact OwedA.toF os k _ h2⟩
theorem leansFrom_lt {o : Oper} {s i : Nat} (h : ∀ e ∈ o.after.toList, Region.binds .any e = true → e.on < i) : ∀ j ∈ leansFrom s o, j < i := fun j hj => leans_lt h j (List.mem_filter.1 hj).1
theorem OwedAF.elim {s : Nat} {fin : List MF → Prop} (hb : ∀ i o, nth ops i = some o → ∀ e ∈ o.after.toList, Region.binds .any e = true → e.on < i) : ∀ (k : Nat) (Fs : List MF), OwedAF P n ds s xs H0 w0 M ops env H fin (ops.drop Fs.length) k Fs →
    ∃ Gs, (Fs ++ Gs).length = Fs.length + k ∧ fin (Fs ++ Gs) ∧ ∀ i o F, Fs.length ≤ i → nth ops i = some o → nth (Fs ++ Gs) i = some F → ∀ Mx H' w', Hp.le H H' → HS xs H0 w0 H' (Mx ++ M) w' →
      forVals ops (Fs ++ Gs) H' (leansFrom s o) env fun env' => ORg P n ds ops o env' w' fun v w'' => ∃ H'' My, Hp.le H' H'' ∧ HS xs H0 w0 H'' (My ++ (Mx ++ M)) w'' ∧ F.F v My H''
  | 0, Fs, h => by
    have h' : fin Fs := by revert h; cases ops.drop Fs.length <;> exact id
    refine ⟨[], by simp, by simpa using h', ?_⟩
    intro i o F hi ho hF
    rw [List.append_nil, nth_eq] at hF
    exact absurd (List.getElem?_eq_some_iff.1 hF).1 (by omega)
  | k + 1, Fs, h => by
    cases hd : ops.drop Fs.length with
    | nil => rw [hd] at h; exact False.elim h
    | cons o os =>
      rw [hd] at h
      obtain ⟨F, hF, hrest⟩ := h
      have hlt : Fs.length < ops.length := by
        rcases Nat.lt_or_ge Fs.length ops.length with h1 | h1
        · exact h1
        · rw [List.drop_eq_nil_of_le h1] at hd; cases hd
      have hos : os = ops.drop (Fs ++ [F]).length := by
        rw [List.length_append, List.length_singleton]
        rw [List.drop_eq_getElem_cons hlt] at hd
        exact (List.cons.inj hd).2.symm
      have ho : nth ops Fs.length = some o := by
        rw [nth_eq, List.getElem?_eq_getElem hlt]
        rw [List.drop_eq_getElem_cons hlt] at hd
        rw [(List.cons.inj hd).1]
      rw [hos] at hrest
      obtain ⟨Gs, h1, h2, h3⟩ := OwedAF.elim hb k (Fs ++ [F]) hrest
      have e : Fs ++ [F] ++ Gs = Fs ++ ([F] ++ Gs) := List.append_assoc ..
      refine ⟨[F] ++ Gs, by rw [← e, h1]; simp; omega, by rw [← e]; exact h2, ?_⟩
      intro i o' F' hi ho' hF' Mx H' w' hle hs
      by_cases hie : i = Fs.length
      · subst hie
        rw [ho] at ho'
        cases ho'
        rw [← e, nth_append_left (by simp), nth_eq, List.getElem?_append_right (Nat.le_refl _)] at hF'
        simp at hF'
        subst hF'
        refine forVals_congr _ _ (hF Mx H' w' hle hs) ?_
        intro j hj
        exact (nth_append_left (leansFrom_lt (hb _ _ ho) j hj)).symm
      · have := h3 i o' F' (by simp; omega) ho' (by rw [e]; exact hF') Mx H' w' hle hs
        rw [e] at this
        exact this

structure DInvA (n : Nat) (ds : List Deferred) (s : Nat) (xs : List Nat) (H0 : Hp) (w0 : World) (H : Hp) (M : Mem) (ops : List Oper) (Fs : List MF) (env : Env) (L : Array Bool) (a : Act) (w : World) (H' : Hp) (Mx : Mem) (my : Nat → Mem) : Prop where
  cl : Closed ops L
  perm : Mx.Perm ((List.range' s (Fs.length - s)).flatMap (madeBy L my))
  sz : L.size = ops.length
  old : ∀ i, i < s → L.getD i true = true
  rest : ∀ i, i < ops.length → Fs.length ≤ i → L.getD i true = false
  le : Hp.le H H'
  hs : HS xs H0 w0 H' (Mx ++ M) w
  st : St n ds env a
  ok : ∀ i F d, s ≤ i → nth Fs i = some F → dstOf ops i = some d → L.getD i true = true → F.F (a.tmps.getD d undef) (my i) H'

theorem DInvA.step {s : Nat} {Fs : List MF} (hsh : ShapeA ops s Fs.length n env) {L : Array Bool} {a : Act} {w w'' : World} {H' H'' : Hp} {Mx My : Mem} {my : Nat → Mem} (D : DInvA n ds s xs H0 w0 H M ops Fs env L a w H' Mx my)
    {i : Nat} {o : Oper} {F : MF} {v : Value} (h1 : nth ops i = some o) (his : s ≤ i) (him : i < Fs.length) (hFi : nth Fs i = some F) (h2 : L.getD i true = false) (h3 : ∀ e ∈ o.after.toList, Region.binds .any e = true → L.getD e.on false = true)
    (hle' : Hp.le H' H'') (hs' : HS xs H0 w0 H'' (My ++ (Mx ++ M)) w'') (hF : F.F v My H'') :
    DInvA n ds s xs H0 w0 H M ops Fs env (L.setIfInBounds i true) (a.put o.dst v) w'' H'' (My ++ Mx) (fun k => if k = i then My else my k) := by
  obtain ⟨hcl, hperm, hsz, hold, hrest, hle, hs, ha, hf⟩ := D
  have hlt : i < ops.length := by rw [nth_eq] at h1; exact (List.getElem?_eq_some_iff.1 h1).1
  obtain ⟨d, hd, hdn, hdenv, hdd⟩ := hsh.dst i o h1 his him
  have hdi : dstOf ops i = some d := by simp [dstOf, h1, hd]
  have hput : (a.put o.dst v).tmps.getD d undef = v := by
    rw [hd]
    simp [Act.put, Array.getD_eq_getD_getElem?, ha.sz, hdn]
  have hother : ∀ t, t ≠ d → (a.put o.dst v).tmps.getD t undef = a.tmps.getD t undef := by
    intro t ht
    rw [hd]
    simp [Act.put, Array.getD_eq_getD_getElem?, Array.getElem?_setIfInBounds, Ne.symm ht]
  have hperm' : (My ++ Mx).Perm ((List.range' s (Fs.length - s)).flatMap (madeBy (L.setIfInBounds i true) (fun k => if k = i then My else my k))) := by
    refine (hperm.append_left My).trans (flatMap_one (i := i) _ ?_ List.nodup_range' ?_ ?_ ?_)
    · rw [List.mem_range'_1]; omega
    · intro j hj
      unfold madeBy
      simp only [Array.getD_eq_getD_getElem?, Array.getElem?_setIfInBounds, show ¬ i = j from fun h => hj h.symm, if_false, hj]
    · simp [madeBy, h2]
    · simp [madeBy, hsz, hlt]
  refine ⟨hcl.set h1 h3, hperm', by simp [hsz], ?_, ?_, hle.trans hle', by rw [List.append_assoc]; exact hs', ?_, ?_⟩
  · intro k hk
    have := hold k hk
    simp only [Array.getD_eq_getD_getElem?, Array.getElem?_setIfInBounds, show ¬ i = k by omega, if_false] at this ⊢
    exact this
  · intro k hk hmk
    have := hrest k hk hmk
    simp only [Array.getD_eq_getD_getElem?, Array.getElem?_setIfInBounds, show ¬ i = k by omega, if_false] at this ⊢
    exact this
  · rw [hd]; exact ha.putNew v hdenv
  · intro k F' d' hks hF' hd' hk
    by_cases e : k = i
    · subst e
      rw [hFi] at hF'
      rw [hdi] at hd'
      cases hF'
      cases hd'
      rw [hput, if_pos rfl]
      exact hF
    · have hkm : k < Fs.length := by rw [nth_eq] at hF'; exact (List.getElem?_eq_some_iff.1 hF').1
      have hne : d' ≠ d := fun h => hdd k hks hkm (Ne.symm e) d' hd' h.symm
      rw [hother d' hne, if_neg e]
      simp only [Array.getD_eq_getD_getElem?, Array.getElem?_setIfInBounds, show ¬ i = k from fun h => e h.symm, if_false] at hk
      exact F'.mono _ _ _ _ hle' (hf k F' d' hks hF' hd' (by rw [Array.getD_eq_getD_getElem?]; exact hk))

def MF.done : MF := MF.of (fun _ _ => True) fun _ _ _ _ h => h
/-- The operations from s to m in any order. -/
theorem WA.draw {s : Nat} (m : Nat) (hs : HS xs H0 w0 H M w) (hok : drawOkA ops s m n env = true)
    (howed : OwedA P n ds s xs H0 w0 M ops env H (fun Fs => ∀ H' w', Hp.le H H' → forAllVals ops H' s (Fs.drop s) env M fun env' M' => HS xs H0 w0 H' M' w' → WA P n ds ops m k env' w') (ops.drop s) (m - s) (List.replicate s MF.done)) :
    WA P n ds ops s k env w := by
  have hsh := ShapeA.of hok
  have h9 := OwedA.toF _ _ _ howed
  rw [List.reverse_replicate] at h9
  have hlen : (List.replicate s MF.done).length = s := List.length_replicate
  have h9' : OwedAF P n ds s xs H0 w0 M ops env H (fun Fs => ∀ H' w', Hp.le H H' → forAllVals ops H' s (Fs.drop s) env M fun env' M' => HS xs H0 w0 H' M' w' → WA P n ds ops m k env' w') (ops.drop (List.replicate s MF.done).length) (m - s) (List.replicate s MF.done) := by rw [hlen]; exact h9
  obtain ⟨Gs, h6, hfin, howed2⟩ := OwedAF.elim hsh.back (m - s) (List.replicate s MF.done) h9'
  rw [hlen] at h6 howed2
  have hsm := hsh.sm
  obtain ⟨Fs, hFs⟩ : ∃ Fs, Fs = List.replicate s MF.done ++ Gs := ⟨_, rfl⟩
  rw [← hFs] at h6 hfin howed2
  have hm : Fs.length = m := by omega
  subst hm
  clear hFs h9 h9' howed hlen
  have hfull : ∀ (L : Array Bool) (a : Act) (w : World) (H' : Hp) (Mx : Mem) (my : Nat → Mem), Mx.Perm ((List.range' s (Fs.length - s)).flatMap (madeBy L my)) → (∀ i, i < Fs.length → L.getD i true = true) → Hp.le H H' → HS xs H0 w0 H' (Mx ++ M) w → St n ds env a →
      (∀ i F d, s ≤ i → nth Fs i = some F → dstOf ops i = some d → L.getD i true = true → F.F (a.tmps.getD d undef) (my i) H') → ∃ env', St n ds env' a ∧ WA P n ds ops Fs.length k env' w := by
    intro L a w H' Mx my hperm hall hle hs ha hf
    obtain ⟨env', h1, h2⟩ := forAllVals_elim (n := n) (ds := ds) (a := a) my (Fs.drop s) s env M (hfin H' w hle) ha (by
      intro j F hF
      rw [nth_eq, List.getElem?_drop, ← nth_eq] at hF
      have hj : s + j < Fs.length := by rw [nth_eq] at hF; exact (List.getElem?_eq_some_iff.1 hF).1
      have hjo : s + j < ops.length := Nat.lt_of_lt_of_le hj hsh.le
      obtain ⟨d, hd, _⟩ := hsh.dst (s + j) ops[s + j] (by rw [nth_eq, List.getElem?_eq_getElem hjo]) (by omega) hj
      have hd' : dstOf ops (s + j) = some d := by simp [dstOf, nth_eq, hjo, hd]
      exact ⟨d, hd', hf (s + j) F d (by omega) hF hd' (hall _ hj)⟩)
    refine ⟨env', h1, h2 (hs.perm ?_)⟩
    refine (catM_perm my (Fs.drop s) s M).trans (List.Perm.append_right M ?_)
    rw [List.length_drop]
    have : (List.range' s (Fs.length - s)).flatMap (madeBy L my) = (List.range' s (Fs.length - s)).flatMap my := by
      rw [List.flatMap_def, List.flatMap_def]
      congr 1
      refine List.map_congr_left fun j hj => ?_
      simp only [List.mem_range'_1] at hj
      simp [madeBy, hall j (by omega)]
    rw [← this]
    exact hperm.symm
  have main : ∀ (fuel : Nat) (L : Array Bool) (l : List Nat) (a : Act) (w : World) (H' : Hp) (Mx : Mem) (my : Nat → Mem), DInvA n ds s xs H0 w0 H M ops Fs env L a w H' Mx my →
      (∀ i, s ≤ i → i < Fs.length → L.getD i true = false → i ∈ l) → l.length + (ops.length - Fs.length) ≤ fuel → wpAny P .any ops.toArray (k.Q P) fuel L a w := by
    intro fuel
    have hend : ∀ (fuel : Nat) (L : Array Bool) (a : Act) (w : World) (H' : Hp) (Mx : Mem) (my : Nat → Mem), DInvA n ds s xs H0 w0 H M ops Fs env L a w H' Mx my → (∀ i, i < Fs.length → L.getD i true = true) → ops.length - Fs.length ≤ fuel → wpAny P .any ops.toArray (k.Q P) fuel L a w := by
      intro fuel L a w H' Mx my D hall hf9
      obtain ⟨env', h1, h2⟩ := hfull L a w H' Mx my D.perm hall D.le D.hs D.st D.ok
      refine h2 a h1 fuel L D.sz ?_ D.cl hsh.le hf9
      intro i hi
      refine ⟨fun h => ?_, fun h => hall i h⟩
      rcases Nat.lt_or_ge i Fs.length with h4 | h4
      · exact h4
      · rw [D.rest i hi h4] at h; cases h
    induction fuel with
    | zero =>
      intro L l a w H' Mx my D hl hlen
      have hl0 : l = [] := List.eq_nil_of_length_eq_zero (by omega)
      have hall : ∀ i, i < Fs.length → L.getD i true = true := by
        intro i hi
        rcases Nat.lt_or_ge i s with h5 | h5
        · exact D.old i h5
        · cases h : L.getD i true with
          | true => rfl
          | false => have := hl i h5 hi h; rw [hl0] at this; cases this
      exact hend 0 L a w H' Mx my D hall (by omega)
    | succ fuel ih =>
      intro L l a w H' Mx my D hl hlen
      have D0 := D
      obtain ⟨hcl, hperm, hsz, hold, hrest, hle, hs, ha, hf⟩ := D
      have hm := hsh.le
      by_cases hall : ∀ i, i < Fs.length → L.getD i true = true
      · exact hend (fuel + 1) L a w H' Mx my D0 hall (by omega)
      · have hex : ∃ i, i < Fs.length ∧ L.getD i true = false ∧ ∀ j, j < i → L.getD j true = true := by
          clear ih hf ha hs D0
          have h0 : ∃ i, i < Fs.length ∧ L.getD i true = false := by
            refine Classical.byContradiction fun hno => hall fun i hi => ?_
            cases h : L.getD i true with
            | true => rfl
            | false => exact absurd ⟨i, hi, h⟩ hno
          obtain ⟨i, hi⟩ := h0
          induction i using Nat.strongRecOn with
          | _ i ihi =>
            by_cases hj : ∀ j, j < i → L.getD j true = true
            · exact ⟨i, hi.1, hi.2, hj⟩
            · have : ∃ j, j < i ∧ L.getD j true = false := by
                refine Classical.byContradiction fun hno => hj fun j hji => ?_
                cases h : L.getD j true with
                | true => rfl
                | false => exact absurd ⟨j, hji, h⟩ hno
              obtain ⟨j, hji, hj2⟩ := this
              exact ihi j hji ⟨by omega, hj2⟩
        refine ⟨?_, ?_⟩
        · intro hr
          exfalso
          obtain ⟨i, hi, h1, h2⟩ := hex
          have hio : i < ops.length := by omega
          have : i ∈ Region.ready .any ops.toArray L := by
            refine ready_iff.2 ⟨ops[i], by rw [nth_eq, List.getElem?_eq_getElem hio], h1, ?_⟩
            intro e he hb
            have h3 := hsh.back i ops[i] (by rw [nth_eq, List.getElem?_eq_getElem hio]) e he hb
            rw [getD_of_lt (by omega) false true]
            exact h2 e.on h3
          rw [hr] at this
          cases this
        · intro i hi
          obtain ⟨o, h1, h2, h3⟩ := ready_iff.1 hi
          have hlt : i < ops.length := by rw [nth_eq] at h1; exact (List.getElem?_eq_some_iff.1 h1).1
          have his : s ≤ i := by
            rcases Nat.lt_or_ge i s with h4 | h4
            · rw [hold i h4] at h2; cases h2
            · exact h4
          have him : i < Fs.length := by
            rcases Nat.lt_or_ge i Fs.length with h4 | h4
            · exact h4
            · exfalso
              obtain ⟨j, hj, hj1, _⟩ := hex
              have hjs : s ≤ j := by
                rcases Nat.lt_or_ge j s with h5 | h5
                · rw [hold j h5] at hj1; cases hj1
                · exact h5
              have h5 : L.getD j false = true := hcl.reach (hsh.last i hlt h4 j hjs hj) (fun o' ho' e he hb => by rw [h1] at ho'; cases ho'; exact h3 e he hb)
              rw [getD_of_lt (by omega) false true, hj1] at h5
              cases h5
          obtain ⟨d, hd, hdn, hdenv, hdd⟩ := hsh.dst i o h1 his him
          have hFi : nth Fs i = some Fs[i] := by rw [nth_eq, List.getElem?_eq_getElem him]
          obtain ⟨env', hst, horg⟩ := forVals_elim (n := n) (ds := ds) (a := a) _ _ (howed2 i o Fs[i] his h1 hFi Mx H' w hle hs) ha (by
            intro j hj o' F' d' ho' hF' hd'
            obtain ⟨hj1, hj2⟩ := List.mem_filter.1 hj
            obtain ⟨e, he, hb, hon⟩ := hsh.lean i o h1 his him j hj1
            have h5 := h3 e he hb
            have h6 := hsh.back i o h1 e he hb
            rw [hon] at h5 h6
            rw [getD_of_lt (by omega) false true] at h5
            exact ⟨my j, hf j F' d' (Nat.le_of_ble_eq_true hj2) hF' (by simp [dstOf, ho', hd']) h5⟩)
          unfold wpOp
          have h1' := h1
          rw [nth_eq] at h1'
          simp only [List.getElem?_toArray, h1']
          have key := horg a hst (wpAny P .any ops.toArray (k.Q P) fuel (L.setIfInBounds i true)) (k.Q P) (by
            rintro v w'' ⟨H'', My, hle', hs', hF⟩
            refine ih _ (l.erase i) _ w'' H'' (My ++ Mx) _ (D0.step hsh h1 his him hFi h2 h3 hle' hs' hF) ?_ ?_
            · intro k hks hk hk2
              by_cases e : k = i
              · subst e
                simp [hsz, hlt] at hk2
              · simp only [Array.getD_eq_getD_getElem?, Array.getElem?_setIfInBounds, show ¬ i = k from fun h => e h.symm, if_false] at hk2
                exact (List.mem_erase_of_ne e).2 (hl k hks hk (by rw [Array.getD_eq_getD_getElem?]; exact hk2))
            · have hmem := hl i his him h2
              rw [List.length_erase_of_mem hmem]
              have := List.length_pos_of_mem hmem
              omega)
          split
          · rename_i hw; rw [if_pos hw] at key; exact .inl key
          · rename_i hw; rw [if_neg hw] at key; exact key
  intro a ha fuel L hsz hL hcl hle hf
  have hD : DInvA n ds s xs H0 w0 H M ops Fs env L a w H [] (fun _ => []) := by
    refine ⟨hcl, ?_, hsz, fun i hi => (hL i (by omega)).2 hi, ?_, Hp.le.refl H, hs, ha, ?_⟩
    · rw [List.flatMap_eq_nil_iff.2 (by intro j _; simp [madeBy])]
    · intro i hi hFi
      cases h : L.getD i true with
      | false => rfl
      | true => have := (hL i hi).1 h; omega
    · intro i F d his hF hd hLi
      have hi : i < Fs.length := by rw [nth_eq] at hF; exact (List.getElem?_eq_some_iff.1 hF).1
      have := (hL i (Nat.lt_of_lt_of_le hi hsh.le)).1 hLi
      omega
  refine main fuel L (List.range' s (Fs.length - s)) a w H [] _ hD (fun i h1 h2 _ => by rw [List.mem_range'_1]; omega) ?_
  rw [List.length_range']
  have := hsh.le
  omega
end
end Go.Bw
namespace Go.Bw
set_option linter.unusedVariables false
set_option linter.unusedSimpArgs false
open Go.RowKit Go.Deep Go.ChangeShapes
/-- All of memory. -/
def heapOf (w : World) : Hp := fun b => w.heap[b]?
theorem heapOf.sub (w : World) : Sub (heapOf w) w := fun _ _ h => h
theorem HS.below {w w' : World} {H0 H : Hp} {M : Mem} (h : HS [] H0 w H M w') : Below w.heap.size w w' :=
  ⟨h.os, h.tape, h.out, h.size, fun k hk => h.keep k hk (by simp)⟩
theorem Pure.law {w w' : World} {e : Ending} {H0 : Hp} {R : Value → Hp → Prop} (h : Pure H0 w R e w') (hR : ∀ v H, R v H → v = .bool true) : e = .returned (.bool true) ∧ Below w.heap.size w w' := by
  obtain ⟨v, H', M', rfl, hs, _, _, hr⟩ := h
  exact ⟨by rw [hR v H' hr], hs.below⟩

section
variable {H : Type} {enc : TypeId × Value → H} {P : Program} {w : World} {base : Nat} {spare : Nat → Bool} {held : Bool}
end
end Go.Bw
namespace Go.Bw
set_option linter.unusedVariables false
set_option linter.unusedSimpArgs false
section
variable {P : Program} {n : Nat} {ds : List Deferred} {env : Env} {w w0 : World} {dst : Option Nat} {ty : TypeId} {pos : String} {aft : Array Edge} {gd : Option (Nat × Bool)} {R : Value → World → Prop}
variable {xs : List Nat} {H0 H : Hp} {M : Mem} {x y : Operand} {t e : TypeId} {d : TypeDesc} {sz by_ : Nat} {z v : Value}
/-- How many entries a map has. -/
theorem OR.lenMap {g clk : Nat} {es : Array MapEntry} {kt et : TypeId} (hg : w.heap[g]? = some (.map es clk)) (ht : P.underlying t = some (.map kt et)) (hx : look env x = some (.map (some g))) (hR : R (.int .i64 (es.size : Int)) w) :
    OR P n ds ⟨dst, .call { callee := .builtin .len, args := #[x], argTypes := #[t] }, ty, pos, aft, gd⟩ env w R :=
  .run (fun a ha => by
    have hgo : (getObj g).run P w = .ok (.map es clk) w := by simp [getObj, Sem.run, hg]
    simp [execOp, resolve, invoke, builtin, Builtin.len_, ha.look hx, run_underlying ht, hgo, Builtin.lenOf, goInt]) hR
/-- Is a map one? -/
theorem OR.neqNilM {kt et tyy : TypeId} {m : Option Nat} (ht : P.underlying t = some (.map kt et)) (hx : look env x = some (.map m)) (hy : look env y = some (.map none)) (hR : R (.bool m.isSome) w) :
    OR P n ds ⟨dst, .binOp .neq t x y tyy, ty, pos, aft, gd⟩ env w R :=
  .run (fun a ha => by
    have h0 : ∀ k, (Op.equalIn (k + 1) t (.map m) (.map none)).run P w = .ok m.isNone w := fun k => by cases m <;> simp [Op.equalIn, run_underlying ht]
    have h' : (Op.equal t (.map m) (.map none)).run P w = .ok m.isNone w := h0 9999
    have h3 : (eqGuard .neq t x y (.map m) (.map none)).run P w = .ok () w := by simp [eqGuard]
    have h2 : (binOp .neq t (.map m) (.map none)).run P w = .ok (.bool m.isSome) w := by unfold binOp; simp [h']
    simp [execOp, ha.look hx, ha.look hy, h3, h2]) hR
/-- A range over a map begins. -/
theorem OR.rangeM {g clk : Nat} {es : Array MapEntry} {kt et : TypeId} (hs : HS xs H0 w0 H M w) (hg : w.heap[g]? = some (.map es clk)) (ht : P.underlying t = some (.map kt et)) (hx : look env x = some (.map (some g)))
    (hR : ∀ r w', w0.heap.size ≤ r → HS xs H0 w0 H ((r, .mapIter (some g) clk #[] clk, true) :: M) w' → R (.pointer (some ⟨r, 0, none⟩)) w') :
    OR P n ds ⟨dst, .range t x, ty, pos, aft, gd⟩ env w R :=
  .run (v := .pointer (some ⟨w.heap.size, 0, none⟩)) (w' := w.alloc (.mapIter (some g) clk #[] clk)) (fun a ha => by
    have hgo : (getObj g).run P w = .ok (.map es clk) w := by simp [getObj, Sem.run, hg]
    simp [execOp, ha.look hx, Instr.range, run_underlying ht, hgo, newObj, Sem.run]) (hR _ _ hs.size (hs.alloc _))
theorem HS.drawn {k : Nat} (hs : HS xs H0 w0 H M w) : HS xs H0 w0 H M { w with drawn := k } :=
  ⟨hs.le, hs.sub, hs.new, hs.keep, hs.size, hs.os, hs.tape, hs.out, hs.mem, hs.nd⟩
theorem run_choose_lt (w : World) (k : Nat) (hk : 0 < k) : ∃ i d, i < k ∧ (choose (.mapNext k)).run P w = .ok i { w with drawn := d } := by
  by_cases hf : (Question.mapNext k).forced = true
  · exact ⟨0, w.drawn, hk, by simp [choose, Sem.run, hf]⟩
  · refine ⟨(Question.mapNext k).cut (w.tape w.drawn (.mapNext k)), w.drawn + 1, ?_, by simp [choose, Sem.run, hf]⟩
    exact Nat.mod_lt _ hk
/-- One step of a range over a map that nobody changes. -/
theorem OR.nextM {r g clk last : Nat} {es : Array MapEntry} {seen : Array Nat} (hs : HS xs H0 w0 H ((r, .mapIter (some g) clk seen last, true) :: M) w) (hg : w.heap[g]? = some (.map es clk)) (hx : look env x = some (.pointer (some ⟨r, 0, none⟩)))
    (hborn : ∀ e ∈ es.toList, e.born < clk) (hlast : clk ≤ last)
    (hend : (∀ e ∈ es.toList, e.born ∈ seen.toList) → ∀ w', HS xs H0 w0 H ((r, .mapIter (some g) clk seen last, true) :: M) w' → R (.tuple #[.bool false]) w')
    (hon : ∀ e ∈ es.toList, e.born ∉ seen.toList → ∀ w', HS xs H0 w0 H ((r, .mapIter (some g) clk (seen.push e.born) clk, true) :: M) w' → R (.tuple #[.bool true, e.key, e.val]) w') :
    OR P n ds ⟨dst, .next x false, ty, pos, aft, gd⟩ env w R := by
  have hr := (hs.mem r (.mapIter (some g) clk seen last) true (by simp)).1
  have hgo : (getObj r).run P w = .ok (.mapIter (some g) clk seen last) w := by simp [getObj, Sem.run, hr]
  have hgm : (getObj g).run P w = .ok (.map es clk) w := by simp [getObj, Sem.run, hg]
  have hc : (!seen.isEmpty && !es.isEmpty && es.all fun x => decide (x.born ≥ last)) = false := by
    cases he : es.isEmpty with
    | true => simp
    | false =>
      have hne : es.toList ≠ [] := by intro h; simp at h; rw [h] at he; simp at he
      obtain ⟨e, rest, hl⟩ := List.exists_cons_of_ne_nil hne
      have h1 := hborn e (by rw [hl]; simp)
      have h2 : (es.all fun x => decide (x.born ≥ last)) = false := by
        rw [← Array.all_toList, hl]
        simp
        intro h
        omega
      simp [h2]
  have hc' : ¬ ((!seen.isEmpty && !es.isEmpty && es.all fun x => decide (x.born ≥ last)) = true) := by rw [hc]; simp
  have hold : (Array.filter (fun e => !seen.contains e.born) es).filter (fun x => decide (x.born < clk)) = Array.filter (fun e => !seen.contains e.born) es := by
    apply Array.toList_inj.1
    rw [Array.toList_filter]
    exact List.filter_eq_self.2 fun e he => by
      rw [Array.toList_filter] at he
      exact decide_eq_true (hborn e (List.mem_filter.1 he).1)
  have hnew : (Array.filter (fun e => !seen.contains e.born) es).filter (fun x => decide (x.born ≥ clk)) = #[] := by
    apply Array.toList_inj.1
    rw [Array.toList_filter]
    exact List.filter_eq_nil_iff.2 fun e he => by
      rw [Array.toList_filter] at he
      have := hborn e (List.mem_filter.1 he).1
      simp
      omega
  obtain ⟨left, hleft⟩ : ∃ l, l = Array.filter (fun e => !seen.contains e.born) es := ⟨_, rfl⟩
  rw [← hleft] at hold hnew
  have hmem : ∀ e, e ∈ left.toList ↔ e ∈ es.toList ∧ e.born ∉ seen.toList := fun e => by
    rw [hleft, Array.toList_filter, List.mem_filter]
    simp
  by_cases hl0 : left = #[]
  · have hall : ∀ e ∈ es.toList, e.born ∈ seen.toList := fun e he => by
      by_cases hb : e.born ∈ seen.toList
      · exact hb
      · have := (hmem e).2 ⟨he, hb⟩
        rw [hl0] at this
        simp at this
    refine .run (v := .tuple #[.bool false]) (w' := w) (fun a ha => ?_) (hend hall w hs)
    have hch : (choose (.mapNext 1)).run P w = .ok 0 w := by simp [choose, Sem.run, Question.forced]
    have hold' : Array.filter (fun x => decide (x.born < clk)) left = #[] := by rw [hl0]; rfl
    simp only [execOp, ha.look hx, Instr.next, Sem.run_bind, hgo, Result.andThen_ok, hgm, if_neg hc', ← hleft, hold', hnew]
    have hf1 : (Question.mapNext 1).forced = true := rfl
    simp [hf1]
  · obtain ⟨i, dd, hi, hch⟩ := run_choose_lt (P := P) w left.size (by
      rcases Nat.eq_zero_or_pos left.size with h | h
      · exact absurd (Array.eq_empty_of_size_eq_zero h) hl0
      · exact h)
    have hli : left[i] ∈ left.toList := by simp
    obtain ⟨h1, h2⟩ := (hmem _).1 hli
    have hsd : HS xs H0 w0 H ((r, .mapIter (some g) clk seen last, true) :: M) { w with drawn := dd } := hs.drawn
    refine .run (v := .tuple #[.bool true, left[i].key, left[i].val]) (w' := { w with drawn := dd, heap := w.heap.setIfInBounds r (.mapIter (some g) clk (seen.push left[i].born) clk) }) (fun a ha => ?_) (hon _ h1 h2 _ (hsd.write _ rfl rfl rfl rfl))
    have hie : left.isEmpty = false := by
      cases h : left.isEmpty with
      | false => rfl
      | true => exact absurd (Array.isEmpty_iff.1 h) hl0
    simp only [execOp, ha.look hx, Instr.next, Sem.run_bind, hgo, Result.andThen_ok, hgm, if_neg hc', ← hleft, hold, hnew, hie, Array.append_empty, Bool.false_eq_true, if_false, Array.empty_append, Array.size_map, hch]
    simp [hi, setObj, Sem.run, hr]
theorem OR.nextM' {r g clk last : Nat} {es : Array MapEntry} {seen : Array Nat} (hs : HS xs H0 w0 H ((r, .mapIter (some g) clk seen last, true) :: M) w) (hg : w.heap[g]? = some (.map es clk)) (hx : look env x = some (.pointer (some ⟨r, 0, none⟩)))
    (hborn : ∀ e ∈ es.toList, e.born < clk) (hlast : clk ≤ last)
    (hR : ∀ v w', (((∀ e ∈ es.toList, e.born ∈ seen.toList) ∧ v = .tuple #[.bool false] ∧ HS xs H0 w0 H ((r, .mapIter (some g) clk seen last, true) :: M) w') ∨
      (∃ e, e ∈ es.toList ∧ e.born ∉ seen.toList ∧ v = .tuple #[.bool true, e.key, e.val] ∧ HS xs H0 w0 H ((r, .mapIter (some g) clk (seen.push e.born) clk, true) :: M) w')) → R v w') :
    OR P n ds ⟨dst, .next x false, ty, pos, aft, gd⟩ env w R :=
  .nextM hs hg hx hborn hlast (fun h w' k => hR _ _ (.inl ⟨h, rfl, k⟩)) (fun e he hn w' k => hR _ _ (.inr ⟨e, he, hn, rfl, k⟩))
def unseen (n : Nat) (seen : Array Nat) : Nat := ((List.range n).filter fun j => !seen.contains j).length
theorem unseen_push {n j : Nat} {seen : Array Nat} (hj : j < n) (hn : j ∉ seen.toList) : unseen n (seen.push j) < unseen n seen := by
  have e : (List.range n).filter (fun i => !(seen.push j).contains i) = ((List.range n).filter fun i => !seen.contains i).filter fun i => !(i == j) := by
    rw [List.filter_filter]
    congr 1
    funext i
    by_cases e : i = j
    · subst e; simp
    · have e' : ¬ j = i := fun h => e h.symm
      simp [e]
  unfold unseen
  rw [e, List.length_filter_lt_length_iff_exists]
  refine ⟨j, List.mem_filter.2 ⟨List.mem_range.2 hj, ?_⟩, by simp⟩
  simpa using hn
theorem find_born {es : Array MapEntry} {e : MapEntry} (hn : (es.toList.map (·.born)).Nodup) (he : e ∈ es.toList) : es.find? (fun x => x.born == e.born) = some e := by
  rw [← Array.find?_toList]
  obtain ⟨l⟩ := es
  simp only at hn he ⊢
  induction l with
  | nil => cases he
  | cons a l ih =>
    rw [List.map_cons, List.nodup_cons] at hn
    rcases List.mem_cons.1 he with rfl | he
    · simp
    · rw [List.find?_cons_of_neg (by
        simp
        intro h
        exact hn.1 (by rw [h]; exact List.mem_map.2 ⟨e, he, rfl⟩))]
      exact ih hn.2 he
/-- The entry of the step. -/
theorem OR.entryM {r g clk since : Nat} {es : Array MapEntry} {seen : Array Nat} {e : MapEntry} (hr : w.heap[r]? = some (.mapIter (some g) since (seen.push e.born) clk)) (hg : w.heap[g]? = some (.map es clk)) (hx : look env x = some (.pointer (some ⟨r, 0, none⟩)))
    (hn : (es.toList.map (·.born)).Nodup) (he : e ∈ es.toList) (hR : R (.tuple #[e.key, e.val]) w) :
    OR P n ds ⟨dst, .entry x, ty, pos, aft, gd⟩ env w R :=
  .run (fun a ha => by
    have hgo : (getObj r).run P w = .ok (.mapIter (some g) since (seen.push e.born) clk) w := by simp [getObj, Sem.run, hr]
    have hgm : (getObj g).run P w = .ok (.map es clk) w := by simp [getObj, Sem.run, hg]
    simp [execOp, ha.look hx, Instr.entry, hgo, hgm, find_born hn he]) hR
/-- A value behind an interface. -/
theorem OR.makeIface {t : TypeId} (ht : P.underlying t = some d) (hd : (match d with | .interface _ => false | _ => true) = true) (hx : look env x = some v) (hR : R (.iface t v) w) :
    OR P n ds ⟨dst, .makeInterface t x, ty, pos, aft, gd⟩ env w R :=
  .run (fun a ha => by
    simp only [execOp, ha.look hx, Instr.makeInterface, Sem.run_bind, run_underlying ht, Result.andThen_ok]
    cases d <;> first | (simp at hd; done) | simp) hR
/-- A method called through an interface. -/
theorem OR.invoke {f : FuncId} {name : String} {args : List Operand} {vs : List Value} {tys : Array TypeId} {t : TypeId} {C : Value → Hp → Prop}
    (hs : HS xs H0 w0 H M w) (hb : Body P f) (hm : (method (P.types.size + Made.depth) t v name).run P w = .ok (f, v) w) (hx : look env x = some (.iface t v)) (ha : lookAll env args = some vs)
    (hc : Calls P f (v :: vs).toArray w (Pure H w C))
    (hR : ∀ v H' w', HS xs H0 w0 H' M w' → H.le H' → C v H' → R v w') :
    OR P n ds ⟨dst, .call { callee := .invoke x name, args := args.toArray, argTypes := tys }, ty, pos, aft, gd⟩ env w R := by
  refine .enter (f := f) (args := (v :: vs).toArray) (w' := w) (fun a hs' => ?_) hc ?_
  · have e : (#[v] ++ vs.toArray : Array Value) = (v :: vs).toArray := by simp
    simp [execOp, resolve, Go.invoke, callMethod, hs'.look hx, List.map_toArray, hs'.lookAll _ _ ha, hm, hb _ w]
  · rintro e w' ⟨v, H', M', rfl, hk', hM, hC⟩
    obtain ⟨rfl, hC⟩ := hC
    have h9 := hs.after (Mx := []) (Mr := M) hk' rfl rfl (by simp) hM
    exact ⟨v, rfl, hR v H' w' h9 hk'.le hC⟩
end
end Go.Bw
