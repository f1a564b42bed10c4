/- Slices of slices, cap, copy, append of noughts, calls without a body. -/
import Derived.Test.YtdibepkfgemddaaGreatOps2
import Derived.Lib.Overlaps
import Derived.Laws.Externs
namespace Go.Bw
set_option linter.unusedVariables false
set_option linter.unusedSimpArgs false
section
variable {P : Program} {n : Nat} {ds : List Deferred} {env : Env} {w : World}
variable {dst : Option Nat} {ty : TypeId} {pos : String} {aft : Array Edge} {gd : Option (Nat × Bool)} {R : Value → World → Prop}
variable {xs : List Nat} {H0 H : Hp} {w0 : World} {M : Mem}
variable {x y u : Operand} {t e : TypeId} {d : TypeDesc} {sz by_ : Nat} {z : Value}

theorem OR.sliceLoG (m : Nat) {k : IntKind} {i : Int} {a : Option Addr} {len cap : Nat} (ht : P.underlying t = some (.slice e)) (he : TI P e d sz by_ z) (hx : look env x = some (.slice a len cap))
    (hy : look env y = some (.int k i)) (hi : i = (m : Int)) (h1 : m ≤ len) (hR : R (.slice (if cap = m then a else a.map (·.add (m * sz))) (len - m) (cap - m)) w) :
    OR P n ds ⟨dst, .slice t x (some y) none none, ty, pos, aft, gd⟩ env w R := by
  subst hi
  refine .run (fun aa ha => ?_) hR
  simp [execOp, ha.look hx, ha.look hy, Instr.sliceAt, run_underlying ht, Instr.slice, Instr.sliceBounds, he.run_size, Instr.sliceBound, asIntOf, h1]
theorem OR.sliceLo (m : Nat) {k : IntKind} {i : Int} {b o len cap : Nat} (ht : P.underlying t = some (.slice e)) (he : TI P e d sz by_ z) (hx : look env x = some (.slice (some ⟨b, o, none⟩) len cap))
    (hy : look env y = some (.int k i)) (hi : i = (m : Int)) (h1 : m ≤ len) (h2 : m < cap) (hR : R (.slice (some ⟨b, o + m * sz, none⟩) (len - m) (cap - m)) w) :
    OR P n ds ⟨dst, .slice t x (some y) none none, ty, pos, aft, gd⟩ env w R :=
  .sliceLoG m ht he hx hy hi h1 (by rw [if_neg (by omega), Option.map_some, add_off]; exact hR)
theorem OR.sliceHiG (m : Nat) {k : IntKind} {i : Int} {a : Option Addr} {len cap : Nat} (ht : P.underlying t = some (.slice e)) (he : TI P e d sz by_ z) (hx : look env x = some (.slice a len cap))
    (hy : look env y = some (.int k i)) (hi : i = (m : Int)) (h1 : m ≤ cap) (hR : R (.slice a m cap) w) :
    OR P n ds ⟨dst, .slice t x none (some y) none, ty, pos, aft, gd⟩ env w R := by
  subst hi
  have h9 : (if cap = 0 then a else a.map (·.add 0)) = a := by
    split
    · rfl
    · cases a with
      | none => rfl
      | some b => rfl
  refine .run (v := .slice a m cap) (w' := w) (fun aa ha => ?_) hR
  simp [execOp, ha.look hx, ha.look hy, Instr.sliceAt, run_underlying ht, Instr.slice, Instr.sliceBounds, he.run_size, Instr.sliceBound, asIntOf, h1]
  intro h0
  rwa [if_neg h0] at h9
theorem OR.sliceHi (m : Nat) {k : IntKind} {i : Int} {b o len cap : Nat} (ht : P.underlying t = some (.slice e)) (he : TI P e d sz by_ z) (hx : look env x = some (.slice (some ⟨b, o, none⟩) len cap))
    (hy : look env y = some (.int k i)) (hi : i = (m : Int)) (h1 : m ≤ cap) (hR : R (.slice (some ⟨b, o, none⟩) m cap) w) :
    OR P n ds ⟨dst, .slice t x none (some y) none, ty, pos, aft, gd⟩ env w R :=
  .sliceHiG m ht he hx hy hi h1 hR

theorem OR.capSlice {base : Option Addr} {m c : Nat} (ht : P.underlying t = some (.slice e)) (hx : look env x = some (.slice base m c)) (hR : R (.int .i64 c) w) :
    OR P n ds ⟨dst, .call { callee := .builtin .cap, args := #[x], argTypes := #[t] }, ty, pos, aft, gd⟩ env w R :=
  .run (fun a ha => by simp [execOp, resolve, invoke, builtin, Builtin.cap_, ha.look hx, run_underlying ht, goInt]) hR

/-- copy into the block that comes first. -/
theorem OR.copy {g o dLen dCap sLen sCap : Nat} {a : Addr} {c : Array Value} {e' t' : TypeId} (hs : HS xs H0 w0 H ((g, .cells c e', true) :: M) w) (news : List Value) (ht : P.underlying t = some (.slice e)) (he : TI P e d sz by_ z)
    (hx : look env x = some (.slice (some ⟨g, o, none⟩) dLen dCap)) (hy : look env y = some (.slice (some a) sLen sCap)) (hl : news.length = Nat.min sLen dLen * sz)
    (hsrc : ∀ j u, news[j]? = some u → w.cell? (a.add j) = some u) (hfit : o + news.length ≤ c.size) (h1 : news.all (·.oneCell') = true)
    (hR : ∀ w', HS xs H0 w0 H ((g, .cells (setL c.toList o news).toArray e', true) :: M) w' → R (.int .i64 (Nat.min sLen dLen : Nat)) w') :
    OR P n ds ⟨dst, .call { callee := .builtin .copy, args := #[x, y], argTypes := #[t, t'] }, ty, pos, aft, gd⟩ env w R := by
  have hg := (hs.mem g (.cells c e') true (by simp)).1
  obtain ⟨w', h2, h3, h4, h5, h6⟩ := run_storeCells_in (P := P) g e' news c o 0 w hg (by simpa using hfit) (List.all_eq_true.1 h1)
  rw [Nat.add_zero, setFrom_list] at h3
  have hld := run_loadCells_list (P := P) w a news hsrc
  rw [hl] at hld
  refine .run (v := .int .i64 (Nat.min sLen dLen : Nat)) (w' := w') (fun aa ha => ?_) (hR w' (hs.write _ h3 h4 h5 h6))
  simp [execOp, resolve, invoke, builtin, Builtin.copy_, ha.look hx, ha.look hy, run_underlying ht, Builtin.lenOf, he.run_size, Builtin.firstCells, hld, h2, goInt]

/-- append(s, make([]T, m)...) where there is no room: a new block. -/
theorem OR.appendZeros {N : Nat} (hN : N ≤ w0.heap.size) {l m cap : Nat} {a : Option Addr} {cs : List Value} {tn : TypeId} (hs : HS xs H0 w0 H M w)
    (ht : P.underlying t = some (.slice e)) (he : TI P e d sz by_ z) (hzs : z.cells.size = sz) (hsz : 0 < sz) (htn : P.underlying tn = some (.int .i64))
    (hx : look env x = some (.slice a l cap)) {i : Int} (hy : look env y = some (.int .i64 i)) (hi : i = (m : Int)) (hl : cs.length = l * sz) (hcs : ∀ b, a = some b → ∀ j u, cs[j]? = some u → w.cell? (b.add j) = some u) (ha0 : a = none → l = 0)
    (hm : 0 < m) (hgrow : cap < l + m) (hbytes : (l + m) * by_ ≤ 140737488355328) (h63 : l + m ≤ 9223372036854775807)
    (hR : ∀ g w' c' Z, N ≤ g → l + m ≤ c' → Z.length = (c' - l) * sz → HS xs H0 w0 H ((g, .cells (cs ++ Z).toArray e, true) :: M) w' → R (.slice (some ⟨g, 0, none⟩) (l + m) c') w') :
    OR P n ds ⟨dst, .call { callee := .builtin .append, args := #[x, y], argTypes := #[t, tn] }, ty, pos, aft, gd⟩ env w R := by
  subst hi
  obtain ⟨inf, hi1, hi2, hi3, hi4⟩ := he.inf
  have hge := grownCap_ge w (l + m) cap e
  have hw : IntKind.i64.wrap (m : Int) = m := wrap_i64 (by omega) (by omega)
  have hneg : ¬ ((m : Int) < 0) := by omega
  have hmb : m * by_ ≤ (l + m) * by_ := Nat.mul_le_mul_right _ (by omega)
  have h48i : ¬ (281474976710656 < (m : Int) * (by_ : Int)) := by
    rw [← Int.natCast_mul]; omega
  have h63' : ¬ (9223372036854775807 < ((l + m : Nat) : Int)) := by omega
  have h48' : ¬ (281474976710656 < Builtin.nextslicecap (l + m) cap * by_) := by
    have := growslice_fits (need := l + m) (old := cap) (by omega) hbytes
    omega
  have hroom : ¬ (l + m ≤ cap) := by omega
  have hzl : ∀ k, (Builtin.zeroCells z.cells k).toList.length = k * sz := fun k => by rw [Array.length_toList, size_zeroCells, hzs]
  have hne : m ≠ 0 → ¬ (m * sz = 0) := fun h => Nat.mul_ne_zero h (by omega)
  have hfc : (Builtin.firstCells sz l (.slice a l cap)).run P w.drew = .ok cs.toArray w.drew := by
    cases a with
    | none =>
      have : cs = [] := List.eq_nil_of_length_eq_zero (by rw [hl, ha0 rfl]; simp)
      subst this
      simp [Builtin.firstCells]
    | some b => exact run_firstCells_some w.drew sz l b l cap cs hl (hcs b rfl)
  have hZ : ∃ Z : List Value, Z.length = (grownCap w (l + m) cap e - l) * sz ∧
      (Builtin.append_ #[t, tn] ty #[.slice a l cap, .int .i64 (m : Int)]).run P w = .ok (.slice (some ⟨w.heap.size, 0, none⟩) (l + m) (grownCap w (l + m) cap e)) (w.drew.alloc (.cells (cs ++ Z).toArray e)) := by
    refine ⟨(Builtin.zeroCells z.cells m).toList ++ (Builtin.zeroCells z.cells (grownCap w (l + m) cap e - (l + m))).toList, ?_, ?_⟩
    · rw [List.length_append, hzl, hzl, ← Nat.add_mul]
      congr 1; omega
    · have e1 : (cs ++ ((Builtin.zeroCells z.cells m).toList ++ (Builtin.zeroCells z.cells (grownCap w (l + m) cap e - (l + m))).toList)).toArray = cs.toArray ++ Builtin.zeroCells z.cells m ++ Builtin.zeroCells z.cells (grownCap w (l + m) cap e - (l + m)) := by
        apply Array.ext'
        simp
      rw [e1]
      have hns : ¬ (m * sz = 0) := hne (by omega)
      have h63'' : ¬ (9223372036854775807 < (l : Int) + (m : Int)) := by omega
      simp [Builtin.append_, run_underlying ht, run_underlying htn, sizeOf, typeInfo, zeroValue, hi1, hi2, hi3, hi4, asInt, asIntOf, hw, hneg, hns, h48i, hroom, h63'', h48', Question.forced, hfc, newRow, grownCap]
  obtain ⟨Z, hZ1, hZ2⟩ := hZ
  exact .run (fun aa ha => execOp_append rfl (by rw [ha.look hx, ha.look hy]; exact hZ2)) (hR _ _ _ Z (Nat.le_trans hN hs.size) (by omega) hZ1 (hs.drew.alloc _))

end
end Go.Bw
namespace Go.Bw
set_option linter.unusedVariables false
set_option linter.unusedSimpArgs false
section
variable {P : Program} {n : Nat} {ds : List Deferred} {env : Env} {w : World}
variable {dst : Option Nat} {ty : TypeId} {pos : String} {aft : Array Edge} {gd : Option (Nat × Bool)} {R : Value → World → Prop}
variable {t e : TypeId} {d : TypeDesc} {sz by_ : Nat} {z : Value}
/-- A call that is done at once. -/
theorem OR.callAt {f : FuncId} {args : List Operand} {vs : List Value} {tys : Array TypeId} {x : Operand} {v : Value} (hx : look env x = some (.func (.func f) #[] #[])) (ha : lookAll env args = some vs)
    (hc : (callFunc f vs.toArray).run P w = .ok (.value v) w) (hR : R v w) : OR P n ds ⟨dst, .call { callee := .value x, args := args.toArray, argTypes := tys }, ty, pos, aft, gd⟩ env w R := by
  refine .run (fun a hs' => ?_) hR
  simp [execOp, resolve, hs'.look hx, Deferred.ofValue, invoke, List.map_toArray, hs'.lookAll _ _ ha, hc]
/-- Two slices in two blocks do not lie over one another. -/
theorem apart_run {f : FuncId} {fn : Func} {tR : TypeId} {g g' o o' l l' c c' : Nat} {cs cs' : Array Value} {e1 e2 : TypeId} (hf : P.funcs[f]? = some fn) (hname : (fn.name == "runtime.NumGoroutine") = false) (hb : fn.body.isNone = true) (hn : Extern.findNext fn = none)
    (he : Extern.find fn = some (Extern.SlicesOverlaps.overlaps #[t, t] #[tR])) (ht : P.underlying t = some (.slice e)) (hi : TI P e d sz by_ z) (hg : w.heap[g]? = some (.cells cs e1)) (hg' : w.heap[g']? = some (.cells cs' e2)) (hne : g ≠ g') (h0 : cs'.size ≠ 0) :
    (callFunc f #[.slice (some ⟨g, o, none⟩) l c, .slice (some ⟨g', o', none⟩) l' c']).run P w = .ok (.value (.bool false)) w := by
  rw [run_callFunc_extern hf hname hb hn he, Lib.run_overlaps_apart w t tR e ht sz (fun w => hi.run_size w) ⟨g, o, none⟩ ⟨g', o', none⟩ l c l' c' hne e1 e2 cs.size cs'.size (by simp [World.shape?, hg]) (by simp [World.shape?, hg']) h0
    (by simp [World.frozen?, hg]) (by simp [World.frozen?, hg])]
  rfl
end
theorem setL_at : ∀ (vs l : List Value) (k : Nat), k + vs.length ≤ l.length → setL l k vs = l.take k ++ vs ++ l.drop (k + vs.length) := by
  intro vs
  induction vs with
  | nil => intro l k _; simp [setL_nil]
  | cons v vs ih =>
    intro l k hk
    simp only [List.length_cons] at hk ⊢
    rw [setL_step, ih _ _ (by simp; omega), List.take_succ_eq_append_getElem (by simp; omega), List.take_set, List.set_eq_of_length_le (by rw [List.length_take]; omega), List.drop_set_of_lt (by omega)]
    simp [Nat.add_comm, Nat.add_left_comm]
end Go.Bw
namespace Go.Bw
set_option linter.unusedVariables false
set_option linter.unusedSimpArgs false
theorem HS.start2 {H : Hp} {w : World} {g g' : Nat} {o o' : Obj} {t' : Bool} (h : Sub H w) (hg : w.heap[g]? = some o) (hn : H g = none) (hg' : w.heap[g']? = some o') (hn' : H g' = none) (hne : g' ≠ g) (ht : t' = false) : HS [g] H w H [(g, o, true), (g', o', t')] w := by
  subst ht
  refine HS.start [g] h (fun q o2 t hm => ?_) (by simp [Mem.keys]; exact Ne.symm hne)
  rcases List.mem_cons.1 hm with e | hm
  · cases e; exact ⟨hg, hn, fun _ => by simp⟩
  · have := List.mem_singleton.1 hm; cases this; exact ⟨hg', hn', fun h => by cases h⟩
end Go.Bw
namespace Go.Bw
set_option linter.unusedVariables false
set_option linter.unusedSimpArgs false
theorem get_take {α : Type} {l : List α} {k j : Nat} {u : α} (h : (l.take k)[j]? = some u) : l[j]? = some u := by
  rw [List.getElem?_take] at h
  split at h
  · exact h
  · cases h
theorem get_drop {α : Type} {l : List α} {k j : Nat} {u : α} (h : (l.drop k)[j]? = some u) : l[k + j]? = some u := by rwa [List.getElem?_drop] at h
theorem cells_at {w : World} {g : Nat} {c : Array Value} {e : TypeId} {fr : Nat × Nat} (hb : w.heap[g]? = some (.cells c e fr)) {o j : Nat} {u : Value} (hj : c.toList[o + j]? = some u) : w.cell? ((⟨g, o, none⟩ : Addr).add j) = some u := by
  rw [add_off]
  simpa [World.cell?, hb] using hj
end Go.Bw
namespace Go.Bw
set_option linter.unusedVariables false
set_option linter.unusedSimpArgs false
theorem natmin {a b c : Nat} (h : (a ≤ b ∧ c = a) ∨ (b ≤ a ∧ c = b)) : Nat.min a b = c := by
  show min a b = c
  omega
end Go.Bw
namespace Go.Bw
set_option linter.unusedVariables false
set_option linter.unusedSimpArgs false
/-- A slice of a whole new block. -/
def MF.sl (N n : Nat) (o : Obj) : MF := ⟨fun v M _ => ∃ g, N ≤ g ∧ v = .slice (some ⟨g, 0, none⟩) n n ∧ M = [(g, o, true)], fun _ _ _ _ _ h => h⟩
/-- A slice that is owned. -/
def MF.own (N : Nat) (e : TypeId) (sz n : Nat) (xs : List Value) : MF := ⟨fun v M _ => Own N e sz v n xs M, fun _ _ _ _ _ h => h⟩
theorem forAllVals_sl {ops : List Oper} {H : Hp} {i N n : Nat} {o : Obj} {Fs : List MF} {env : Env} {M : Mem} {K : Env → Mem → Prop} {d : Nat} (hd : dstOf ops i = some d)
    (h : ∀ g, N ≤ g → forAllVals ops H (i + 1) Fs ((d, .slice (some ⟨g, 0, none⟩) n n) :: env) ((g, o, true) :: M) K) : forAllVals ops H i (MF.sl N n o :: Fs) env M K :=
  forAllVals_cons hd (by rintro v My ⟨g, hg, rfl, rfl⟩; exact h g hg)
end Go.Bw
namespace Go.Bw
set_option linter.unusedVariables false
set_option linter.unusedSimpArgs false
theorem HS.apart {xs : List Nat} {H0 H : Hp} {w0 w : World} {Mo Mr : Mem} {p : Nat × Obj × Bool} (h : HS xs H0 w0 H (Mo ++ (p :: Mr)) w) : ∀ q ∈ Mo, p.1 ≠ q.1 := by
  intro q hq e
  have := h.nd
  simp only [Mem.keys, List.map_append, List.map_cons, List.nodup_append] at this
  exact this.2.2 q.1 (List.mem_map.2 ⟨q, hq, rfl⟩) p.1 (by simp) e.symm
theorem HS.known {xs : List Nat} {H0 H : Hp} {w0 w : World} {Mo Mr : Mem} (h : HS xs H0 w0 H (Mo ++ Mr) w) : ∀ q ∈ Mo, w.heap[q.1]? = some q.2.1 ∧ H q.1 = none :=
  fun _ hq => ⟨(h.mem _ _ _ (List.mem_append_left _ hq)).1, (h.mem _ _ _ (List.mem_append_left _ hq)).2.1⟩
theorem RowsOk.get {H : Hp} {cs : List (Value × Value)} {rs : List RowD} (h : RowsOk H cs rs) (k : Nat) (hk : k < rs.length) :
    ∃ ec ep, (rowCells cs)[k * 2]? = some ec ∧ (rowCells cs)[k * 2 + 1]? = some ep ∧ Bytes H ec rs[k].1 ∧ Bytes H ep rs[k].2 := by
  have hk' : k < cs.length := by rw [h.1]; exact hk
  have h1 := rowCells_get cs k hk'
  exact ⟨cs[k].1, cs[k].2, h1.1, h1.2, (h.2 k hk hk').1, (h.2 k hk hk').2⟩
end Go.Bw
namespace Go.Bw
set_option linter.unusedVariables false
set_option linter.unusedSimpArgs false
theorem Own.mono {N N' : Nat} {e : TypeId} {sz n : Nat} {v : Value} {xs : List Value} {Mo : Mem} (h : Own N e sz v n xs Mo) (hN : N' ≤ N) : Own N' e sz v n xs Mo := by
  obtain ⟨h1, h2 | ⟨g, c, cap, q1, q2, q3, q4, q5, q6⟩⟩ := h
  · exact ⟨h1, .inl h2⟩
  · exact ⟨h1, .inr ⟨g, c, cap, q1, q2, q3, q4, q5, by omega⟩⟩

/-! ### parts of a slice that stays -/
theorem Sl.takeS {H : Hp} {sz n c : Nat} {b : Option Addr} {xs : List Value} (h : Sl H sz (.slice b n c) n xs) (m : Nat) (hm : m ≤ n) : Sl H sz (.slice b m c) m (xs.take (m * sz)) := by
  obtain ⟨h1, b', c', h2, h3, h4, h5⟩ := h
  cases h2
  have hms := Nat.mul_le_mul_right sz hm
  refine ⟨by rw [List.length_take]; omega, b, c, rfl, by omega, fun hb => ⟨by have := (h4 hb).1; omega, (h4 hb).2⟩, fun a ha => ⟨fun h0 => (h5 a ha).1 (by omega), fun i u hi => (h5 a ha).2 i u (get_take hi)⟩⟩
theorem Sl.dropS {H : Hp} {sz n c : Nat} {b : Option Addr} {xs : List Value} (h : Sl H sz (.slice b n c) n xs) (m : Nat) (hm : m ≤ n) :
    Sl H sz (.slice (if c = m then b else b.map (·.add (m * sz))) (n - m) (c - m)) (n - m) (xs.drop (m * sz)) := by
  obtain ⟨h1, b', c', h2, h3, h4, h5⟩ := h
  cases h2
  have hms := Nat.mul_le_mul_right sz hm
  refine ⟨by rw [List.length_drop, h1, Nat.sub_mul], _, _, rfl, by omega, fun hb => ?_, fun a ha => ?_⟩
  · split at hb
    · rename_i e; omega
    · cases b with
      | none => have := h4 rfl; omega
      | some a => cases hb
  · split at ha
    · rename_i e
      refine ⟨fun h0 => by omega, fun i u hi => ?_⟩
      have := (List.getElem?_eq_some_iff.1 hi).1
      rw [List.length_drop, h1, ← Nat.sub_mul, show n - m = 0 by omega, Nat.zero_mul] at this
      omega
    · cases b with
      | none => cases ha
      | some a0 =>
        simp only [Option.map_some, Option.some.injEq] at ha
        subst ha
        have key : 0 < n - m → (a0.add (m * sz)).spot = none := by
          intro h0
          have h6 := (h5 a0 rfl).1 (by omega)
          unfold Addr.add
          split
          · exact h6
          · rfl
        have hblk : (a0.add (m * sz)).block = a0.block ∧ (a0.add (m * sz)).off = a0.off + m * sz := by
          unfold Addr.add
          split
          · rename_i e; exact ⟨rfl, by rw [e]; rfl⟩
          · exact ⟨rfl, rfl⟩
        refine ⟨key, fun i u hi => ?_⟩
        rw [hblk.1, hblk.2, Nat.add_assoc]
        exact (h5 a0 rfl).2 _ u (get_drop hi)

theorem Own.tt {N : Nat} {e : TypeId} {sz n : Nat} {v : Value} {xs : List Value} {Mo : Mem} (h : Own N e sz v n xs Mo) : ∀ p ∈ Mo, p.2.2 = true := by
  rcases h.2 with ⟨rfl, _⟩ | ⟨g, c, cap, rfl, _⟩ <;> simp

/-! ### a call's own view of what its caller knows -/
def setFlags : Mem → List Bool → Mem
  | [], _ => []
  | p :: M, [] => (p.1, p.2.1, false) :: setFlags M []
  | p :: M, b :: bs => (p.1, p.2.1, b) :: setFlags M bs
def wKeys : Mem → List Nat
  | [] => []
  | (g, _, true) :: M => g :: wKeys M
  | (_, _, false) :: M => wKeys M
theorem setFlags_keys : ∀ (M : Mem) (bs : List Bool), Mem.keys (setFlags M bs) = Mem.keys M
  | [], _ => rfl
  | p :: M, [] => by simp only [setFlags, Mem.keys, List.map_cons]; exact congrArg _ (setFlags_keys M [])
  | p :: M, b :: bs => by simp only [setFlags, Mem.keys, List.map_cons]; exact congrArg _ (setFlags_keys M bs)
theorem setFlags_mem : ∀ (M : Mem) (bs : List Bool) (g : Nat) (o : Obj) (t : Bool), (g, o, t) ∈ setFlags M bs → ∃ t', (g, o, t') ∈ M
  | [], _, _, _, _, h => by simp [setFlags] at h
  | p :: M, [], g, o, t, h => by
    simp only [setFlags, List.mem_cons] at h
    rcases h with h | h
    · cases h; exact ⟨p.2.2, by simp⟩
    · obtain ⟨t', h'⟩ := setFlags_mem M [] g o t h; exact ⟨t', by simp [h']⟩
  | p :: M, b :: bs, g, o, t, h => by
    simp only [setFlags, List.mem_cons] at h
    rcases h with h | h
    · cases h; exact ⟨p.2.2, by simp⟩
    · obtain ⟨t', h'⟩ := setFlags_mem M bs g o t h; exact ⟨t', by simp [h']⟩
theorem mem_wKeys : ∀ (M : Mem) (g : Nat) (o : Obj), (g, o, true) ∈ M → g ∈ wKeys M
  | [], _, _, h => by simp at h
  | (g', o', true) :: M, g, o, h => by
    rcases List.mem_cons.1 h with h | h
    · cases h; simp [wKeys]
    · simp [wKeys, mem_wKeys M g o h]
  | (g', o', false) :: M, g, o, h => by
    rcases List.mem_cons.1 h with h | h
    · cases h
    · simp [wKeys, mem_wKeys M g o h]
theorem HS.begin {xs : List Nat} {H0 H : Hp} {w0 w : World} {M : Mem} (hs : HS xs H0 w0 H M w) (bs : List Bool) : HS (wKeys (setFlags M bs)) H w H (setFlags M bs) w := by
  refine HS.start _ hs.sub (fun g o t h => ?_) (by rw [setFlags_keys]; exact hs.nd)
  obtain ⟨t', h'⟩ := setFlags_mem M bs g o t h
  have h1 := hs.mem g o t' h'
  exact ⟨h1.1, h1.2.1, fun ht => mem_wKeys _ g o (by rw [← ht]; exact h)⟩
theorem HS.beginO {xs : List Nat} {H0 H : Hp} {w0 w : World} {Mo M : Mem} (hs : HS xs H0 w0 H (Mo ++ M) w) (bs : List Bool) : HS (Mem.keys Mo ++ wKeys (setFlags M bs)) H w H (Mo ++ setFlags M bs) w := by
  refine HS.start _ hs.sub (fun g o t h => ?_) ?_
  · rcases List.mem_append.1 h with h | h
    · have h1 := hs.mem g o t (List.mem_append_left _ h)
      exact ⟨h1.1, h1.2.1, fun _ => List.mem_append_left _ (List.mem_map.2 ⟨_, h, rfl⟩)⟩
    · obtain ⟨t', h'⟩ := setFlags_mem M bs g o t h
      have h1 := hs.mem g o t' (List.mem_append_right _ h')
      exact ⟨h1.1, h1.2.1, fun ht => List.mem_append_right _ (mem_wKeys _ g o (by rw [← ht]; exact h))⟩
  · have := hs.nd
    simp only [Mem.keys, List.map_append] at this ⊢
    have e : (setFlags M bs).map (·.1) = M.map (·.1) := setFlags_keys M bs
    rw [e]
    exact this

theorem Pure.step {xs : List Nat} {H0 H : Hp} {w0 w w' : World} {M : Mem} {R : Value → Hp → Prop} {e : Ending} (hs : HS xs H0 w0 H M w) (h : Pure H w R e w') : ∃ v H', e = .returned v ∧ HS xs H0 w0 H' M w' ∧ Hp.le H H' ∧ R v H' := by
  obtain ⟨v, H', M', rfl, hk, hM, rfl, hr⟩ := h
  exact ⟨v, H', rfl, hs.after (Mx := []) (Mr := M) hk rfl rfl (by simp) (by simp), hk.le, hr⟩
theorem Ret.step {xs xs' : List Nat} {H0 H : Hp} {w0 w w' : World} {Mx Mr : Mem} {R : Value → Hp → Mem → Prop} {e : Ending} (hs : HS xs H0 w0 H (Mx ++ Mr) w) (h : Ret xs' H w R e w') (hk : Mem.keys Mx = xs') (ht : Mx.all (·.2.2) = true) :
    ∃ v H' M', e = .returned v ∧ HS xs H0 w0 H' (M' ++ Mr) w' ∧ Hp.le H H' ∧ R v H' M' := by
  obtain ⟨v, H', M', rfl, hk', hM, hr⟩ := h
  exact ⟨v, H', M', rfl, hs.after hk' rfl hk (by simpa using ht) hM, hk'.le, hr⟩

/-- A slice of numbers. -/
def Ints (H : Hp) (v : Value) (l : List Int) : Prop := Sl H 1 v l.length (l.map fun i => .int .i64 i)
theorem Ints.mono {H H' : Hp} {v : Value} {l : List Int} (h : Ints H v l) (hle : Hp.le H H') : Ints H' v l := Sl.mono h hle
theorem Ints.nil (H : Hp) : Ints H (.slice none 0 0) [] := Sl.nil H 1
theorem Ints.form {H : Hp} {v : Value} {l : List Int} (h : Ints H v l) : ∃ base cap, v = .slice base l.length cap := Sl.form h
theorem Ints.pos {H : Hp} {l : List Int} {base : Option Addr} {cap : Nat} (h : Ints H (.slice base l.length cap) l) (hn : 0 < l.length) :
    ∃ b o, base = some ⟨b, o, none⟩ ∧ ∀ i (hi : i < l.length), hcell H ⟨b, o + i, none⟩ = some (.int .i64 l[i]) := by
  obtain ⟨b, o, h1, h2⟩ := Sl.pos h hn
  exact ⟨b, o, h1, fun i hi => h2 i _ (by simp [hi])⟩
theorem ints_one (l : List Int) : (l.map fun i => Value.int .i64 i).all (·.oneCell') = true := by
  rw [List.all_eq_true]
  intro v hv
  obtain ⟨b, _, rfl⟩ := List.mem_map.1 hv
  rfl
def MF.ints (l : List Int) : MF := MF.of (fun v H => Ints H v l) fun _ _ _ hle h => Ints.mono h hle
def MF.bytesL (l : List (List UInt8)) : MF := MF.of (fun v H => BytesL H v l) fun _ _ _ hle h => BytesL.mono h hle

end Go.Bw
