/- More operations: literals of slices, slices of slices, conversions, strings. -/
import Derived.Test.YtdibepkfgemddaaGreatRep
namespace Go.Bw
set_option linter.unusedVariables false
set_option linter.unusedSimpArgs false

section
variable {P : Program} {n : Nat} {ds : List Deferred} {env : Env} {w : World}
variable {dst : Option Nat} {ty : TypeId} {pos : String} {aft : Array Edge} {gd : Option (Nat × Bool)} {R : Value → World → Prop}
variable {xs : List Nat} {H0 H : Hp} {w0 : World} {M : Mem}
variable {x y : Operand} {v u : Value} {t e : TypeId} {d : TypeDesc} {sz by_ : Nat} {z : Value} {ad : Addr}

variable {tyy : TypeId}
def plainV : Value → Bool
  | .slice .. | .pointer _ | .bool _ => true
  | _ => false
def plainS : Value → Bool
  | .slice .. | .pointer _ | .bool _ | .string _ => true
  | _ => false
theorem run_bin_eql {x y : Value} {b : Bool} (hx : plainV x = true) (hb : plainV y = true) (h : ∀ k, (Op.equalIn (k + 1) t x y).run P w = .ok b w) : (binOp .eql t x y).run P w = .ok (.bool b) w := by
  have h' : (Op.equal t x y).run P w = .ok b w := h 9999
  cases x <;> simp [plainV] at hx <;> cases y <;> simp [plainV] at hb <;> (unfold binOp; simp [h'])
theorem run_bin_neq {x y : Value} {b : Bool} (hx : plainV x = true) (hb : plainV y = true) (h : ∀ k, (Op.equalIn (k + 1) t x y).run P w = .ok b w) : (binOp .neq t x y).run P w = .ok (.bool (!b)) w := by
  have h' : (Op.equal t x y).run P w = .ok b w := h 9999
  cases x <;> simp [plainV] at hx <;> cases y <;> simp [plainV] at hb <;> (unfold binOp; simp [h'])
theorem run_guard_plain (op : BinOp) (x y : Operand) {a b : Value} (ha : plainS a = true) : (eqGuard op t x y a b).run P w = .ok () w := by
  cases a <;> simp [plainS] at ha <;> (cases op <;> simp [eqGuard])
theorem OR.eqlRun {b : Bool} (hx : look env x = some u) (hy : look env y = some v) (h1 : plainV u = true) (h2 : plainV v = true)
    (h : ∀ k, (Op.equalIn (k + 1) t u v).run P w = .ok b w) (hR : R (.bool b) w) : OR P n ds ⟨dst, .binOp .eql t x y tyy, ty, pos, aft, gd⟩ env w R := by
  refine .run (fun a ha => ?_) hR
  have h3 := run_guard_plain (P := P) (t := t) (w := w) .eql x y (a := u) (b := v) (by cases u <;> simp [plainV, plainS] at h1 ⊢)
  simp [execOp, ha.look hx, ha.look hy, h3, run_bin_eql h1 h2 h]
theorem OR.neqRun {b : Bool} (hx : look env x = some u) (hy : look env y = some v) (h1 : plainV u = true) (h2 : plainV v = true)
    (h : ∀ k, (Op.equalIn (k + 1) t u v).run P w = .ok b w) (hR : R (.bool (!b)) w) : OR P n ds ⟨dst, .binOp .neq t x y tyy, ty, pos, aft, gd⟩ env w R := by
  refine .run (fun a ha => ?_) hR
  have h3 := run_guard_plain (P := P) (t := t) (w := w) .neq x y (a := u) (b := v) (by cases u <;> simp [plainV, plainS] at h1 ⊢)
  simp [execOp, ha.look hx, ha.look hy, h3, run_bin_neq h1 h2 h]

/-- A slice held against nil. -/
theorem OR.eqlNil {base : Option Addr} {m c : Nat} (ht : P.underlying t = some (.slice e)) (hx : look env x = some (.slice base m c)) (hy : look env y = some (.slice none 0 0)) (hR : R (.bool base.isNone) w) :
    OR P n ds ⟨dst, .binOp .eql t x y tyy, ty, pos, aft, gd⟩ env w R :=
  .eqlRun hx hy rfl rfl (fun k => by cases base <;> simp [Op.equalIn, run_underlying ht]) hR
/-- A pointer held against nil. -/
theorem OR.eqlNilP {p : Option Addr} (ht : P.underlying t = some (.pointer e)) (hx : look env x = some (.pointer p)) (hy : look env y = some (.pointer none)) (hR : R (.bool p.isNone) w) :
    OR P n ds ⟨dst, .binOp .eql t x y tyy, ty, pos, aft, gd⟩ env w R :=
  .eqlRun hx hy rfl rfl (fun k => by cases p <;> simp [Op.equalIn, run_underlying ht]) hR
theorem OR.neqNilP {p : Option Addr} (ht : P.underlying t = some (.pointer e)) (hx : look env x = some (.pointer p)) (hy : look env y = some (.pointer none)) (hR : R (.bool p.isSome) w) :
    OR P n ds ⟨dst, .binOp .neq t x y tyy, ty, pos, aft, gd⟩ env w R :=
  .neqRun (b := p.isNone) hx hy rfl rfl (fun k => by cases p <;> simp [Op.equalIn, run_underlying ht]) (by cases p <;> exact hR)
/-- Two bools. -/
theorem OR.eqlB {b c : Bool} (ht : P.underlying t = some .bool) (hx : look env x = some (.bool b)) (hy : look env y = some (.bool c)) (hR : R (.bool (b == c)) w) :
    OR P n ds ⟨dst, .binOp .eql t x y tyy, ty, pos, aft, gd⟩ env w R :=
  .eqlRun hx hy rfl rfl (fun k => by simp [Op.equalIn, run_underlying ht]) hR
theorem OR.neqB {b c : Bool} (ht : P.underlying t = some .bool) (hx : look env x = some (.bool b)) (hy : look env y = some (.bool c)) (hR : R (.bool (!(b == c))) w) :
    OR P n ds ⟨dst, .binOp .neq t x y tyy, ty, pos, aft, gd⟩ env w R :=
  .neqRun hx hy rfl rfl (fun k => by simp [Op.equalIn, run_underlying ht]) hR

/-- Bytes as a string. -/
def str (l : List UInt8) : ByteArray := ⟨l.toArray⟩
theorem foldl_push (l : List UInt8) : ∀ acc : ByteArray, (l.map fun b => ((b.toNat : Int))).foldl (fun r n => r.push (UInt8.ofNat n.toNat)) acc = ⟨acc.data ++ l.toArray⟩ := by
  induction l with
  | nil => intro acc; simp
  | cons b l ih =>
    intro acc
    rw [List.map_cons, List.foldl_cons, ih]
    congr 1
    apply Array.ext'
    simp [ByteArray.push]

theorem OR.toStr {l : List UInt8} {t' : TypeId} (hs : HS xs H0 w0 H M w) (h1 : P.underlying t = some (.slice e)) (h2 : P.underlying t' = some .string) (h3 : P.underlying e = some (.int .u8))
    (hx : look env x = some v) (hv : Bytes H v l) (hR : R (.string (str l)) w) : OR P n ds ⟨dst, .convert t t' x, ty, pos, aft, gd⟩ env w R := by
  obtain ⟨base, cap, rfl⟩ := hv.form
  have hc : (Conv.bytesToString (.slice base l.length cap)).run P w = .ok (.string (str l)) w := by
    cases base with
    | none =>
      have : l.length = 0 := by obtain ⟨_, b', c', q1, _, q2, _⟩ := hv; cases q1; exact (q2 rfl).1
      have : l = [] := List.eq_nil_of_length_eq_zero this
      subst this
      simp [Conv.bytesToString, str]; rfl
    | some a =>
      have hld : (loadCells a l.length).run P w = .ok ((l.map fun b => ((b.toNat : Int))).map (Value.int .u8)).toArray w := by
        have := run_loadCells_list (P := P) w a (l.map B) (Sl.src hv hs a rfl)
        have e1 : ((l.map fun b => ((b.toNat : Int))).map (Value.int .u8)) = l.map B := by rw [List.map_map]; rfl
        rw [e1]
        simpa using this
      rw [run_bytesToString w _ _ _ _ hld, foldl_push]
      simp [str]
  refine .run (fun a ha => ?_) hR
  simp [execOp, ha.look hx, convert, run_underlying h1, run_underlying h2, run_underlying h3, hc]

theorem str_toList (l : List UInt8) : (str l).toList = l := by rw [ByteArray.toList_eq]; simp [str]
theorem OR.eqlStr {a b : List UInt8} (hx : look env x = some (.string (str a))) (hy : look env y = some (.string (str b))) (hR : R (.bool (decide (a = b))) w) :
    OR P n ds ⟨dst, .binOp .eql t x y tyy, ty, pos, aft, gd⟩ env w R := by
  refine .run (v := .bool (a == b)) (w' := w) (fun aa ha => ?_) (by rw [show (a == b) = decide (a = b) from by by_cases h : a = b <;> simp [h]]; exact hR)
  have h1 := run_guard_plain (P := P) (t := t) (w := w) .eql x y (a := .string (str a)) (b := .string (str b)) rfl
  simp [execOp, ha.look hx, ha.look hy, h1, binOp, Op.stringOp, str_toList]
theorem OR.neqStr {a b : List UInt8} (hx : look env x = some (.string (str a))) (hy : look env y = some (.string (str b))) (hR : R (.bool (decide (a ≠ b))) w) :
    OR P n ds ⟨dst, .binOp .neq t x y tyy, ty, pos, aft, gd⟩ env w R := by
  refine .run (v := .bool (!(a == b))) (w' := w) (fun aa ha => ?_) (by rw [show (!(a == b)) = decide (a ≠ b) from by by_cases h : a = b <;> simp [h]]; exact hR)
  have h1 := run_guard_plain (P := P) (t := t) (w := w) .neq x y (a := .string (str a)) (b := .string (str b)) rfl
  simp [execOp, ha.look hx, ha.look hy, h1, binOp, Op.stringOp, str_toList]

/-! ### literals -/
/-- A row of parts that are given in full, one behind the other. -/
theorem fill_row (size : Nat) : ∀ (vs : List Value) (k : Nat) (cells : Array Value), (∀ v ∈ vs, v.cells.size = size) → (k + vs.length) * size ≤ cells.size →
    Instr.fill (fun i => some (i * size, size)) cells ((List.range' k vs.length).zip vs) = some (setL cells.toList (k * size) (vs.map (·.cells.toList)).flatten).toArray
  | [], k, cells, _, _ => by simp [Instr.fill, setL_nil]
  | v :: vs, k, cells, h, hl => by
    have hv := h v (by simp)
    simp only [List.length_cons, List.range'_succ, List.zip_cons_cons]
    simp only [List.length_cons] at hl
    have hk : k * size + size ≤ cells.size := by
      have h1 : (k + 1) * size ≤ (k + (vs.length + 1)) * size := Nat.mul_le_mul_right size (by omega)
      rw [Nat.add_mul, Nat.one_mul] at h1
      omega
    rw [fill_sized rfl hv hk]
    have hz : ∀ (l : List Value) (j : Nat) (c : Array Value), (l.zipIdx j).foldl (fun cs (x : Value × Nat) => cs.setIfInBounds (k * size + x.2) x.1) c = (setL c.toList (k * size + j) l).toArray := by
      intro l
      induction l with
      | nil => intro j c; simp [setL_nil]
      | cons u l ih =>
        intro j c
        simp only [List.zipIdx_cons, List.foldl_cons]
        rw [ih, setL_step]
        simp [Nat.add_assoc]
    have hz' : (v.cells.zipIdx.foldl (fun cs x => match x with | (c, j) => cs.setIfInBounds (k * size + j) c) cells) = (setL cells.toList (k * size) v.cells.toList).toArray := by
      rw [← Array.foldl_toList, Array.toList_zipIdx]
      simpa using hz v.cells.toList 0 cells
    rw [hz', fill_row size vs (k + 1) _ (fun u hu => h u (by simp [hu])) (by simp [setL_length]; rw [show k + 1 + vs.length = k + (vs.length + 1) by omega]; exact hl)]
    congr 2
    simp only [List.map_cons, List.flatten_cons]
    have happ : ∀ (a b l : List Value) (o : Nat), setL l o (a ++ b) = setL (setL l o a) (o + a.length) b := by
      intro a
      induction a with
      | nil => intro b l o; simp [setL_nil]
      | cons u a ih => intro b l o; rw [List.cons_append, setL_step, setL_step, ih]; simp [Nat.add_assoc, Nat.add_comm 1]
    rw [happ]
    congr 1
    rw [Nat.add_mul, Nat.one_mul, Array.length_toList, hv]

theorem OR.buildSlice {parts : List (Nat × Operand)} {vs : List Value} (hs : HS xs H0 w0 H M w) (ht : P.underlying t = some (.slice e)) (he : TI P e d sz by_ z) (hzs : z.cells.size = sz)
    (hn : parts.map (·.1) = List.range' 0 vs.length) (hv : lookAll env (parts.map (·.2)) = some vs) (hc : vs.all (fun v => Nat.beq v.cells.size sz) = true) (hlt : vs.length * sz ≤ 16777216)
    (hR : ∀ g w', w0.heap.size ≤ g → HS xs H0 w0 H ((g, .cells (vs.map (·.cells.toList)).flatten.toArray e, true) :: M) w' → R (.slice (some ⟨g, 0, none⟩) vs.length vs.length) w') :
    OR P n ds ⟨dst, .buildSlice t vs.length parts.toArray, ty, pos, aft, gd⟩ env w R := by
  have hsz : ∀ v ∈ vs, v.cells.size = sz := fun v h => Nat.eq_of_beq_eq_true (List.all_eq_true.1 hc v h)
  have hfl : (vs.map (·.cells.toList)).flatten.length = vs.length * sz := by
    clear hn hv hc hlt hR
    induction vs with
    | nil => simp
    | cons v vs ih => simp only [List.map_cons, List.flatten_cons, List.length_append, List.length_cons, Array.length_toList]; rw [ih (fun u hu => hsz u (by simp [hu])), hsz v (by simp), Nat.add_mul]; omega
  refine .run (v := .slice (some ⟨w.heap.size, 0, none⟩) vs.length vs.length) (w' := w.alloc (.cells (vs.map (·.cells.toList)).flatten.toArray e)) (fun a ha => ?_) (hR _ _ hs.size (hs.alloc _))
  have h1 := ha.lookAll _ _ hv
  have h2 : parts.map (fun p => (p.1, a.eval p.2)) = (parts.map (·.1)).zip vs := by
    rw [← h1]
    clear hv h1 hn hR hfl hsz hlt hc
    induction parts with
    | nil => rfl
    | cons p l ih => simp [ih]
  have hfill : ∀ cells : Array Value, cells.size = vs.length * sz → Instr.fill (fun i => some (i * sz, sz)) cells ((List.range' 0 vs.length).zip vs) = some (vs.map (·.cells.toList)).flatten.toArray := by
    intro cells hcs
    rw [fill_row sz vs 0 cells hsz (by rw [hcs]; simp)]
    rw [Nat.zero_mul, setL_all _ _ (by rw [hfl]; simp [hcs])]
  have hrun : (Instr.buildSlice t vs.length ((List.range' 0 vs.length).zip vs).toArray).run P w = .ok (.slice (some ⟨w.heap.size, 0, none⟩) vs.length vs.length) (w.alloc (.cells (vs.map (·.cells.toList)).flatten.toArray e)) := by
    have hbig : ¬ (16777216 < vs.length * sz) := by omega
    by_cases h0 : vs.length * sz = 0
    · have := hfill ((Array.range (vs.length * sz)).map ((#[] : Array Value)[· % (#[] : Array Value).size]!)) (by simp)
      simp [Instr.buildSlice, run_underlying ht, he.run_size, hbig, newRow, newObj, Sem.run, h0] at this ⊢
      rw [this]
      simp [newRow, newObj, Sem.run]
    · have := hfill ((Array.range (vs.length * sz)).map (z.cells[· % z.cells.size]!)) (by simp)
      simp [Instr.buildSlice, run_underlying ht, he.run_size, hbig, h0, he.run_zero, newRow, newObj, Sem.run] at this ⊢
      rw [this]
      simp [newRow, newObj, Sem.run]
  simp [execOp, List.map_toArray, h2, hn, hrun]

/-- A struct whose fields, of one cell each, are all given. -/
theorem OR.buildAll {parts : List (Nat × Operand)} {vs : List Value} {fs : Array Field} {by_ : Nat} (ht : TI P t (.struct fs) sz by_ z) (hv : lookAll env (parts.map (·.2)) = some vs) (hzs : z.cells.size = vs.length)
    (hp : ∀ w : World, (fs.mapM (m := Sem) fun f => do pure (f.offset, ← sizeOf f.type)).run P w = .ok ((List.range vs.length).map fun i => (i, 1)).toArray w)
    (hn : parts.map (·.1) = List.range' 0 vs.length) (hc : vs.all (·.oneCell') = true) (hR : R (.agg vs.toArray) w) :
    OR P n ds ⟨dst, .build t parts.toArray, ty, pos, aft, gd⟩ env w R := by
  refine OR.build hv (cs := vs.toArray) (fun w => ?_) hR
  have hcell : ∀ v ∈ vs, v.cells = #[v] := by
    intro v h
    have := List.all_eq_true.1 hc v h
    cases v <;> simp [Value.cells, Value.oneCell'] at this ⊢
  have hfl : (vs.map (·.cells.toList)).flatten = vs := by
    clear hn hv hc hR hp hzs
    induction vs with
    | nil => rfl
    | cons v vs ih => rw [List.map_cons, List.flatten_cons, hcell v (by simp), ih (fun u hu => hcell u (by simp [hu]))]; rfl
  have hf := fill_row 1 vs 0 z.cells (fun v h => by rw [hcell v h]; rfl) (by rw [hzs]; omega)
  rw [hfl, Nat.zero_mul, setL_all _ _ (by simp [hzs])] at hf
  have hplace : ∀ (ps : List (Nat × Value)) (cells : Array Value), (∀ p ∈ ps, p.1 < vs.length) → Instr.fill (fun i => ((List.range vs.length).map fun i => (i, 1)).toArray[i]?) cells ps = Instr.fill (fun i => some (i * 1, 1)) cells ps := by
    intro ps
    induction ps with
    | nil => intro cells _; rfl
    | cons p ps ih =>
      intro cells h
      obtain ⟨i, v⟩ := p
      have hi := h (i, v) (by simp)
      simp only [Instr.fill]
      have : ((List.range vs.length).map fun i => (i, 1)).toArray[i]? = some (i * 1, 1) := by simp at hi; simp [hi]
      rw [this]
      simp only
      split
      · rfl
      · exact ih _ (fun q hq => h q (by simp [hq]))
  have hlen : ∀ p ∈ (List.range' 0 vs.length).zip vs, p.1 < vs.length := by
    intro p hp
    have := (List.of_mem_zip hp).1
    simp at this
    omega
  rw [hn]
  unfold Instr.build
  simp only [Sem.run_bind, ht.run_zero, Result.andThen_ok, run_underlying ht.und, hp w]
  rw [hplace _ _ hlen, hf]
  simp
end
end Go.Bw
namespace Go.Bw
set_option linter.unusedVariables false
set_option linter.unusedSimpArgs false
theorem bytes_one (l : List UInt8) : (l.map B).all (·.oneCell') = true := by
  rw [List.all_eq_true]
  intro v hv
  obtain ⟨b, _, rfl⟩ := List.mem_map.1 hv
  rfl
section
variable {xs : List Nat} {H0 H : Hp} {w0 w : World} {M : Mem}
theorem Sl.src0 {sz n cap : Nat} {base : Option Addr} {cs : List Value} (h : Sl H sz (.slice base n cap) n cs) : base = none → n = 0 := by
  obtain ⟨_, b', c', q1, _, q2, _⟩ := h
  cases q1
  exact fun e => (q2 e).1
theorem Sl.block {sz n cap g : Nat} {c : Array Value} {e : TypeId} {fr : Nat × Nat} {cs : List Value} (hg : H g = some (.cells c e fr)) (hl : cs.length = n * sz) (hc : c.toList.take (n * sz) = cs) (hn : n ≤ cap) :
    Sl H sz (.slice (some ⟨g, 0, none⟩) n cap) n cs := by
  refine ⟨hl, _, cap, rfl, hn, (fun h => by cases h), fun a ha => ?_⟩
  cases ha
  refine ⟨fun _ => rfl, fun i u hi => ?_⟩
  rw [← hc, List.getElem?_take] at hi
  split at hi
  · simpa [hcell, hg] using hi
  · cases hi
theorem Bytes.block {cap g : Nat} {c : Array Value} {e : TypeId} {fr : Nat × Nat} {l : List UInt8} (hg : H g = some (.cells c e fr)) (hc : c.toList.take l.length = l.map B) (hn : l.length ≤ cap) :
    Bytes H (.slice (some ⟨g, 0, none⟩) l.length cap) l :=
  Sl.block hg (by simp) (by rw [Nat.mul_one]; exact hc) hn

/-- What a call owns it may let stay. -/
theorem own_pure {R : Value → Hp → Prop} {E : Ending} {w' : World} {e : TypeId} {sz n : Nat} {cs : List Value}
    (h : Ret [] H0 w0 (fun v H' M' => H' = H0 ∧ Own w0.heap.size e sz v n cs M') E w') (hR : ∀ v H', Hp.le H0 H' → Sl H' sz v n cs → R v H') : Pure H0 w0 R E w' := by
  obtain ⟨v, H', M', rfl, hs, hM, rfl, ho⟩ := h
  obtain ⟨H2, h1, h2, h3, _⟩ := HS.pub (M := []) (by simpa using hs) ho
  exact ⟨v, H2, [], rfl, h2, by simp, rfl, hR v H2 h1 h3⟩
end
end Go.Bw
namespace Go.Bw
set_option linter.unusedVariables false
set_option linter.unusedSimpArgs false
section
variable {P : Program} {n : Nat} {ds : List Deferred} {env : Env} {w : World}
variable {dst : Option Nat} {ty : TypeId} {pos : String} {aft : Array Edge} {gd : Option (Nat × Bool)} {R : Value → World → Prop}
variable {xs : List Nat} {H0 H : Hp} {w0 : World} {M : Mem}
variable {x y : Operand} {t e : TypeId} {d : TypeDesc} {by_ : Nat} {z : Value}
theorem one_cells {v : Value} (h : v.oneCell' = true) : v.cells = #[v] := by
  cases v <;> simp [Value.cells, Value.oneCell'] at h ⊢
theorem zeros_one (m : Nat) (h : z.oneCell' = true) : (Array.range (m * 1)).map (z.cells[· % z.cells.size]!) = (List.replicate m z).toArray := by
  rw [one_cells h]
  apply Array.toList_inj.1
  rw [Array.toList_map, Array.toList_range, Nat.mul_one]
  apply List.ext_getElem?
  intro i
  by_cases hi : i < m
  · simp [hi, Nat.mod_one]
  · simp [hi]
/-- make of elements of one cell. -/
theorem OR.make1 {m : Nat} (hs : HS xs H0 w0 H M w) (ht : P.underlying t = some (.slice e)) (he : TI P e d 1 by_ z) (hz : z.oneCell' = true)
    (hx : look env x = some (.int .i64 m)) (hy : look env y = some (.int .i64 m)) (hb : m * by_ ≤ 281474976710656) (hm : m ≤ 9223372036854775807)
    (hR : ∀ g w', w0.heap.size ≤ g → HS xs H0 w0 H ((g, .cells (List.replicate m z).toArray e, true) :: M) w' → R (.slice (some ⟨g, 0, none⟩) m m) w') :
    OR P n ds ⟨dst, .makeSlice t x y, ty, pos, aft, gd⟩ env w R :=
  .makeSlice hs ht he (by rw [one_cells hz]; rfl) (by omega) hx hy hb hm (fun g w' h1 h2 => hR g w' h1 (by rw [zeros_one m hz] at h2; exact h2))
end
end Go.Bw
namespace Go.Bw
set_option linter.unusedVariables false
set_option linter.unusedSimpArgs false
theorem HS.pub1 {xs : List Nat} {H0 H : Hp} {w0 w : World} {M : Mem} {g : Nat} {o : Obj} {t : Bool} (hs : HS xs H0 w0 H ((g, o, t) :: M) w) (hg : w0.heap.size ≤ g) :
    ∃ H', Hp.le H H' ∧ H' g = some o ∧ HS xs H0 w0 H' M w :=
  ⟨H.put g o, Hp.le_put (hs.mem g o t (by simp)).2.1 o, Hp.put_same .., hs.publish hg⟩
theorem hcell_of {H : Hp} {g i : Nat} {c : Array Value} {e : TypeId} {fr : Nat × Nat} {v : Value} (h : H g = some (.cells c e fr)) (hc : nth c.toList i = some v) : hcell H ⟨g, i, none⟩ = some v := by
  rw [nth_eq] at hc
  simpa [hcell, h] using hc
end Go.Bw
namespace Go.Bw
set_option linter.unusedVariables false
set_option linter.unusedSimpArgs false
/-- A pair of a slice of bytes and a number. -/
def TupB (H : Hp) (v : Value) (l : List UInt8) (e : Int) : Prop := ∃ r, v = .tuple #[r, .int .i64 e] ∧ Bytes H r l
def MF.tupB (l : List UInt8) (e : Int) : MF := MF.of (fun v H => TupB H v l e) fun _ _ _ hle ⟨r, h1, h2⟩ => ⟨r, h1, h2.mono hle⟩
theorem BytesL.form {H : Hp} {v : Value} {ll : List (List UInt8)} (h : BytesL H v ll) : ∃ base cap, v = .slice base ll.length cap := by
  obtain ⟨cs, h1, _⟩ := h
  exact h1.form
/-- The elements of a slice of slices. -/
theorem BytesL.pos {H : Hp} {ll : List (List UInt8)} {base : Option Addr} {cap : Nat} (h : BytesL H (.slice base ll.length cap) ll) (hn : 0 < ll.length) :
    ∃ b o, base = some ⟨b, o, none⟩ ∧ ∀ i (hi : i < ll.length), ∃ c, hcell H ⟨b, o + i, none⟩ = some c ∧ Bytes H c ll[i] := by
  obtain ⟨cs, h1, h2, h3⟩ := h
  obtain ⟨b, o, h4, h5⟩ := h1.pos hn
  exact ⟨b, o, h4, fun i hi => ⟨cs[i], h5 i _ (by simp [h2, hi]), h3 i hi (by omega)⟩⟩
end Go.Bw
namespace Go.Bw
set_option linter.unusedVariables false
set_option linter.unusedSimpArgs false
theorem Rws.form {H : Hp} {v : Value} {rs : List RowD} (h : Rws H v rs) : ∃ base cap, v = .slice base rs.length cap := by
  obtain ⟨cs, h1, _⟩ := h
  exact h1.form
theorem Rws.pos {H : Hp} {rs : List RowD} {base : Option Addr} {cap : Nat} (h : Rws H (.slice base rs.length cap) rs) (hn : 0 < rs.length) :
    ∃ b o, base = some ⟨b, o, none⟩ ∧ ∀ i (hi : i < rs.length), ∃ c p, (∀ j u, [c, p][j]? = some u → hcell H ((⟨b, o + i * 2, none⟩ : Addr).add j) = some u) ∧ Bytes H c rs[i].1 ∧ Bytes H p rs[i].2 := by
  obtain ⟨cs, h1, h2, h3⟩ := h
  obtain ⟨b, o, h4, h5⟩ := h1.pos hn
  refine ⟨b, o, h4, fun i hi => ⟨cs[i].1, cs[i].2, ?_, h3 i hi (by omega)⟩⟩
  have hg := rowCells_get cs i (by omega)
  intro j u hj
  rw [add_off]
  match j, hj with
  | 0, hj => simp at hj; subst hj; exact h5 _ _ hg.1
  | 1, hj => simp at hj; subst hj; exact h5 _ _ hg.2
theorem HS.start1 {H : Hp} {w : World} {g : Nat} {o : Obj} (h : Sub H w) (hg : w.heap[g]? = some o) (hn : H g = none) : HS [g] H w H [(g, o, true)] w :=
  HS.start [g] h (by simp; exact ⟨hg, hn⟩) (by simp [Mem.keys])
theorem HS.startR {H : Hp} {w : World} {g : Nat} {o : Obj} (h : Sub H w) (hg : w.heap[g]? = some o) (hn : H g = none) : HS [] H w H [(g, o, false)] w :=
  HS.start [] h (by simp; exact ⟨hg, hn⟩) (by simp [Mem.keys])
theorem Pure.mk0 {xs : List Nat} {H : Hp} {w : World} {R : Value → Hp → Prop} {v : Value} {H' : Hp} {M : Mem} {w' : World} (h : HS [] H w H' M w') (hR : R v H') : Pure H w R (.returned v) w' := Pure.mk h hR
end Go.Bw
namespace Go.Bw
set_option linter.unusedVariables false
set_option linter.unusedSimpArgs false
section
variable {xs : List Nat} {H0 H : Hp} {w0 w : World} {M Mo : Mem} {p : Nat × Obj × Bool}
theorem HS.sink (hs : HS xs H0 w0 H (p :: (Mo ++ M)) w) : HS xs H0 w0 H (Mo ++ (p :: M)) w := hs.perm List.perm_middle
theorem HS.rise (hs : HS xs H0 w0 H (Mo ++ (p :: M)) w) : HS xs H0 w0 H (p :: (Mo ++ M)) w := hs.perm List.perm_middle.symm
theorem HS.dropMid (hs : HS xs H0 w0 H (Mo ++ (p :: M)) w) : HS xs H0 w0 H (Mo ++ M) w := hs.rise.sublist (List.sublist_cons_self _ _)
theorem cells_of {g : Nat} {c : Array Value} {e : TypeId} {fr : Nat × Nat} (hb : w.heap[g]? = some (.cells c e fr)) :
    ∀ a, some (⟨g, 0, none⟩ : Addr) = some a → ∀ j u, c.toList[j]? = some u → w.cell? (a.add j) = some u := by
  intro a ha j u hj
  cases ha
  rw [add_off]
  simpa [World.cell?, hb] using hj
end
theorem RowsOk.snoc' {H : Hp} {cs : List (Value × Value)} {rs : List RowD} {k : Nat} (hk : k < rs.length) (h : RowsOk H cs (rs.take k)) {c p : Value} (hc : Bytes H c rs[k].1) (hp : Bytes H p rs[k].2) : RowsOk H (cs ++ [(c, p)]) (rs.take (k + 1)) := by
  rw [List.take_succ_eq_append_getElem hk]
  exact h.snoc hc hp
end Go.Bw
namespace Go.Bw
set_option linter.unusedVariables false
set_option linter.unusedSimpArgs false
section
variable {P : Program} {n : Nat} {ds : List Deferred} {env : Env} {w : World}
variable {dst : Option Nat} {ty : TypeId} {pos : String} {aft : Array Edge} {gd : Option (Nat × Bool)} {R : Value → World → Prop}
variable {t : TypeId} {d : TypeDesc} {sz by_ : Nat} {z : Value}
/-- A struct of noughts. -/
theorem OR.buildZero {fs : Array Field} {pl : Array (Nat × Nat)} (ht : TI P t (.struct fs) sz by_ z)
    (hp : ∀ w : World, (fs.mapM (m := Sem) fun f => do pure (f.offset, ← sizeOf f.type)).run P w = .ok pl w) (hR : R (.agg z.cells) w) :
    OR P n ds ⟨dst, .build t #[], ty, pos, aft, gd⟩ env w R :=
  .run (fun a ha => by
    have h : (Instr.build t #[]).run P w = .ok (.agg z.cells) w := by
      unfold Instr.build
      simp only [Sem.run_bind, ht.run_zero, Result.andThen_ok, run_underlying ht.und, hp w]
      simp [Instr.fill]
    simp [execOp, h]) hR

/-- The first result lies in a block, the second in a slot. -/
theorem WX.retCT {f : Func} {C : Ending → World → Prop} {g s u : Nat} {c : Array Value} {ee : TypeId} {fr : Nat × Nat} {v : Value} (ht : TI P t d sz by_ z) (hf : f.results = #[.cell s t, .tmp u])
    (hv : env.get s = some (.pointer (some ⟨g, 0, none⟩))) (hu : env.get u = some v) (hd : isAggD d = true) (hl : c.size = sz) (hg : w.heap[g]? = some (.cells c ee fr)) (h : C (.returned (.tuple #[.agg c, v])) w) : WX P n [] .ret (.fn f C) env w := by
  subst hl
  refine WX.end_ret (vs := fun _ => True) rfl fun a ha => ⟨_, ?_, h⟩
  have hc : ∀ j u, c.toList[j]? = some u → w.cell? ((⟨g, 0, none⟩ : Addr).add j) = some u := fun j u hj => by rw [add_off]; simpa [World.cell?, hg] using hj
  have := run_loadCells_list (P := P) w ⟨g, 0, none⟩ c.toList hc
  simp only [Array.length_toList] at this
  have hv' := ha.get s _ hv
  have hu' := ha.get u _ hu
  rw [Array.getD_eq_getD_getElem?] at hv' hu'
  simp [results, hf, hv', hu', asAddr, loadVar, ht.run_agg, hd, ht.run_size, this]
end
end Go.Bw
namespace Go.Bw
set_option linter.unusedVariables false
set_option linter.unusedSimpArgs false
def BLOk (H : Hp) (cs : List Value) (ll : List (List UInt8)) : Prop := cs.length = ll.length ∧ ∀ i (h : i < ll.length) (h' : i < cs.length), Bytes H cs[i] ll[i]
theorem BLOk.mono {H H' : Hp} {cs : List Value} {ll : List (List UInt8)} (h : BLOk H cs ll) (hle : Hp.le H H') : BLOk H' cs ll := ⟨h.1, fun i a b => (h.2 i a b).mono hle⟩
theorem BLOk.nil (H : Hp) : BLOk H [] [] := ⟨rfl, fun i h => by simp at h⟩
theorem BLOk.snoc {H : Hp} {cs : List Value} {ll : List (List UInt8)} (h : BLOk H cs ll) {c : Value} {l : List UInt8} (hc : Bytes H c l) : BLOk H (cs ++ [c]) (ll ++ [l]) := by
  refine ⟨by simp [h.1], fun i a b => ?_⟩
  have h1 := h.1
  by_cases e : i < ll.length
  · have e' : i < cs.length := by omega
    simp only [List.getElem_append_left e, List.getElem_append_left e']
    exact h.2 i e e'
  · simp only [List.length_append, List.length_singleton] at a b
    have : i = ll.length := by omega
    subst this
    simp only [List.getElem_append_right (Nat.le_refl _), Nat.sub_self, List.getElem_cons_zero]
    rw [List.getElem_append_right (by omega)]
    simp only [h1, Nat.sub_self, List.getElem_cons_zero]
    exact hc
theorem BLOk.bytesL {H : Hp} {v : Value} {cs : List Value} {ll : List (List UInt8)} (h : BLOk H cs ll) (hs : Sl H 1 v ll.length cs) : BytesL H v ll := ⟨cs, hs, h.1, h.2⟩
end Go.Bw
