/- Slices as lists: those that stay, those that a function owns. -/
import Derived.Test.YtdibepkfgemddaaGreatBytes
import Derived.Test.YtdibepkfgemddaaGreatDrawT
namespace Go.Bw
set_option linter.unusedVariables false
set_option linter.unusedSimpArgs false

/-- A slice of n elements of sz cells each, whose cells, one behind the other, are xs; they stay. -/
def Sl (H : Hp) (sz : Nat) (v : Value) (n : Nat) (xs : List Value) : Prop :=
  xs.length = n * sz ∧ ∃ base cap, v = .slice base n cap ∧ n ≤ cap ∧ (base = none → n = 0 ∧ cap = 0) ∧
    ∀ a, base = some a → (0 < n → a.spot = none) ∧ ∀ i u, xs[i]? = some u → hcell H ⟨a.block, a.off + i, none⟩ = some u

theorem Sl.mono {H H' : Hp} {sz n : Nat} {v : Value} {xs : List Value} (h : Sl H sz v n xs) (hle : Hp.le H H') : Sl H' sz v n xs := by
  obtain ⟨h1, base, cap, h2, h3, h4, h5⟩ := h
  exact ⟨h1, base, cap, h2, h3, h4, fun a ha => ⟨(h5 a ha).1, fun i u hi => hcell.mono hle ((h5 a ha).2 i u hi)⟩⟩

theorem Sl.nil (H : Hp) (sz : Nat) : Sl H sz (.slice none 0 0) 0 [] := ⟨by simp, none, 0, rfl, Nat.le_refl _, fun _ => ⟨rfl, rfl⟩, fun a h => by cases h⟩

theorem Sl.empty (H : Hp) (sz : Nat) (b : Option Addr) : Sl H sz (.slice b 0 0) 0 [] := ⟨by simp, b, 0, rfl, Nat.le_refl _, fun _ => ⟨rfl, rfl⟩, fun a h => ⟨fun h => by omega, fun i u hi => by simp at hi⟩⟩
theorem Sl.form {H : Hp} {sz n : Nat} {v : Value} {xs : List Value} (h : Sl H sz v n xs) : ∃ base cap, v = .slice base n cap := by
  obtain ⟨_, base, cap, h2, _⟩ := h
  exact ⟨base, cap, h2⟩

theorem Sl.pos {H : Hp} {sz n cap : Nat} {base : Option Addr} {xs : List Value} (h : Sl H sz (.slice base n cap) n xs) (hn : 0 < n) :
    ∃ b o, base = some ⟨b, o, none⟩ ∧ ∀ i u, xs[i]? = some u → hcell H ⟨b, o + i, none⟩ = some u := by
  obtain ⟨_, base', cap', h2, _, h4, h5⟩ := h
  cases h2
  cases base with
  | none => have := (h4 rfl).1; omega
  | some a =>
    obtain ⟨h6, h7⟩ := h5 a rfl
    obtain ⟨b, o, sp⟩ := a
    replace h6 := h6 hn
    simp only at h6
    subst h6
    exact ⟨b, o, rfl, h7⟩

theorem Sl.src {xs : List Nat} {H0 H : Hp} {w0 w : World} {M : Mem} {sz n cap : Nat} {base : Option Addr} {cs : List Value} (h : Sl H sz (.slice base n cap) n cs) (hs : HS xs H0 w0 H M w) : ∀ a, base = some a → ∀ j u, cs[j]? = some u → w.cell? (a.add j) = some u := by
  obtain ⟨q0, b', c', q1, _, _, q2⟩ := h
  cases q1
  intro a ha j u hj
  obtain ⟨q3, q4⟩ := q2 a ha
  have hj0 := (List.getElem?_eq_some_iff.1 hj).1
  have hn : 0 < n := by
    rcases Nat.eq_zero_or_pos n with e | e
    · rw [q0, e, Nat.zero_mul] at hj0; omega
    · exact e
  replace q3 := q3 hn
  obtain ⟨b, o, sp⟩ := a
  simp only at q3
  subst q3
  rw [add_off]
  exact hs.cell (q4 j u hj)

/-- A slice of bytes. -/
def Bytes (H : Hp) (v : Value) (l : List UInt8) : Prop := Sl H 1 v l.length (l.map B)

theorem Bytes.mono {H H' : Hp} {v : Value} {l : List UInt8} (h : Bytes H v l) (hle : Hp.le H H') : Bytes H' v l := Sl.mono h hle
theorem Bytes.nil (H : Hp) : Bytes H (.slice none 0 0) [] := Sl.nil H 1
theorem Bytes.form {H : Hp} {v : Value} {l : List UInt8} (h : Bytes H v l) : ∃ base cap, v = .slice base l.length cap := Sl.form h
theorem Bytes.pos {H : Hp} {l : List UInt8} {base : Option Addr} {cap : Nat} (h : Bytes H (.slice base l.length cap) l) (hn : 0 < l.length) :
    ∃ b o, base = some ⟨b, o, none⟩ ∧ ∀ i (hi : i < l.length), hcell H ⟨b, o + i, none⟩ = some (B l[i]) := by
  obtain ⟨b, o, h1, h2⟩ := Sl.pos h hn
  exact ⟨b, o, h1, fun i hi => h2 i _ (by simp [hi])⟩

def MF.bytes (l : List UInt8) : MF := MF.of (fun v H => Bytes H v l) fun _ _ _ hle h => Bytes.mono h hle

/-- A row: coefficients, payload. -/
abbrev RowD := List UInt8 × List UInt8
/-- A slice of slices of bytes: the elements' values, and what each is. -/
def BytesL (H : Hp) (v : Value) (ll : List (List UInt8)) : Prop :=
  ∃ cs : List Value, Sl H 1 v ll.length cs ∧ cs.length = ll.length ∧ ∀ i (h : i < ll.length) (h' : i < cs.length), Bytes H cs[i] ll[i]
theorem BytesL.mono {H H' : Hp} {v : Value} {ll : List (List UInt8)} (h : BytesL H v ll) (hle : Hp.le H H') : BytesL H' v ll := by
  obtain ⟨cs, h1, h2, h3⟩ := h
  exact ⟨cs, h1.mono hle, h2, fun i a b => (h3 i a b).mono hle⟩

/-- The cells of a list of rows, and that they are these rows. -/
def rowCells : List (Value × Value) → List Value
  | [] => []
  | (c, p) :: l => c :: p :: rowCells l
theorem rowCells_length : ∀ l, (rowCells l).length = l.length * 2
  | [] => rfl
  | (_, _) :: l => by simp [rowCells, rowCells_length l]; omega
theorem rowCells_get : ∀ (l : List (Value × Value)) (i : Nat) (h : i < l.length), (rowCells l)[i * 2]? = some l[i].1 ∧ (rowCells l)[i * 2 + 1]? = some l[i].2
  | [], i, h => by simp at h
  | (c, p) :: l, 0, h => by simp [rowCells]
  | (c, p) :: l, i + 1, h => by
    have := rowCells_get l i (by simpa using h)
    simp only [rowCells, show (i + 1) * 2 = i * 2 + 1 + 1 by omega, List.getElem?_cons_succ, List.getElem_cons_succ]
    exact this
theorem rowCells_append : ∀ (a b : List (Value × Value)), rowCells (a ++ b) = rowCells a ++ rowCells b
  | [], b => rfl
  | (c, p) :: a, b => by simp [rowCells, rowCells_append a b]
def RowsOk (H : Hp) (cs : List (Value × Value)) (rs : List RowD) : Prop :=
  cs.length = rs.length ∧ ∀ i (h : i < rs.length) (h' : i < cs.length), Bytes H cs[i].1 rs[i].1 ∧ Bytes H cs[i].2 rs[i].2
theorem RowsOk.mono {H H' : Hp} {cs : List (Value × Value)} {rs : List RowD} (h : RowsOk H cs rs) (hle : Hp.le H H') : RowsOk H' cs rs :=
  ⟨h.1, fun i a b => ⟨((h.2 i a b).1).mono hle, ((h.2 i a b).2).mono hle⟩⟩
theorem RowsOk.snoc {H : Hp} {cs : List (Value × Value)} {rs : List RowD} (h : RowsOk H cs rs) {c p : Value} {r : RowD} (hc : Bytes H c r.1) (hp : Bytes H p r.2) : RowsOk H (cs ++ [(c, p)]) (rs ++ [r]) := by
  refine ⟨by simp [h.1], fun i a b => ?_⟩
  have h1 := h.1
  by_cases e : i < rs.length
  · have e' : i < cs.length := by omega
    simp only [List.getElem_append_left e, List.getElem_append_left e']
    exact h.2 i e e'
  · simp only [List.length_append, List.length_singleton] at a b
    have : i = rs.length := by omega
    subst this
    simp only [List.getElem_append_right (Nat.le_refl _), Nat.sub_self, List.getElem_cons_zero]
    rw [List.getElem_append_right (by omega)]
    simp only [h1, Nat.sub_self, List.getElem_cons_zero]
    exact ⟨hc, hp⟩
/-- A slice of rows. -/
def Rws (H : Hp) (v : Value) (rs : List RowD) : Prop := ∃ cs, Sl H 2 v rs.length (rowCells cs) ∧ RowsOk H cs rs
theorem Rws.mono {H H' : Hp} {v : Value} {rs : List RowD} (h : Rws H v rs) (hle : Hp.le H H') : Rws H' v rs := by
  obtain ⟨cs, h1, h2⟩ := h
  exact ⟨cs, h1.mono hle, h2.mono hle⟩
/-- A row as a value. -/
def RowV (H : Hp) (v : Value) (r : RowD) : Prop := ∃ c p, v = .agg #[c, p] ∧ Bytes H c r.1 ∧ Bytes H p r.2
theorem RowV.mono {H H' : Hp} {v : Value} {r : RowD} (h : RowV H v r) (hle : Hp.le H H') : RowV H' v r := by
  obtain ⟨c, p, h1, h2, h3⟩ := h
  exact ⟨c, p, h1, h2.mono hle, h3.mono hle⟩
def MF.row (r : RowD) : MF := MF.of (fun v H => RowV H v r) fun _ _ _ hle h => RowV.mono h hle
def MF.rows (l : List RowD) : MF := MF.of (fun v H => Rws H v l) fun _ _ _ hle h => Rws.mono h hle

/-- A slice that is owned: nothing yet, or the head of a block of its own. -/
def Own (N : Nat) (e : TypeId) (sz : Nat) (v : Value) (n : Nat) (xs : List Value) (Mo : Mem) : Prop :=
  xs.length = n * sz ∧ ((Mo = [] ∧ (∃ b, v = .slice b 0 0) ∧ n = 0) ∨
    ∃ g c cap, Mo = [(g, .cells c e, true)] ∧ v = .slice (some ⟨g, 0, none⟩) n cap ∧ n ≤ cap ∧ c.size = cap * sz ∧ c.toList.take (n * sz) = xs ∧ N ≤ g)

theorem Own.nil (N : Nat) (e : TypeId) (sz : Nat) : Own N e sz (.slice none 0 0) 0 [] [] := ⟨by simp, .inl ⟨rfl, ⟨_, rfl⟩, rfl⟩⟩
theorem Own.empty (N : Nat) (e : TypeId) (sz : Nat) (b : Option Addr) : Own N e sz (.slice b 0 0) 0 [] [] := ⟨by simp, .inl ⟨rfl, ⟨_, rfl⟩, rfl⟩⟩
theorem Own.form {N : Nat} {e : TypeId} {sz n : Nat} {v : Value} {xs : List Value} {Mo : Mem} (h : Own N e sz v n xs Mo) : ∃ base cap, v = .slice base n cap := by
  rcases h.2 with ⟨_, ⟨b, h1⟩, h2⟩ | ⟨g, c, cap, _, h1, _⟩
  · exact ⟨b, 0, by rw [h1, h2]⟩
  · exact ⟨_, cap, h1⟩
theorem Own.block {N g : Nat} {e : TypeId} {sz n cap : Nat} {c : Array Value} {xs : List Value} (hn : n ≤ cap) (hc : c.size = cap * sz) (hx : c.toList.take (n * sz) = xs) (hg : N ≤ g) :
    Own N e sz (.slice (some ⟨g, 0, none⟩) n cap) n xs [(g, .cells c e, true)] := by
  refine ⟨?_, .inr ⟨g, c, cap, rfl, rfl, hn, hc, hx, hg⟩⟩
  rw [← hx]
  have := Nat.mul_le_mul_right sz hn
  simp; omega

section
variable {xs : List Nat} {H0 H : Hp} {w0 w : World} {M : Mem}

/-- What was owned stays from now on. -/
theorem HS.pub {e : TypeId} {sz n : Nat} {v : Value} {cs : List Value} {Mo : Mem} (h : HS xs H0 w0 H (Mo ++ M) w) (ho : Own w0.heap.size e sz v n cs Mo) :
    ∃ H', Hp.le H H' ∧ HS xs H0 w0 H' M w ∧ Sl H' sz v n cs ∧ ∀ b o, H' b = some o → H b = some o ∨ ∃ p ∈ Mo, p.1 = b := by
  obtain ⟨hl, ⟨rfl, ⟨b9, rfl⟩, rfl⟩ | ⟨g, c, cap, rfl, rfl, hn, hc, hx, hg⟩⟩ := ho
  · have : cs = [] := List.eq_nil_of_length_eq_zero (by simpa using hl)
    subst this
    exact ⟨H, .refl H, h, Sl.empty H sz b9, fun b o hb => .inl hb⟩
  · have h0 := h.mem g (.cells c e) true (by simp)
    refine ⟨H.put g (.cells c e), Hp.le_put h0.2.1 _, HS.publish h hg, ⟨hl, _, cap, rfl, hn, (fun h => by cases h), fun a ha => ?_⟩, fun b o hb => ?_⟩
    · cases ha
      refine ⟨fun _ => rfl, fun i u hi => ?_⟩
      refine hcell_put ?_
      rw [← hx, List.getElem?_take] at hi
      split at hi
      · simpa using hi
      · cases hi
    · unfold Hp.put at hb
      split at hb
      · rename_i e'; exact .inr ⟨(g, .cells c e, true), by simp, e'.symm⟩
      · exact .inl hb

/-- A block that comes first, held by its own number. -/
theorem HS.own_cell {e : TypeId} {sz n : Nat} {v : Value} {cs : List Value} {Mo : Mem} (h : HS xs H0 w0 H (Mo ++ M) w) (ho : Own w0.heap.size e sz v n cs Mo) {a : Addr} {cap : Nat} (hv : v = .slice (some a) n cap) :
    ∀ i u, cs[i]? = some u → w.cell? (a.add i) = some u := by
  obtain ⟨hl, ⟨rfl, ⟨b9, rfl⟩, rfl⟩ | ⟨g, c, cap', rfl, rfl, hn, hc, hx, hg⟩⟩ := ho
  · have : cs = [] := List.eq_nil_of_length_eq_zero (by simpa using hl)
    subst this
    intro i u hi
    simp at hi
  · cases hv
    intro i u hi
    have hb := (h.mem g (.cells c e) true (by simp)).1
    rw [add_off, ← hx, List.getElem?_take] at *
    split at hi
    · simpa [World.cell?, hb] using hi
    · cases hi

variable {P : Program} {n' : Nat} {ds : List Deferred} {env : Env} {dst : Option Nat} {ty : TypeId} {pos : String} {aft : Array Edge} {gd : Option (Nat × Bool)} {R : Value → World → Prop}
variable {x y : Operand} {t e : TypeId} {d : TypeDesc} {sz by_ : Nat} {z : Value}

theorem execOp_append {ops : Operand → Value} {tys : Array TypeId} {o : Oper} {v : Value} {w w' : World} (ho : o.op = .call { callee := .builtin .append, args := #[x, y], argTypes := tys })
    (h : (Builtin.append_ tys o.type #[ops x, ops y]).run P w = .ok v w') : (execOp ops o).run P w = .ok (.value v) w' := by
  simp [execOp, ho, resolve, invoke, builtin, h]

/-- append to a slice that is owned. -/
theorem OR.appendN {N : Nat} (hN : N ≤ w0.heap.size) {n m : Nat} {v : Value} {cs news : List Value} {Mo : Mem} {bx : Option Addr} {c : Nat} (hs : HS xs H0 w0 H (Mo ++ M) w) (ho : Own N e sz v n cs Mo)
    (ht : P.underlying t = some (.slice e)) (he : TI P e d sz by_ z) (hzs : z.cells.size = sz) (hsz : 0 < sz)
    (hx : look env x = some v) (hy : look env y = some (.slice bx m c)) (hl : news.length = m * sz)
    (hnews : ∀ a, bx = some a → ∀ j u, news[j]? = some u → w.cell? (a.add j) = some u) (hb0 : bx = none → m = 0) (h1 : news.all (·.oneCell') = true)
    (h63 : n + m ≤ 9223372036854775807) (hbytes : (n + m) * by_ ≤ 140737488355328)
    (hR : ∀ v' w' Mo', HS xs H0 w0 H (Mo' ++ M) w' → Own N e sz v' (n + m) (cs ++ news) Mo' → w.heap.size ≤ w'.heap.size → R v' w') :
    OR P n' ds ⟨dst, .call { callee := .builtin .append, args := #[x, y], argTypes := #[t, t] }, ty, pos, aft, gd⟩ env w R := by
  obtain ⟨inf, hi1, hi2, hi3, hi4⟩ := he.inf
  have hlen : (cs ++ news).length = (n + m) * sz := by rw [List.length_append, ho.1, hl, Nat.add_mul]
  have hone : ∀ u ∈ news, u.oneCell' = true := List.all_eq_true.1 h1
  -- the growing case
  have grown : ∀ (old : Nat), old < n + m → HS xs H0 w0 H M w → 
      Own N e sz (.slice (some ⟨w.heap.size, 0, none⟩) (n + m) (grownCap w (n + m) old e)) (n + m) (cs ++ news) [(w.heap.size, .cells (cs.toArray ++ news.toArray ++ Builtin.zeroCells z.cells (grownCap w (n + m) old e - (n + m))) e, true)] ∧
      HS xs H0 w0 H ([(w.heap.size, .cells (cs.toArray ++ news.toArray ++ Builtin.zeroCells z.cells (grownCap w (n + m) old e - (n + m))) e, true)] ++ M) (w.drew.alloc (.cells (cs.toArray ++ news.toArray ++ Builtin.zeroCells z.cells (grownCap w (n + m) old e - (n + m))) e)) := by
    intro old _ hs'
    have hge := grownCap_ge w (n + m) old e
    refine ⟨Own.block hge ?_ ?_ (Nat.le_trans hN hs'.size), hs'.drew.alloc _⟩
    · simp only [Array.size_append, List.size_toArray, size_zeroCells, hzs, ho.1, hl, ← Nat.add_mul]
      congr 1
      omega
    · simp only [Array.toList_append, List.append_assoc]
      rw [← List.append_assoc, ← hlen]
      exact List.take_left
  obtain ⟨_, ⟨rfl, ⟨b9, rfl⟩, rfl⟩ | ⟨g, cc, cap, rfl, rfl, hn, hc, hxs, hg⟩⟩ := ho
  · have hcs : cs = [] := List.eq_nil_of_length_eq_zero (by simp only [List.length_append, hl] at hlen; omega)
    subst hcs
    by_cases hm : m = 0
    · subst hm
      have hn0 : news = [] := List.eq_nil_of_length_eq_zero (by simpa using hl)
      subst hn0
      refine .run (v := .slice b9 0 0) (w' := w) (fun a ha => execOp_append rfl ?_) (hR _ w [] hs (by simpa using Own.empty N e sz b9) (Nat.le_refl _))
      rw [ha.look hx, ha.look hy]
      have hfc : (Builtin.firstCells sz 0 (.slice bx 0 c)).run P w = .ok #[] w := by
        cases bx <;> simp [Builtin.firstCells, loadCells, loadCellsFrom]
      cases b9 <;> simp [Builtin.append_, run_underlying ht, sizeOf, typeInfo, hi1, hi2, Builtin.lenOf, hfc, storeCells]
    · cases bx with
      | none => exact absurd (hb0 rfl) hm
      | some a =>
        obtain ⟨h2, h3⟩ := grown 0 (by omega) (by simpa using hs)
        simp only [Nat.zero_add, List.nil_append, Array.empty_append] at h2 h3
        cases b9 with
        | none =>
          have hr := fun (tyy : TypeId) => run_append_nil (P := P) w t tyy e inf z ht hi1 hi4 a m c news (by rw [hi2]; exact hl) (hnews a rfl) (by omega) (by omega) (by rw [hi3]; simp only [Nat.zero_add] at hbytes; omega)
          exact .run (fun aa ha => execOp_append rfl (by rw [ha.look hx, ha.look hy]; exact hr ty)) (hR _ _ _ h3 (by simpa using h2) (by simp))
        | some b =>
          have hr := fun (tyy : TypeId) => run_append_grow (P := P) w t tyy e inf z ht hi1 hi4 b 0 0 [] (by simp) (fun j u hj => by simp at hj) a m c news (by rw [hi2]; exact hl) (hnews a rfl) (by omega) (by omega)
            (by rw [hi3]; exact growslice_fits (by omega) hbytes)
          simp only [Nat.zero_add, List.nil_append, Array.empty_append] at hr
          exact .run (fun aa ha => execOp_append rfl (by rw [ha.look hx, ha.look hy]; exact hr ty)) (hR _ _ _ h3 (by simpa using h2) (by simp))
  · have hgb := (hs.mem g (.cells cc e) true (by simp)).1
    have holds : ∀ j u, cs[j]? = some u → w.cell? ((⟨g, 0, none⟩ : Addr).add j) = some u := by
      intro j u hj
      rw [add_off, ← hxs, List.getElem?_take] at *
      split at hj
      · simpa [World.cell?, hgb] using hj
      · cases hj
    have hcl : cs.length = n * sz := by simp only [List.length_append, hl, Nat.add_mul] at hlen; omega
    have hm0 : news = [] ∨ ∃ a, bx = some a := by
      cases bx with
      | none => left; exact List.eq_nil_of_length_eq_zero (by rw [hl, hb0 rfl]; simp)
      | some a => exact .inr ⟨a, rfl⟩
    by_cases hroom : n + m ≤ cap
    · have hfit : n * sz + news.length ≤ cc.size := by rw [hl, hc, ← Nat.add_mul]; exact Nat.mul_le_mul_right _ hroom
      have hrow : ∃ w', (∀ tyy, (Builtin.append_ #[t, t] tyy #[.slice (some ⟨g, 0, none⟩) n cap, .slice bx m c]).run P w = .ok (.slice (some ⟨g, 0, none⟩) (n + m) cap) w') ∧
          w'.heap = w.heap.setIfInBounds g (.cells (setFrom cc (n * sz) news) e (0, 0)) ∧ w'.os = w.os ∧ w'.tape = w.tape ∧ w'.output = w.output := by
        obtain ⟨w', q1, q2, q3, q4, q5⟩ := run_storeCells_in (P := P) g e news cc (n * sz) 0 w hgb (by simpa using hfit) hone
        refine ⟨w', fun tyy => ?_, by simpa using q2, q3, q4, q5⟩
        have hfc : (Builtin.firstCells sz m (.slice bx m c)).run P w = .ok news.toArray w := by
          cases bx with
          | none =>
            have : news = [] := List.eq_nil_of_length_eq_zero (by rw [hl, hb0 rfl]; simp)
            subst this
            simp [Builtin.firstCells]
          | some a => exact run_firstCells_some w sz m a m c news hl (hnews a rfl)
        simp [Builtin.append_, run_underlying ht, sizeOf, typeInfo, hi1, hi2, Builtin.lenOf, hroom, hfc, add_off, q1]
      obtain ⟨w', q1, q2, q3, q4, q5⟩ := hrow
      have hs2 := HS.write (g := g) (o := .cells cc e) hs (.cells (setFrom cc (n * sz) news) e) q2 q3 q4 q5
      refine .run (fun aa ha => execOp_append rfl (by rw [ha.look hx, ha.look hy]; exact q1 ty)) (hR _ w' [(g, .cells (setFrom cc (n * sz) news) e, true)] hs2 (Own.block hroom (by rw [setFrom_size, hc]) ?_ hg) (by rw [q2]; simp))
      rw [setFrom_list]
      have key : ∀ (vs l : List Value) (k : Nat), k + vs.length ≤ l.length → (setL l k vs).take (k + vs.length) = l.take k ++ vs := by
        intro vs
        induction vs with
        | nil => intro l k _; simp [setL_nil]
        | cons v vs ih =>
          intro l k hk
          simp only [List.length_cons] at hk ⊢
          rw [setL_step, show k + (vs.length + 1) = (k + 1) + vs.length by omega, ih _ _ (by simp; omega)]
          rw [List.take_succ_eq_append_getElem (by simp; omega), List.take_set, List.set_eq_of_length_le (by rw [List.length_take]; omega)]
          simp
      have h9 := key news cc.toList (n * sz) (by simpa using hfit)
      rw [hl, ← Nat.add_mul, hxs] at h9
      exact h9
    · have hpos : 0 < m := by omega
      cases bx with
      | none => have := hb0 rfl; omega
      | some a =>
        have hr := fun (tyy : TypeId) => run_append_grow (P := P) w t tyy e inf z ht hi1 hi4 ⟨g, 0, none⟩ n cap cs (by rw [hi2]; exact hcl) holds a m c news (by rw [hi2]; exact hl) (hnews a rfl) (by omega) (by omega)
          (by rw [hi3]; exact growslice_fits (by omega) hbytes)
        obtain ⟨h2, h3⟩ := grown cap (by omega) (hs.sublist (List.sublist_append_right _ _))
        exact .run (fun aa ha => execOp_append rfl (by rw [ha.look hx, ha.look hy]; exact hr ty)) (hR _ _ _ h3 h2 (by simp))
theorem OR.append {n m : Nat} {v : Value} {cs news : List Value} {Mo : Mem} {bx : Option Addr} {c : Nat} (hs : HS xs H0 w0 H (Mo ++ M) w) (ho : Own w0.heap.size e sz v n cs Mo)
    (ht : P.underlying t = some (.slice e)) (he : TI P e d sz by_ z) (hzs : z.cells.size = sz) (hsz : 0 < sz)
    (hx : look env x = some v) (hy : look env y = some (.slice bx m c)) (hl : news.length = m * sz)
    (hnews : ∀ a, bx = some a → ∀ j u, news[j]? = some u → w.cell? (a.add j) = some u) (hb0 : bx = none → m = 0) (h1 : news.all (·.oneCell') = true)
    (h63 : n + m ≤ 9223372036854775807) (hbytes : (n + m) * by_ ≤ 140737488355328)
    (hR : ∀ v' w' Mo', HS xs H0 w0 H (Mo' ++ M) w' → Own w0.heap.size e sz v' (n + m) (cs ++ news) Mo' → w.heap.size ≤ w'.heap.size → R v' w') :
    OR P n' ds ⟨dst, .call { callee := .builtin .append, args := #[x, y], argTypes := #[t, t] }, ty, pos, aft, gd⟩ env w R :=
  .appendN (Nat.le_refl _) hs ho ht he hzs hsz hx hy hl hnews hb0 h1 h63 hbytes hR
end

end Go.Bw
