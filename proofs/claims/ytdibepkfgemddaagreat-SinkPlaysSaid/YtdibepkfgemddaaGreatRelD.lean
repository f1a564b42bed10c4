/- A relay in memory: its window, its slots. -/
import Derived.Test.YtdibepkfgemddaaGreatInsert
import Derived.Test.YtdibepkfgemddaaGreatBasis2
import Derived.Test.YtdibepkfgemddaaGreatSpan
import Derived.Test.YtdibepkfgemddaaGreatOps6
namespace Go.Bw
set_option linter.unusedVariables false
set_option linter.unusedSimpArgs false
open Go.Proofs

/-- Of each slot: the block of its basis, and where that has its rows; none: it has no basis. -/
abbrev Slots := List (Option (Nat × Value))
def slotV : Option (Nat × Value) → Value
  | none => .pointer none
  | some p => ptr p.1
def slotM (g s : Nat) (t : Bool) : Option (Nat × Value) → Mem
  | none => []
  | some p => [(p.1, basisObj g s p.2, t)]
def slotMem (g s : Nat) (t : Bool) (l : Slots) : Mem := l.flatMap (slotM g s t)
def winObj (base width : Nat) : Obj := .cells #[.int .u64 (base : Int), .int .i64 (width : Int)] 192
def relObj (g s wb : Nat) (l : Slots) : Obj := .cells (.int .i64 (g : Int) :: .int .i64 (s : Int) :: ptr wb :: l.map slotV).toArray 131

theorem slots_split {l : Slots} {i : Nat} {x : Option (Nat × Value)} (h : l[i]? = some x) (y : Option (Nat × Value)) : l = l.take i ++ x :: l.drop (i + 1) ∧ l.set i y = l.take i ++ y :: l.drop (i + 1) := by
  have hi : i < l.length := (List.getElem?_eq_some_iff.1 h).1
  have hx : l[i] = x := by rw [List.getElem?_eq_getElem hi] at h; exact Option.some.inj h
  refine ⟨?_, List.set_eq_take_append_cons_drop .. |>.trans (by rw [if_pos hi])⟩
  rw [← hx, ← List.drop_eq_getElem_cons hi, List.take_append_drop]
theorem slotMem_perm (g s : Nat) (t : Bool) {l : Slots} {i : Nat} {x : Option (Nat × Value)} (h : l[i]? = some x) (y : Option (Nat × Value)) : (slotMem g s t (l.set i y)).Perm (slotM g s t y ++ slotMem g s t (l.set i none)) := by
  obtain ⟨_, h2⟩ := slots_split h y
  obtain ⟨_, h3⟩ := slots_split h none
  rw [h2, h3]
  simp only [slotMem, List.flatMap_append, List.flatMap_cons, slotM, List.nil_append]
  rw [← List.append_assoc, ← List.append_assoc]
  exact (List.perm_append_comm).append_right _
theorem slotMem_same (g s : Nat) (t : Bool) {l : Slots} {i : Nat} {x : Option (Nat × Value)} (h : l[i]? = some x) : (slotMem g s t l).Perm (slotM g s t x ++ slotMem g s t (l.set i none)) := by
  have := slotMem_perm g s t h x
  rwa [show l.set i x = l from by
    have hi : i < l.length := (List.getElem?_eq_some_iff.1 h).1
    have hx : l[i] = x := by rw [List.getElem?_eq_getElem hi] at h; exact Option.some.inj h
    rw [← hx, List.set_getElem_self]] at this
theorem slotMem_flags (g s : Nat) (l : Slots) : ∀ p ∈ slotMem g s true l, p.2.2 = true := by
  intro p hp
  obtain ⟨x, _, hx⟩ := List.mem_flatMap.1 hp
  cases x with
  | none => cases hx
  | some q => rw [List.mem_singleton.1 hx]

structure RelD where
  g : Nat
  s : Nat
  base : Nat
  width : Nat
  rows : Nat → List RowD
structure RelOk (x : RelD) : Prop where
  g1 : 1 ≤ x.g
  g2 : x.g ≤ 255
  s1 : 1 ≤ x.s
  s2 : x.s ≤ 65535
  w1 : 1 ≤ x.width
  w2 : x.width ≤ 16
  b : x.base ≤ 1099511627776
  red : ∀ i, Red x.g x.s (x.rows i)
def slotOk (H : Hp) (rows : List RowD) : Option (Nat × Value) → Prop
  | none => rows = []
  | some p => Rws H p.2 rows
theorem slotOk.mono {H H' : Hp} {rows : List RowD} {x : Option (Nat × Value)} (h : slotOk H rows x) (hle : Hp.le H H') : slotOk H' rows x := by
  cases x with
  | none => exact h
  | some p => exact Rws.mono h hle
def SlotsOk (H : Hp) (x : RelD) (l : Slots) : Prop := l.length = 16 ∧ ∀ i y, l[i]? = some y → slotOk H (x.rows i) y
theorem SlotsOk.mono {H H' : Hp} {x : RelD} {l : Slots} (h : SlotsOk H x l) (hle : Hp.le H H') : SlotsOk H' x l := ⟨h.1, fun i y hy => (h.2 i y hy).mono hle⟩
/-- A relay's memory: its own block, its window's, its bases'. -/
def relMem (t : Bool) (x : RelD) (rb wb : Nat) (l : Slots) : Mem := (rb, relObj x.g x.s wb l, t) :: (wb, winObj x.base x.width, t) :: slotMem x.g x.s t l
theorem relMem_flags (x : RelD) (rb wb : Nat) (l : Slots) : (relMem true x rb wb l).all (·.2.2) = true := by
  rw [List.all_eq_true]
  intro p hp
  rcases List.mem_cons.1 hp with rfl | hp
  · rfl
  · rcases List.mem_cons.1 hp with rfl | hp
    · rfl
    · exact slotMem_flags _ _ _ p hp
/-- Which generations are in the window. -/
def RelD.end_ (x : RelD) : Nat := min (x.base + x.width) 1099511627776
def RelD.isIn (x : RelD) (gen : Nat) : Prop := x.base ≤ gen ∧ gen < x.end_
instance (x : RelD) (gen : Nat) : Decidable (x.isIn gen) := inferInstanceAs (Decidable (_ ∧ _))
def RelD.at_ (x : RelD) (gen : Nat) : List RowD := x.rows (gen % x.width)
/-- A slot's rows set. -/
def RelD.put (x : RelD) (gen : Nat) (rows : List RowD) : RelD := { x with rows := fun i => if i = gen % x.width then rows else x.rows i }
theorem insAny_red {g s : Nat} {A : List RowD} (h : Red g s A) (r : RowD) : Red g s (insR g s A r).2 := by
  by_cases hd : r.1.length = g ∧ r.2.length = s
  · have hr : RowGS g s r := hd
    by_cases hl : lead (redR A r).1 < 0
    · rw [insR_out hr hl]; exact h
    · rw [insR_in hr hl]
      exact h.ins (redR_gs A r hr h.gs) (by omega) (fun x hx => redR_at h r hr hx)
  · unfold insR
    rw [if_neg hd]
    exact h
theorem insAny_false {g s : Nat} {rows : List RowD} {r : RowD} (h : (insR g s rows r).1 = false) : (insR g s rows r).2 = rows := by
  unfold insR at h ⊢
  split
  · rename_i h1
    rw [if_pos h1] at h
    split
    · rfl
    · rename_i h2
      rw [if_neg h2] at h
      cases h
  · rfl
theorem RelOk.slot {x : RelD} (h : RelOk x) (gen : Nat) : gen % x.width < 16 := Nat.lt_of_lt_of_le (Nat.mod_lt _ h.w1) h.w2
theorem RelOk.put {x : RelD} (h : RelOk x) (gen : Nat) (rows : List RowD) (hr : Red x.g x.s rows) : RelOk (x.put gen rows) :=
  ⟨h.g1, h.g2, h.s1, h.s2, h.w1, h.w2, h.b, fun i => by
    show Red x.g x.s (if i = gen % x.width then rows else x.rows i)
    split
    · exact hr
    · exact h.red i⟩
theorem nth_slots (a b c : Value) (l : Slots) (i : Nat) (x : Option (Nat × Value)) (h : l[i]? = some x) : nth (a :: b :: c :: l.map slotV) (3 + i) = some (slotV x) := by
  rw [nth_eq, show 3 + i = i + 1 + 1 + 1 by omega]
  simp [h]
theorem setL_slots (a b c : Value) (l : Slots) (i : Nat) (y : Option (Nat × Value)) (hi : i < l.length) : setL (a :: b :: c :: l.map slotV) (3 + i) [slotV y] = a :: b :: c :: (l.set i y).map slotV := by
  have key : ∀ (m : List Value) (i : Nat) (v : Value), setL m i [v] = m.set i v := by
    intro m
    induction m with
    | nil => intro i v; simp [setL]
    | cons p m ih =>
      intro i v
      cases i with
      | zero => simp [setL, setL_nil]
      | succ i => simp [setL, ih]
  rw [key, show 3 + i = i + 1 + 1 + 1 by omega]
  simp [List.map_set]
theorem slotMem_keys (g s : Nat) (t : Bool) (l : Slots) : Mem.keys (slotMem g s t l) = Mem.keys (slotMem g s true l) := by
  unfold slotMem Mem.keys
  rw [List.map_flatMap, List.map_flatMap]
  congr 1
  funext x
  cases x <;> rfl
theorem slotMem_ro {g s : Nat} {l : Slots} {b : Nat} {o : Obj} {t : Bool} (h : (b, o, t) ∈ slotMem g s false l) : t = false ∧ (b, o, true) ∈ slotMem g s true l := by
  obtain ⟨x, hx, h1⟩ := List.mem_flatMap.1 h
  cases x with
  | none => cases h1
  | some p =>
    have := List.mem_singleton.1 h1
    cases this
    exact ⟨rfl, List.mem_flatMap.2 ⟨_, hx, by simp [slotM]⟩⟩
/-- A relay that is only read. -/
theorem HS.relRO {xs : List Nat} {H0 H : Hp} {w0 w : World} {x : RelD} {rb wb : Nat} {l : Slots} {Mr : Mem} (hs : HS xs H0 w0 H (relMem true x rb wb l ++ Mr) w) : HS [] H w H (relMem false x rb wb l) w := by
  refine HS.start [] hs.sub (fun b o t h => ?_) ?_
  · have h' : t = false ∧ (b, o, true) ∈ relMem true x rb wb l ++ Mr := by
      rcases List.mem_cons.1 h with e | h
      · cases e; exact ⟨rfl, by simp [relMem]⟩
      · rcases List.mem_cons.1 h with e | h
        · cases e; exact ⟨rfl, by simp [relMem]⟩
        · have := slotMem_ro h
          exact ⟨this.1, List.mem_append_left _ (List.mem_cons_of_mem _ (List.mem_cons_of_mem _ this.2))⟩
    have h1 := hs.mem b o true h'.2
    exact ⟨h1.1, h1.2.1, fun ht => by rw [h'.1] at ht; cases ht⟩
  · have h1 := hs.nd
    simp only [Mem.keys, List.map_append, List.nodup_append] at h1
    have h2 := h1.1
    have e : (relMem false x rb wb l).map (·.1) = (relMem true x rb wb l).map (·.1) := by
      have := slotMem_keys x.g x.s false l
      simp only [Mem.keys] at this
      simp [relMem, this]
    show ((relMem false x rb wb l).map (·.1)).Nodup
    rw [e]
    exact h2
/-- A relay that may be written. -/
theorem HS.relRW {xs : List Nat} {H0 H : Hp} {w0 w : World} {x : RelD} {rb wb : Nat} {l : Slots} {Mr : Mem} (hs : HS xs H0 w0 H (relMem true x rb wb l ++ Mr) w) : HS (Mem.keys (relMem true x rb wb l)) H w H (relMem true x rb wb l) w := by
  refine HS.start _ hs.sub (fun b o t h => ?_) ?_
  · have h1 := hs.mem b o t (List.mem_append_left _ h)
    exact ⟨h1.1, h1.2.1, fun _ => List.mem_map.2 ⟨_, h, rfl⟩⟩
  · have h1 := hs.nd
    simp only [Mem.keys, List.map_append, List.nodup_append] at h1
    exact h1.1
/-- A slot's basis comes first; and goes back. -/
theorem HS.slotOut {xs : List Nat} {H0 H : Hp} {w0 w : World} {g s : Nat} {t : Bool} {l : Slots} {A Mr : Mem} {i b : Nat} {rv : Value} (hs : HS xs H0 w0 H (A ++ (slotMem g s t l ++ Mr)) w) (h : l[i]? = some (some (b, rv))) :
    HS xs H0 w0 H ((b, basisObj g s rv, t) :: (A ++ (slotMem g s t (l.set i none) ++ Mr))) w := by
  refine hs.perm ?_
  have h1 := (slotMem_same g s t h).append_right Mr
  have h2 : (A ++ (slotMem g s t l ++ Mr)).Perm (A ++ ((b, basisObj g s rv, t) :: (slotMem g s t (l.set i none) ++ Mr))) := List.Perm.append_left A h1
  exact (h2.trans List.perm_middle).symm
theorem HS.slotIn {xs : List Nat} {H0 H : Hp} {w0 w : World} {g s : Nat} {t : Bool} {l : Slots} {A Mr : Mem} {i b : Nat} {rv : Value} {y : Option (Nat × Value)} (hs : HS xs H0 w0 H ((b, basisObj g s rv, t) :: (A ++ (slotMem g s t (l.set i none) ++ Mr))) w) (h : l[i]? = some y) :
    HS xs H0 w0 H (A ++ (slotMem g s t (l.set i (some (b, rv))) ++ Mr)) w := by
  refine hs.perm ?_
  have h1 := (slotMem_perm g s t h (some (b, rv))).append_right Mr
  have h2 : (A ++ (slotMem g s t (l.set i (some (b, rv))) ++ Mr)).Perm (A ++ ((b, basisObj g s rv, t) :: (slotMem g s t (l.set i none) ++ Mr))) := List.Perm.append_left A h1
  exact h2.trans List.perm_middle
end Go.Bw
