/- A region that draws its order: operations that only add to memory in any order, then the rest in their order. -/
import Derived.Test.YtdibepkfgemddaaGreatOps
import Derived.Orders
namespace Go.Bw
set_option linter.unusedVariables false
set_option linter.unusedSimpArgs false

/-- A fact on a value, and on the blocks that were made with it, that stays as memory grows. -/
structure MF where
  F : Value → Mem → Hp → Prop
  mono : ∀ v M H H', Hp.le H H' → F v M H → F v M H'

def MF.eq (u : Value) : MF := ⟨fun v M _ => v = u ∧ M = [], fun _ _ _ _ _ h => h⟩
/-- A fact on the value alone. -/
def MF.of (F : Value → Hp → Prop) (mono : ∀ v H H', Hp.le H H' → F v H → F v H') : MF := ⟨fun v M H => F v H ∧ M = [], fun v _ H H' hle h => ⟨mono v H H' hle h.1, h.2⟩⟩
/-- A new block. -/
def MF.ptr (N : Nat) (o : Obj) : MF := ⟨fun v M _ => ∃ g, N ≤ g ∧ v = .pointer (some ⟨g, 0, none⟩) ∧ M = [(g, o, true)], fun _ _ _ _ _ h => h⟩

section
variable {P : Program} {n : Nat} {ds : List Deferred}

/-- An operation with its guard. -/
def ORg (P : Program) (n : Nat) (ds : List Deferred) (ops : List Oper) (o : Oper) (env : Env) (w : World) (R : Value → World → Prop) : Prop :=
  ∀ a, St n ds env a → ∀ (K : Act → World → Prop) (Q : Exit → Act → World → Prop), (∀ v w', R v w' → K (a.put o.dst v) w') →
    if Region.wanted o (yielded ops.toArray a.tmps) then o.wp P a w K Q else K (a.put o.dst undef) w

variable {env : Env} {w : World} {op : Op} {dst : Option Nat} {ty : TypeId} {pos : String} {aft : Array Edge} {R : Value → World → Prop} {ops : List Oper}
theorem ORg.plain (h : OR P n ds ⟨dst, op, ty, pos, aft, none⟩ env w R) : ORg P n ds ops ⟨dst, op, ty, pos, aft, none⟩ env w R := by
  intro a ha K Q hK
  simp only [Region.wanted, if_true]
  exact h a ha K Q hK
theorem ORg.yes {j : Nat} {b c : Bool} (hb : guardOf ops env j = some c) (hc : c = b) (hj : guardDst ops n j = true)
    (h : OR P n ds ⟨dst, op, ty, pos, aft, some (j, b)⟩ env w R) : ORg P n ds ops ⟨dst, op, ty, pos, aft, some (j, b)⟩ env w R := by
  subst hc
  intro a ha K Q hK
  have hy := yielded_of ha hb (by intro o' d h1 h2; simpa [guardDst, h1, h2, dstOk] using hj)
  simp only [Region.wanted, hy, beq_self_eq_true, if_true]
  exact h a ha K Q hK
theorem ORg.no {j : Nat} {b c : Bool} (hb : guardOf ops env j = some c) (hc : c = !b) (hj : guardDst ops n j = true)
    (h : R undef w) : ORg P n ds ops ⟨dst, op, ty, pos, aft, some (j, b)⟩ env w R := by
  subst hc
  intro a ha K Q hK
  have hy := yielded_of ha hb (by intro o' d h1 h2; simpa [guardDst, h1, h2, dstOk] using hj)
  have : (some (!b) == some b) = false := by cases b <;> rfl
  simp only [Region.wanted, hy, this, if_false, Bool.false_eq_true]
  exact hK _ _ h
end

/-- On which operations one leans: data and guards. -/
def leans (o : Oper) : List Nat :=
  (o.after.toList.filter fun e => match e.ground with | .data => true | .guard => true | _ => false).map (·.on)

def uniq : List Nat → List Nat
  | [] => []
  | x :: xs => if xs.any (Nat.beq x) then uniq xs else x :: uniq xs

theorem mem_uniq {x : Nat} : ∀ {l : List Nat}, x ∈ uniq l → x ∈ l
  | [], h => by simp [uniq] at h
  | y :: l, h => by
    unfold uniq at h
    split at h
    · exact List.mem_cons_of_mem _ (mem_uniq h)
    · rcases List.mem_cons.1 h with e | h
      · simp [e]
      · exact List.mem_cons_of_mem _ (mem_uniq h)

/-- For all values of these operations that meet their facts. -/
def forVals (ops : List Oper) (Fs : List MF) (H : Hp) : List Nat → Env → (Env → Prop) → Prop
  | [], acc, K => K acc
  | j :: js, acc, K =>
    match nth ops j, nth Fs j with
    | some o, some F =>
      match o.dst with
      | some d => ∀ v My, F.F v My H → forVals ops Fs H js ((d, v) :: acc) K
      | none => forVals ops Fs H js acc K
    | _, _ => forVals ops Fs H js acc K

theorem forVals_nil {ops : List Oper} {Fs : List MF} {H : Hp} {acc : Env} {K : Env → Prop} (h : K acc) : forVals ops Fs H [] acc K := h
theorem forVals_cons {ops : List Oper} {Fs : List MF} {H : Hp} {acc : Env} {K : Env → Prop} {j : Nat} {js : List Nat} {o : Oper} {F : MF} {d : Nat} (ho : nth ops j = some o) (hF : nth Fs j = some F)
    (hd : o.dst = some d) (h : ∀ v My, F.F v My H → forVals ops Fs H js ((d, v) :: acc) K) : forVals ops Fs H (j :: js) acc K := by
  unfold forVals
  rw [ho, hF]
  simp only [hd]
  exact h

/-- What is owed for the first k of these operations, one behind the other; what is then left. -/
def OwedF (P : Program) (n : Nat) (ds : List Deferred) (xs : List Nat) (H0 : Hp) (w0 : World) (M : Mem) (ops : List Oper) (env : Env) (H : Hp) (fin : List MF → Prop) : List Oper → Nat → List MF → Prop
  | _, 0, Fs => fin Fs
  | [], _ + 1, _ => False
  | o :: os, k + 1, Fs => ∃ F : MF, (∀ Mx H' w', Hp.le H H' → HS xs H0 w0 H' (Mx ++ M) w' → forVals ops Fs H' (uniq (leans o)) env fun env' =>
      ORg P n ds ops o env' w' fun v w'' => ∃ H'' My, Hp.le H' H'' ∧ HS xs H0 w0 H'' (My ++ (Mx ++ M)) w'' ∧ F.F v My H'') ∧ OwedF P n ds xs H0 w0 M ops env H fin os k (Fs ++ [F])

/-- The same, with the facts in reverse (quicker to look up). -/
def Owed (P : Program) (n : Nat) (ds : List Deferred) (xs : List Nat) (H0 : Hp) (w0 : World) (M : Mem) (ops : List Oper) (env : Env) (H : Hp) (fin : List MF → Prop) : List Oper → Nat → List MF → Prop
  | _, 0, Rs => fin Rs.reverse
  | [], _ + 1, _ => False
  | o :: os, k + 1, Rs => ∃ F : MF, (∀ Mx H' w', Hp.le H H' → HS xs H0 w0 H' (Mx ++ M) w' → forVals ops Rs.reverse H' (uniq (leans o)) env fun env' =>
      ORg P n ds ops o env' w' fun v w'' => ∃ H'' My, Hp.le H' H'' ∧ HS xs H0 w0 H'' (My ++ (Mx ++ M)) w'' ∧ F.F v My H'') ∧ Owed P n ds xs H0 w0 M ops env H fin os k (F :: Rs)

theorem Owed.toF {P : Program} {n : Nat} {ds : List Deferred} {xs : List Nat} {H0 : Hp} {w0 : World} {M : Mem} {ops : List Oper} {env : Env} {H : Hp} {fin : List MF → Prop} : ∀ (os : List Oper) (k : Nat) (Rs : List MF),
    Owed P n ds xs H0 w0 M ops env H fin os k Rs → OwedF P n ds xs H0 w0 M ops env H fin os k Rs.reverse
  | [], 0, _, h => h
  | _ :: _, 0, _, h => h
  | [], _ + 1, _, h => h
  | o :: os, k + 1, Rs, ⟨F, h1, h2⟩ => ⟨F, h1, by rw [← List.reverse_cons]; exact Owed.toF os k _ h2⟩

theorem forVals_congr {ops : List Oper} {A A' : List MF} {H : Hp} {K : Env → Prop} : ∀ (js : List Nat) (acc : Env), forVals ops A H js acc K → (∀ j ∈ js, nth A j = nth A' j) → forVals ops A' H js acc K
  | [], acc, h, _ => h
  | j :: js, acc, h, hj => by
    unfold forVals at h ⊢
    rw [← hj j (by simp)]
    have hr : ∀ j' ∈ js, nth A j' = nth A' j' := fun j' h' => hj j' (List.mem_cons_of_mem _ h')
    split
    · rename_i o F ho hF
      rw [ho, hF] at h
      simp only at h
      split
      · rename_i d hd
        rw [hd] at h
        intro v My hv
        exact forVals_congr js _ (h v My hv) hr
      · rename_i hd
        rw [hd] at h
        exact forVals_congr js _ h hr
    · rename_i hno
      have h' : forVals ops A H js acc K := by
        revert h
        split
        · rename_i o F ho hF; exact absurd hF (by intro h9; exact hno o F ho h9)
        · exact id
      exact forVals_congr js _ h' hr

theorem leans_lt {o : Oper} {i : Nat} (h : ∀ e ∈ o.after.toList, Region.binds .any e = true → e.on < i) : ∀ j ∈ uniq (leans o), j < i := by
  intro j hj
  have := mem_uniq hj
  unfold leans at this
  obtain ⟨e, he, rfl⟩ := List.mem_map.1 this
  rw [List.mem_filter] at he
  refine h e he.1 ?_
  have h2 := he.2
  unfold Region.binds
  split at h2 <;> simp_all

theorem nth_append_left {α : Type} {l r : List α} {i : Nat} (h : i < l.length) : nth (l ++ r) i = nth l i := by
  rw [nth_eq, nth_eq, List.getElem?_append_left h]

section
variable {P : Program} {n : Nat} {ds : List Deferred} {xs : List Nat} {H0 H : Hp} {w0 : World} {M : Mem} {ops : List Oper} {env : Env} {fin : List MF → Prop}
theorem OwedF.elim (hb : ∀ i o, nth ops i = some o → ∀ e ∈ o.after.toList, Region.binds .any e = true → e.on < i) : ∀ (k : Nat) (Fs : List MF), OwedF P n ds xs H0 w0 M ops env H fin (ops.drop Fs.length) k Fs →
    ∃ Gs, (Fs ++ Gs).length = Fs.length + k ∧ fin (Fs ++ Gs) ∧ ∀ i o F, Fs.length ≤ i → nth ops i = some o → nth (Fs ++ Gs) i = some F → ∀ Mx H' w', Hp.le H H' → HS xs H0 w0 H' (Mx ++ M) w' →
      forVals ops (Fs ++ Gs) H' (uniq (leans o)) env fun env' => ORg P n ds ops o env' w' fun v w'' => ∃ H'' My, Hp.le H' H'' ∧ HS xs H0 w0 H'' (My ++ (Mx ++ M)) w'' ∧ F.F v My H''
  | 0, Fs, h => by
    have h' : fin Fs := by revert h; cases ops.drop Fs.length <;> exact id
    refine ⟨[], by simp, by simpa using h', ?_⟩
    intro i o F hi ho hF
    rw [List.append_nil, nth_eq] at hF
    exact absurd (List.getElem?_eq_some_iff.1 hF).1 (by omega)
  | k + 1, Fs, h => by
    cases hd : ops.drop Fs.length with
    | nil => rw [hd] at h; exact False.elim h
    | cons o os =>
      rw [hd] at h
      obtain ⟨F, hF, hrest⟩ := h
      have hlt : Fs.length < ops.length := by
        rcases Nat.lt_or_ge Fs.length ops.length with h1 | h1
        · exact h1
        · rw [List.drop_eq_nil_of_le h1] at hd; cases hd
      have hos : os = ops.drop (Fs ++ [F]).length := by
        rw [List.length_append, List.length_singleton]
        rw [List.drop_eq_getElem_cons hlt] at hd
        exact (List.cons.inj hd).2.symm
      have ho : nth ops Fs.length = some o := by
        rw [nth_eq, List.getElem?_eq_getElem hlt]
        rw [List.drop_eq_getElem_cons hlt] at hd
        rw [(List.cons.inj hd).1]
      rw [hos] at hrest
      obtain ⟨Gs, h1, h2, h3⟩ := OwedF.elim hb k (Fs ++ [F]) hrest
      have e : Fs ++ [F] ++ Gs = Fs ++ ([F] ++ Gs) := List.append_assoc ..
      refine ⟨[F] ++ Gs, by rw [← e, h1]; simp; omega, by rw [← e]; exact h2, ?_⟩
      intro i o' F' hi ho' hF' Mx H' w' hle hs
      by_cases hie : i = Fs.length
      · subst hie
        rw [ho] at ho'
        cases ho'
        rw [← e, nth_append_left (by simp), nth_eq, List.getElem?_append_right (Nat.le_refl _)] at hF'
        simp at hF'
        subst hF'
        refine forVals_congr _ _ (hF Mx H' w' hle hs) ?_
        intro j hj
        exact (nth_append_left (leans_lt (hb _ _ ho) j hj)).symm
      · have := h3 i o' F' (by simp; omega) ho' (by rw [e]; exact hF') Mx H' w' hle hs
        rw [e] at this
        exact this
end

def dstOf (ops : List Oper) (i : Nat) : Option Nat := (nth ops i).bind (·.dst)

/-- On which operations each one leans, through others too. -/
def reachRow (rows : List (List Bool)) (o : Oper) : List Bool :=
  (List.range rows.length).map fun j => o.after.toList.any fun e => Region.binds .any e && (Nat.beq e.on j || (match nth rows e.on with | some r => (match nth r j with | some b => b | none => false) | none => false))
def reachTab : List Oper → List (List Bool) → List (List Bool)
  | [], rows => rows
  | o :: os, rows => reachTab os (rows ++ [reachRow rows o])
def reaches (tab : List (List Bool)) (i j : Nat) : Bool := match nth tab i with | some r => (match nth r j with | some b => b | none => false) | none => false

inductive Reach (ops : List Oper) : Nat → Nat → Prop
  | edge {i : Nat} {o : Oper} {e : Edge} (ho : nth ops i = some o) (he : e ∈ o.after.toList) (hb : Region.binds .any e = true) : Reach ops i e.on
  | step {i j : Nat} {o : Oper} {e : Edge} (ho : nth ops i = some o) (he : e ∈ o.after.toList) (hb : Region.binds .any e = true) (h : Reach ops e.on j) : Reach ops i j

theorem reachTab_ok (ops : List Oper) : ∀ (os : List Oper) (rows : List (List Bool)), os = ops.drop rows.length → (∀ i j, reaches rows i j = true → Reach ops i j) → ∀ i j, reaches (reachTab os rows) i j = true → Reach ops i j
  | [], rows, _, h => h
  | o :: os, rows, ho, h => by
    have hlt : rows.length < ops.length := by
      rcases Nat.lt_or_ge rows.length ops.length with h1 | h1
      · exact h1
      · rw [List.drop_eq_nil_of_le h1] at ho; cases ho
    rw [List.drop_eq_getElem_cons hlt] at ho
    obtain ⟨h1, h2⟩ := List.cons.inj ho
    have hno : nth ops rows.length = some o := by rw [nth_eq, List.getElem?_eq_getElem hlt, h1]
    refine reachTab_ok ops os (rows ++ [reachRow rows o]) (by simpa using h2) ?_
    intro i j hij
    unfold reaches at hij
    by_cases hi : i < rows.length
    · refine h i j ?_
      unfold reaches
      rw [nth_eq, List.getElem?_append_left hi, ← nth_eq] at hij
      exact hij
    · by_cases hi2 : i = rows.length
      · subst hi2
        rw [nth_eq, List.getElem?_append_right (Nat.le_refl _)] at hij
        simp only [Nat.sub_self, List.getElem?_cons_zero] at hij
        rw [nth_eq] at hij
        unfold reachRow at hij
        by_cases hj : j < rows.length
        · rw [List.getElem?_map, List.getElem?_range hj] at hij
          simp only [Option.map_some, List.any_eq_true, Bool.and_eq_true, Bool.or_eq_true] at hij
          obtain ⟨e, he, hb, h3⟩ := hij
          rcases h3 with h3 | h3
          · have := Nat.eq_of_beq_eq_true h3
            subst this
            exact .edge hno he hb
          · exact .step hno he hb (h e.on j h3)
        · rw [List.getElem?_eq_none (by simpa using hj)] at hij
          simp at hij
      · rw [nth_eq, List.getElem?_eq_none (by simp; omega)] at hij
        simp at hij

/-- All is well with the region's shape: the first m in any order, the rest behind all that stand ahead of them. -/
def drawOk (ops : List Oper) (m n : Nat) (env : Env) (fl : List Nat) : Bool :=
  Nat.ble m ops.length &&
  (List.range ops.length).all (fun i => match nth ops i with
    | some o => o.after.toList.all (fun e => !Region.binds .any e || Nat.blt e.on i) &&
        (if i < m then (match o.dst with
            | some d => Nat.blt d n && env.all (fun p => !Nat.beq p.1 d) && (List.range m).all (fun j => Nat.beq i j || (match dstOf ops j with | some d' => !Nat.beq d d' | none => false))
            | none => false) &&
          (uniq (leans o)).all (fun j => o.after.toList.any fun e => Region.binds .any e && Nat.beq e.on j)
        else (List.range i).all fun j => fl.any (Nat.beq j) || reaches (reachTab ops []) i j)
    | none => false)

/-- The values of the first operations, as slots. -/
def valEnv (ops : List Oper) : Nat → List Value → Env → Env
  | _, [], env => env
  | i, v :: vs, env => match dstOf ops i with
    | some d => (d, v) :: valEnv ops (i + 1) vs env
    | none => valEnv ops (i + 1) vs env

/-- For all values that meet the facts, one behind the other; the blocks that were made stand in front. -/
def forAllVals (ops : List Oper) (H : Hp) : Nat → List MF → Env → Mem → (Env → Mem → Prop) → Prop
  | _, [], env, M, K => K env M
  | i, F :: Fs, env, M, K => ∀ v My, F.F v My H → forAllVals ops H (i + 1) Fs (match dstOf ops i with | some d => (d, v) :: env | none => env) (My ++ M) K

theorem forAllVals_nil {ops : List Oper} {H : Hp} {i : Nat} {env : Env} {M : Mem} {K : Env → Mem → Prop} (h : K env M) : forAllVals ops H i [] env M K := h
theorem forAllVals_cons {ops : List Oper} {H : Hp} {i : Nat} {F : MF} {Fs : List MF} {env : Env} {M : Mem} {K : Env → Mem → Prop} {d : Nat} (hd : dstOf ops i = some d)
    (h : ∀ v My, F.F v My H → forAllVals ops H (i + 1) Fs ((d, v) :: env) (My ++ M) K) : forAllVals ops H i (F :: Fs) env M K := by
  unfold forAllVals
  rw [hd]
  exact h
theorem forAllVals_eq {ops : List Oper} {H : Hp} {i : Nat} {u : Value} {Fs : List MF} {env : Env} {M : Mem} {K : Env → Mem → Prop} {d : Nat} (hd : dstOf ops i = some d)
    (h : forAllVals ops H (i + 1) Fs ((d, u) :: env) M K) : forAllVals ops H i (MF.eq u :: Fs) env M K :=
  forAllVals_cons hd (by rintro v My ⟨rfl, rfl⟩; exact h)
theorem forAllVals_of {ops : List Oper} {H : Hp} {i : Nat} {F : Value → Hp → Prop} {hm} {Fs : List MF} {env : Env} {M : Mem} {K : Env → Mem → Prop} {d : Nat} (hd : dstOf ops i = some d)
    (h : ∀ v, F v H → forAllVals ops H (i + 1) Fs ((d, v) :: env) M K) : forAllVals ops H i (MF.of F hm :: Fs) env M K :=
  forAllVals_cons hd (by rintro v My ⟨hv, rfl⟩; exact h v hv)
theorem forAllVals_ptr {ops : List Oper} {H : Hp} {i N : Nat} {o : Obj} {Fs : List MF} {env : Env} {M : Mem} {K : Env → Mem → Prop} {d : Nat} (hd : dstOf ops i = some d)
    (h : ∀ g, N ≤ g → forAllVals ops H (i + 1) Fs ((d, .pointer (some ⟨g, 0, none⟩)) :: env) ((g, o, true) :: M) K) : forAllVals ops H i (MF.ptr N o :: Fs) env M K :=
  forAllVals_cons hd (by rintro v My ⟨g, hg, rfl, rfl⟩; exact h g hg)
theorem forVals_eq {ops : List Oper} {Fs : List MF} {H : Hp} {acc : Env} {K : Env → Prop} {j : Nat} {js : List Nat} {o : Oper} {u : Value} {d : Nat} (ho : nth ops j = some o) (hF : nth Fs j = some (MF.eq u))
    (hd : o.dst = some d) (h : forVals ops Fs H js ((d, u) :: acc) K) : forVals ops Fs H (j :: js) acc K :=
  forVals_cons ho hF hd (by rintro v My ⟨rfl, rfl⟩; exact h)
theorem forVals_of {ops : List Oper} {Fs : List MF} {H : Hp} {acc : Env} {K : Env → Prop} {j : Nat} {js : List Nat} {o : Oper} {F : Value → Hp → Prop} {hm} {d : Nat} (ho : nth ops j = some o) (hF : nth Fs j = some (MF.of F hm))
    (hd : o.dst = some d) (h : ∀ v, F v H → forVals ops Fs H js ((d, v) :: acc) K) : forVals ops Fs H (j :: js) acc K :=
  forVals_cons ho hF hd (by rintro v My ⟨hv, rfl⟩; exact h v hv)

theorem ready_iff {ops : List Oper} {L : Array Bool} {i : Nat} :
    i ∈ Region.ready .any ops.toArray L ↔ ∃ o, nth ops i = some o ∧ L.getD i true = false ∧ ∀ e ∈ o.after.toList, Region.binds .any e = true → L.getD e.on false = true := by
  unfold Region.ready
  rw [List.mem_filter, List.mem_range]
  simp only [List.getElem?_toArray, nth_eq, Bool.and_eq_true, Bool.not_eq_true', List.size_toArray]
  constructor
  · rintro ⟨h1, h2, h3⟩
    rw [List.getElem?_eq_getElem h1] at h3 ⊢
    refine ⟨_, rfl, h2, ?_⟩
    simp only [Option.map_some, Option.getD_some, Array.all_eq_true_iff_forall_mem] at h3
    intro e he hb
    have := h3 e (Array.mem_toList_iff.1 he)
    simpa [hb] using this
  · rintro ⟨o, h1, h2, h3⟩
    have hlt : i < ops.length := (List.getElem?_eq_some_iff.1 h1).1
    refine ⟨hlt, h2, ?_⟩
    rw [h1]
    simp only [Option.map_some, Option.getD_some, Array.all_eq_true_iff_forall_mem]
    intro e he
    cases hb : Region.binds .any e with
    | false => simp
    | true => simp [h3 e (Array.mem_toList_iff.2 he) hb]

structure Shape (ops : List Oper) (m n : Nat) (env : Env) (fl : List Nat) : Prop where
  le : m ≤ ops.length
  back : ∀ i o, nth ops i = some o → ∀ e ∈ o.after.toList, Region.binds .any e = true → e.on < i
  dst : ∀ i o, nth ops i = some o → i < m → ∃ d, o.dst = some d ∧ d < n ∧ (∀ p ∈ env, p.1 ≠ d) ∧ ∀ j, j < m → i ≠ j → ∀ d', dstOf ops j = some d' → d ≠ d'
  lean : ∀ i o, nth ops i = some o → i < m → ∀ j ∈ uniq (leans o), ∃ e ∈ o.after.toList, Region.binds .any e = true ∧ e.on = j
  last : ∀ i o, nth ops i = some o → m ≤ i → ∀ j, j < i → j ∈ fl ∨ Reach ops i j

theorem beq_iff (a b : Nat) : Nat.beq a b = true ↔ a = b := ⟨Nat.eq_of_beq_eq_true, fun e => by subst e; exact Nat.beq_refl a⟩

theorem Shape.of {ops : List Oper} {m n : Nat} {env : Env} {fl : List Nat} (h : drawOk ops m n env fl = true) : Shape ops m n env fl := by
  unfold drawOk at h
  rw [Bool.and_eq_true, List.all_eq_true] at h
  obtain ⟨h0, h1⟩ := h
  have key : ∀ i o, nth ops i = some o → (o.after.toList.all (fun e => !Region.binds .any e || Nat.blt e.on i) &&
        (if i < m then (match o.dst with
            | some d => Nat.blt d n && env.all (fun p => !Nat.beq p.1 d) && (List.range m).all (fun j => Nat.beq i j || (match dstOf ops j with | some d' => !Nat.beq d d' | none => false))
            | none => false) &&
          (uniq (leans o)).all (fun j => o.after.toList.any fun e => Region.binds .any e && Nat.beq e.on j)
        else (List.range i).all fun j => fl.any (Nat.beq j) || reaches (reachTab ops []) i j)) = true := by
    intro i o ho
    have hlt : i < ops.length := by rw [nth_eq] at ho; exact (List.getElem?_eq_some_iff.1 ho).1
    have := h1 i (List.mem_range.2 hlt)
    rwa [ho] at this
  refine ⟨Nat.le_of_ble_eq_true h0, ?_, ?_, ?_, ?_⟩
  · intro i o ho e he hb
    have := key i o ho
    rw [Bool.and_eq_true, List.all_eq_true] at this
    have := this.1 e he
    simpa [hb, Nat.blt_eq] using this
  · intro i o ho hi
    have := key i o ho
    rw [Bool.and_eq_true, if_pos hi, Bool.and_eq_true] at this
    have h2 := this.2.1
    cases hd : o.dst with
    | none => rw [hd] at h2; exact absurd h2 (by simp)
    | some d =>
      rw [hd] at h2
      simp only [Bool.and_eq_true, List.all_eq_true] at h2
      obtain ⟨⟨h3, h4⟩, h5⟩ := h2
      refine ⟨d, rfl, by simpa [Nat.blt_eq] using h3, ?_, ?_⟩
      · intro p hp e
        have := h4 p hp
        rw [Bool.not_eq_true', ← Bool.not_eq_true, beq_iff] at this
        exact this e
      · intro j hj hij d' hd' e
        have := h5 j (List.mem_range.2 hj)
        rw [hd', Bool.or_eq_true, beq_iff, Bool.not_eq_true', ← Bool.not_eq_true, beq_iff] at this
        rcases this with h6 | h6
        · exact hij h6
        · exact h6 e
  · intro i o ho hi j hj
    have := key i o ho
    rw [Bool.and_eq_true, if_pos hi, Bool.and_eq_true] at this
    have := (List.all_eq_true.1 this.2.2) j hj
    rw [List.any_eq_true] at this
    obtain ⟨e, he, h3⟩ := this
    rw [Bool.and_eq_true, beq_iff] at h3
    exact ⟨e, he, h3.1, h3.2⟩
  · intro i o ho hi j hj
    have := key i o ho
    rw [Bool.and_eq_true, if_neg (by omega)] at this
    have := (List.all_eq_true.1 this.2) j (List.mem_range.2 hj)
    rw [Bool.or_eq_true] at this
    rcases this with this | this
    · obtain ⟨q, hq, he⟩ := List.any_eq_true.1 this
      rw [beq_iff] at he
      subst he
      exact .inl hq
    · exact .inr (reachTab_ok ops ops [] rfl (by intro i j h; simp [reaches, nth] at h) i j this)

/-- What has been done is closed: on whatever it leans has been done. -/
def Closed (ops : List Oper) (L : Array Bool) : Prop :=
  ∀ i o, nth ops i = some o → L.getD i false = true → ∀ e ∈ o.after.toList, Region.binds .any e = true → L.getD e.on false = true
theorem Closed.reach {ops : List Oper} {L : Array Bool} (h : Closed ops L) {i j : Nat} (hr : Reach ops i j) :
    (∀ o, nth ops i = some o → ∀ e ∈ o.after.toList, Region.binds .any e = true → L.getD e.on false = true) → L.getD j false = true := by
  induction hr with
  | edge ho he hb => exact fun hd => hd _ ho _ he hb
  | step ho he hb _ ih => exact fun hd => ih fun o' ho' e' he' hb' => h _ o' ho' (hd _ ho _ he hb) e' he' hb'
theorem Closed.set {ops : List Oper} {L : Array Bool} (h : Closed ops L) {i : Nat} {o : Oper} (ho : nth ops i = some o) (hd : ∀ e ∈ o.after.toList, Region.binds .any e = true → L.getD e.on false = true) :
    Closed ops (L.setIfInBounds i true) := by
  have up : ∀ k, L.getD k false = true → (L.setIfInBounds i true).getD k false = true := by
    intro k hk
    simp only [Array.getD_eq_getD_getElem?, Array.getElem?_setIfInBounds] at hk ⊢
    by_cases e : i = k
    · subst e
      by_cases hs : i < L.size
      · simp [hs]
      · simp [hs] at hk
    · simpa [e] using hk
  intro k o' ho' hk e he hb
  by_cases e2 : i = k
  · subst e2
    rw [ho] at ho'
    cases ho'
    exact up _ (hd e he hb)
  · simp only [Array.getD_eq_getD_getElem?, Array.getElem?_setIfInBounds, e2, if_false] at hk
    exact up _ (h k o' ho' (by rw [Array.getD_eq_getD_getElem?]; exact hk) e he hb)

theorem getD_of_lt {L : Array Bool} {i : Nat} (h : i < L.size) (x y : Bool) : L.getD i x = L.getD i y := by simp [Array.getD, h]

section
variable {P : Program} {n m : Nat} {ds : List Deferred} {ops : List Oper} {env : Env} {Q : Exit → Act → World → Prop}

/-- Behind the first m: in their order. -/
theorem wpAny_rest {fl : List Nat} (hsh : Shape ops m n env fl) : ∀ (fuel j : Nat) (L : Array Bool) (a : Act) (w : World), (∀ q ∈ fl, L.getD q false = true) → L.size = ops.length → (∀ i, i < ops.length → (L.getD i true = true ↔ i < j)) → m ≤ j → j ≤ ops.length →
    ops.length - j ≤ fuel → Closed ops L → wpList P ops.toArray Q (ops.drop j) a w → wpAny P .any ops.toArray Q fuel L a w
  | 0, j, L, a, w, _, hsz, hL, hmj, hj, hf, _, h => by
    have e : j = ops.length := by omega
    subst e
    rw [List.drop_length] at h
    refine ⟨?_, h⟩
    cases hr : Region.ready .any ops.toArray L with
    | nil => rfl
    | cons i l =>
      have hi : i ∈ Region.ready .any ops.toArray L := by rw [hr]; simp
      obtain ⟨o, h1, h2, _⟩ := ready_iff.1 hi
      have hlt : i < ops.length := by rw [nth_eq] at h1; exact (List.getElem?_eq_some_iff.1 h1).1
      rw [(hL i hlt).2 hlt] at h2
      cases h2
  | fuel + 1, j, L, a, w, hfl, hsz, hL, hmj, hj, hf, hcl, h => by
    refine ⟨?_, ?_⟩
    · intro hr
      by_cases e : j = ops.length
      · subst e; rw [List.drop_length] at h; exact h
      · exfalso
        have hlt : j < ops.length := by omega
        have : j ∈ Region.ready .any ops.toArray L := by
          refine ready_iff.2 ⟨ops[j], by rw [nth_eq, List.getElem?_eq_getElem hlt], ?_, ?_⟩
          · cases hg : L.getD j true with
            | false => rfl
            | true => exact absurd ((hL j hlt).1 hg) (Nat.lt_irrefl j)
          · intro e he hb
            have h3 := hsh.back j ops[j] (by rw [nth_eq, List.getElem?_eq_getElem hlt]) e he hb
            rw [getD_of_lt (by omega) false true]
            exact (hL e.on (by omega)).2 h3
        rw [hr] at this
        cases this
    · intro i hi
      obtain ⟨o, h1, h2, h3⟩ := ready_iff.1 hi
      have hlt : i < ops.length := by rw [nth_eq] at h1; exact (List.getElem?_eq_some_iff.1 h1).1
      have hij : j ≤ i := by
        rcases Nat.lt_or_ge i j with h4 | h4
        · rw [(hL i hlt).2 h4] at h2; cases h2
        · exact h4
      have e : i = j := by
        rcases Nat.lt_or_ge j i with h4 | h4
        · have h5 : L.getD j false = true := by
            rcases hsh.last i o h1 (by omega) j h4 with h6 | h6
            · exact hfl j h6
            · exact hcl.reach h6 (fun o' ho' e he hb => by rw [h1] at ho'; cases ho'; exact h3 e he hb)
          rw [getD_of_lt (by omega) false true] at h5
          exact absurd ((hL j (by omega)).1 h5) (Nat.lt_irrefl j)
        · omega
      subst e
      have hg : ops[i] = o := by rw [nth_eq, List.getElem?_eq_getElem hlt] at h1; exact Option.some.inj h1
      rw [List.drop_eq_getElem_cons hlt, hg] at h
      have h6 : wpOp P ops.toArray Q i (wpList P ops.toArray Q (ops.drop (i + 1))) a w := by
        unfold wpOp
        rw [nth_eq] at h1
        simp only [List.getElem?_toArray, h1]
        exact h
      refine wpOp_mono ?_ h6
      intro a' w' h7
      refine wpAny_rest hsh fuel (i + 1) _ a' w' (fun q hq => getD_set_true (hfl q hq)) (by simp [hsz]) ?_ (by omega) (by omega) (by omega) (hcl.set h1 h3) h7
      intro k hk
      by_cases e : i = k
      · subst e; simp [hsz, hlt]
      · have h8 := hL k hk
        simp only [Array.getD_eq_getD_getElem?, Array.getElem?_setIfInBounds, e, if_false] at h8 ⊢
        rw [h8]; omega

variable {xs : List Nat} {H0 H : Hp} {w0 : World} {M : Mem} {Fs : List MF}

theorem forVals_elim {H' : Hp} {K : Env → Prop} {a : Act} : ∀ (js : List Nat) (acc : Env), forVals ops Fs H' js acc K → St n ds acc a →
    (∀ j ∈ js, ∀ o F d, nth ops j = some o → nth Fs j = some F → o.dst = some d → ∃ My, F.F (a.tmps.getD d undef) My H') → ∃ env', St n ds env' a ∧ K env'
  | [], acc, h, ha, _ => ⟨acc, ha, h⟩
  | j :: js, acc, h, ha, hj => by
    unfold forVals at h
    have hrest : ∀ j' ∈ js, ∀ o F d, nth ops j' = some o → nth Fs j' = some F → o.dst = some d → ∃ My, F.F (a.tmps.getD d undef) My H' := fun j' hj' => hj j' (List.mem_cons_of_mem _ hj')
    split at h
    · rename_i o F ho hF
      split at h
      · rename_i d hd
        obtain ⟨My, hMy⟩ := hj j (by simp) o F d ho hF hd
        refine forVals_elim js _ (h _ My hMy) ⟨ha.dfr, ha.sz, ?_⟩ hrest
        intro t v hv
        simp only [Env.get] at hv
        cases hb : Nat.beq d t with
        | true =>
          rw [hb] at hv
          have := Nat.eq_of_beq_eq_true hb
          subst this
          exact Option.some.inj hv
        | false => rw [hb] at hv; exact ha.get t v hv
      · exact forVals_elim js _ h ha hrest
    · exact forVals_elim js _ h ha hrest

/-- The blocks that were made, the latest in front. -/
def catM : Nat → List MF → (Nat → Mem) → Mem → Mem
  | _, [], _, M => M
  | i, _ :: Fs, my, M => catM (i + 1) Fs my (my i ++ M)

theorem catM_perm (my : Nat → Mem) : ∀ (Fs : List MF) (i : Nat) (M : Mem), (catM i Fs my M).Perm ((List.range' i Fs.length).flatMap my ++ M)
  | [], i, M => by simp [catM]
  | F :: Fs, i, M => by
    unfold catM
    refine (catM_perm my Fs (i + 1) (my i ++ M)).trans ?_
    simp only [List.length_cons, List.range'_succ, List.flatMap_cons, List.append_assoc]
    rw [← List.append_assoc, ← List.append_assoc]
    exact List.Perm.append_right M List.perm_append_comm

theorem forAllVals_elim {H' : Hp} {K : Env → Mem → Prop} {a : Act} (my : Nat → Mem) : ∀ (Fs' : List MF) (i : Nat) (acc : Env) (M' : Mem), forAllVals ops H' i Fs' acc M' K → St n ds acc a →
    (∀ j F, nth Fs' j = some F → ∃ d, dstOf ops (i + j) = some d ∧ F.F (a.tmps.getD d undef) (my (i + j)) H') → ∃ env', St n ds env' a ∧ K env' (catM i Fs' my M')
  | [], i, acc, M', h, ha, _ => ⟨acc, ha, h⟩
  | F :: Fs', i, acc, M', h, ha, hj => by
    unfold forAllVals at h
    obtain ⟨d, hd, hF⟩ := hj 0 F rfl
    have h1 := h _ _ hF
    simp only [Nat.add_zero] at hd h1
    rw [hd] at h1
    refine forAllVals_elim my Fs' (i + 1) _ _ h1 ⟨ha.dfr, ha.sz, ?_⟩ (fun j F' hF' => by have := hj (j + 1) F' hF'; rwa [show i + (j + 1) = i + 1 + j by omega] at this)
    intro t v hv
    simp only [Env.get] at hv
    cases hb : Nat.beq d t with
    | true =>
      rw [hb] at hv
      have := Nat.eq_of_beq_eq_true hb
      subst this
      exact Option.some.inj hv
    | false => rw [hb] at hv; exact ha.get t v hv

/-- What has been made by what has been done. -/
def madeBy (L : Array Bool) (my : Nat → Mem) (i : Nat) : Mem := if L.getD i true = true then my i else []

theorem flatMap_one {f g : Nat → Mem} {i : Nat} {X : Mem} : ∀ (l : List Nat), i ∈ l → l.Nodup → (∀ j, j ≠ i → f j = g j) → f i = [] → g i = X → (X ++ l.flatMap f).Perm (l.flatMap g)
  | [], h, _, _, _, _ => by cases h
  | k :: l, h, hn, hfg, hf, hg => by
    rw [List.nodup_cons] at hn
    by_cases e : k = i
    · subst e
      have : l.flatMap f = l.flatMap g := by
        rw [List.flatMap_def, List.flatMap_def]
        congr 1
        exact List.map_congr_left fun j hj => hfg j (fun e => hn.1 (e ▸ hj))
      simp only [List.flatMap_cons, hf, hg, this, List.nil_append]
      exact List.Perm.refl _
    · have hi : i ∈ l := by rcases List.mem_cons.1 h with h' | h'; exact absurd h'.symm e; exact h'
      have ih := flatMap_one l hi hn.2 hfg hf hg
      simp only [List.flatMap_cons, hfg k e]
      rw [← List.append_assoc]
      refine (List.Perm.append_right _ List.perm_append_comm).trans ?_
      rw [List.append_assoc]
      exact ih.append_left _

theorem St.putNew {a : Act} {d : Nat} (v : Value) (ha : St n ds env a) (hd : ∀ p ∈ env, p.1 ≠ d) : St n ds env (a.put (some d) v) := by
  refine ⟨ha.dfr, by simp [Act.put, ha.sz], ?_⟩
  intro t v' hv'
  have hne : d ≠ t := by
    intro e
    subst e
    have : ∃ p ∈ env, p.1 = d := by
      clear hd ha
      revert hv'
      generalize env = en
      intro hv'
      induction en with
      | nil => simp [Env.get] at hv'
      | cons p en ihe =>
        obtain ⟨k, u⟩ := p
        simp only [Env.get] at hv'
        cases hb : Nat.beq k d with
        | true => exact ⟨(k, u), by simp, Nat.eq_of_beq_eq_true hb⟩
        | false =>
          rw [hb] at hv'
          obtain ⟨p, hp, hp2⟩ := ihe hv'
          exact ⟨p, List.mem_cons_of_mem _ hp, hp2⟩
    obtain ⟨p, hp, hp2⟩ := this
    exact hd p hp hp2
  have := ha.get t v' hv'
  simpa [Act.put, Array.getD_eq_getD_getElem?, Array.getElem?_setIfInBounds, hne] using this

/-- What holds while the first m are under way. -/
structure DInv (n : Nat) (ds : List Deferred) (xs : List Nat) (H0 : Hp) (w0 : World) (H : Hp) (M : Mem) (ops : List Oper) (Fs : List MF) (env : Env) (L : Array Bool) (a : Act) (w : World) (H' : Hp) (Mx : Mem) (my : Nat → Mem) : Prop where
  cl : Closed ops L
  perm : Mx.Perm ((List.range' 0 Fs.length).flatMap (madeBy L my))
  sz : L.size = ops.length
  rest : ∀ i, i < ops.length → Fs.length ≤ i → L.getD i true = false
  le : Hp.le H H'
  hs : HS xs H0 w0 H' (Mx ++ M) w
  st : St n ds env a
  ok : ∀ i F d, nth Fs i = some F → dstOf ops i = some d → L.getD i true = true → F.F (a.tmps.getD d undef) (my i) H'

theorem DInv.step {fl : List Nat} (hsh : Shape ops Fs.length n env fl) {L : Array Bool} {a : Act} {w w'' : World} {H' H'' : Hp} {Mx My : Mem} {my : Nat → Mem} (D : DInv n ds xs H0 w0 H M ops Fs env L a w H' Mx my)
    {i : Nat} {o : Oper} {F : MF} {v : Value} (h1 : nth ops i = some o) (him : i < Fs.length) (hFi : nth Fs i = some F) (h2 : L.getD i true = false) (h3 : ∀ e ∈ o.after.toList, Region.binds .any e = true → L.getD e.on false = true)
    (hle' : Hp.le H' H'') (hs' : HS xs H0 w0 H'' (My ++ (Mx ++ M)) w'') (hF : F.F v My H'') :
    DInv n ds xs H0 w0 H M ops Fs env (L.setIfInBounds i true) (a.put o.dst v) w'' H'' (My ++ Mx) (fun k => if k = i then My else my k) := by
  obtain ⟨hcl, hperm, hsz, hrest, hle, hs, ha, hf⟩ := D
  have hlt : i < ops.length := by rw [nth_eq] at h1; exact (List.getElem?_eq_some_iff.1 h1).1
  obtain ⟨d, hd, hdn, hdenv, hdd⟩ := hsh.dst i o h1 him
  have hdi : dstOf ops i = some d := by simp [dstOf, h1, hd]
  have hput : (a.put o.dst v).tmps.getD d undef = v := by
    rw [hd]
    simp [Act.put, Array.getD_eq_getD_getElem?, ha.sz, hdn]
  have hother : ∀ t, t ≠ d → (a.put o.dst v).tmps.getD t undef = a.tmps.getD t undef := by
    intro t ht
    rw [hd]
    simp [Act.put, Array.getD_eq_getD_getElem?, Array.getElem?_setIfInBounds, Ne.symm ht]
  have hperm' : (My ++ Mx).Perm ((List.range' 0 Fs.length).flatMap (madeBy (L.setIfInBounds i true) (fun k => if k = i then My else my k))) := by
    refine (hperm.append_left My).trans (flatMap_one (i := i) _ ?_ List.nodup_range' ?_ ?_ ?_)
    · simp; omega
    · intro j hj
      unfold madeBy
      simp only [Array.getD_eq_getD_getElem?, Array.getElem?_setIfInBounds, show ¬ i = j from fun h => hj h.symm, if_false, hj]
    · simp [madeBy, h2]
    · simp [madeBy, hsz, hlt]
  refine ⟨hcl.set h1 h3, hperm', by simp [hsz], ?_, hle.trans hle', by rw [List.append_assoc]; exact hs', ?_, ?_⟩
  · intro k hk hmk
    have := hrest k hk hmk
    simp only [Array.getD_eq_getD_getElem?, Array.getElem?_setIfInBounds, show ¬ i = k by omega, if_false] at this ⊢
    exact this
  · rw [hd]; exact ha.putNew v hdenv
  · intro k F' d' hF' hd' hk
    by_cases e : k = i
    · subst e
      rw [hFi] at hF'
      rw [hdi] at hd'
      cases hF'
      cases hd'
      rw [hput, if_pos rfl]
      exact hF
    · have hkm : k < Fs.length := by rw [nth_eq] at hF'; exact (List.getElem?_eq_some_iff.1 hF').1
      have hne : d' ≠ d := fun h => hdd k hkm (Ne.symm e) d' hd' h.symm
      rw [hother d' hne, if_neg e]
      simp only [Array.getD_eq_getD_getElem?, Array.getElem?_setIfInBounds, show ¬ i = k from fun h => e h.symm, if_false] at hk
      exact F'.mono _ _ _ _ hle' (hf k F' d' hF' hd' (by rw [Array.getD_eq_getD_getElem?]; exact hk))

/-- The first m, in any order. -/
theorem wpAny_firstM {fl : List Nat} (hsh : Shape ops Fs.length n env fl) (howed : ∀ (i : Nat) (o : Oper) (F : MF), nth ops i = some o → nth Fs i = some F →
    ∀ Mx H' w', Hp.le H H' → HS xs H0 w0 H' (Mx ++ M) w' → forVals ops Fs H' (uniq (leans o)) env fun env' =>
      ORg P n ds ops o env' w' fun v w'' => ∃ H'' My, Hp.le H' H'' ∧ HS xs H0 w0 H'' (My ++ (Mx ++ M)) w'' ∧ F.F v My H'')
    (hfin : ∀ H' w', Hp.le H H' → forAllVals ops H' 0 Fs env M fun env' M' => HS xs H0 w0 H' M' w' → ∀ a, St n ds env' a → wpList P ops.toArray Q (ops.drop Fs.length) a w') :
    ∀ (fuel : Nat) (L : Array Bool) (l : List Nat) (a : Act) (w : World) (H' : Hp) (Mx : Mem) (my : Nat → Mem), (∀ q ∈ fl, L.getD q false = true) → DInv n ds xs H0 w0 H M ops Fs env L a w H' Mx my →
      (∀ i, i < Fs.length → L.getD i true = false → i ∈ l) → l.length + (ops.length - Fs.length) ≤ fuel → wpAny P .any ops.toArray Q fuel L a w := by
  have hfull : ∀ (L : Array Bool) (a : Act) (w : World) (H' : Hp) (Mx : Mem) (my : Nat → Mem), Mx.Perm ((List.range' 0 Fs.length).flatMap (madeBy L my)) → (∀ i, i < Fs.length → L.getD i true = true) → Hp.le H H' → HS xs H0 w0 H' (Mx ++ M) w → St n ds env a →
      (∀ i F d, nth Fs i = some F → dstOf ops i = some d → L.getD i true = true → F.F (a.tmps.getD d undef) (my i) H') → wpList P ops.toArray Q (ops.drop Fs.length) a w := by
    intro L a w H' Mx my hperm hall hle hs ha hf
    obtain ⟨env', h1, h2⟩ := forAllVals_elim (n := n) (ds := ds) (a := a) my Fs 0 env M (hfin H' w hle) ha (by
      intro j F hF
      have hj : j < Fs.length := by rw [nth_eq] at hF; exact (List.getElem?_eq_some_iff.1 hF).1
      have hjo : j < ops.length := Nat.lt_of_lt_of_le hj hsh.le
      obtain ⟨d, hd, _⟩ := hsh.dst j ops[j] (by rw [nth_eq, List.getElem?_eq_getElem hjo]) hj
      have hd' : dstOf ops j = some d := by simp [dstOf, nth_eq, hjo, hd]
      rw [Nat.zero_add]
      exact ⟨d, hd', hf j F d hF hd' (hall j hj)⟩)
    refine h2 (hs.perm ?_) a h1
    refine (catM_perm my Fs 0 M).trans (List.Perm.append_right M ?_)
    have : (List.range' 0 Fs.length).flatMap (madeBy L my) = (List.range' 0 Fs.length).flatMap my := by
      rw [List.flatMap_def, List.flatMap_def]
      congr 1
      refine List.map_congr_left fun j hj => ?_
      simp only [List.mem_range'_1] at hj
      simp [madeBy, hall j (by omega)]
    rw [← this]
    exact hperm.symm
  intro fuel
  induction fuel with
  | zero =>
    intro L l a w H' Mx my hfl D hl hlen
    obtain ⟨hcl, hperm, hsz, hrest, hle, hs, ha, hf⟩ := D
    have hl0 : l = [] := List.eq_nil_of_length_eq_zero (by omega)
    have hm := hsh.le
    have hall : ∀ i, i < Fs.length → L.getD i true = true := by
      intro i hi
      cases h : L.getD i true with
      | true => rfl
      | false => have := hl i hi h; rw [hl0] at this; cases this
    have h1 := hfull L a w H' Mx my hperm hall hle hs ha hf
    refine wpAny_rest hsh 0 Fs.length L a w hfl hsz ?_ (Nat.le_refl _) hm (by omega) hcl h1
    intro i hi
    exact ⟨fun _ => by omega, fun h => hall i h⟩
  | succ fuel ih =>
    intro L l a w H' Mx my hfl D hl hlen
    have D0 := D
    obtain ⟨hcl, hperm, hsz, hrest, hle, hs, ha, hf⟩ := D
    have hm := hsh.le
    by_cases hall : ∀ i, i < Fs.length → L.getD i true = true
    · have h1 := hfull L a w H' Mx my hperm hall hle hs ha hf
      refine wpAny_rest hsh (fuel + 1) Fs.length L a w hfl hsz ?_ (Nat.le_refl _) hm (by omega) hcl h1
      intro i hi
      refine ⟨fun h => ?_, fun h => hall i h⟩
      rcases Nat.lt_or_ge i Fs.length with h4 | h4
      · exact h4
      · rw [hrest i hi h4] at h; cases h
    · have hex : ∃ i, i < Fs.length ∧ L.getD i true = false ∧ ∀ j, j < i → L.getD j true = true := by
        clear ih hf ha hs D0
        have h0 : ∃ i, i < Fs.length ∧ L.getD i true = false := by
          refine Classical.byContradiction fun hno => hall fun i hi => ?_
          cases h : L.getD i true with
          | true => rfl
          | false => exact absurd ⟨i, hi, h⟩ hno
        obtain ⟨i, hi⟩ := h0
        induction i using Nat.strongRecOn with
        | _ i ihi =>
          by_cases hj : ∀ j, j < i → L.getD j true = true
          · exact ⟨i, hi.1, hi.2, hj⟩
          · have : ∃ j, j < i ∧ L.getD j true = false := by
              refine Classical.byContradiction fun hno => hj fun j hji => ?_
              cases h : L.getD j true with
              | true => rfl
              | false => exact absurd ⟨j, hji, h⟩ hno
            obtain ⟨j, hji, hj2⟩ := this
            exact ihi j hji ⟨by omega, hj2⟩
      refine ⟨?_, ?_⟩
      · intro hr
        exfalso
        obtain ⟨i, hi, h1, h2⟩ := hex
        have hio : i < ops.length := by omega
        have : i ∈ Region.ready .any ops.toArray L := by
          refine ready_iff.2 ⟨ops[i], by rw [nth_eq, List.getElem?_eq_getElem hio], h1, ?_⟩
          intro e he hb
          have h3 := hsh.back i ops[i] (by rw [nth_eq, List.getElem?_eq_getElem hio]) e he hb
          rw [getD_of_lt (by omega) false true]
          exact h2 e.on h3
        rw [hr] at this
        cases this
      · intro i hi
        obtain ⟨o, h1, h2, h3⟩ := ready_iff.1 hi
        have hlt : i < ops.length := by rw [nth_eq] at h1; exact (List.getElem?_eq_some_iff.1 h1).1
        have him : i < Fs.length := by
          rcases Nat.lt_or_ge i Fs.length with h4 | h4
          · exact h4
          · exfalso
            obtain ⟨j, hj, hj1, _⟩ := hex
            have h5 : L.getD j false = true := by
              rcases hsh.last i o h1 h4 j (by omega) with h6 | h6
              · exact hfl j h6
              · exact hcl.reach h6 (fun o' ho' e he hb => by rw [h1] at ho'; cases ho'; exact h3 e he hb)
            rw [getD_of_lt (by omega) false true, hj1] at h5
            cases h5
        obtain ⟨d, hd, hdn, hdenv, hdd⟩ := hsh.dst i o h1 him
        have hFi : nth Fs i = some Fs[i] := by rw [nth_eq, List.getElem?_eq_getElem him]
        have hdi : dstOf ops i = some d := by simp [dstOf, h1, hd]
        obtain ⟨env', hst, horg⟩ := forVals_elim (n := n) (ds := ds) (a := a) _ _ (howed i o Fs[i] h1 hFi Mx H' w hle hs) ha (by
          intro j hj o' F' d' ho' hF' hd'
          obtain ⟨e, he, hb, hon⟩ := hsh.lean i o h1 him j hj
          have h5 := h3 e he hb
          have h6 := hsh.back i o h1 e he hb
          rw [hon] at h5 h6
          rw [getD_of_lt (by omega) false true] at h5
          exact ⟨my j, hf j F' d' hF' (by simp [dstOf, ho', hd']) h5⟩)
        unfold wpOp
        have h1' := h1
        rw [nth_eq] at h1'
        simp only [List.getElem?_toArray, h1']
        have key := horg a hst (wpAny P .any ops.toArray Q fuel (L.setIfInBounds i true)) Q (by
          rintro v w'' ⟨H'', My, hle', hs', hF⟩
          refine ih _ (l.erase i) _ w'' H'' (My ++ Mx) _ (fun q hq => getD_set_true (hfl q hq)) (D0.step hsh h1 him hFi h2 h3 hle' hs' hF) ?_ ?_
          · intro k hk hk2
            by_cases e : k = i
            · subst e
              simp [hsz, hlt] at hk2
            · simp only [Array.getD_eq_getD_getElem?, Array.getElem?_setIfInBounds, show ¬ i = k from fun h => e h.symm, if_false] at hk2
              exact (List.mem_erase_of_ne e).2 (hl k hk (by rw [Array.getD_eq_getD_getElem?]; exact hk2))
          · have hmem := hl i him h2
            rw [List.length_erase_of_mem hmem]
            have := List.length_pos_of_mem hmem
            omega)
        split
        · rename_i hw; rw [if_pos hw] at key; exact .inl key
        · rename_i hw; rw [if_neg hw] at key; exact key

/-- No cut on the way out. -/
def Kont.flat : Kont → Bool
  | .fn _ _ => true
  | .seq _ k => k.flat
  | .block _ k => k.flat
  | .loop _ k => k.flat
  | .scope k => k.flat
  | .jump _ _ k => k.flat
  | .cut _ => false
theorem Kont.panic_put {c : _} {a : Act} {w : World} {d : Option Nat} {v : Value} : ∀ (k : Kont), k.flat = true → k.Q P (.panic c) (a.put d v) w → k.Q P (.panic c) a w
  | .fn f R, _, h => by
    have hd : (a.put d v).defers = a.defers := by cases d <;> rfl
    exact ⟨hd ▸ h.1, h.2⟩
  | .seq y k, hk, h => Kont.panic_put k hk h
  | .block id k, hk, h => Kont.panic_put k hk h
  | .loop I k, hk, h => Kont.panic_put k hk h
  | .scope k, hk, h => Kont.panic_put k hk h
  | .jump l J k, hk, h => Kont.panic_put k hk h
  | .cut X, hk, _ => by cases hk

/-- Moves that may be thought done first. -/
def floatOk (ops : List Oper) (n : Nat) (env : Env) : List Nat → Array Bool → Bool
  | [], _ => true
  | i :: is, L => (match nth ops i with
      | some o => (match o.op with | .move _ => true | _ => false) && (match o.guard with | none => true | some _ => false) && (match leans o with | [] => true | _ => false)
      | none => false) && Region.free .any ops.toArray L i && (Region.ready .any ops.toArray L).contains i && floatOk ops n env is (L.setIfInBounds i true)
def setAll (L : Array Bool) : List Nat → Array Bool
  | [] => L
  | i :: is => setAll (L.setIfInBounds i true) is

theorem wpAny_float {fl : List Nat} {k : Kont} (hk : k.flat = true) (hsel : Region.noSelect ops.toArray = true) (hsh : Shape ops Fs.length n env fl) (howed : ∀ (i : Nat) (o : Oper) (F : MF), nth ops i = some o → nth Fs i = some F →
    ∀ Mx H' w', Hp.le H H' → HS xs H0 w0 H' (Mx ++ M) w' → forVals ops Fs H' (uniq (leans o)) env fun env' =>
      ORg P n ds ops o env' w' fun v w'' => ∃ H'' My, Hp.le H' H'' ∧ HS xs H0 w0 H'' (My ++ (Mx ++ M)) w'' ∧ F.F v My H'') (fuel : Nat) :
    ∀ (is : List Nat) (L : Array Bool) (a : Act) (w : World) (H' : Hp) (Mx : Mem) (my : Nat → Mem), (∀ i ∈ is, i < Fs.length) → floatOk ops n env is L = true → DInv n ds xs H0 w0 H M ops Fs env L a w H' Mx my →
      (∀ a' H' Mx my, DInv n ds xs H0 w0 H M ops Fs env (setAll L is) a' w H' Mx my → wpAny P .any ops.toArray (k.Q P) fuel (setAll L is) a' w) → wpAny P .any ops.toArray (k.Q P) (is.length + fuel) L a w
  | [], L, a, w, H', Mx, my, _, _, D, h => by
    rw [List.length_nil, Nat.zero_add]
    exact h a H' Mx my D
  | i :: is, L, a, w, H', Mx, my, hlt, hok, D, h => by
    unfold floatOk at hok
    simp only [Bool.and_eq_true] at hok
    obtain ⟨⟨⟨h1, h2⟩, h3⟩, h4⟩ := hok
    have him := hlt i (by simp)
    cases ho : nth ops i with
    | none => rw [ho] at h1; exact absurd h1 (by simp)
    | some o =>
      rw [ho] at h1
      simp only [Bool.and_eq_true] at h1
      obtain ⟨⟨h5, h6⟩, h7⟩ := h1
      obtain ⟨dst, op, ty, pos, aft, gd⟩ := o
      cases op with
      | move x =>
        cases gd with
        | some _ => cases h6
        | none =>
        have hl : leans ⟨dst, .move x, ty, pos, aft, none⟩ = [] := by
          revert h7; cases leans ⟨dst, Op.move x, ty, pos, aft, none⟩ <;> simp
        obtain ⟨d, hd, hdn, hdenv, hdd⟩ := hsh.dst i _ ho him
        simp only at hd
        subst hd
        have hFi : nth Fs i = some Fs[i] := by rw [nth_eq, List.getElem?_eq_getElem him]
        have hr : i ∈ Region.ready .any ops.toArray L := by simpa using h3
        obtain ⟨o', ho', hr2, hr3⟩ := ready_iff.1 hr
        rw [ho] at ho'
        cases ho'
        have hq := howed i _ Fs[i] ho hFi Mx H' w D.le D.hs
        rw [hl] at hq
        have hq2 := hq a D.st (fun a' w' => ∃ v H'' My, a' = a.put (some d) v ∧ Hp.le H' H'' ∧ HS xs H0 w0 H'' (My ++ (Mx ++ M)) w' ∧ Fs[i].F v My H'') (fun _ _ _ => True)
          (fun v w' ⟨H'', My, q1, q2, q3⟩ => ⟨v, H'', My, rfl, q1, q2, q3⟩)
        have hw : Region.wanted (⟨some d, .move x, ty, pos, aft, none⟩ : Oper) (yielded ops.toArray a.tmps) = true := rfl
        rw [if_pos hw] at hq2
        have hrun : (execOp a.eval (⟨some d, .move x, ty, pos, aft, none⟩ : Oper)).run P w = .ok (.value (a.eval x)) w := by simp [execOp]
        have hq3 : ∃ v H'' My, a.put (some d) (a.eval x) = a.put (some d) v ∧ Hp.le H' H'' ∧ HS xs H0 w0 H'' (My ++ (Mx ++ M)) w ∧ Fs[i].F v My H'' := by
          unfold Oper.wp at hq2
          rw [hrun] at hq2
          exact hq2
        obtain ⟨v, H'', My, e, q1, q2, q3⟩ := hq3
        have hv : v = a.eval x := by
          have e1 : (a.put (some d) (a.eval x)).tmps.getD d undef = (a.put (some d) v).tmps.getD d undef := by rw [e]
          simpa [Act.put, Array.getD_eq_getD_getElem?, D.st.sz, hdn] using e1.symm
        subst hv
        have hD := D.step hsh ho him hFi hr2 hr3 q1 q2 q3
        have ih := wpAny_float hk hsel hsh howed fuel is _ _ w _ _ _ (fun j hj => hlt j (List.mem_cons_of_mem _ hj)) h4 hD h
        have hy : Yields P ops.toArray (⟨some d, .move x, ty, pos, aft, none⟩ : Oper) (a.eval x) a := .inl ⟨hw, fun w => by simp [execOp]⟩
        have ho' := ho
        rw [nth_eq] at ho'
        have := wpAny_take (Q := k.Q P) (fuel := is.length + fuel) (by simpa using ho') hsel h2 h3 (fun c a w => Kont.panic_put k hk) hy ih
        rwa [show is.length + fuel + 1 = (i :: is).length + fuel by simp; omega] at this
      | _ => cases h5

variable {w : World} {k : Kont}
theorem WC.drawF {id : Nat} (m : Nat) (fl : List Nat) (hm : P.follows .mixedOrders = true) (hs : HS xs H0 w0 H M w) (hok : (drawOk ops m n env fl && fl.all (Nat.blt · m) && (k.flat || fl.isEmpty) && (fl.isEmpty || Region.noSelect ops.toArray) && floatOk ops n env fl (Array.replicate ops.length false) && Nat.ble (fl.length + ((List.range m).filter fun i => !fl.contains i).length) m) = true)
    (howed : Owed P n ds xs H0 w0 M ops env H (fun Fs => ∀ H' w', Hp.le H H' → forAllVals ops H' 0 Fs env M fun env' M' => HS xs H0 w0 H' M' w' → WO P n ds ops.toArray (ops.drop m) k env' w') ops m []) :
    WC P n ds (.region id ops.toArray true) k env w := by
  simp only [Bool.and_eq_true, Bool.or_eq_true] at hok
  obtain ⟨⟨⟨⟨⟨h1, h2⟩, h3⟩, h4⟩, h5⟩, h8⟩ := hok
  have h8 := Nat.le_of_ble_eq_true h8
  intro a ha
  have hsh := Shape.of h1
  obtain ⟨Fs, h6, hfin, h7⟩ := OwedF.elim hsh.back m [] (Owed.toF _ _ [] howed)
  simp only [List.nil_append, List.length_nil, Nat.zero_add] at h6 hfin h7
  subst h6
  have hlt : ∀ i ∈ fl, i < Fs.length := fun i hi => by
    have := List.all_eq_true.1 h2 i hi
    simpa [Nat.blt_eq] using this
  refine wp_region_any hm ?_
  have hrep : ∀ i, i < ops.length → (Array.replicate ops.length false).getD i true = false := by
    intro i hi
    simp [Array.getD_eq_getD_getElem?, hi]
  have hD : DInv n ds xs H0 w0 H M ops Fs env (Array.replicate ops.length false) a w.drew H [] (fun _ => []) := by
    refine ⟨?_, ?_, by simp, fun i hi _ => hrep i hi, Hp.le.refl H, hs.drew, ha, ?_⟩
    · intro i o ho hi
      have hlt : i < ops.length := by rw [nth_eq] at ho; exact (List.getElem?_eq_some_iff.1 ho).1
      rw [getD_of_lt (by simpa using hlt) false true, hrep i hlt] at hi
      cases hi
    · rw [List.flatMap_eq_nil_iff.2 (by intro j _; simp [madeBy])]
    · intro i F d hF hd hL
      have hi : i < Fs.length := by rw [nth_eq] at hF; exact (List.getElem?_eq_some_iff.1 hF).1
      rw [hrep i (Nat.lt_of_lt_of_le hi hsh.le)] at hL
      cases hL
  have hset : ∀ (is : List Nat) (L : Array Bool) (q : Nat), L.getD q false = true → (setAll L is).getD q false = true := by
    intro is
    induction is with
    | nil => intro L q h; exact h
    | cons i is ih => intro L q h; exact ih _ q (getD_set_true h)
  have hset2 : ∀ (is : List Nat) (L : Array Bool) (q : Nat), q ∈ is → q < L.size → (setAll L is).getD q false = true := by
    intro is
    induction is with
    | nil => intro L q h; cases h
    | cons i is ih =>
      intro L q h hq
      rcases List.mem_cons.1 h with e | h
      · subst e
        exact hset is _ q (by simp [hq])
      · exact ih _ q h (by simpa using hq)
  have key : ∀ fuel L a', (∀ q ∈ fl, L.getD q false = true) → (∃ H' Mx my, DInv n ds xs H0 w0 H M ops Fs env L a' w.drew H' Mx my) → (∀ i, i < Fs.length → i ∉ fl → i ∈ (List.range Fs.length).filter fun i => !fl.contains i) →
      ((List.range Fs.length).filter fun i => !fl.contains i).length + (ops.length - Fs.length) ≤ fuel → wpAny P .any ops.toArray (k.Q P) fuel L a' w.drew := by
    rintro fuel L a' hq ⟨H', Mx, my, hD'⟩ hl hle
    refine wpAny_firstM (H := H) hsh (fun i o F => h7 i o F (Nat.zero_le i)) (fun H' w' h1 => hfin H' w' h1) fuel L _ a' _ H' Mx my hq hD' (fun i hi h => ?_) hle
    refine hl i hi fun hmem => ?_
    have := hq i hmem
    rw [getD_of_lt (by rw [hD'.sz]; exact Nat.lt_of_lt_of_le hi hsh.le) false true, h] at this
    cases this
  have hin : ∀ i, i < Fs.length → i ∉ fl → i ∈ (List.range Fs.length).filter fun i => !fl.contains i := by
    intro i hi hni
    rw [List.mem_filter]
    exact ⟨List.mem_range.2 hi, by simpa using hni⟩
  have hle := hsh.le
  by_cases hfe : fl = []
  · subst hfe
    simp only [List.size_toArray]
    refine key _ _ _ (fun q hq => by cases hq) ⟨_, _, _, hD⟩ hin ?_
    simp only [List.length_nil] at h8
    omega
  · have hkf : k.flat = true := by
      rcases h3 with h | h
      · exact h
      · exact absurd (List.isEmpty_iff.1 h) hfe
    have hns : Region.noSelect ops.toArray = true := by
      rcases h4 with h | h
      · exact absurd (List.isEmpty_iff.1 h) hfe
      · exact h
    have := wpAny_float hkf hns hsh (fun i o F => h7 i o F (Nat.zero_le i)) (ops.length - fl.length) fl _ a _ _ _ _ hlt h5 hD (fun a' H' Mx my hD' => by
      refine key _ _ _ (fun q hq => hset2 fl _ q hq ?_) ⟨_, _, _, hD'⟩ hin (by omega)
      have := hlt q hq
      simp; omega)
    simp only [List.size_toArray]
    rwa [show fl.length + (ops.length - fl.length) = ops.length by omega] at this
end
theorem WC.draw {P : Program} {n : Nat} {ds : List Deferred} {xs : List Nat} {H0 H : Hp} {w0 w : World} {M : Mem} {ops : List Oper} {env : Env} {k : Kont} {id : Nat} (m : Nat) (hm : P.follows .mixedOrders = true) (hs : HS xs H0 w0 H M w) (hok : drawOk ops m n env [] = true)
    (howed : Owed P n ds xs H0 w0 M ops env H (fun Fs => ∀ H' w', Hp.le H H' → forAllVals ops H' 0 Fs env M fun env' M' => HS xs H0 w0 H' M' w' → WO P n ds ops.toArray (ops.drop m) k env' w') ops m []) :
    WC P n ds (.region id ops.toArray true) k env w :=
  .drawF m [] hm hs (by
    have : ((List.range m).filter (fun _ => true)).length ≤ m := Nat.le_trans (List.length_filter_le _ _) (by simp)
    simpa [hok, floatOk] using this) howed

end Go.Bw
